/-
  BufNobody: nobody's writer and reader have nothing.
-/
import Derived.Test.YtpnolgghbenekaaNobody
import Derived.Test.YtpnolgghbenekaaLawBufBack
import Derived.Deep.DeepCutAuto
namespace Go.Proofs.Ytpnolgghbenekaa
open Go.ChangeShapes Go.WideShapes Go.ChangeAt Go.RowKit
set_option linter.unusedVariables false

set_option maxRecDepth 20000 in
set_option maxHeartbeats 1000000 in
theorem noWrite (w : World) (v : Value) (d : Int) (u : Nat) (i : Int) (f : Nat) (s : ByteArray) (m : Int) (h : NoOut w v) (hu : u < 18446744073709551616) (hi1 : -9223372036854775808 ≤ i) (hi2 : i ≤ 9223372036854775807) (hf : f < 18446744073709551616) (hs : s.size ≤ 1048576) :
    Calls Try.prog 41 #[v, .agg #[.int .i64 d, .int .u64 (u : Int), .int .i64 i, .float .f64 f, .string s, .int .i64 m]] w fun y w' => y = .returned (.tuple #[]) ∧ Below w.heap.size w w' := by
  have hO := h.below (belA (belR w) (.cells #[.int .i64 d, .int .u64 (u : Int), .int .i64 i, .float .f64 f, .string s, .int .i64 m] 79))
  have hU := noOutU _ v u hu hO
  have hI := noOutI _ v i hi1 hi2 hO
  have hF := noOutF _ v f hf hO
  have hT := noOutT _ v s hs hO
  obtain ⟨W1, c1, hcv, hR1, hb1, hlt1⟩ := conv_bytes (w.alloc (.cells #[.int .i64 d, .int .u64 (u : Int), .int .i64 i, .float .f64 f, .string s, .int .i64 m] 79)) s
  have hB := noOutB W1 v (some ⟨(w.alloc (.cells #[.int .i64 d, .int .u64 (u : Int), .int .i64 i, .float .f64 f, .string s, .int .i64 m] 79)).heap.size, 0, none⟩) s.size c1 (by omega) (hO.below hb1)
  have hBW := (belA (belR w) (.cells #[.int .i64 d, .int .u64 (u : Int), .int .i64 i, .float .f64 f, .string s, .int .i64 m] 79)).trans (hb1.mono (by simp))
  simp only [World.size_alloc] at hcv hB
  have hd : d = 0 ∨ d = 1 ∨ d = 2 ∨ d = 3 ∨ d = 4 ∨ ((d == 0) = false ∧ (d == 1) = false ∧ (d == 2) = false ∧ (d == 3) = false ∧ (d == 4) = false) := by
    simp only [beq_eq_false_iff_ne]; omega
  have HU := Lib.hid hU; have HI := Lib.hid hI; have HF := Lib.hid hF; have HT := Lib.hid hT; have HB := Lib.hid hB; have HBW := Lib.hid hBW; clear hU hI hF hT hB hBW hO h hR1 hb1 hlt1 hu hi1 hi2 hf hs
  rcases hd with rfl | rfl | rfl | rfl | rfl | ⟨t0, t1, t2, t3, t4⟩
  · clear hcv HB HBW
    go_enter Try.func41, Try.ntmps41
    go_wp2_with (go_at_call 70; (with_reducible refine HU.out.mono ?_); rintro y w2 ⟨rfl, hb2⟩)
    go_end0
    exact ⟨rfl, belT (belA (belR w) _) hb2⟩
  · clear hcv HB HBW
    go_enter Try.func41, Try.ntmps41
    go_wp2_with (go_at_call 82; (with_reducible refine HI.out.mono ?_); rintro y w2 ⟨rfl, hb2⟩)
    go_end0
    exact ⟨rfl, belT (belA (belR w) _) hb2⟩
  · clear hcv HB HBW
    go_enter Try.func41, Try.ntmps41
    go_wp2_with (go_at_call 83; (with_reducible refine HF.out.mono ?_); rintro y w2 ⟨rfl, hb2⟩)
    go_end0
    exact ⟨rfl, belT (belA (belR w) _) hb2⟩
  · clear hcv HB HBW
    go_enter Try.func41, Try.ntmps41
    go_wp2_with (go_at_call 71; (with_reducible refine HT.out.mono ?_); rintro y w2 ⟨rfl, hb2⟩)
    go_end0
    exact ⟨rfl, belT (belA (belR w) _) hb2⟩
  · go_enter Try.func41, Try.ntmps41
    go_wp2_with (go_at_call 84; (with_reducible refine HB.out.mono ?_); rintro y w2 ⟨rfl, hb2⟩)
    go_end0
    exact ⟨rfl, belT HBW.out hb2⟩
  · clear hcv
    go_enter Try.func41, Try.ntmps41
    go_wp2
    go_end0
    exact ⟨rfl, belA (belR w) _⟩
set_option maxRecDepth 20000 in
set_option maxHeartbeats 1000000 in
theorem noRead_0 (w : World) (v : Value) (u : Nat) (i : Int) (f : Nat) (s : ByteArray) (m : Int) (h : NoIn w v) :
    Calls Try.prog 36 #[v, .agg #[.int .i64 0, .int .u64 (u : Int), .int .i64 i, .float .f64 f, .string s, .int .i64 m], .agg #[.int .u64 0, .int .i64 0, .string ⟨#[]⟩, .int .i64 0, .int .i64 0]] w fun y w' => y = .returned (.bool true) ∧ Below w.heap.size w w' := by
  have hin : NoIn ((w.alloc (.cells #[.int .i64 0, .int .u64 (u : Int), .int .i64 i, .float .f64 f, .string s, .int .i64 m] 79)).alloc (.cells #[.int .u64 0, .int .i64 0, .string ⟨#[]⟩, .int .i64 0, .int .i64 0] 75)).drew v := (h.below (belA (belA (belR w) _) _)).drew
  have hs : ((w.alloc (.cells #[.int .i64 0, .int .u64 (u : Int), .int .i64 i, .float .f64 f, .string s, .int .i64 m] 79)).alloc (.cells #[.int .u64 0, .int .i64 0, .string ⟨#[]⟩, .int .i64 0, .int .i64 0] 75)).drew.cell? ⟨w.heap.size, 1, none⟩ = some (.int .u64 (u : Int)) ∧ ((w.alloc (.cells #[.int .i64 0, .int .u64 (u : Int), .int .i64 i, .float .f64 f, .string s, .int .i64 m] 79)).alloc (.cells #[.int .u64 0, .int .i64 0, .string ⟨#[]⟩, .int .i64 0, .int .i64 0] 75)).drew.cell? ⟨w.heap.size + 1, 0, none⟩ = some (.int .u64 0) := ⟨by simp [go_sem], by simp [go_sem]⟩
  have hc := noInU _ v (u : Int) hin
  have HS := Lib.hid hs; have HC := Lib.hid hc; clear hs hc hin h
  go_enter Try.func36, Try.ntmps36
  go_wp2_with fail
  go_region_held3 (fun W => W.cell? ⟨w.heap.size, 1, none⟩ = some (.int .u64 (u : Int)) ∧ W.cell? ⟨w.heap.size + 1, 0, none⟩ = some (.int .u64 0)) (first | (with_reducible exact HS.out) | (exact ⟨(hb1.cell (by first | (simp; done) | (simp; omega))).trans HS.out.1, (hb1.cell (by first | (simp; done) | (simp; omega))).trans HS.out.2⟩))
    (first | (go_at_call 55; (with_reducible refine HC.out.mono ?_); rintro y w1 ⟨rfl, hb1⟩))
  go_wp2
  go_ret
  exact ⟨rfl, belT (belA (belA (belR w) _) _).drew hb1⟩
set_option maxRecDepth 20000 in
set_option maxHeartbeats 1000000 in
theorem noRead_1 (w : World) (v : Value) (u : Nat) (i : Int) (f : Nat) (s : ByteArray) (m : Int) (h : NoIn w v) :
    Calls Try.prog 36 #[v, .agg #[.int .i64 1, .int .u64 (u : Int), .int .i64 i, .float .f64 f, .string s, .int .i64 m], .agg #[.int .u64 0, .int .i64 0, .string ⟨#[]⟩, .int .i64 0, .int .i64 0]] w fun y w' => y = .returned (.bool true) ∧ Below w.heap.size w w' := by
  have hin : NoIn ((w.alloc (.cells #[.int .i64 1, .int .u64 (u : Int), .int .i64 i, .float .f64 f, .string s, .int .i64 m] 79)).alloc (.cells #[.int .u64 0, .int .i64 0, .string ⟨#[]⟩, .int .i64 0, .int .i64 0] 75)).drew v := (h.below (belA (belA (belR w) _) _)).drew
  have hs : ((w.alloc (.cells #[.int .i64 1, .int .u64 (u : Int), .int .i64 i, .float .f64 f, .string s, .int .i64 m] 79)).alloc (.cells #[.int .u64 0, .int .i64 0, .string ⟨#[]⟩, .int .i64 0, .int .i64 0] 75)).drew.cell? ⟨w.heap.size + 1, 1, none⟩ = some (.int .i64 0) := by simp [go_sem]
  have hc := noInI _ v hin
  have HS := Lib.hid hs; have HC := Lib.hid hc; clear hs hc hin h
  go_enter Try.func36, Try.ntmps36
  go_wp2_with fail
  go_region_held3 (fun W => W.cell? ⟨w.heap.size + 1, 1, none⟩ = some (.int .i64 0)) (first | (with_reducible exact HS.out) | (exact (hb1.cell (by first | (simp; done) | (simp; omega))).trans HS.out))
    (first | (go_at_call 76; (with_reducible refine HC.out.mono ?_); rintro y w1 ⟨rfl, hb1⟩))
  go_wp2
  go_ret
  exact ⟨rfl, belT (belA (belA (belR w) _) _).drew hb1⟩
set_option maxRecDepth 20000 in
set_option maxHeartbeats 1000000 in
theorem noRead_3 (w : World) (v : Value) (u : Nat) (i : Int) (f : Nat) (s : ByteArray) (m : Int) (h : NoIn w v) :
    Calls Try.prog 36 #[v, .agg #[.int .i64 3, .int .u64 (u : Int), .int .i64 i, .float .f64 f, .string s, .int .i64 m], .agg #[.int .u64 0, .int .i64 0, .string ⟨#[]⟩, .int .i64 0, .int .i64 0]] w fun y w' => y = .returned (.bool true) ∧ Below w.heap.size w w' := by
  have hin : NoIn ((w.alloc (.cells #[.int .i64 3, .int .u64 (u : Int), .int .i64 i, .float .f64 f, .string s, .int .i64 m] 79)).alloc (.cells #[.int .u64 0, .int .i64 0, .string ⟨#[]⟩, .int .i64 0, .int .i64 0] 75)).drew v := (h.below (belA (belA (belR w) _) _)).drew
  have hs : ((w.alloc (.cells #[.int .i64 3, .int .u64 (u : Int), .int .i64 i, .float .f64 f, .string s, .int .i64 m] 79)).alloc (.cells #[.int .u64 0, .int .i64 0, .string ⟨#[]⟩, .int .i64 0, .int .i64 0] 75)).drew.cell? ⟨w.heap.size, 5, none⟩ = some (.int .i64 m) ∧ ((w.alloc (.cells #[.int .i64 3, .int .u64 (u : Int), .int .i64 i, .float .f64 f, .string s, .int .i64 m] 79)).alloc (.cells #[.int .u64 0, .int .i64 0, .string ⟨#[]⟩, .int .i64 0, .int .i64 0] 75)).drew.cell? ⟨w.heap.size + 1, 2, none⟩ = some (.string ⟨#[]⟩) := ⟨by simp [go_sem], by simp [go_sem]⟩
  have hc := noInT _ v m hin
  have HS := Lib.hid hs; have HC := Lib.hid hc; clear hs hc hin h
  go_enter Try.func36, Try.ntmps36
  go_wp2_with fail
  go_region_held3 (fun W => W.cell? ⟨w.heap.size, 5, none⟩ = some (.int .i64 m) ∧ W.cell? ⟨w.heap.size + 1, 2, none⟩ = some (.string ⟨#[]⟩)) (first | (with_reducible exact HS.out) | (exact ⟨(hb1.cell (by first | (simp; done) | (simp; omega))).trans HS.out.1, (hb1.cell (by first | (simp; done) | (simp; omega))).trans HS.out.2⟩))
    (first | (go_at_call 79; (with_reducible refine HC.out.mono ?_); rintro y w1 ⟨rfl, hb1⟩))
  go_wp2
  go_ret
  exact ⟨rfl, belT (belA (belA (belR w) _) _).drew hb1⟩
set_option maxRecDepth 20000 in
set_option maxHeartbeats 1000000 in
theorem noRead_x (w : World) (v : Value) (d : Int) (u : Nat) (i : Int) (f : Nat) (s : ByteArray) (m : Int) (h : NoIn w v) (t0 : (d == 0) = false) (t1 : (d == 1) = false) (t2 : (d == 2) = false) (t3 : (d == 3) = false) :
    Calls Try.prog 36 #[v, .agg #[.int .i64 d, .int .u64 (u : Int), .int .i64 i, .float .f64 f, .string s, .int .i64 m], .agg #[.int .u64 0, .int .i64 0, .string ⟨#[]⟩, .int .i64 0, .int .i64 0]] w fun y w' => y = .returned (.bool true) ∧ Below w.heap.size w w' := by
  have hin : NoIn ((w.alloc (.cells #[.int .i64 d, .int .u64 (u : Int), .int .i64 i, .float .f64 f, .string s, .int .i64 m] 79)).alloc (.cells #[.int .u64 0, .int .i64 0, .string ⟨#[]⟩, .int .i64 0, .int .i64 0] 75)).drew v := (h.below (belA (belA (belR w) _) _)).drew
  have hs : ((w.alloc (.cells #[.int .i64 d, .int .u64 (u : Int), .int .i64 i, .float .f64 f, .string s, .int .i64 m] 79)).alloc (.cells #[.int .u64 0, .int .i64 0, .string ⟨#[]⟩, .int .i64 0, .int .i64 0] 75)).drew.cell? ⟨w.heap.size, 5, none⟩ = some (.int .i64 m) ∧ ((w.alloc (.cells #[.int .i64 d, .int .u64 (u : Int), .int .i64 i, .float .f64 f, .string s, .int .i64 m] 79)).alloc (.cells #[.int .u64 0, .int .i64 0, .string ⟨#[]⟩, .int .i64 0, .int .i64 0] 75)).drew.cell? ⟨w.heap.size + 1, 2, none⟩ = some (.string ⟨#[]⟩) := ⟨by simp [go_sem], by simp [go_sem]⟩
  have hc := noInB _ v m hin
  have HS := Lib.hid hs; have HC := Lib.hid hc; clear hs hc hin h
  go_enter Try.func36, Try.ntmps36
  go_wp2_with fail
  go_region_held (fun W => W.cell? ⟨w.heap.size, 5, none⟩ = some (.int .i64 m) ∧ W.cell? ⟨w.heap.size + 1, 2, none⟩ = some (.string ⟨#[]⟩)) (first | (with_reducible exact HS.out) | (exact ⟨(hb1.cell (by first | (simp; done) | (simp; omega))).trans HS.out.1, (hb1.cell (by first | (simp; done) | (simp; omega))).trans HS.out.2⟩))
    (first | (go_at_call 80; (with_reducible refine HC.out.mono ?_); rintro y w1 ⟨rfl, hb1⟩; have hcv1 := conv_nil (w := w1) none 0))
  go_wp2
  go_ret
  exact ⟨rfl, belT (belA (belA (belR w) _) _).drew hb1⟩
set_option maxRecDepth 20000 in
set_option maxHeartbeats 1000000 in
theorem noRead_2 (w : World) (v : Value) (u : Nat) (i : Int) (f : Nat) (s : ByteArray) (m : Int) (h : NoIn w v) :
    Calls Try.prog 36 #[v, .agg #[.int .i64 2, .int .u64 (u : Int), .int .i64 i, .float .f64 f, .string s, .int .i64 m], .agg #[.int .u64 0, .int .i64 0, .string ⟨#[]⟩, .int .i64 0, .int .i64 0]] w fun y w' => y = .returned (.bool true) ∧ Below w.heap.size w w' := by
  have hin : NoIn ((w.alloc (.cells #[.int .i64 2, .int .u64 (u : Int), .int .i64 i, .float .f64 f, .string s, .int .i64 m] 79)).alloc (.cells #[.int .u64 0, .int .i64 0, .string ⟨#[]⟩, .int .i64 0, .int .i64 0] 75)) v := h.below (belA (belA (belR w) _) _)
  have hs : ((w.alloc (.cells #[.int .i64 2, .int .u64 (u : Int), .int .i64 i, .float .f64 f, .string s, .int .i64 m] 79)).alloc (.cells #[.int .u64 0, .int .i64 0, .string ⟨#[]⟩, .int .i64 0, .int .i64 0] 75)).cell? ⟨w.heap.size + 1, 3, none⟩ = some (.int .i64 0) := by simp [go_sem]
  have hc := noInF _ v hin
  have hs0 := fun W => refFSame_any 0 0 W (by decide) (by decide)
  rw [decide_eq_true (rfl : keyB 0 = keyB 0)] at hs0
  have HS := Lib.hid hs; have HC := Lib.hid hc; have HS0 := Lib.hid hs0; clear hs hc hin h hs0
  go_enter Try.func36, Try.ntmps36
  go_wp2_with (go_at_call 77; (with_reducible refine HC.out.mono ?_); rintro y w1 ⟨rfl, hb1⟩; have y3 := (hb1.cell (by first | (simp; done) | (simp; omega))).trans HS.out)
  go_quiet ((go_at_call 69; exact qcall (HS0.out _)))
  go_wp2
  go_ret
  exact ⟨rfl, belD (belT (belA (belA (belR w) _) _) hb1) _⟩
theorem noRead (w : World) (v : Value) (d : Int) (u : Nat) (i : Int) (f : Nat) (s : ByteArray) (m : Int) (h : NoIn w v) :
    Calls Try.prog 36 #[v, .agg #[.int .i64 d, .int .u64 (u : Int), .int .i64 i, .float .f64 f, .string s, .int .i64 m], .agg #[.int .u64 0, .int .i64 0, .string ⟨#[]⟩, .int .i64 0, .int .i64 0]] w fun y w' => y = .returned (.bool true) ∧ Below w.heap.size w w' := by
  have hd : d = 0 ∨ d = 1 ∨ d = 2 ∨ d = 3 ∨ ((d == 0) = false ∧ (d == 1) = false ∧ (d == 2) = false ∧ (d == 3) = false) := by
    simp only [beq_eq_false_iff_ne]; omega
  rcases hd with rfl | rfl | rfl | rfl | ⟨t0, t1, t2, t3⟩
  · exact noRead_0 w v u i f s m h
  · exact noRead_1 w v u i f s m h
  · exact noRead_2 w v u i f s m h
  · exact noRead_3 w v u i f s m h
  · exact noRead_x w v d u i f s m h t0 t1 t2 t3
def NobRel (w wx : World) (d : Int) (u : Nat) (i : Int) (f : Nat) (s : ByteArray) (m : Int) (v3 : Value) : Prop :=
  ∃ k : Nat, k ≤ 2 ∧ v3 = .int .i64 (k : Int) ∧ (wx.cell? ⟨w.heap.size, 0, none⟩ = some (.int .i64 d) ∧ wx.cell? ⟨w.heap.size, 1, none⟩ = some (.int .u64 (u : Int)) ∧ wx.cell? ⟨w.heap.size, 2, none⟩ = some (.int .i64 i) ∧ wx.cell? ⟨w.heap.size, 3, none⟩ = some (.float .f64 f) ∧ wx.cell? ⟨w.heap.size, 4, none⟩ = some (.string s) ∧ wx.cell? ⟨w.heap.size, 5, none⟩ = some (.int .i64 m)) ∧ Below w.heap.size w wx ∧ w.heap.size < wx.heap.size
def NobCut (wr wx : World) (v4 v5 : Value) : Prop := NoOut wx v4 ∧ NoIn wx v5 ∧ Below wr.heap.size wr wx
set_option maxRecDepth 20000 in
set_option maxHeartbeats 1000000 in
theorem bufNobody_any (w : World) (d : Int) (u : Nat) (i : Int) (f : Nat) (s : ByteArray) (m : Int) (hu : u < 18446744073709551616) (hi1 : -9223372036854775808 ≤ i) (hi2 : i ≤ 9223372036854775807) (hf : f < 18446744073709551616) (hs : s.size ≤ 1048576) :
    Calls Try.prog 8 #[.agg #[.int .i64 d, .int .u64 (u : Int), .int .i64 i, .float .f64 f, .string s, .int .i64 m]] w fun y w' => y = .returned (.bool true) ∧ Below w.heap.size w w' := by
  have hwr := fun W v (h : NoOut W v) => noWrite W v d u i f s m h hu hi1 hi2 hf hs
  have hrd := fun W v (h : NoIn W v) => noRead W v d u i f s m h
  have HWR := Lib.hid hwr; have HRD := Lib.hid hrd; clear hwr hrd hu hi1 hi2 hf hs
  have hblk := six_new (Blk.new w 79 #[.int .i64 d, .int .u64 (u : Int), .int .i64 i, .float .f64 f, .string s, .int .i64 m])
  have HBLK := Lib.hid hblk; clear hblk
  go_enter Try.func8, Try.ntmps8
  go_wp2_with fail
  go_loopw [3] (fun v3 wx => NobRel w wx d u i f s m v3) (fun v3 _ => 2 - (intOf v3).toNat)
  case atStart => exact ⟨0, by omega, rfl, HBLK.out, belA (belR w) _, by simp⟩
  case round =>
    obtain ⟨k, hk, rfl, hx, hb, hlt⟩ := hrel
    have HX := Lib.hid hx; have HB := Lib.hid hb; clear hx hb
    by_cases hk2 : k < 2
    · have hkl : (k : Int) < 2 := by omega
      go_upto_if 13 with (fail)
      go_cut [4, 5] (fun v4 v5 wx => NobCut wr wx v4 v5)
      case first =>
        by_cases hk1 : k = 1
        · subst hk1
          simp only [show ((1 : Nat) : Int) = 1 from rfl]
          go_wp2
          go_meet
          case rel => exact ⟨.inr ⟨_, rfl, (Blk.new wr 92 #[.bool false, .slice none 0 0]).alloc _⟩, .inr ⟨wr.heap.size + 1, rfl, by simpa using Blk.new (wr.alloc (.cells #[.bool false, .slice none 0 0] 92)) 94 #[.bool false, .slice none 0 0, .int .i64 0, .int .i64 0]⟩, belA (belA (belR wr) _) _⟩
        · have t1 : ((k : Int) == 1) = false := by rw [beq_eq_false_iff_ne]; omega
          go_wp2
          go_meet
          case rel => exact ⟨.inl rfl, .inl rfl, belR wr⟩
      obtain ⟨ho, hi, hb⟩ := hcut
      have hx := six_keep (fun q hq => hb.cell (by rw [hq]; exact hlt)) HX.out
      have HO := Lib.hid ho; have HI := Lib.hid hi; have hb2 := HB.out.trans (hb.mono (Nat.le_of_lt hlt)); have hlt2 : w.heap.size < wc.heap.size := Nat.lt_of_lt_of_le hlt hb.size
      have HB2 := Lib.hid hb2; clear ho hi hb hb2
      generalize wc = wx at *
      have HX2 := Lib.hid hx
      obtain ⟨x0, x1, x2, x3, x4, x5⟩ := hx
      have HW := Lib.hid (HWR.out _ _ HO.out)
      go_upto_region 9 with (go_at_call 41; (with_reducible refine HW.out.mono ?_); rintro y w1 ⟨rfl, hb1⟩; have HO1 := Lib.hid (HO.out.below hb1); have HI1 := Lib.hid (HI.out.below hb1); have HX3 := Lib.hid (six_keep (fun q hq => hb1.cell (by rw [hq]; exact hlt2)) HX2.out); have HB3 := Lib.hid (HB2.out.trans (hb1.mono (Nat.le_of_lt hlt2))); have hlt3 := Nat.lt_of_lt_of_le hlt2 hb1.size; clear hb1)
      clear x0 x1 x2 x3 x4 x5
      have HF := Lib.hid (noFault w1 _ HI1.out)
      have HY := Lib.hid (noBytes w1 _ HO1.out)
      go_wp2_with (first
        | (go_at_call 37; (with_reducible refine HF.out.mono ?_); rintro y w2 ⟨rfl, rfl⟩)
        | (go_at_call 43; (with_reducible refine HY.out.mono ?_); rintro y w4 ⟨A4, c4, rfl, hb4⟩; have HI4 := Lib.hid (HI1.out.below hb4); obtain ⟨x0, x1, x2, x3, x4, x5⟩ := six_keep (fun q hq => hb4.cell (by rw [hq]; exact hlt3)) HX3.out; have HX4 := Lib.hid (six_keep (fun q hq => hb4.cell (by rw [hq]; exact hlt3)) HX3.out); have HB4 := Lib.hid (HB3.out.trans (hb4.mono (Nat.le_of_lt hlt3))); have hlt4 := Nat.lt_of_lt_of_le hlt3 hb4.size; have HRR := Lib.hid (HRD.out _ _ HI4.out); clear hb4)
        | (go_at_call 36; (with_reducible refine HRR.out.mono ?_); rintro y w5 ⟨rfl, hb5⟩; have HI5 := Lib.hid (HI4.out.below hb5); have HX5 := Lib.hid (six_keep (fun q hq => hb5.cell (by rw [hq]; exact hlt4)) HX4.out); have HB5 := Lib.hid (HB4.out.trans (hb5.mono (Nat.le_of_lt hlt4))); have hlt5 := Nat.lt_of_lt_of_le hlt4 hb5.size; have HLL := Lib.hid (noLeft _ _ HI5.out); clear hb5)
        | (go_at_call 38; (with_reducible refine HLL.out.mono ?_); rintro y w6 ⟨rfl, rfl⟩; have HEE := Lib.hid (noEnd _ _ HI5.out))
        | (go_at_call 39; (with_reducible refine HEE.out.mono ?_); rintro y w7 ⟨rfl, hb7⟩))
      go_roundw
      case rel => exact ⟨k + 1, by omega, by go_num, six_keep (fun q hq => hb7.cell (by rw [hq]; exact hlt5)) HX5.out, HB5.out.trans (hb7.mono (Nat.le_of_lt hlt5)), Nat.lt_of_lt_of_le hlt5 hb7.size⟩
      case measure => simp [intOf]; omega
    · have hkl : ¬ (k : Int) < 2 := by omega
      go_wp2_with (go_at_call 33; (with_reducible refine (awake08_any _).mono ?_); rintro y w9 ⟨rfl, hb9⟩)
      go_ret
      exact ⟨rfl, belT HB.out hb9⟩
end Go.Proofs.Ytpnolgghbenekaa
