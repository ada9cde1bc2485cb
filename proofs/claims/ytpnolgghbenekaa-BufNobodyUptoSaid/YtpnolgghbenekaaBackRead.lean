/-
  bushellaw08.read: a thing is asked for, and is what was written.
-/
import Derived.Test.YtpnolgghbenekaaLawBufRead
namespace Go.Proofs.Ytpnolgghbenekaa
open Go.ChangeShapes Go.WideShapes Go.ChangeAt Go.RowKit
set_option linter.unusedVariables false

set_option maxRecDepth 20000 in
set_option maxHeartbeats 2000000 in
theorem backRead0 (w : World) (g : Nat) (t : List UInt8) (p p' : Nat) (a : AskS) (G : GotS) (h : InS w g t p 0) (hd : a.d = 0) (hu : inU t p 0 a.u = (G.u, p', 0)) :
    Calls Try.prog 36 #[.pointer (some ⟨g, 0, none⟩), .agg (askC a).toArray, G.v] w fun y w' => y = .returned (.bool true) ∧ InS w' g t p' 0 ∧ Only g w w' := by
  obtain ⟨d, u, i, f, s, m⟩ := a
  obtain ⟨gu, gi, gt, gn, ge⟩ := G
  simp only at hd hu
  subst hd
  have hgl := h.lt
  show Calls Try.prog 36 #[.pointer (some ⟨g, 0, none⟩), .agg #[.int .i64 0, .int .u64 (u : Int), .int .i64 i, .float .f64 f, .string s, .int .i64 m], .agg #[.int .u64 (gu : Int), .int .i64 gi, .string ⟨gt.toArray⟩, .int .i64 (gn : Int), .int .i64 (ge : Int)]] w _
  have hin : InS ((w.alloc (.cells #[.int .i64 0, .int .u64 (u : Int), .int .i64 i, .float .f64 f, .string s, .int .i64 m] 79)).alloc (.cells #[.int .u64 (gu : Int), .int .i64 gi, .string ⟨gt.toArray⟩, .int .i64 (gn : Int), .int .i64 (ge : Int)] 75)).drew g t p 0 := (h.below (belA (belA (belR w) _) _) hgl).drw ⟨1, rfl⟩
  have hs : ((w.alloc (.cells #[.int .i64 0, .int .u64 (u : Int), .int .i64 i, .float .f64 f, .string s, .int .i64 m] 79)).alloc (.cells #[.int .u64 (gu : Int), .int .i64 gi, .string ⟨gt.toArray⟩, .int .i64 (gn : Int), .int .i64 (ge : Int)] 75)).drew.cell? ⟨w.heap.size, 1, none⟩ = some (.int .u64 (u : Int)) ∧ ((w.alloc (.cells #[.int .i64 0, .int .u64 (u : Int), .int .i64 i, .float .f64 f, .string s, .int .i64 m] 79)).alloc (.cells #[.int .u64 (gu : Int), .int .i64 gi, .string ⟨gt.toArray⟩, .int .i64 (gn : Int), .int .i64 (ge : Int)] 75)).drew.cell? ⟨w.heap.size + 1, 0, none⟩ = some (.int .u64 (gu : Int)) := ⟨by simp [go_sem], by simp [go_sem]⟩
  have HS := Lib.hid hs; clear hs
  have hc := inU_any _ g t p 0 u hin
  rw [hu] at hc
  simp only at hc
  have HC := Lib.hid hc; have HU := Lib.hid hu; clear hc hu
  go_enter Try.func36, Try.ntmps36
  go_wp2_with fail
  go_region_held3 (fun W => W.cell? ⟨w.heap.size, 1, none⟩ = some (.int .u64 (u : Int)) ∧ W.cell? ⟨w.heap.size + 1, 0, none⟩ = some (.int .u64 (gu : Int))) (first | (with_reducible exact HS.out) | (exact ⟨(ho1.cell_far (by first | (simp; done) | (simp; omega)) (by simp only; omega)).trans HS.out.1, (ho1.cell_far (by first | (simp; done) | (simp; omega)) (by simp only; omega)).trans HS.out.2⟩))
    (first | (go_at_call 55; (with_reducible refine HC.out.mono ?_); rintro y w1 ⟨rfl, hi1, ho1⟩))
  go_wp2
  go_ret
  exact ⟨rfl, hi1, (((Only.refl g w).alloc _).alloc _).drew.trans ho1⟩
set_option maxRecDepth 20000 in
set_option maxHeartbeats 2000000 in
theorem backRead1 (w : World) (g : Nat) (t : List UInt8) (p p' : Nat) (a : AskS) (G : GotS) (h : InS w g t p 0) (hd : a.d = 1) (hu : stepV (0 : Int) (getI (t.drop p)).1 (stepE 0 (getI (t.drop p)).2.2 0) = G.i ∧ stepP p (getI (t.drop p)).2.1 (stepE 0 (getI (t.drop p)).2.2 0) = p' ∧ stepE 0 (getI (t.drop p)).2.2 0 = 0) :
    Calls Try.prog 36 #[.pointer (some ⟨g, 0, none⟩), .agg (askC a).toArray, G.v] w fun y w' => y = .returned (.bool true) ∧ InS w' g t p' 0 ∧ Only g w w' := by
  obtain ⟨d, u, i, f, s, m⟩ := a
  obtain ⟨gu, gi, gt, gn, ge⟩ := G
  simp only at hd hu
  subst hd
  have hgl := h.lt
  show Calls Try.prog 36 #[.pointer (some ⟨g, 0, none⟩), .agg #[.int .i64 1, .int .u64 (u : Int), .int .i64 i, .float .f64 f, .string s, .int .i64 m], .agg #[.int .u64 (gu : Int), .int .i64 gi, .string ⟨gt.toArray⟩, .int .i64 (gn : Int), .int .i64 (ge : Int)]] w _
  have hin : InS ((w.alloc (.cells #[.int .i64 1, .int .u64 (u : Int), .int .i64 i, .float .f64 f, .string s, .int .i64 m] 79)).alloc (.cells #[.int .u64 (gu : Int), .int .i64 gi, .string ⟨gt.toArray⟩, .int .i64 (gn : Int), .int .i64 (ge : Int)] 75)).drew g t p 0 := (h.below (belA (belA (belR w) _) _) hgl).drw ⟨1, rfl⟩
  have hs : ((w.alloc (.cells #[.int .i64 1, .int .u64 (u : Int), .int .i64 i, .float .f64 f, .string s, .int .i64 m] 79)).alloc (.cells #[.int .u64 (gu : Int), .int .i64 gi, .string ⟨gt.toArray⟩, .int .i64 (gn : Int), .int .i64 (ge : Int)] 75)).drew.cell? ⟨w.heap.size + 1, 1, none⟩ = some (.int .i64 gi) := by simp [go_sem]
  have HS := Lib.hid hs; clear hs
  have hc := inI_any _ g t p 0 hin
  rw [hu.1, hu.2.1, hu.2.2] at hc
  have HC := Lib.hid hc; have HU := Lib.hid hu; clear hc hu
  go_enter Try.func36, Try.ntmps36
  go_wp2_with fail
  go_region_held3 (fun W => W.cell? ⟨w.heap.size + 1, 1, none⟩ = some (.int .i64 gi)) (first | (with_reducible exact HS.out) | (exact (ho1.cell_far (by simp) (by simp only; omega)).trans HS.out))
    (first | (go_at_call 76; (with_reducible refine HC.out.mono ?_); rintro y w1 ⟨rfl, hi1, ho1⟩))
  go_wp2
  go_ret
  exact ⟨rfl, hi1, (((Only.refl g w).alloc _).alloc _).drew.trans ho1⟩
set_option maxRecDepth 20000 in
set_option maxHeartbeats 2000000 in
theorem backRead3 (w : World) (g : Nat) (t : List UInt8) (p p' : Nat) (a : AskS) (G : GotS) (h : InS w g t p 0) (hd : a.d = 3) (hu : stepV (⟨#[]⟩ : ByteArray) ⟨(getT (t.drop p)).1.toArray⟩ (stepE 0 (getT (t.drop p)).2.2 (longE (getT (t.drop p)).1.length a.m)) = ⟨G.t.toArray⟩ ∧ stepP p (getT (t.drop p)).2.1 (stepE 0 (getT (t.drop p)).2.2 (longE (getT (t.drop p)).1.length a.m)) = p' ∧ stepE 0 (getT (t.drop p)).2.2 (longE (getT (t.drop p)).1.length a.m) = 0) (ht : t.length ≤ 1000000) :
    Calls Try.prog 36 #[.pointer (some ⟨g, 0, none⟩), .agg (askC a).toArray, G.v] w fun y w' => y = .returned (.bool true) ∧ InS w' g t p' 0 ∧ Only g w w' := by
  obtain ⟨d, u, i, f, s, m⟩ := a
  obtain ⟨gu, gi, gt, gn, ge⟩ := G
  simp only at hd hu
  subst hd
  have hgl := h.lt
  show Calls Try.prog 36 #[.pointer (some ⟨g, 0, none⟩), .agg #[.int .i64 3, .int .u64 (u : Int), .int .i64 i, .float .f64 f, .string s, .int .i64 m], .agg #[.int .u64 (gu : Int), .int .i64 gi, .string ⟨gt.toArray⟩, .int .i64 (gn : Int), .int .i64 (ge : Int)]] w _
  have hin : InS ((w.alloc (.cells #[.int .i64 3, .int .u64 (u : Int), .int .i64 i, .float .f64 f, .string s, .int .i64 m] 79)).alloc (.cells #[.int .u64 (gu : Int), .int .i64 gi, .string ⟨gt.toArray⟩, .int .i64 (gn : Int), .int .i64 (ge : Int)] 75)).drew g t p 0 := (h.below (belA (belA (belR w) _) _) hgl).drw ⟨1, rfl⟩
  have hs : ((w.alloc (.cells #[.int .i64 3, .int .u64 (u : Int), .int .i64 i, .float .f64 f, .string s, .int .i64 m] 79)).alloc (.cells #[.int .u64 (gu : Int), .int .i64 gi, .string ⟨gt.toArray⟩, .int .i64 (gn : Int), .int .i64 (ge : Int)] 75)).drew.cell? ⟨w.heap.size, 5, none⟩ = some (.int .i64 m) ∧ ((w.alloc (.cells #[.int .i64 3, .int .u64 (u : Int), .int .i64 i, .float .f64 f, .string s, .int .i64 m] 79)).alloc (.cells #[.int .u64 (gu : Int), .int .i64 gi, .string ⟨gt.toArray⟩, .int .i64 (gn : Int), .int .i64 (ge : Int)] 75)).drew.cell? ⟨w.heap.size + 1, 2, none⟩ = some (.string ⟨gt.toArray⟩) := ⟨by simp [go_sem], by simp [go_sem]⟩
  have HS := Lib.hid hs; clear hs
  have hc := inT_any _ g t p 0 m hin ht
  rw [hu.1, hu.2.1, hu.2.2] at hc
  have HC := Lib.hid hc; have HU := Lib.hid hu; clear hc hu
  go_enter Try.func36, Try.ntmps36
  go_wp2_with fail
  go_region_held3 (fun W => W.cell? ⟨w.heap.size, 5, none⟩ = some (.int .i64 m) ∧ W.cell? ⟨w.heap.size + 1, 2, none⟩ = some (.string ⟨gt.toArray⟩)) (first | (with_reducible exact HS.out) | (exact ⟨(ho1.cell_far (by first | (simp; done) | (simp; omega)) (by simp only; omega)).trans HS.out.1, (ho1.cell_far (by first | (simp; done) | (simp; omega)) (by simp only; omega)).trans HS.out.2⟩))
    (first | (go_at_call 79; (with_reducible refine HC.out.mono ?_); rintro y w1 ⟨rfl, hi1, ho1⟩))
  go_wp2
  go_ret
  exact ⟨rfl, hi1, (((Only.refl g w).alloc _).alloc _).drew.trans ho1⟩
set_option maxRecDepth 20000 in
set_option maxHeartbeats 2000000 in
theorem backRead2 (w : World) (g : Nat) (t : List UInt8) (p p' : Nat) (a : AskS) (G : GotS) (h : InS w g t p 0) (hd : a.d = 2) (hu : stepP p (getF (t.drop p)).2.1 (stepE 0 (getF (t.drop p)).2.2 0) = p' ∧ stepE 0 (getF (t.drop p)).2.2 0 = 0 ∧ (0 < G.n ∧ keyB (stepV (0 : Nat) (getF (t.drop p)).1 0) = G.u ∧ stepV (0 : Nat) (getF (t.drop p)).1 0 < 18446744073709551616)) :
    Calls Try.prog 36 #[.pointer (some ⟨g, 0, none⟩), .agg (askC a).toArray, G.v] w fun y w' => y = .returned (.bool true) ∧ InS w' g t p' 0 ∧ Only g w w' := by
  obtain ⟨d, u, i, f, s, m⟩ := a
  obtain ⟨gu, gi, gt, gn, ge⟩ := G
  simp only at hd hu
  subst hd
  have hgl := h.lt
  show Calls Try.prog 36 #[.pointer (some ⟨g, 0, none⟩), .agg #[.int .i64 2, .int .u64 (u : Int), .int .i64 i, .float .f64 f, .string s, .int .i64 m], .agg #[.int .u64 (gu : Int), .int .i64 gi, .string ⟨gt.toArray⟩, .int .i64 (gn : Int), .int .i64 (ge : Int)]] w _
  have hin : InS ((w.alloc (.cells #[.int .i64 2, .int .u64 (u : Int), .int .i64 i, .float .f64 f, .string s, .int .i64 m] 79)).alloc (.cells #[.int .u64 (gu : Int), .int .i64 gi, .string ⟨gt.toArray⟩, .int .i64 (gn : Int), .int .i64 (ge : Int)] 75)) g t p 0 := h.below (belA (belA (belR w) _) _) hgl
  have hs : ((w.alloc (.cells #[.int .i64 2, .int .u64 (u : Int), .int .i64 i, .float .f64 f, .string s, .int .i64 m] 79)).alloc (.cells #[.int .u64 (gu : Int), .int .i64 gi, .string ⟨gt.toArray⟩, .int .i64 (gn : Int), .int .i64 (ge : Int)] 75)).cell? ⟨w.heap.size + 1, 3, none⟩ = some (.int .i64 (gn : Int)) ∧ ((w.alloc (.cells #[.int .i64 2, .int .u64 (u : Int), .int .i64 i, .float .f64 f, .string s, .int .i64 m] 79)).alloc (.cells #[.int .u64 (gu : Int), .int .i64 gi, .string ⟨gt.toArray⟩, .int .i64 (gn : Int), .int .i64 (ge : Int)] 75)).cell? ⟨w.heap.size + 1, 0, none⟩ = some (.int .u64 (gu : Int)) := ⟨by simp [go_sem], by simp [go_sem]⟩
  have HS := Lib.hid hs; clear hs
  have hc := inF_any _ g t p 0 hin
  obtain ⟨u1, u2, u3⟩ := hu
  rw [u2] at u1 hc
  rw [u1] at hc
  generalize hX : stepV (0 : Nat) (getF (t.drop p)).1 0 = X at *
  have hs0 := fun W => refFSame_any 0 0 W (by decide) (by decide)
  rw [decide_eq_true (rfl : keyB 0 = keyB 0)] at hs0
  have HC := Lib.hid hc; have HX := Lib.hid hX; have HS0 := Lib.hid hs0; clear hc u1 u2 hX hs0
  obtain ⟨hn, hk, hX64⟩ := u3
  have t1 : ((gn : Int) == 0) = false := by rw [beq_eq_false_iff_ne]; omega
  have t2 : decide ((0 : Int) < (gn : Int)) = true := decide_eq_true (by omega)
  have t2b : decide (0 < gn) = true := decide_eq_true hn
  have t2c : 0 < gn := by omega
  have HN := Lib.hid hn; clear hn
  have hkey := fun W => refKey_any X W hX64
  rw [hk] at hkey
  have HKEY := Lib.hid hkey; have HK := Lib.hid hk; clear hkey hk
  go_enter Try.func36, Try.ntmps36
  go_wp2_with (go_at_call 77; (with_reducible refine HC.out.mono ?_); rintro y w1 ⟨rfl, hi1, ho1⟩; have y3 := (ho1.cell_far (by first | (simp; done) | (simp; omega)) (by simp only; omega)).trans HS.out.1; have y0 := (ho1.cell_far (by first | (simp; done) | (simp; omega)) (by simp only; omega)).trans HS.out.2)
  go_quiet ((go_at_call 78; exact qcall (HKEY.out _)))
  go_wp2
  go_ret
  exact ⟨rfl, hi1.drw ⟨_, rfl⟩, ((((Only.refl g w).alloc _).alloc _).trans ho1).drewN _⟩
set_option maxRecDepth 20000 in
set_option maxHeartbeats 2000000 in
theorem backRead4 (w : World) (g : Nat) (t : List UInt8) (p p' : Nat) (a : AskS) (G : GotS) (h : InS w g t p 0) (hd : a.d = 4) (hu : (rdB a.m (t.drop p)).t = G.t ∧ p + (rdB a.m (t.drop p)).n = p' ∧ (rdB a.m (t.drop p)).e = 0) (ht : t.length ≤ 1000000) (hm : a.m ≤ 9223372036854775807) :
    Calls Try.prog 36 #[.pointer (some ⟨g, 0, none⟩), .agg (askC a).toArray, G.v] w fun y w' => y = .returned (.bool true) ∧ InS w' g t p' 0 ∧ Only g w w' := by
  obtain ⟨d, u, i, f, s, m⟩ := a
  obtain ⟨gu, gi, gt, gn, ge⟩ := G
  simp only at hd hu hm
  subst hd
  have hgl := h.lt
  show Calls Try.prog 36 #[.pointer (some ⟨g, 0, none⟩), .agg #[.int .i64 4, .int .u64 (u : Int), .int .i64 i, .float .f64 f, .string s, .int .i64 m], .agg #[.int .u64 (gu : Int), .int .i64 gi, .string ⟨gt.toArray⟩, .int .i64 (gn : Int), .int .i64 (ge : Int)]] w _
  have hin : InS ((w.alloc (.cells #[.int .i64 4, .int .u64 (u : Int), .int .i64 i, .float .f64 f, .string s, .int .i64 m] 79)).alloc (.cells #[.int .u64 (gu : Int), .int .i64 gi, .string ⟨gt.toArray⟩, .int .i64 (gn : Int), .int .i64 (ge : Int)] 75)).drew g t p 0 := (h.below (belA (belA (belR w) _) _) hgl).drw ⟨1, rfl⟩
  have hs : ((w.alloc (.cells #[.int .i64 4, .int .u64 (u : Int), .int .i64 i, .float .f64 f, .string s, .int .i64 m] 79)).alloc (.cells #[.int .u64 (gu : Int), .int .i64 gi, .string ⟨gt.toArray⟩, .int .i64 (gn : Int), .int .i64 (ge : Int)] 75)).drew.cell? ⟨w.heap.size, 5, none⟩ = some (.int .i64 m) ∧ ((w.alloc (.cells #[.int .i64 4, .int .u64 (u : Int), .int .i64 i, .float .f64 f, .string s, .int .i64 m] 79)).alloc (.cells #[.int .u64 (gu : Int), .int .i64 gi, .string ⟨gt.toArray⟩, .int .i64 (gn : Int), .int .i64 (ge : Int)] 75)).drew.cell? ⟨w.heap.size + 1, 2, none⟩ = some (.string ⟨gt.toArray⟩) := ⟨by simp [go_sem], by simp [go_sem]⟩
  have HS := Lib.hid hs; clear hs
  have hc : Calls Try.prog 80 #[.pointer (some ⟨g, 0, none⟩), .int .i64 m] ((w.alloc (.cells #[.int .i64 4, .int .u64 (u : Int), .int .i64 i, .float .f64 f, .string s, .int .i64 m] 79)).alloc (.cells #[.int .u64 (gu : Int), .int .i64 gi, .string ⟨gt.toArray⟩, .int .i64 (gn : Int), .int .i64 (ge : Int)] 75)).drew fun y w' => ∃ v, y = .returned v ∧ w'.ownsRow ((w.alloc (.cells #[.int .i64 4, .int .u64 (u : Int), .int .i64 i, .float .f64 f, .string s, .int .i64 m] 79)).alloc (.cells #[.int .u64 (gu : Int), .int .i64 gi, .string ⟨gt.toArray⟩, .int .i64 (gn : Int), .int .i64 (ge : Int)] 75)).drew.heap.size 5 1 v gt.length (u8s gt) ∧
      InS w' g t p' 0 ∧ Only g ((w.alloc (.cells #[.int .i64 4, .int .u64 (u : Int), .int .i64 i, .float .f64 f, .string s, .int .i64 m] 79)).alloc (.cells #[.int .u64 (gu : Int), .int .i64 gi, .string ⟨gt.toArray⟩, .int .i64 (gn : Int), .int .i64 (ge : Int)] 75)).drew w' := by
    have := inB_ok _ g t p m hin ht hm
    rw [hu.1, hu.2.1, hu.2.2] at this
    exact this
  have HC := Lib.hid hc; have HU := Lib.hid hu; clear hc hu
  go_enter Try.func36, Try.ntmps36
  go_wp2_with fail
  go_region_held (fun W => W.cell? ⟨w.heap.size, 5, none⟩ = some (.int .i64 m) ∧ W.cell? ⟨w.heap.size + 1, 2, none⟩ = some (.string ⟨gt.toArray⟩)) (first | (with_reducible exact HS.out) | (exact ⟨(ho1.cell_far (by first | (simp; done) | (simp; omega)) (by simp only; omega)).trans HS.out.1, (ho1.cell_far (by first | (simp; done) | (simp; omega)) (by simp only; omega)).trans HS.out.2⟩))
    (first | (go_at_call 80; (with_reducible refine HC.out.mono ?_); rintro y w1 ⟨v1, rfl, hv1, hi1, ho1⟩; have hcv1 := run_str_own (P := Try.prog) (src := 36) (dst := 9) hv1 Try.underlying36 Try.underlying5 Try.underlying9))
  go_wp2
  go_ret
  exact ⟨rfl, hi1, (((Only.refl g w).alloc _).alloc _).drew.trans ho1⟩
end Go.Proofs.Ytpnolgghbenekaa
