/-
  The law SpaceTells.
-/
import Derived.Test.YtfhmaincnlaapaaSpaceAwake
import Derived.Test.YtfhmaincnlaapaaFactLight
import Derived.Test.YtfhmaincnlaapaaFrame
import Derived.Laws.IdiomArrays
namespace Go.Proofs.Ytfhmaincnlaapaa
open Go.ChangeShapes Go.WideShapes Go.ChangeAt Go.RowKit
set_option linter.unusedVariables false

theorem okWide_arrP {P : Program} {w : World} {r : Reach} {b0 : Nat} {t : TypeId} {v : Value} {n : Nat} {e : TypeId} (ht : P.underlying t = some (.array n e)) (h : Value.okWide P w r b0 t v) : ∃ cs, v = .agg cs ∧ cs.size = P.cellsOf t := by
  simp only [Value.okWide, ht] at h
  obtain ⟨cs, h1, h2, _⟩ := h
  exact ⟨cs, h1, h2⟩
/-- an array of three numbers as an argument -/
theorem open_arr3 {H : Type} {enc : TypeId × Value → H} {P : Program} {w : World} {base : Nat} {spare : Nat → Bool} {held : Bool} {r : Reach} {b0 : Nat} {t e : TypeId} {v : Value} {d : DataW H} {p : List MemPlace} (ht : P.underlying t = some (.array 3 e)) (hC : P.cellsOf t = 3) (he : P.underlying e = some (.int .i64)) (hce : P.cellsOf e = 1)
    (hv : Value.okWide P w r b0 t v) (h : DataW.Trod enc P w base spare held t v d p) : ∃ x y z : Int, v = .agg #[.int .i64 x, .int .i64 y, .int .i64 z] ∧ (-9223372036854775808 ≤ x ∧ x ≤ 9223372036854775807) ∧ (-9223372036854775808 ≤ y ∧ y ≤ 9223372036854775807) ∧ (-9223372036854775808 ≤ z ∧ z ≤ 9223372036854775807) := by
  obtain ⟨cs, rfl, hsz⟩ := okWide_arrP ht hv
  obtain ⟨fuel, hf⟩ := h
  rw [hC] at hsz
  obtain ⟨c0, c1, c2, rfl⟩ : ∃ c0 c1 c2, cs = #[c0, c1, c2] := by
    obtain ⟨l⟩ := cs
    match l, hsz with
    | [c0, c1, c2], _ => exact ⟨c0, c1, c2, rfl⟩
  have hf' : DataW.trod enc P w base spare held fuel t [c0, c1, c2] = some (d, p) := by simpa [Value.cells] using hf
  obtain ⟨y0, y1, y2, n, _, h0, h1, h2⟩ := trod_array3 ht hce hf'
  obtain ⟨z0, e0, _, w0⟩ := DataW.trod_int he h0
  obtain ⟨z1, e1, _, w1⟩ := DataW.trod_int he h1
  obtain ⟨z2, e2, _, w2⟩ := DataW.trod_int he h2
  simp only [List.cons.injEq, and_true] at e0 e1 e2
  subst e0 e1 e2
  exact ⟨z0, z1, z2, rfl, bounds_i64 w0, bounds_i64 w1, bounds_i64 w2⟩
/-- three numbers as an array -/
abbrev arr3 (x y z : Int) : Array Value := #[.int .i64 x, .int .i64 y, .int .i64 z]
theorem info_int39 : (Try.prog.info? 3).map (fun i => (i.zero, i.size, i.bytes)) = some (some (.int .i64 0), 1, 8) := by kernel_rfl
theorem recN_le (S : Sch) (l : List FactS) : recN S l ≤ 60008 := by
  unfold recN
  split
  · rename_i h; have := encBatch_le h; omega
  · omega
theorem i64s_snoc (l : List Int) (x : Int) : i64s l ++ [.int .i64 x] = i64s (l ++ [x]) := by simp [i64s]
theorem made_i64s (n : Nat) : madeCells #[.int .i64 0] n = (i64s (List.replicate n 0)).toArray := by
  apply Array.ext'
  rw [toList_madeCells_one]
  simp [i64s]
/-- the two prechecks of a statement's arguments -/
def preB (S : Sch) (l : List FactS) : Bool := lightB S && decide (l.length ≤ 210) && lightFs l
set_option maxRecDepth 20000 in
set_option maxHeartbeats 16000000 in
theorem lawSpaceTells_any (w : World) (B : Nat) (v : Value) (S : Sch) (A : Option Addr) (c : Nat) (l : List FactS) (x0 x1 x2 : Int) (h : SchAt w B v S) (ho : SchOk S) (g : SlR factR w B l A c) (hB : B ≤ w.heap.size)
    (hx0 : -9223372036854775808 ≤ x0 ∧ x0 ≤ 9223372036854775807) (hx1 : -9223372036854775808 ≤ x1 ∧ x1 ≤ 9223372036854775807) (hx2 : -9223372036854775808 ≤ x2 ∧ x2 ≤ 9223372036854775807) :
    Calls Try.prog 5 #[v, .slice A l.length c, .agg (arr3 x0 x1 x2)] w fun y w' => y = .returned (.bool true) ∧ Below w.heap.size w w' := by
  have hh := h
  obtain ⟨A0, c0, A1, c1, A2, c2, A3, c3, rfl, r0, r1, r2, r3, b0, b1, b2, b3⟩ := hh
  clear r0 r1 r2 r3 b0 b1 b2
  obtain ⟨W0, hW0⟩ : ∃ W0, W0 = (w.alloc (.cells #[.slice A0 S.dims.length c0, .slice A1 S.ints.length c1, .slice A2 S.nums.length c2, .slice A3 S.views.length c3] 26)).alloc (.cells (arr3 x0 x1 x2) 60) := ⟨_, rfl⟩
  have hz0 : W0.heap.size = w.heap.size + 1 + 1 := by rw [hW0]; simp
  have hw0 : Below w.heap.size w W0 := by rw [hW0]; exact belA (belA (belR w) _) _
  have k0 : Blk W0 w.heap.size 26 #[.slice A0 S.dims.length c0, .slice A1 S.ints.length c1, .slice A2 S.nums.length c2, .slice A3 S.views.length c3] := by rw [hW0]; exact (Blk.new w _ _).alloc _
  have k1 : Blk W0 (w.heap.size + 1) 60 (arr3 x0 x1 x2) := by
    rw [hW0]; have := Blk.new (w.alloc (.cells #[.slice A0 S.dims.length c0, .slice A1 S.ints.length c1, .slice A2 S.nums.length c2, .slice A3 S.views.length c3] 26)) 60 (arr3 x0 x1 x2)
    simpa using this
  have hcl := light_any W0 B _ S (h.keep (hw0.mono hB) (Nat.le_refl _)) (Nat.le_trans hB hw0.size)
  have HLF := Lib.hid (fun W (hW : Below w.heap.size w W) => lightFs_any W B A c l (g.keep (hW.mono hB) (Nat.le_refl _)))
  have HCL := Lib.hid hcl; have H := Lib.hid h; have G := Lib.hid g; have HW := Lib.hid hw0; have K0 := Lib.hid k0; have K1 := Lib.hid k1; have HZ := Lib.hid hz0; have HW0 := Lib.hid hW0
  have HAW := Lib.hid (fun W => awake39_any W)
  have y0 := k0.cell 0; have y1 := k0.cell 1; have y2 := k0.cell 2; have y3 := k0.cell 3
  simp at y0 y1 y2 y3
  clear hcl h g hw0 k0 k1 hz0 hW0
  go_enter Try.func5, Try.ntmps5
  go_wp2_with fail
  rw [← HW0.out]
  (with_reducible refine HCL.out.mono ?_); rintro y w1 ⟨rfl, hb1⟩
  have HB1 := Lib.hid (HW.out.trans (hb1.mono HW.out.size))
  have KA1 := Lib.hid (K0.out.below hb1 K0.out.lt); have KB1 := Lib.hid (K1.out.below hb1 K1.out.lt)
  clear hb1 y0 y1 y2 y3
  cases hl : lightB S with
  | false =>
    clear hl
    go_wp2_with (go_at_call 12; (with_reducible refine (HAW.out _).mono ?_); rintro y w9 ⟨rfl, hb9⟩; have HB9 := Lib.hid (belT HB1.out hb9); clear hb9)
    go_ret
    exact ⟨rfl, HB9.out⟩
  | true =>
  have hv100 : S.views.length ≤ 100 := by
    rcases Nat.lt_or_ge 100 S.views.length with hd | hd
    · rw [lightB_no S (by omega)] at hl; cases hl
    · exact hd
  clear hl
  by_cases h210 : l.length ≤ 210
  case neg =>
    have t1 : decide ((210 : Int) < (l.length : Int)) = true := decide_eq_true (by omega)
    go_wp2_with (go_at_call 12; (with_reducible refine (HAW.out _).mono ?_); rintro y w9 ⟨rfl, hb9⟩; have HB9 := Lib.hid (belT HB1.out hb9); clear hb9)
    go_ret
    exact ⟨rfl, HB9.out⟩
  have t1 : decide ((210 : Int) < (l.length : Int)) = false := decide_eq_false (by omega)
  have hlf := HLF.out w1 HB1.out
  cases hf : lightFs l with
  | false =>
    rw [hf] at hlf
    have HLF1 := Lib.hid hlf
    clear hf hlf
    go_wp2_with (first | (go_at_call 24; (with_reducible refine HLF1.out.mono ?_); rintro y w2 ⟨rfl, rfl⟩) | (go_at_call 12; (with_reducible refine (HAW.out _).mono ?_); rintro y w9 ⟨rfl, hb9⟩; have HB9 := Lib.hid (belT HB1.out hb9); clear hb9))
    go_ret
    exact ⟨rfl, HB9.out⟩
  | true =>
  rw [hf] at hlf
  have HLF1 := Lib.hid hlf
  have HREC := Lib.hid (fun W (hW : Below w.heap.size w W) => record_any W B _ S A c l (H.out.keep (hW.mono hB) (Nat.le_refl _)) ho (G.out.keep (hW.mono hB) (Nat.le_refl _)) (Nat.le_trans hB hW.size))
  have HREF := Lib.hid (fun W (hW : Below w.heap.size w W) => refRecord_any W B _ S A c l (H.out.keep (hW.mono hB) (Nat.le_refl _)) ho (G.out.keep (hW.mono hB) (Nat.le_refl _)) (Nat.le_trans hB hW.size))
  have hrl := recN_le S l
  clear hf hlf HLF HCL
  generalize recN S l = rn at *
  generalize (batchN S l).2 = re at *
  have s0 := KA1.out.cell 0; have s1 := KA1.out.cell 1; have s2 := KA1.out.cell 2; have s3 := KA1.out.cell 3
  simp at s0 s1 s2 s3
  go_upto_region 5 with (first
    | (go_at_call 24; (with_reducible refine HLF1.out.mono ?_); rintro y w2 ⟨rfl, rfl⟩)
    | (go_at_call 25; (with_reducible refine (HREC.out _ HB1.out).mono ?_); rintro y w2 ⟨rfl, hb2⟩; have HB2 := Lib.hid (belT HB1.out hb2); have KA2 := Lib.hid (KA1.out.below hb2 KA1.out.lt); have KB2 := Lib.hid (KB1.out.below hb2 KB1.out.lt); have u0 := KA2.out.cell 0; have u1 := KA2.out.cell 1; have u2 := KA2.out.cell 2; have u3 := KA2.out.cell 3; simp at u0 u1 u2 u3; clear hb2)
    | (go_at_call 26; (with_reducible refine (HREF.out _ HB2.out).mono ?_); rintro y w3 ⟨rfl, hb3⟩; have HB3 := Lib.hid (belT HB2.out hb3); have KA3 := Lib.hid (KA2.out.below hb3 KA2.out.lt); have KB3 := Lib.hid (KB2.out.below hb3 KB2.out.lt); clear hb3))
  have q0 := KB3.out.cell 0; have q1 := KB3.out.cell 1; have q2 := KB3.out.cell 2
  simp at q0 q1 q2
  have HSE := Lib.hid (fun W => sectors_any W x0 hx0.1 hx0.2); have HSR := Lib.hid (fun W => refSectors_any W x0 hx0.1 hx0.2)
  have tn : ((rn : Int) != (rn : Int)) = false := by simp
  have te : ((re : Int) != (re : Int)) = false := by simp
  go_quiet ((first | (go_at_call 27; exact qcallS (HSE.out _)) | (go_at_call 28; exact qcallS (HSR.out _))))
  obtain ⟨w4, hw4⟩ : ∃ w4, w4 = w3.drewN nq := ⟨_, rfl⟩
  rw [← hw4]
  have HB4 : Hid (Below w.heap.size w w4) := Lib.hid (by rw [hw4]; exact belD HB3.out nq)
  have KA4 : Hid (Blk w4 w.heap.size 26 #[.slice A0 S.dims.length c0, .slice A1 S.ints.length c1, .slice A2 S.nums.length c2, .slice A3 S.views.length c3]) := Lib.hid (by rw [hw4]; exact KA3.out.drewN nq)
  have KB4 : Hid (Blk w4 (w.heap.size + 1) 60 (arr3 x0 x1 x2)) := Lib.hid (by rw [hw4]; exact KB3.out.drewN nq)
  clear hw4 q0 q1 q2 HSE HSR tn te s0 s1 s2 s3 u0 u1 u2 u3 HB2 KA2 KB2 HREC HREF HLF1
  have q0 := KB4.out.cell 0; have q1 := KB4.out.cell 1; have q2 := KB4.out.cell 2
  have s0 := KA4.out.cell 0; have s1 := KA4.out.cell 1; have s2 := KA4.out.cell 2; have s3 := KA4.out.cell 3
  simp at q0 q1 q2 s0 s1 s2 s3
  have hmo := fun W => most_any W x1 hx1.1 hx1.2
  have hcase : (x1 < 0) ∨ (2147483647 < x1) ∨ (0 ≤ x1 ∧ x1 ≤ 2147483647) := by omega
  rcases hcase with hc | hc | ⟨hc, hc'⟩
  · have t2 : decide (x1 < 0) = true := decide_eq_true hc
    have e : mostOk x1 = false := by unfold mostOk; rw [decide_eq_false (by omega)]; rfl
    rw [e] at hmo
    simp only [Bool.false_eq_true, if_false] at hmo
    have HMO := Lib.hid hmo
    clear hmo e hc
    go_upto_region 13 with (go_at_call 18; (with_reducible refine (HMO.out _).mono ?_); rintro y w9 ⟨rfl, rfl⟩)
    obtain ⟨m, hm⟩ : ∃ m, S.views.length + 1 = m := ⟨_, rfl⟩
    have wa1 : (S.views.length : Int) + 1 = (m : Int) := by omega
    have hmk := (fun w => run_make_row' (P := Try.prog) 65 3 (.int .i64 0) 8 Try.underlying65 info_int39 rfl .i64 .i64 m (by omega) (by omega) w)
    obtain ⟨m1, hm1⟩ : ∃ m1, m = m1 + 1 := ⟨m - 1, by omega⟩
    have hown0 : (w4.alloc (.cells (madeCells #[.int .i64 0] m) 3)).ownsRow w4.heap.size 3 1 (.slice (some ⟨w4.heap.size, 0, none⟩) m m) m (i64s (List.replicate m 0)) := by
      rw [made_i64s]
      have h := World.ownsRow_lit (base := w4.heap.size) (e := 3) (size := 1) w4 (i64s (List.replicate m 0)).toArray m (Nat.le_refl _) (by simp [maxLen]; omega) (by simp [i64s])
      simpa using h
    obtain ⟨a, ea, hge, hgl, _, h0, _⟩ := own_elem hown0 0 (by omega)
    injection ea with ea
    subst ea
    obtain ⟨z0, z1, hset⟩ := h0 (by decide)
    have hrow : (i64s (List.replicate m 0)).set (0 * 1) (.int .i64 x1) = i64s (x1 :: List.replicate m1 0) := by rw [hm1]; simp [i64s, List.replicate_succ]
    have hs1 := hset (.int .i64 x1)
    rw [hrow] at hs1
    have z0' : (w4.alloc (.cells (madeCells #[.int .i64 0] m) 3)).cell? ⟨w4.heap.size, 0, none⟩ = some (.int .i64 0) := by
      have h := z0
      rw [show (i64s (List.replicate m 0))[0 * 1]? = some (.int .i64 0) from by rw [hm1]; simp [i64s, List.replicate_succ]] at h
      exact h
    have z1' : (w4.alloc (.cells (madeCells #[.int .i64 0] m) 3)).frozen? ⟨w4.heap.size, 0, none⟩ = false := z1
    have q1' : (w4.alloc (.cells (madeCells #[.int .i64 0] m) 3)).cell? ⟨w.heap.size + 1, 1, none⟩ = some (.int .i64 x1) := (KB4.out.alloc (.cells (madeCells #[.int .i64 0] m) 3)).cell 1
    have hs1' : ((w4.alloc (.cells (madeCells #[.int .i64 0] m) 3)).setCell ⟨w4.heap.size, 0, none⟩ (.int .i64 x1)).ownsRow w4.heap.size 3 1 (.slice (some ⟨w4.heap.size, 0, none⟩) m m) m (i64s (x1 :: List.replicate m1 0)) := hs1
    have hb5 : Below w4.heap.size w4 ((w4.alloc (.cells (madeCells #[.int .i64 0] m) 3)).setCell ⟨w4.heap.size, 0, none⟩ (.int .i64 x1)) := (belA (belR w4) _).setCell (Nat.le_refl _) _
    have hs2 : (w4.alloc (.cells ((madeCells #[.int .i64 0] m).setIfInBounds 0 (.int .i64 x1)) 3)).ownsRow w4.heap.size 3 1 (.slice (some ⟨w4.heap.size, 0, none⟩) m m) m (i64s (x1 :: List.replicate m1 0)) := by
      have h := World.ownsRow_lit (base := w4.heap.size) (e := 3) (size := 1) w4 ((madeCells #[.int .i64 0] m).setIfInBounds 0 (.int .i64 x1)) m (Nat.le_refl _) (by simp [maxLen]; omega) (by rw [made_i64s]; simp [i64s])
      have e : ((madeCells #[.int .i64 0] m).setIfInBounds 0 (.int .i64 x1)).toList = i64s (x1 :: List.replicate m1 0) := by rw [made_i64s, hm1]; simp [i64s, List.replicate_succ]
      rw [e] at h
      exact h
    have HS2 := Lib.hid hs2; have HB52 := Lib.hid (belA (belR w4) (.cells ((madeCells #[.int .i64 0] m).setIfInBounds 0 (.int .i64 x1)) 3))
    clear hs2
    have HM := Lib.hid hm; have HM1 := Lib.hid hm1; have HS1 := Lib.hid hs1'; have HB5 := Lib.hid hb5
    have hmp : (0 : Int) < (m : Int) := by omega
    have hm101 : m ≤ 101 := by omega
    clear hm hm1 hs1 hs1' hb5 hset h0 hown0 hrow z0 z1
    go_wp2
    go_loopw [13, 14] (fun vc vk wr => ∃ (k n : Nat) (cs : List Int), k ≤ 2 ∧ n ≤ 101 + k ∧ vk = .int .i64 (k : Int) ∧ Hid (cs.length = n) ∧ Hid (∀ z ∈ cs, -9223372036854775808 ≤ z ∧ z ≤ 9223372036854775807) ∧ Hid (wr.ownsRow w4.heap.size 3 1 vc n (i64s cs)) ∧ Hid (Below w4.heap.size w4 wr)) (fun _ vk _ => 2 - (intOf vk).toNat)
    case atStart =>
      refine ⟨0, m, x1 :: List.replicate m1 0, by omega, by omega, rfl, Lib.hid (by have := HM1.out; simp; omega), Lib.hid fun z hz => ?_, by first | exact HS1 | exact HS2, by first | exact HB5 | exact HB52⟩
      rcases List.mem_cons.1 hz with rfl | hz
      · exact hx1
      · have := List.eq_of_mem_replicate hz; omega
    case round =>
      obtain ⟨k, n, cs, hk, hn, rfl, HN, HX, HO, HBl⟩ := hrel
      have KA5 := Lib.hid (KA4.out.below HBl.out KA4.out.lt); have KB5 := Lib.hid (KB4.out.below HBl.out KB4.out.lt)
      have hbw : Below w.heap.size w wr := HB4.out.trans (HBl.out.mono HB4.out.size)
      have HBW := Lib.hid hbw
      clear hbw q0 q1 q2 s0 s1 s2 s3
      have q2 := KB5.out.cell 2
      have s0 := KA5.out.cell 0; have s1 := KA5.out.cell 1; have s2 := KA5.out.cell 2; have s3 := KA5.out.cell 3
      simp at q2 s0 s1 s2 s3
      by_cases hlt : k < 2
      · have t9 : decide ((k : Int) < 2) = true := decide_eq_true (by omega)
        obtain ⟨A5, c5, rfl, hc5, hc5m, _⟩ := own_form HO.out
        have hbd := fun W (hW : Below wr.heap.size wr W) => bound_any W W.heap.size (.agg #[.slice A0 S.dims.length c0, .slice A1 S.ints.length c1, .slice A2 S.nums.length c2, .slice A3 S.views.length c3]) S A5 c5 cs x2 (H.out.keep ((HBW.out.trans (hW.mono HBW.out.size)).mono hB) (by have := HBW.out.size; have := hW.size; omega)) ho (by rw [HN.out]; exact ((Rd.own HO.out).below hW).more hW.size) HX.out (Nat.le_refl _) (by have := HN.out; omega) hx2.1 hx2.2
        have hbr := fun W (hW : Below wr.heap.size wr W) => refBound_any W W.heap.size (.agg #[.slice A0 S.dims.length c0, .slice A1 S.ints.length c1, .slice A2 S.nums.length c2, .slice A3 S.views.length c3]) S A5 c5 cs x2 (H.out.keep ((HBW.out.trans (hW.mono HBW.out.size)).mono hB) (by have := HBW.out.size; have := hW.size; omega)) ho (by rw [HN.out]; exact ((Rd.own HO.out).below hW).more hW.size) HX.out (Nat.le_refl _) (by have := HN.out; omega) hx2.1 hx2.2
        rw [HN.out] at hbd hbr
        obtain ⟨r1, hr1⟩ : ∃ r1, (boundP S cs x2).1 = r1 := ⟨_, rfl⟩
        obtain ⟨r2, hr2⟩ : ∃ r2, (boundP S cs x2).2 = r2 := ⟨_, rfl⟩
        unfold PairRet at hbd hbr
        rw [hr1, hr2] at hbd hbr
        have HBD := Lib.hid hbd; have HBR := Lib.hid hbr
        have tr1 : (r1 != r1) = false := by simp
        have tr2 : ((r2 : Int) != (r2 : Int)) = false := by simp
        clear hbd hbr hr1 hr2
        go_wp2_with (first
          | (go_at_call 30; (with_reducible refine (HBD.out _ (belR _)).mono ?_); rintro y w6 ⟨rfl, hb6⟩; have HB6 := Lib.hid hb6; have KA6 := Lib.hid (KA5.out.below hb6 KA5.out.lt); have KB6 := Lib.hid (KB5.out.below hb6 KB5.out.lt); have p2 := KB6.out.cell 2; have u0 := KA6.out.cell 0; have u1 := KA6.out.cell 1; have u2 := KA6.out.cell 2; have u3 := KA6.out.cell 3; simp at p2 u0 u1 u2 u3; clear hb6)
          | (go_at_call 31; (with_reducible refine (HBR.out _ HB6.out).mono ?_); rintro y w7 ⟨rfl, hb7⟩; have HB7 := Lib.hid (HB6.out.trans (hb7.mono HB6.out.size)); have HO7 := Lib.hid (own_below HO.out (HB6.out.trans (hb7.mono HB6.out.size)) (Nat.le_refl _)); have HZ7 := Lib.hid (show w4.heap.size ≤ w7.heap.size by have := HBl.out.size; have := HB6.out.size; have := hb7.size; omega); clear hb7)
          | (at_builtin; refine wpList_app1 w7 (.int .i64 0) rfl rfl _ _ 65 rfl w4.heap.size 3 _ 8 info_int39 rfl Try.underlying65 (.slice A5 n c5) n (i64s cs) HO7.out (by rfl) (by rfl) ?_ ?_ ?_ ?_; omega; omega; exact HZ7.out; intro v8 w8 ho8 hap8; have HO8 := Lib.hid ho8; have HB8 := Lib.hid ((HBl.out.trans (HB7.out.mono HBl.out.size)).trans (hap8.below HZ7.out HO7.out)); clear ho8 hap8))
        go_roundw
        case rel =>
          refine ⟨k + 1, n + 1, cs ++ [0], by omega, by omega, by go_num, Lib.hid (by rw [List.length_append, HN.out]; rfl), Lib.hid fun z hz => ?_, Lib.hid (by have h := HO8.out; rw [i64s_snoc] at h; exact h), HB8⟩
          rcases List.mem_append.1 hz with hz | hz
          · exact HX.out z hz
          · obtain rfl := List.mem_singleton.1 hz; omega
        case measure => simp [intOf]; omega
      · have t9 : decide ((k : Int) < 2) = false := decide_eq_false (by omega)
        go_wp2_with (go_at_call 12; (with_reducible refine (HAW.out _).mono ?_); rintro y w9 ⟨rfl, hb9⟩; have HB9 := Lib.hid (belT HBW.out hb9); clear hb9)
        go_ret
        exact ⟨rfl, HB9.out⟩
  · have t2 : decide (x1 < 0) = false := decide_eq_false (by omega)
    have t3 : decide (2147483647 < x1) = true := decide_eq_true hc
    have e : mostOk x1 = false := by unfold mostOk; rw [decide_eq_false (show ¬ x1 ≤ 2147483647 by omega), Bool.and_false]
    rw [e] at hmo
    simp only [Bool.false_eq_true, if_false] at hmo
    have HMO := Lib.hid hmo
    clear hmo e
    go_upto_region 13 with (go_at_call 18; (with_reducible refine (HMO.out _).mono ?_); rintro y w9 ⟨rfl, rfl⟩)
    obtain ⟨m, hm⟩ : ∃ m, S.views.length + 1 = m := ⟨_, rfl⟩
    have wa1 : (S.views.length : Int) + 1 = (m : Int) := by omega
    have hmk := (fun w => run_make_row' (P := Try.prog) 65 3 (.int .i64 0) 8 Try.underlying65 info_int39 rfl .i64 .i64 m (by omega) (by omega) w)
    obtain ⟨m1, hm1⟩ : ∃ m1, m = m1 + 1 := ⟨m - 1, by omega⟩
    have hown0 : (w4.alloc (.cells (madeCells #[.int .i64 0] m) 3)).ownsRow w4.heap.size 3 1 (.slice (some ⟨w4.heap.size, 0, none⟩) m m) m (i64s (List.replicate m 0)) := by
      rw [made_i64s]
      have h := World.ownsRow_lit (base := w4.heap.size) (e := 3) (size := 1) w4 (i64s (List.replicate m 0)).toArray m (Nat.le_refl _) (by simp [maxLen]; omega) (by simp [i64s])
      simpa using h
    obtain ⟨a, ea, hge, hgl, _, h0, _⟩ := own_elem hown0 0 (by omega)
    injection ea with ea
    subst ea
    obtain ⟨z0, z1, hset⟩ := h0 (by decide)
    have hrow : (i64s (List.replicate m 0)).set (0 * 1) (.int .i64 x1) = i64s (x1 :: List.replicate m1 0) := by rw [hm1]; simp [i64s, List.replicate_succ]
    have hs1 := hset (.int .i64 x1)
    rw [hrow] at hs1
    have z0' : (w4.alloc (.cells (madeCells #[.int .i64 0] m) 3)).cell? ⟨w4.heap.size, 0, none⟩ = some (.int .i64 0) := by
      have h := z0
      rw [show (i64s (List.replicate m 0))[0 * 1]? = some (.int .i64 0) from by rw [hm1]; simp [i64s, List.replicate_succ]] at h
      exact h
    have z1' : (w4.alloc (.cells (madeCells #[.int .i64 0] m) 3)).frozen? ⟨w4.heap.size, 0, none⟩ = false := z1
    have q1' : (w4.alloc (.cells (madeCells #[.int .i64 0] m) 3)).cell? ⟨w.heap.size + 1, 1, none⟩ = some (.int .i64 x1) := (KB4.out.alloc (.cells (madeCells #[.int .i64 0] m) 3)).cell 1
    have hs1' : ((w4.alloc (.cells (madeCells #[.int .i64 0] m) 3)).setCell ⟨w4.heap.size, 0, none⟩ (.int .i64 x1)).ownsRow w4.heap.size 3 1 (.slice (some ⟨w4.heap.size, 0, none⟩) m m) m (i64s (x1 :: List.replicate m1 0)) := hs1
    have hb5 : Below w4.heap.size w4 ((w4.alloc (.cells (madeCells #[.int .i64 0] m) 3)).setCell ⟨w4.heap.size, 0, none⟩ (.int .i64 x1)) := (belA (belR w4) _).setCell (Nat.le_refl _) _
    have hs2 : (w4.alloc (.cells ((madeCells #[.int .i64 0] m).setIfInBounds 0 (.int .i64 x1)) 3)).ownsRow w4.heap.size 3 1 (.slice (some ⟨w4.heap.size, 0, none⟩) m m) m (i64s (x1 :: List.replicate m1 0)) := by
      have h := World.ownsRow_lit (base := w4.heap.size) (e := 3) (size := 1) w4 ((madeCells #[.int .i64 0] m).setIfInBounds 0 (.int .i64 x1)) m (Nat.le_refl _) (by simp [maxLen]; omega) (by rw [made_i64s]; simp [i64s])
      have e : ((madeCells #[.int .i64 0] m).setIfInBounds 0 (.int .i64 x1)).toList = i64s (x1 :: List.replicate m1 0) := by rw [made_i64s, hm1]; simp [i64s, List.replicate_succ]
      rw [e] at h
      exact h
    have HS2 := Lib.hid hs2; have HB52 := Lib.hid (belA (belR w4) (.cells ((madeCells #[.int .i64 0] m).setIfInBounds 0 (.int .i64 x1)) 3))
    clear hs2
    have HM := Lib.hid hm; have HM1 := Lib.hid hm1; have HS1 := Lib.hid hs1'; have HB5 := Lib.hid hb5
    have hmp : (0 : Int) < (m : Int) := by omega
    have hm101 : m ≤ 101 := by omega
    clear hm hm1 hs1 hs1' hb5 hset h0 hown0 hrow z0 z1
    go_wp2
    go_loopw [13, 14] (fun vc vk wr => ∃ (k n : Nat) (cs : List Int), k ≤ 2 ∧ n ≤ 101 + k ∧ vk = .int .i64 (k : Int) ∧ Hid (cs.length = n) ∧ Hid (∀ z ∈ cs, -9223372036854775808 ≤ z ∧ z ≤ 9223372036854775807) ∧ Hid (wr.ownsRow w4.heap.size 3 1 vc n (i64s cs)) ∧ Hid (Below w4.heap.size w4 wr)) (fun _ vk _ => 2 - (intOf vk).toNat)
    case atStart =>
      refine ⟨0, m, x1 :: List.replicate m1 0, by omega, by omega, rfl, Lib.hid (by have := HM1.out; simp; omega), Lib.hid fun z hz => ?_, by first | exact HS1 | exact HS2, by first | exact HB5 | exact HB52⟩
      rcases List.mem_cons.1 hz with rfl | hz
      · exact hx1
      · have := List.eq_of_mem_replicate hz; omega
    case round =>
      obtain ⟨k, n, cs, hk, hn, rfl, HN, HX, HO, HBl⟩ := hrel
      have KA5 := Lib.hid (KA4.out.below HBl.out KA4.out.lt); have KB5 := Lib.hid (KB4.out.below HBl.out KB4.out.lt)
      have hbw : Below w.heap.size w wr := HB4.out.trans (HBl.out.mono HB4.out.size)
      have HBW := Lib.hid hbw
      clear hbw q0 q1 q2 s0 s1 s2 s3
      have q2 := KB5.out.cell 2
      have s0 := KA5.out.cell 0; have s1 := KA5.out.cell 1; have s2 := KA5.out.cell 2; have s3 := KA5.out.cell 3
      simp at q2 s0 s1 s2 s3
      by_cases hlt : k < 2
      · have t9 : decide ((k : Int) < 2) = true := decide_eq_true (by omega)
        obtain ⟨A5, c5, rfl, hc5, hc5m, _⟩ := own_form HO.out
        have hbd := fun W (hW : Below wr.heap.size wr W) => bound_any W W.heap.size (.agg #[.slice A0 S.dims.length c0, .slice A1 S.ints.length c1, .slice A2 S.nums.length c2, .slice A3 S.views.length c3]) S A5 c5 cs x2 (H.out.keep ((HBW.out.trans (hW.mono HBW.out.size)).mono hB) (by have := HBW.out.size; have := hW.size; omega)) ho (by rw [HN.out]; exact ((Rd.own HO.out).below hW).more hW.size) HX.out (Nat.le_refl _) (by have := HN.out; omega) hx2.1 hx2.2
        have hbr := fun W (hW : Below wr.heap.size wr W) => refBound_any W W.heap.size (.agg #[.slice A0 S.dims.length c0, .slice A1 S.ints.length c1, .slice A2 S.nums.length c2, .slice A3 S.views.length c3]) S A5 c5 cs x2 (H.out.keep ((HBW.out.trans (hW.mono HBW.out.size)).mono hB) (by have := HBW.out.size; have := hW.size; omega)) ho (by rw [HN.out]; exact ((Rd.own HO.out).below hW).more hW.size) HX.out (Nat.le_refl _) (by have := HN.out; omega) hx2.1 hx2.2
        rw [HN.out] at hbd hbr
        obtain ⟨r1, hr1⟩ : ∃ r1, (boundP S cs x2).1 = r1 := ⟨_, rfl⟩
        obtain ⟨r2, hr2⟩ : ∃ r2, (boundP S cs x2).2 = r2 := ⟨_, rfl⟩
        unfold PairRet at hbd hbr
        rw [hr1, hr2] at hbd hbr
        have HBD := Lib.hid hbd; have HBR := Lib.hid hbr
        have tr1 : (r1 != r1) = false := by simp
        have tr2 : ((r2 : Int) != (r2 : Int)) = false := by simp
        clear hbd hbr hr1 hr2
        go_wp2_with (first
          | (go_at_call 30; (with_reducible refine (HBD.out _ (belR _)).mono ?_); rintro y w6 ⟨rfl, hb6⟩; have HB6 := Lib.hid hb6; have KA6 := Lib.hid (KA5.out.below hb6 KA5.out.lt); have KB6 := Lib.hid (KB5.out.below hb6 KB5.out.lt); have p2 := KB6.out.cell 2; have u0 := KA6.out.cell 0; have u1 := KA6.out.cell 1; have u2 := KA6.out.cell 2; have u3 := KA6.out.cell 3; simp at p2 u0 u1 u2 u3; clear hb6)
          | (go_at_call 31; (with_reducible refine (HBR.out _ HB6.out).mono ?_); rintro y w7 ⟨rfl, hb7⟩; have HB7 := Lib.hid (HB6.out.trans (hb7.mono HB6.out.size)); have HO7 := Lib.hid (own_below HO.out (HB6.out.trans (hb7.mono HB6.out.size)) (Nat.le_refl _)); have HZ7 := Lib.hid (show w4.heap.size ≤ w7.heap.size by have := HBl.out.size; have := HB6.out.size; have := hb7.size; omega); clear hb7)
          | (at_builtin; refine wpList_app1 w7 (.int .i64 0) rfl rfl _ _ 65 rfl w4.heap.size 3 _ 8 info_int39 rfl Try.underlying65 (.slice A5 n c5) n (i64s cs) HO7.out (by rfl) (by rfl) ?_ ?_ ?_ ?_; omega; omega; exact HZ7.out; intro v8 w8 ho8 hap8; have HO8 := Lib.hid ho8; have HB8 := Lib.hid ((HBl.out.trans (HB7.out.mono HBl.out.size)).trans (hap8.below HZ7.out HO7.out)); clear ho8 hap8))
        go_roundw
        case rel =>
          refine ⟨k + 1, n + 1, cs ++ [0], by omega, by omega, by go_num, Lib.hid (by rw [List.length_append, HN.out]; rfl), Lib.hid fun z hz => ?_, Lib.hid (by have h := HO8.out; rw [i64s_snoc] at h; exact h), HB8⟩
          rcases List.mem_append.1 hz with hz | hz
          · exact HX.out z hz
          · obtain rfl := List.mem_singleton.1 hz; omega
        case measure => simp [intOf]; omega
      · have t9 : decide ((k : Int) < 2) = false := decide_eq_false (by omega)
        go_wp2_with (go_at_call 12; (with_reducible refine (HAW.out _).mono ?_); rintro y w9 ⟨rfl, hb9⟩; have HB9 := Lib.hid (belT HBW.out hb9); clear hb9)
        go_ret
        exact ⟨rfl, HB9.out⟩
  · have t2 : decide (x1 < 0) = false := decide_eq_false (by omega)
    have t3 : decide (2147483647 < x1) = false := decide_eq_false (by omega)
    have e : mostOk x1 = true := (mostOk_iff x1).2 ⟨hc, hc'⟩
    rw [e] at hmo
    simp only [if_true] at hmo
    have HMO := Lib.hid hmo
    have HRM := Lib.hid (fun W => refMost_any W x1 hc hc')
    clear hmo e
    go_upto_region 13 with (first | (go_at_call 18; (with_reducible refine (HMO.out _).mono ?_); rintro y w9 ⟨rfl, rfl⟩) | (go_at_call 29; (with_reducible refine (HRM.out _).mono ?_); rintro y w9 ⟨rfl, rfl⟩))
    obtain ⟨m, hm⟩ : ∃ m, S.views.length + 1 = m := ⟨_, rfl⟩
    have wa1 : (S.views.length : Int) + 1 = (m : Int) := by omega
    have hmk := (fun w => run_make_row' (P := Try.prog) 65 3 (.int .i64 0) 8 Try.underlying65 info_int39 rfl .i64 .i64 m (by omega) (by omega) w)
    obtain ⟨m1, hm1⟩ : ∃ m1, m = m1 + 1 := ⟨m - 1, by omega⟩
    have hown0 : (w4.alloc (.cells (madeCells #[.int .i64 0] m) 3)).ownsRow w4.heap.size 3 1 (.slice (some ⟨w4.heap.size, 0, none⟩) m m) m (i64s (List.replicate m 0)) := by
      rw [made_i64s]
      have h := World.ownsRow_lit (base := w4.heap.size) (e := 3) (size := 1) w4 (i64s (List.replicate m 0)).toArray m (Nat.le_refl _) (by simp [maxLen]; omega) (by simp [i64s])
      simpa using h
    obtain ⟨a, ea, hge, hgl, _, h0, _⟩ := own_elem hown0 0 (by omega)
    injection ea with ea
    subst ea
    obtain ⟨z0, z1, hset⟩ := h0 (by decide)
    have hrow : (i64s (List.replicate m 0)).set (0 * 1) (.int .i64 x1) = i64s (x1 :: List.replicate m1 0) := by rw [hm1]; simp [i64s, List.replicate_succ]
    have hs1 := hset (.int .i64 x1)
    rw [hrow] at hs1
    have z0' : (w4.alloc (.cells (madeCells #[.int .i64 0] m) 3)).cell? ⟨w4.heap.size, 0, none⟩ = some (.int .i64 0) := by
      have h := z0
      rw [show (i64s (List.replicate m 0))[0 * 1]? = some (.int .i64 0) from by rw [hm1]; simp [i64s, List.replicate_succ]] at h
      exact h
    have z1' : (w4.alloc (.cells (madeCells #[.int .i64 0] m) 3)).frozen? ⟨w4.heap.size, 0, none⟩ = false := z1
    have q1' : (w4.alloc (.cells (madeCells #[.int .i64 0] m) 3)).cell? ⟨w.heap.size + 1, 1, none⟩ = some (.int .i64 x1) := (KB4.out.alloc (.cells (madeCells #[.int .i64 0] m) 3)).cell 1
    have hs1' : ((w4.alloc (.cells (madeCells #[.int .i64 0] m) 3)).setCell ⟨w4.heap.size, 0, none⟩ (.int .i64 x1)).ownsRow w4.heap.size 3 1 (.slice (some ⟨w4.heap.size, 0, none⟩) m m) m (i64s (x1 :: List.replicate m1 0)) := hs1
    have hb5 : Below w4.heap.size w4 ((w4.alloc (.cells (madeCells #[.int .i64 0] m) 3)).setCell ⟨w4.heap.size, 0, none⟩ (.int .i64 x1)) := (belA (belR w4) _).setCell (Nat.le_refl _) _
    have hs2 : (w4.alloc (.cells ((madeCells #[.int .i64 0] m).setIfInBounds 0 (.int .i64 x1)) 3)).ownsRow w4.heap.size 3 1 (.slice (some ⟨w4.heap.size, 0, none⟩) m m) m (i64s (x1 :: List.replicate m1 0)) := by
      have h := World.ownsRow_lit (base := w4.heap.size) (e := 3) (size := 1) w4 ((madeCells #[.int .i64 0] m).setIfInBounds 0 (.int .i64 x1)) m (Nat.le_refl _) (by simp [maxLen]; omega) (by rw [made_i64s]; simp [i64s])
      have e : ((madeCells #[.int .i64 0] m).setIfInBounds 0 (.int .i64 x1)).toList = i64s (x1 :: List.replicate m1 0) := by rw [made_i64s, hm1]; simp [i64s, List.replicate_succ]
      rw [e] at h
      exact h
    have HS2 := Lib.hid hs2; have HB52 := Lib.hid (belA (belR w4) (.cells ((madeCells #[.int .i64 0] m).setIfInBounds 0 (.int .i64 x1)) 3))
    clear hs2
    have HM := Lib.hid hm; have HM1 := Lib.hid hm1; have HS1 := Lib.hid hs1'; have HB5 := Lib.hid hb5
    have hmp : (0 : Int) < (m : Int) := by omega
    have hm101 : m ≤ 101 := by omega
    clear hm hm1 hs1 hs1' hb5 hset h0 hown0 hrow z0 z1
    go_wp2
    go_loopw [13, 14] (fun vc vk wr => ∃ (k n : Nat) (cs : List Int), k ≤ 2 ∧ n ≤ 101 + k ∧ vk = .int .i64 (k : Int) ∧ Hid (cs.length = n) ∧ Hid (∀ z ∈ cs, -9223372036854775808 ≤ z ∧ z ≤ 9223372036854775807) ∧ Hid (wr.ownsRow w4.heap.size 3 1 vc n (i64s cs)) ∧ Hid (Below w4.heap.size w4 wr)) (fun _ vk _ => 2 - (intOf vk).toNat)
    case atStart =>
      refine ⟨0, m, x1 :: List.replicate m1 0, by omega, by omega, rfl, Lib.hid (by have := HM1.out; simp; omega), Lib.hid fun z hz => ?_, by first | exact HS1 | exact HS2, by first | exact HB5 | exact HB52⟩
      rcases List.mem_cons.1 hz with rfl | hz
      · exact hx1
      · have := List.eq_of_mem_replicate hz; omega
    case round =>
      obtain ⟨k, n, cs, hk, hn, rfl, HN, HX, HO, HBl⟩ := hrel
      have KA5 := Lib.hid (KA4.out.below HBl.out KA4.out.lt); have KB5 := Lib.hid (KB4.out.below HBl.out KB4.out.lt)
      have hbw : Below w.heap.size w wr := HB4.out.trans (HBl.out.mono HB4.out.size)
      have HBW := Lib.hid hbw
      clear hbw q0 q1 q2 s0 s1 s2 s3
      have q2 := KB5.out.cell 2
      have s0 := KA5.out.cell 0; have s1 := KA5.out.cell 1; have s2 := KA5.out.cell 2; have s3 := KA5.out.cell 3
      simp at q2 s0 s1 s2 s3
      by_cases hlt : k < 2
      · have t9 : decide ((k : Int) < 2) = true := decide_eq_true (by omega)
        obtain ⟨A5, c5, rfl, hc5, hc5m, _⟩ := own_form HO.out
        have hbd := fun W (hW : Below wr.heap.size wr W) => bound_any W W.heap.size (.agg #[.slice A0 S.dims.length c0, .slice A1 S.ints.length c1, .slice A2 S.nums.length c2, .slice A3 S.views.length c3]) S A5 c5 cs x2 (H.out.keep ((HBW.out.trans (hW.mono HBW.out.size)).mono hB) (by have := HBW.out.size; have := hW.size; omega)) ho (by rw [HN.out]; exact ((Rd.own HO.out).below hW).more hW.size) HX.out (Nat.le_refl _) (by have := HN.out; omega) hx2.1 hx2.2
        have hbr := fun W (hW : Below wr.heap.size wr W) => refBound_any W W.heap.size (.agg #[.slice A0 S.dims.length c0, .slice A1 S.ints.length c1, .slice A2 S.nums.length c2, .slice A3 S.views.length c3]) S A5 c5 cs x2 (H.out.keep ((HBW.out.trans (hW.mono HBW.out.size)).mono hB) (by have := HBW.out.size; have := hW.size; omega)) ho (by rw [HN.out]; exact ((Rd.own HO.out).below hW).more hW.size) HX.out (Nat.le_refl _) (by have := HN.out; omega) hx2.1 hx2.2
        rw [HN.out] at hbd hbr
        obtain ⟨r1, hr1⟩ : ∃ r1, (boundP S cs x2).1 = r1 := ⟨_, rfl⟩
        obtain ⟨r2, hr2⟩ : ∃ r2, (boundP S cs x2).2 = r2 := ⟨_, rfl⟩
        unfold PairRet at hbd hbr
        rw [hr1, hr2] at hbd hbr
        have HBD := Lib.hid hbd; have HBR := Lib.hid hbr
        have tr1 : (r1 != r1) = false := by simp
        have tr2 : ((r2 : Int) != (r2 : Int)) = false := by simp
        clear hbd hbr hr1 hr2
        go_wp2_with (first
          | (go_at_call 30; (with_reducible refine (HBD.out _ (belR _)).mono ?_); rintro y w6 ⟨rfl, hb6⟩; have HB6 := Lib.hid hb6; have KA6 := Lib.hid (KA5.out.below hb6 KA5.out.lt); have KB6 := Lib.hid (KB5.out.below hb6 KB5.out.lt); have p2 := KB6.out.cell 2; have u0 := KA6.out.cell 0; have u1 := KA6.out.cell 1; have u2 := KA6.out.cell 2; have u3 := KA6.out.cell 3; simp at p2 u0 u1 u2 u3; clear hb6)
          | (go_at_call 31; (with_reducible refine (HBR.out _ HB6.out).mono ?_); rintro y w7 ⟨rfl, hb7⟩; have HB7 := Lib.hid (HB6.out.trans (hb7.mono HB6.out.size)); have HO7 := Lib.hid (own_below HO.out (HB6.out.trans (hb7.mono HB6.out.size)) (Nat.le_refl _)); have HZ7 := Lib.hid (show w4.heap.size ≤ w7.heap.size by have := HBl.out.size; have := HB6.out.size; have := hb7.size; omega); clear hb7)
          | (at_builtin; refine wpList_app1 w7 (.int .i64 0) rfl rfl _ _ 65 rfl w4.heap.size 3 _ 8 info_int39 rfl Try.underlying65 (.slice A5 n c5) n (i64s cs) HO7.out (by rfl) (by rfl) ?_ ?_ ?_ ?_; omega; omega; exact HZ7.out; intro v8 w8 ho8 hap8; have HO8 := Lib.hid ho8; have HB8 := Lib.hid ((HBl.out.trans (HB7.out.mono HBl.out.size)).trans (hap8.below HZ7.out HO7.out)); clear ho8 hap8))
        go_roundw
        case rel =>
          refine ⟨k + 1, n + 1, cs ++ [0], by omega, by omega, by go_num, Lib.hid (by rw [List.length_append, HN.out]; rfl), Lib.hid fun z hz => ?_, Lib.hid (by have h := HO8.out; rw [i64s_snoc] at h; exact h), HB8⟩
          rcases List.mem_append.1 hz with hz | hz
          · exact HX.out z hz
          · obtain rfl := List.mem_singleton.1 hz; omega
        case measure => simp [intOf]; omega
      · have t9 : decide ((k : Int) < 2) = false := decide_eq_false (by omega)
        go_wp2_with (go_at_call 12; (with_reducible refine (HAW.out _).mono ?_); rintro y w9 ⟨rfl, hb9⟩; have HB9 := Lib.hid (belT HBW.out hb9); clear hb9)
        go_ret
        exact ⟨rfl, HB9.out⟩
end Go.Proofs.Ytfhmaincnlaapaa
