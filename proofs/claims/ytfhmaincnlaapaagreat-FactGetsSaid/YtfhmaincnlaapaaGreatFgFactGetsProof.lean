/-
  bushellaw12.FactGets answers true for any schema and any bytes and leaves them as they were.
  Conditions: none beyond the statement's own.
-/
import Derived.Deep.RegionHeld3
import Derived.Deep.RegionLawGrows
import Derived.Test.YtfhmaincnlaapaaGreatFgBufOut
import Derived.Test.YtfhmaincnlaapaaGreatFgFactLight
import Derived.Test.YtfhmaincnlaapaaGreatFgRefAll
namespace Go.Proofs.YtfhmaincnlaapaaGreat
open Go.ChangeShapes Go.WideShapes Go.ChangeAt Go.RowKit
set_option linter.unusedVariables false

set_option maxRecDepth 20000 in
set_option maxHeartbeats 8000000 in
theorem lawFactGets_any (w : World) (B : Nat) (v : Value) (S : Sch) (A : Option Addr) (c : Nat) (t : List UInt8) (h : SchAt w B v S) (ho : SchOk S) (hR : Rd w B 1 A t.length (u8s t)) (hnc : t.length ≤ c) (hcm : c ≤ maxLen) (hB : B ≤ w.heap.size) :
    Calls Tryz.prog 3 #[v, .slice A t.length c] w fun y w' => y = .returned (.bool true) ∧ Below w.heap.size w w' := by
  have hh := h
  obtain ⟨A0, c0, A1, c1, A2, c2, A3, c3, rfl, r0, r1, r2, r3, b0, b1, b2, b3⟩ := hh
  clear r0 r1 r2 r3 b0 b1 b2 b3
  have hw0 := belA (belR w) (.cells #[.slice A0 S.dims.length c0, .slice A1 S.ints.length c1, .slice A2 S.nums.length c2, .slice A3 S.views.length c3] 26)
  have hl := light_any (w.alloc (.cells #[.slice A0 S.dims.length c0, .slice A1 S.ints.length c1, .slice A2 S.nums.length c2, .slice A3 S.views.length c3] 26)) B _ S (h.keep (hw0.mono hB) (Nat.le_refl _)) (by simp; omega)
  have K0 := Lib.hid (Blk.new w 26 #[.slice A0 S.dims.length c0, .slice A1 S.ints.length c1, .slice A2 S.nums.length c2, .slice A3 S.views.length c3])
  have hml : t.length ≤ 9223372036854775807 := by unfold maxLen at hcm; omega
  have HW0 := Lib.hid hw0; have HL0 := Lib.hid hl; have H := Lib.hid h; have HR := Lib.hid hR; have HCM := Lib.hid hcm; have HNC := Lib.hid hnc
  clear hw0 hl h hR hcm hnc
  cases h0 : lightB S with
  | false =>
    have hl := HL0.out
    rw [h0] at hl
    have HL := Lib.hid hl
    clear hl h0
    go_enter Tryz.func3, Tryz.ntmps3
    go_wp2_with (first | (go_at_call 9; (with_reducible refine HL.out.mono ?_); rintro y w1 ⟨rfl, hb1⟩; have HB1 := Lib.hid (HW0.out.trans (hb1.mono (show w.heap.size ≤ _ by simp))); clear hb1) | (go_at_call 10; (with_reducible refine (awake12_any _).mono ?_); rintro y w9 ⟨rfl, hb9⟩; have HB9 := Lib.hid hb9; clear hb9))
    go_ret
    exact ⟨rfl, belT HB1.out HB9.out⟩
  | true =>
    have hl := HL0.out
    rw [h0] at hl
    have HL := Lib.hid hl
    clear hl h0
    by_cases h1 : t.length ≤ 3000
    case neg =>
      have t3 : decide ((3000 : Int) < (t.length : Int)) = true := decide_eq_true (by omega)
      go_enter Tryz.func3, Tryz.ntmps3
      go_wp2_with (first | (go_at_call 9; (with_reducible refine HL.out.mono ?_); rintro y w1 ⟨rfl, hb1⟩; have HB1 := Lib.hid (HW0.out.trans (hb1.mono (show w.heap.size ≤ _ by simp))); clear hb1) | (go_at_call 10; (with_reducible refine (awake12_any _).mono ?_); rintro y w9 ⟨rfl, hb9⟩; have HB9 := Lib.hid hb9; clear hb9))
      go_ret
      exact ⟨rfl, belT HB1.out HB9.out⟩
    have t3 : decide ((3000 : Int) < (t.length : Int)) = false := decide_eq_false (by omega)
    have hcg : ∀ W, Below w.heap.size w W → Calls Tryz.prog 11 #[.agg #[.slice A0 S.dims.length c0, .slice A1 S.ints.length c1, .slice A2 S.nums.length c2, .slice A3 S.views.length c3], .slice A t.length c] W fun y w' => ∃ A' c', y = .returned (.tuple #[.slice A' (getB S t).1.length c', .int .i64 ((getB S t).2 : Int)]) ∧ SlR factR w' w'.heap.size (getB S t).1 A' c' ∧ Below W.heap.size W w' := fun W hb =>
      factGet_any W B _ S A t.length c t (H.out.keep (hb.mono hB) (Nat.le_refl _)) ho (HR.out.below (hb.mono hB)) (Nat.le_trans hB hb.size) (by omega)
    have hcr : ∀ W, Below w.heap.size w W → Calls Tryz.prog 12 #[.agg #[.slice A0 S.dims.length c0, .slice A1 S.ints.length c1, .slice A2 S.nums.length c2, .slice A3 S.views.length c3], .slice A t.length c] W (RetGet12 W S t) := fun W hb =>
      ref12Get_any W B _ S A c t (H.out.keep (hb.mono hB) (Nat.le_refl _)) ho (HR.out.below (hb.mono hB)) HNC.out HCM.out (Nat.le_trans hB hb.size) (by omega)
    have hbk := getB_back S t
    have hft := getB_fits (S := S) (t := t)
    generalize hg : getB S t = gg at *
    obtain ⟨l, e⟩ := gg
    simp only at hcg hbk hft
    have t4 : ((e : Int) != (e : Int)) = false := by rw [bne_eq_false_iff_eq]
    have t4' : ((e : Int) == (e : Int)) = true := beq_self_eq_true _
    have HCG := Lib.hid hcg; have HCR := Lib.hid hcr; have HBK := Lib.hid hbk; have HFT := Lib.hid hft; have HG := Lib.hid hg
    clear hcg hcr hbk hft hg
    go_enter Tryz.func3, Tryz.ntmps3
    go_wp2_with (first | (go_at_call 9; (with_reducible refine HL.out.mono ?_); rintro y w1 ⟨rfl, hb1⟩; have HB1 := Lib.hid (HW0.out.trans (hb1.mono (show w.heap.size ≤ _ by simp))); have HK1 := Lib.hid (K0.out.below hb1 (by simp)); have k10 := HK1.out.cell 0; have k11 := HK1.out.cell 1; have k12 := HK1.out.cell 2; have k13 := HK1.out.cell 3; simp at k10 k11 k12 k13; clear hb1))
    (with_reducible refine (HCG.out _ HB1.out).mono ?_); rintro y w2 ⟨A5, c5, rfl, hs2, hb2⟩
    have HB2 := Lib.hid (belT HB1.out hb2); have HK2 := Lib.hid (HK1.out.below hb2 HK1.out.lt)
    have k20 := HK2.out.cell 0; have k21 := HK2.out.cell 1; have k22 := HK2.out.cell 2; have k23 := HK2.out.cell 3
    simp at k20 k21 k22 k23
    have HS2 := Lib.hid hs2
    clear hs2 hb2 k10 k11 k12 k13
    go_wp2_with fail
    (with_reducible refine (HCR.out _ HB2.out).mono ?_); rintro y w3 ⟨m, A6, c6, hal, hmo, rfl, hs3, hb3⟩
    rw [HG.out] at hal
    rw [HG.out]
    have HB3 := Lib.hid (belT HB2.out hb3)
    have hca := refAll_any w3 w3.heap.size A5 A6 c5 c6 l m ((HS2.out.keep hb3 (Nat.le_refl _)).mono hb3.size) hs3 (Nat.le_refl _)
    rw [AlF.all hal] at hca
    have HCA := Lib.hid hca; have HS3 := Lib.hid hs3; have HAL := Lib.hid hal
    clear hca hs3 hal hb3 k20 k21 k22 k23
    go_wp2_with fail
    (with_reducible refine HCA.out.mono ?_); rintro y w4 ⟨rfl, hb4⟩
    have HB4 := Lib.hid (belT HB3.out hb4)
    have HS4 := Lib.hid ((HS3.out.keep hb4 (Nat.le_refl _)).mono hb4.size)
    clear hb4
    by_cases he : e = 0
    case neg =>
      have t5 : ((e : Int) != 0) = true := by rw [bne_iff_ne]; omega
      clear he
      go_upto_region 7 with (fail)
      first | (go_region_held (fun _ => True) (trivial) (first
        | (go_at_call 10; (with_reducible refine (awake12_any _).mono ?_); rintro y w9 ⟨rfl, hb9⟩; have HB9 := Lib.hid hb9; clear hb9))) | fail
      all_goals
        go_wp2
        go_ret
        exact ⟨rfl, belT (belD HB4.out 1) HB9.out⟩
    case pos =>
      subst he
      simp only [show ((0 : Nat) : Int) = 0 from rfl]
      have hfit : (batchN S m).2 = 0 := AlF.batch HAL.out (HFT.out rfl)
      have hcq : ∀ W, Below w4.heap.size w4 W → Calls Tryz.prog 14 #[.slice A6 m.length c6] W fun y w' => ∃ v', y = .returned v' ∧ w'.ownsRow W.heap.size 5 1 v' (encBatch m).length (u8s (encBatch m)) ∧ Below W.heap.size W w' := fun W hb =>
        refPut_any W w4.heap.size S A6 c6 m (HS4.out.keep hb (Nat.le_refl _)) hb.size hfit
      rw [← HAL.out.enc, HBK.out rfl] at hcq
      have hv1 := run_str (P := Tryz.prog) (src := 27) (dst := 9) (e := 5) (c := c) (HR.out.below ((belD HB4.out 1).mono hB)) Tryz.underlying27 Tryz.underlying5 Tryz.underlying9
      have HRB := Lib.hid (fun W (hb : Below w.heap.size w W) => run_str (P := Tryz.prog) (src := 27) (dst := 9) (e := 5) (c := c) (HR.out.below (hb.mono hB)) Tryz.underlying27 Tryz.underlying5 Tryz.underlying9)
      have HCQ := Lib.hid hcq
      have HD4 : Hid (Below w4.heap.size w4 w4.drew) := Lib.hid (belD (belR w4) 1)
      have HB5 : Hid (Below w.heap.size w w4.drew) := Lib.hid (belD HB4.out 1)
      clear hcq hfit t4 t4'
      go_upto_region 7 with (fail)
      go_region_held (fun W => (convert 27 9 (.slice A t.length c)).run Tryz.prog W = .ok (.string ⟨t.toArray⟩) W) (first | (exact hv1) | (exact hv3) | (exact hv9)) (first
        | (go_at_call 14; (with_reducible refine (HCQ.out _ HD4.out).mono ?_); rintro y w6 ⟨v6, rfl, ho6, hb6⟩; obtain ⟨A7, c7, rfl, _, _, _⟩ := own_form ho6; have hv2 := run_str_own (P := Tryz.prog) (src := 27) (dst := 9) (e := 5) (ho6) Tryz.underlying27 Tryz.underlying5 Tryz.underlying9; have HB6 := Lib.hid (belT HB5.out hb6); have hv3 := HRB.out _ HB6.out; clear ho6 hb6)
        | (go_at_call 10; (with_reducible refine (awake12_any _).mono ?_); rintro y w9 ⟨rfl, hb9⟩; have HB9 := Lib.hid (belT HB6.out hb9); have hv9 := HRB.out _ HB9.out; clear hb9))
      all_goals
        go_wp2
        go_ret
        exact ⟨rfl, HB9.out⟩
end Go.Proofs.YtfhmaincnlaapaaGreat
namespace Go.Proofs.YtfhmaincnlaapaaGreat.factGets
open Go.ChangeShapes Go.WideShapes Go.ChangeAt Go.RowKit Go.Joins Go.Deep
open Go.ChangeMaps (open_string shut_string)
set_option linter.unusedVariables false

set_option maxRecDepth 100000 in
theorem lifted (os : Os) (started : os.Started) (H : Type) (enc : TypeId × Value → H) :
    ReturnsInHanded {} Tryz.checked os 3 .any (Rows.factGetsSpec.pre6 enc Tryz.prog Tryz.f3 Rows.factGetsRow.domain false) (Rows.factGetsSpec.post enc Tryz.prog Tryz.f3 false true false false) := by
  refine returnsInHanded_of_change (C := Tryz.checked) own started (by kernel_rfl) Tryz.func3
    (ChangeSpec.witness6 (enc := enc) (C := Tryz.checked) false ⟨#[], #[.agg #[.slice none 0 0, .slice none 0 0, .slice none 0 0, .slice none 0 0], .slice none 0 0], []⟩ 8 (by kernel_rfl) (by kernel_rfl) (by kernel_rfl) (by kernel_rfl)) ?_
  intro W base args ds gs before hval0 hW hcnd _
  have hval : ∀ (j : Nat) t v, Tryz.f3.params[j]? = some t → args[j]? = some v → Value.okWide Tryz.prog W .any base t v := hval0
  have hW' := hW
  obtain ⟨p, q, hA0, hV, rfl, hfz, hnd⟩ := hW
  have hA : DataW.TrodAll enc Tryz.prog W 0 (fun _ => true) true Tryz.f3.params.toList args.toList ds p := hA0
  rw [Tryz.params3] at hA hval
  obtain ⟨v0, vs0, d0, ds0, p0, q0, hargs, rfl, rfl, h0, r0⟩ := trodAll_cons hA
  obtain ⟨v1, vs1, d1, ds1, p1, q1, rfl, rfl, rfl, h1, r1⟩ := trodAll_cons r0
  obtain ⟨rfl, rfl, rfl⟩ := trodAll_nil r1
  obtain rfl : args = #[v0, v1] := by cases args; simp_all
  obtain ⟨rfl, rfl⟩ := trodVars_none hV
  have k0 := h0
  have lt0 : ∀ x ∈ p0, x.block < W.heap.size := by obtain ⟨m, hm⟩ := k0; exact DataW.trod_lt m _ _ _ hm
  have k1 := h1
  have lt1 : ∀ x ∈ p1, x.block < W.heap.size := by obtain ⟨m, hm⟩ := k1; exact DataW.trod_lt m _ _ _ hm
  obtain ⟨S0, hS0, oS0⟩ := open_schema (hval 0 26 v0 rfl rfl) h0
  obtain ⟨A1, n1, c1, l1, rfl, hc1, hm1, R1⟩ := open_bytes Tryz.underlying27 Tryz.underlying5 (by kernel_rfl) (hval 1 27 v1 rfl rfl) h1
  obtain rfl : n1 = l1.length := R1.u8.symm
  clear hA0 hval0
  refine (lawFactGets_any W _ v0 S0 A1 c1 l1 hS0 oS0 R1 hc1 hm1 (Nat.le_refl _)).mono fun e W' ⟨he, bel⟩ => ?_
  subst he
  exact ⟨_, rfl, _, _, _, [], _, [], hW', trodAll_mk1 (shut_bool Tryz.underlying4 _), (trodAll_cons_mk (Below.trod laidOut (by kernel_rfl) (of_decide_eq_true (by kernel_rfl)) k0 bel lt0) (trodAll_cons_mk (Below.trod laidOut (by kernel_rfl) (of_decide_eq_true (by kernel_rfl)) k1 bel lt1) trodAll_mk0)), rfl, bel.frame _, fun h => by cases h⟩

theorem over : Rows.factGetsRow.holds Tryz.pinned (OpenSpec.ofChange Rows.factGetsSpec) :=
  OpenClaim.holds_of_wide 3 Tryz.f3 rfl rfl rfl rfl rfl rfl rfl ⟨rfl, rfl, rfl, rfl, rfl⟩ rfl rfl rfl rfl rfl (by kernel_rfl) Tryz.func3 (by kernel_rfl)
    (of_decide_eq_true (by kernel_rfl)) (by unfold Func.isWrapper; first | (rw [if_pos (by decide +kernel)]; kernel_rfl) | (rw [if_neg (by decide +kernel)]; exact ⟨rfl, rfl⟩))
    (fun os started H enc _ => lifted os started H enc)

theorem proved : Rows.FactGetsSaid := over
#print axioms proved
end Go.Proofs.YtfhmaincnlaapaaGreat.factGets
