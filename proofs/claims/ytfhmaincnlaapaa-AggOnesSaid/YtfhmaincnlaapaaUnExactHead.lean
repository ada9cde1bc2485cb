/-
  exact.head.
  bushelref05.Add, Of of one number.
-/
import Derived.Laws.BitsAllLaws
import Derived.Test.YtfhmaincnlaapaaUnRefRead
import Derived.Test.YtfhmaincnlaapaaUnEncC
import Derived.Test.YtfhmaincnlaapaaUnTAdd1
namespace Go.Proofs.Ytfhmaincnlaapaa.Sy
open Go.ChangeShapes Go.WideShapes Go.ChangeAt Go.RowKit
set_option linter.unusedVariables false
set_option linter.unusedSimpArgs false
def zS0 : SumS := ⟨false, false, false, false, false, 0⟩
theorem zS0_A : sumA zS0 = .agg [bz false, bz false, bz false, bz false, bz false, bz false, .lst 0 []] := by
  unfold sumA zS0
  simp only [show ((0 : Int) < 0) = False by simp, show (0 : Int).natAbs = 0 from rfl, dig_zero]
  rfl
/-- one number's sum -/
def sumOne (b : Nat) : SumS :=
  if kindF b = 1 then ⟨false, false, false, false, true, sv b⟩ else if kindF b = 3 then ⟨true, false, false, false, false, 0⟩
  else if kindF b = 2 then ⟨false, !(ng b), ng b, false, false, 0⟩ else ⟨false, false, false, ng b, !(ng b), 0⟩
theorem sumOneA (x y z w v : Bool) : sumA ⟨x, y, z, w, v, 0⟩ = .agg [bz x, bz y, bz z, bz w, bz v, bz false, .lst 0 []] := by
  unfold sumA
  simp only [show ((0 : Int) < 0) = False by simp, show (0 : Int).natAbs = 0 from rfl, dig_zero]
  rfl
section
variable {b : Nat} (hb : b < 18446744073709551616)
include hb
theorem add05F_fn (h0 : 0 < rg b) (h : rg b < irg) : FnOk Try.prog 152 ⟨[sumA zS0, fB b], [], .tup [sumA ⟨false, false, false, false, true, sv b⟩, bz true], []⟩ := by
  have e2 := split03_fn hb h0 h
  have e3 := kind03_fn hb
  rw [kind_fin b h0 h] at e3
  obtain ⟨s1, s2⟩ := sp_eq h0
  obtain ⟨s3, s4⟩ := spA_lt h0 h
  have hv := vl_pow (rg b) h
  have e4 := nat01_ok (spM (rg b)) s4
  have e5 := two01_ok (spA (rg b)) (by omega)
  have n1 : nd ((spM (rg b) : Nat) : Int) ≤ 1000000 := by unfold nd; rw [Int.natAbs_natCast]; exact Nat.le_trans (nd_small _ s4) (by decide)
  have e6 := mul01_ok ((spM (rg b) : Nat) : Int) ((p2 (spA (rg b)) : Nat) : Int) n1 (Nat.le_trans (p2_nd _) (by omega))
  have e7 : ((spM (rg b) : Nat) : Int) * ((p2 (spA (rg b)) : Nat) : Int) = ((vl (rg b) : Nat) : Int) := by rw [← s1]; unfold p2; push_cast; rfl
  rw [e7] at e6
  have n2 : nd ((vl (rg b) : Nat) : Int) ≤ 1000000 := by
    unfold nd; rw [Int.natAbs_natCast]
    exact Nat.le_trans (dig_len2 (k := FF) hv) (by rw [FF_eq]; decide)
  have n3 : nd (sv b) ≤ 1000000 := by unfold nd at n2 ⊢; rw [sv_abs]; rw [Int.natAbs_natCast] at n2; exact n2
  have n0 : nd (0 : Int) ≤ 1000000 := by unfold nd; rw [Int.natAbs_zero, dig_zero]; decide
  have e8 := join05_ok zS0 ⟨false, false, false, false, true, sv b⟩ n0 n3 (by show nd (0 + sv b) ≤ _; rw [Int.zero_add]; exact n3)
  have hroom : (sv b).natAbs < roomN := by rw [sv_abs]; exact vl_room h
  have hj : joinS zS0 ⟨false, false, false, false, true, sv b⟩ = (⟨false, false, false, false, true, sv b⟩, true) := by
    unfold joinS zS0
    simp only [Int.zero_add, Bool.false_or, Bool.or_false]
    rw [if_pos hroom]
  rw [hj] at e8
  have hp := vl_pos h0
  have hng := sv_neg h0
  rw [zS0_A] at e8 ⊢
  clear e7 n1 n2 n3 n0 hroom hj s1 s2 hv
  by_cases hg : ng b = true
  · have e9 := neg01_ok ((vl (rg b) : Nat) : Int) (by unfold nd; rw [Int.natAbs_natCast]; exact Nat.le_trans (dig_len2 (k := FF) (vl_pow (rg b) h)) (by rw [FF_eq]; decide))
    have hs : sv b = -((vl (rg b) : Nat) : Int) := by unfold sv; rw [if_pos hg]
    rw [hs] at e8 ⊢
    rw [hg] at e2
    generalize vl (rg b) = V at *
    generalize spM (rg b) = m at *
    generalize spA (rg b) = a at *
    refine fn_go hmo Try.func152 (by kernel_rfl) [(12, Hint.call (Inst.mk [fB b] [] (AV.tup [bz true, uz (↑m : Int), iz ((↑a : Int) - (1074 : Int))]) [])), (17, Hint.call (Inst.mk [fB b] [] (iz (↑(1 : Nat) : Int)) [])), (55, Hint.call (Inst.mk [uz (↑m : Int)] [] (numA (↑m : Int)) [])), (57, Hint.val (AV.v (Value.int IntKind.i64 ((↑a : Int) - (1074 : Int) + (1074 : Int))))), (58, Hint.call (Inst.mk [iz (↑a : Int)] [] (numA (↑(p2 a) : Int)) [])), (59, Hint.call (Inst.mk [numA (↑m : Int), numA (↑(p2 a) : Int)] [] (numA (↑V : Int)) [])), (64, Hint.call (Inst.mk [numA (↑V : Int)] [] (numA (-(↑V : Int))) [])), (68, Hint.call (Inst.mk [AV.agg [bz false, bz false, bz false, bz false, bz false, bz false, AV.lst (0 : Nat) []], sumA (SumS.mk false false false false true (-(↑V : Int)))] [] (AV.tup [sumA (SumS.mk false false false false true (-(↑V : Int)), true).fst, bz (SumS.mk false false false false true (-(↑V : Int)), true).snd]) []))] [] [[AV.v (Value.bool false), AV.v (Value.bool false), AV.v (Value.bool false), AV.v (Value.bool false), AV.v (Value.bool true), AV.v (Value.bool (decide ((SumS.mk false false false false true (-(↑V : Int))).all < (0 : Int)))), AV.lst (dig (SumS.mk false false false false true (-(↑V : Int))).all.natAbs).length (dL (dig (SumS.mk false false false false true (-(↑V : Int))).all.natAbs))] = [AV.v (Value.bool false), AV.v (Value.bool false), AV.v (Value.bool false), AV.v (Value.bool false), AV.v (Value.bool true), AV.v (Value.bool (decide ((SumS.mk false false false false true (-(↑V : Int))).all < (0 : Int)))), AV.lst (dig (SumS.mk false false false false true (-(↑V : Int))).all.natAbs).length (dL (dig (SumS.mk false false false false true (-(↑V : Int))).all.natAbs))] ∧ true = true ∧ True, AV.v (Value.float FloatKind.f64 b) = AV.v (Value.float FloatKind.f64 b) ∧ True, FnOk Try.prog (174 : Nat) (Inst.mk [AV.v (Value.float FloatKind.f64 b)] [] (AV.tup [AV.v (Value.bool true), AV.v (Value.int IntKind.u64 (↑m : Int)), AV.v (Value.int IntKind.i64 ((↑a : Int) - (1074 : Int)))]) []), AV.v (Value.float FloatKind.f64 b) = AV.v (Value.float FloatKind.f64 b) ∧ True, FnOk Try.prog (140 : Nat) (Inst.mk [AV.v (Value.float FloatKind.f64 b)] [] (AV.v (Value.int IntKind.i64 (↑(1 : Nat) : Int))) []), (↑m : Int) = (↑m : Int) ∧ True, FnOk Try.prog (135 : Nat) (Inst.mk [AV.v (Value.int IntKind.u64 (↑m : Int))] [] (AV.agg [AV.v (Value.bool false), AV.lst (dig (↑m : Int).natAbs).length (dL (dig (↑m : Int).natAbs))]) []), IntKind.i64.wrap ((↑a : Int) - (1074 : Int) + (1074 : Int)) = (↑a : Int) - (1074 : Int) + (1074 : Int), (↑a : Int) - (1074 : Int) + (1074 : Int) = (↑a : Int) ∧ True, FnOk Try.prog (138 : Nat) (Inst.mk [AV.v (Value.int IntKind.i64 (↑a : Int))] [] (AV.agg [AV.v (Value.bool false), AV.lst (dig (↑(p2 a) : Int).natAbs).length (dL (dig (↑(p2 a) : Int).natAbs))]) []), [AV.v (Value.bool false), AV.lst (dig (↑m : Int).natAbs).length (dL (dig (↑m : Int).natAbs))] = [AV.v (Value.bool false), AV.lst (dig (↑m : Int).natAbs).length (dL (dig (↑m : Int).natAbs))] ∧ [AV.v (Value.bool false), AV.lst (dig (↑(p2 a) : Int).natAbs).length (dL (dig (↑(p2 a) : Int).natAbs))] = [AV.v (Value.bool false), AV.lst (dig (↑(p2 a) : Int).natAbs).length (dL (dig (↑(p2 a) : Int).natAbs))] ∧ True, FnOk Try.prog (92 : Nat) (Inst.mk [AV.agg [AV.v (Value.bool false), AV.lst (dig (↑m : Int).natAbs).length (dL (dig (↑m : Int).natAbs))], AV.agg [AV.v (Value.bool false), AV.lst (dig (↑(p2 a) : Int).natAbs).length (dL (dig (↑(p2 a) : Int).natAbs))]] [] (AV.agg [AV.v (Value.bool false), AV.lst (dig (↑V : Int).natAbs).length (dL (dig (↑V : Int).natAbs))]) []), [AV.v (Value.bool false), AV.lst (dig (↑V : Int).natAbs).length (dL (dig (↑V : Int).natAbs))] = [AV.v (Value.bool false), AV.lst (dig (↑V : Int).natAbs).length (dL (dig (↑V : Int).natAbs))] ∧ True, FnOk Try.prog (136 : Nat) (Inst.mk [AV.agg [AV.v (Value.bool false), AV.lst (dig (↑V : Int).natAbs).length (dL (dig (↑V : Int).natAbs))]] [] (AV.agg [AV.v (Value.bool (decide (-(↑V : Int) < (0 : Int)))), AV.lst (dig (-(↑V : Int)).natAbs).length (dL (dig (-(↑V : Int)).natAbs))]) []), [AV.v (Value.bool false), AV.v (Value.bool false), AV.v (Value.bool false), AV.v (Value.bool false), AV.v (Value.bool false), AV.v (Value.bool false), AV.lst (0 : Nat) []] = [AV.v (Value.bool false), AV.v (Value.bool false), AV.v (Value.bool false), AV.v (Value.bool false), AV.v (Value.bool false), AV.v (Value.bool false), AV.lst (0 : Nat) []] ∧ [AV.v (Value.bool false), AV.v (Value.bool false), AV.v (Value.bool false), AV.v (Value.bool false), AV.v (Value.bool true), AV.v (Value.bool (decide (-(↑V : Int) < (0 : Int)))), AV.lst (dig (-(↑V : Int)).natAbs).length (dL (dig (-(↑V : Int)).natAbs))] = [AV.v (Value.bool false), AV.v (Value.bool false), AV.v (Value.bool false), AV.v (Value.bool false), AV.v (Value.bool true), AV.v (Value.bool (decide ((SumS.mk false false false false true (-(↑V : Int))).all < (0 : Int)))), AV.lst (dig (SumS.mk false false false false true (-(↑V : Int))).all.natAbs).length (dL (dig (SumS.mk false false false false true (-(↑V : Int))).all.natAbs))] ∧ True, FnOk Try.prog (74 : Nat) (Inst.mk [AV.agg [AV.v (Value.bool false), AV.v (Value.bool false), AV.v (Value.bool false), AV.v (Value.bool false), AV.v (Value.bool false), AV.v (Value.bool false), AV.lst (0 : Nat) []], AV.agg [AV.v (Value.bool false), AV.v (Value.bool false), AV.v (Value.bool false), AV.v (Value.bool false), AV.v (Value.bool true), AV.v (Value.bool (decide ((SumS.mk false false false false true (-(↑V : Int))).all < (0 : Int)))), AV.lst (dig (SumS.mk false false false false true (-(↑V : Int))).all.natAbs).length (dL (dig (SumS.mk false false false false true (-(↑V : Int))).all.natAbs))]] [] (AV.tup [AV.agg [AV.v (Value.bool false), AV.v (Value.bool false), AV.v (Value.bool false), AV.v (Value.bool false), AV.v (Value.bool true), AV.v (Value.bool (decide ((SumS.mk false false false false true (-(↑V : Int))).all < (0 : Int)))), AV.lst (dig (SumS.mk false false false false true (-(↑V : Int))).all.natAbs).length (dL (dig (SumS.mk false false false false true (-(↑V : Int))).all.natAbs))], AV.v (Value.bool true)]) [])] (by kernel_rfl) ?_
    ((repeat' refine And.intro ?_ ?_); (iterate 2 (with_reducible rfl)); (exact True.intro); (with_reducible rfl); (exact True.intro); ((show FnOk _ _ _; assumption)); (with_reducible rfl); (exact True.intro); ((show FnOk _ _ _; assumption)); (with_reducible rfl); (exact True.intro); ((show FnOk _ _ _; assumption)); (exact Wi _ (by omega)); (omega); (exact True.intro); ((show FnOk _ _ _; assumption)); (iterate 2 (with_reducible rfl)); (exact True.intro); ((show FnOk _ _ _; assumption)); (with_reducible rfl); (exact True.intro); ((show FnOk _ _ _; assumption)); (iterate 2 (with_reducible rfl)); (exact True.intro); ((show FnOk _ _ _; assumption)); (exact True.intro))
    all_goals skip
  · have hs : sv b = ((vl (rg b) : Nat) : Int) := by unfold sv; rw [if_neg hg]
    rw [hs] at e8 ⊢
    rw [Bool.not_eq_true _ |>.mp hg] at e2
    generalize vl (rg b) = V at *
    generalize spM (rg b) = m at *
    generalize spA (rg b) = a at *
    refine fn_go hmo Try.func152 (by kernel_rfl) [(12, Hint.call (Inst.mk [fB b] [] (AV.tup [bz false, uz (↑m : Int), iz ((↑a : Int) - (1074 : Int))]) [])), (17, Hint.call (Inst.mk [fB b] [] (iz (↑(1 : Nat) : Int)) [])), (55, Hint.call (Inst.mk [uz (↑m : Int)] [] (numA (↑m : Int)) [])), (57, Hint.val (AV.v (Value.int IntKind.i64 ((↑a : Int) - (1074 : Int) + (1074 : Int))))), (58, Hint.call (Inst.mk [iz (↑a : Int)] [] (numA (↑(p2 a) : Int)) [])), (59, Hint.call (Inst.mk [numA (↑m : Int), numA (↑(p2 a) : Int)] [] (numA (↑V : Int)) [])), (68, Hint.call (Inst.mk [AV.agg [bz false, bz false, bz false, bz false, bz false, bz false, AV.lst (0 : Nat) []], sumA (SumS.mk false false false false true (↑V : Int))] [] (AV.tup [sumA (SumS.mk false false false false true (↑V : Int), true).fst, bz (SumS.mk false false false false true (↑V : Int), true).snd]) []))] [] [[AV.v (Value.bool false), AV.v (Value.bool false), AV.v (Value.bool false), AV.v (Value.bool false), AV.v (Value.bool true), AV.v (Value.bool false), AV.lst (dig (SumS.mk false false false false true (↑V : Int)).all.natAbs).length (dL (dig (SumS.mk false false false false true (↑V : Int)).all.natAbs))] = [AV.v (Value.bool false), AV.v (Value.bool false), AV.v (Value.bool false), AV.v (Value.bool false), AV.v (Value.bool true), AV.v (Value.bool false), AV.lst (dig (SumS.mk false false false false true (↑V : Int)).all.natAbs).length (dL (dig (SumS.mk false false false false true (↑V : Int)).all.natAbs))] ∧ true = true ∧ True, AV.v (Value.float FloatKind.f64 b) = AV.v (Value.float FloatKind.f64 b) ∧ True, FnOk Try.prog (174 : Nat) (Inst.mk [AV.v (Value.float FloatKind.f64 b)] [] (AV.tup [AV.v (Value.bool false), AV.v (Value.int IntKind.u64 (↑m : Int)), AV.v (Value.int IntKind.i64 ((↑a : Int) - (1074 : Int)))]) []), AV.v (Value.float FloatKind.f64 b) = AV.v (Value.float FloatKind.f64 b) ∧ True, FnOk Try.prog (140 : Nat) (Inst.mk [AV.v (Value.float FloatKind.f64 b)] [] (AV.v (Value.int IntKind.i64 (↑(1 : Nat) : Int))) []), (↑m : Int) = (↑m : Int) ∧ True, FnOk Try.prog (135 : Nat) (Inst.mk [AV.v (Value.int IntKind.u64 (↑m : Int))] [] (AV.agg [AV.v (Value.bool false), AV.lst (dig (↑m : Int).natAbs).length (dL (dig (↑m : Int).natAbs))]) []), IntKind.i64.wrap ((↑a : Int) - (1074 : Int) + (1074 : Int)) = (↑a : Int) - (1074 : Int) + (1074 : Int), (↑a : Int) - (1074 : Int) + (1074 : Int) = (↑a : Int) ∧ True, FnOk Try.prog (138 : Nat) (Inst.mk [AV.v (Value.int IntKind.i64 (↑a : Int))] [] (AV.agg [AV.v (Value.bool false), AV.lst (dig (↑(p2 a) : Int).natAbs).length (dL (dig (↑(p2 a) : Int).natAbs))]) []), [AV.v (Value.bool false), AV.lst (dig (↑m : Int).natAbs).length (dL (dig (↑m : Int).natAbs))] = [AV.v (Value.bool false), AV.lst (dig (↑m : Int).natAbs).length (dL (dig (↑m : Int).natAbs))] ∧ [AV.v (Value.bool false), AV.lst (dig (↑(p2 a) : Int).natAbs).length (dL (dig (↑(p2 a) : Int).natAbs))] = [AV.v (Value.bool false), AV.lst (dig (↑(p2 a) : Int).natAbs).length (dL (dig (↑(p2 a) : Int).natAbs))] ∧ True, FnOk Try.prog (92 : Nat) (Inst.mk [AV.agg [AV.v (Value.bool false), AV.lst (dig (↑m : Int).natAbs).length (dL (dig (↑m : Int).natAbs))], AV.agg [AV.v (Value.bool false), AV.lst (dig (↑(p2 a) : Int).natAbs).length (dL (dig (↑(p2 a) : Int).natAbs))]] [] (AV.agg [AV.v (Value.bool false), AV.lst (dig (↑V : Int).natAbs).length (dL (dig (↑V : Int).natAbs))]) []), [AV.v (Value.bool false), AV.v (Value.bool false), AV.v (Value.bool false), AV.v (Value.bool false), AV.v (Value.bool false), AV.v (Value.bool false), AV.lst (0 : Nat) []] = [AV.v (Value.bool false), AV.v (Value.bool false), AV.v (Value.bool false), AV.v (Value.bool false), AV.v (Value.bool false), AV.v (Value.bool false), AV.lst (0 : Nat) []] ∧ [AV.v (Value.bool false), AV.v (Value.bool false), AV.v (Value.bool false), AV.v (Value.bool false), AV.v (Value.bool true), AV.v (Value.bool false), AV.lst (dig (↑V : Int).natAbs).length (dL (dig (↑V : Int).natAbs))] = [AV.v (Value.bool false), AV.v (Value.bool false), AV.v (Value.bool false), AV.v (Value.bool false), AV.v (Value.bool true), AV.v (Value.bool false), AV.lst (dig (SumS.mk false false false false true (↑V : Int)).all.natAbs).length (dL (dig (SumS.mk false false false false true (↑V : Int)).all.natAbs))] ∧ True, FnOk Try.prog (74 : Nat) (Inst.mk [AV.agg [AV.v (Value.bool false), AV.v (Value.bool false), AV.v (Value.bool false), AV.v (Value.bool false), AV.v (Value.bool false), AV.v (Value.bool false), AV.lst (0 : Nat) []], AV.agg [AV.v (Value.bool false), AV.v (Value.bool false), AV.v (Value.bool false), AV.v (Value.bool false), AV.v (Value.bool true), AV.v (Value.bool false), AV.lst (dig (SumS.mk false false false false true (↑V : Int)).all.natAbs).length (dL (dig (SumS.mk false false false false true (↑V : Int)).all.natAbs))]] [] (AV.tup [AV.agg [AV.v (Value.bool false), AV.v (Value.bool false), AV.v (Value.bool false), AV.v (Value.bool false), AV.v (Value.bool true), AV.v (Value.bool false), AV.lst (dig (SumS.mk false false false false true (↑V : Int)).all.natAbs).length (dL (dig (SumS.mk false false false false true (↑V : Int)).all.natAbs))], AV.v (Value.bool true)]) [])] (by kernel_rfl) ?_
    ((repeat' refine And.intro ?_ ?_); (iterate 2 (with_reducible rfl)); (exact True.intro); (with_reducible rfl); (exact True.intro); ((show FnOk _ _ _; assumption)); (with_reducible rfl); (exact True.intro); ((show FnOk _ _ _; assumption)); (with_reducible rfl); (exact True.intro); ((show FnOk _ _ _; assumption)); (exact Wi _ (by omega)); (omega); (exact True.intro); ((show FnOk _ _ _; assumption)); (iterate 2 (with_reducible rfl)); (exact True.intro); ((show FnOk _ _ _; assumption)); (iterate 2 (with_reducible rfl)); (exact True.intro); ((show FnOk _ _ _; assumption)); (exact True.intro))
    all_goals skip
theorem add05N_fn (h : kindF b ≠ 1) : FnOk Try.prog 152 ⟨[sumA zS0, fB b], [], .tup [sumA (sumOne b), bz true], []⟩ := by
  have e2 := split03O_fn hb h
  have e3 := kind03_fn hb
  have hkl := kind_le b
  unfold sumOne
  rw [zS0_A, if_neg h]
  generalize ng b = g at *
  generalize kindF b = k at *
  by_cases h3 : k = 3
  · subst h3
    rw [if_pos rfl, sumOneA]
    refine fn_go hmo Try.func152 (by kernel_rfl) [(12, Hint.call (Inst.mk [fB b] [] (AV.tup [bz (decide ((3 : Nat) ≠ (3 : Nat)) && g), uz (0 : Int), iz (0 : Int)]) [])), (17, Hint.call (Inst.mk [fB b] [] (iz (↑(3 : Nat) : Int)) []))] [] [[AV.v (Value.bool true), AV.v (Value.bool false), AV.v (Value.bool false), AV.v (Value.bool false), AV.v (Value.bool false), AV.v (Value.bool false), AV.lst (0 : Nat) []] = [AV.v (Value.bool true), AV.v (Value.bool false), AV.v (Value.bool false), AV.v (Value.bool false), AV.v (Value.bool false), AV.v (Value.bool false), AV.lst (0 : Nat) []] ∧ true = true ∧ True, AV.v (Value.float FloatKind.f64 b) = AV.v (Value.float FloatKind.f64 b) ∧ True, FnOk Try.prog (174 : Nat) (Inst.mk [AV.v (Value.float FloatKind.f64 b)] [] (AV.tup [AV.v (Value.bool false), AV.v (Value.int IntKind.u64 (0 : Int)), AV.v (Value.int IntKind.i64 (0 : Int))]) []), AV.v (Value.float FloatKind.f64 b) = AV.v (Value.float FloatKind.f64 b) ∧ True, FnOk Try.prog (140 : Nat) (Inst.mk [AV.v (Value.float FloatKind.f64 b)] [] (AV.v (Value.int IntKind.i64 (↑(3 : Nat) : Int))) [])] (by kernel_rfl) ?_
    ((repeat' refine And.intro ?_ ?_); (iterate 2 (with_reducible rfl)); (exact True.intro); (with_reducible rfl); (exact True.intro); ((show FnOk _ _ _; assumption)); (with_reducible rfl); (exact True.intro); ((show FnOk _ _ _; assumption)); (exact True.intro))
  · rw [decide_eq_true h3, Bool.true_and] at e2
    rw [if_neg h3]
    by_cases h2 : k = 2
    · subst h2
      rw [if_pos rfl, sumOneA]
      cases g
      · refine fn_go hmo Try.func152 (by kernel_rfl) [(12, Hint.call (Inst.mk [fB b] [] (AV.tup [bz false, uz (0 : Int), iz (0 : Int)]) [])), (17, Hint.call (Inst.mk [fB b] [] (iz (↑(2 : Nat) : Int)) []))] [] [[AV.v (Value.bool false), AV.v (Value.bool true), AV.v (Value.bool false), AV.v (Value.bool false), AV.v (Value.bool false), AV.v (Value.bool false), AV.lst (0 : Nat) []] = [AV.v (Value.bool false), AV.v (Value.bool true), AV.v (Value.bool false), AV.v (Value.bool false), AV.v (Value.bool false), AV.v (Value.bool false), AV.lst (0 : Nat) []] ∧ true = true ∧ True, AV.v (Value.float FloatKind.f64 b) = AV.v (Value.float FloatKind.f64 b) ∧ True, FnOk Try.prog (174 : Nat) (Inst.mk [AV.v (Value.float FloatKind.f64 b)] [] (AV.tup [AV.v (Value.bool false), AV.v (Value.int IntKind.u64 (0 : Int)), AV.v (Value.int IntKind.i64 (0 : Int))]) []), AV.v (Value.float FloatKind.f64 b) = AV.v (Value.float FloatKind.f64 b) ∧ True, FnOk Try.prog (140 : Nat) (Inst.mk [AV.v (Value.float FloatKind.f64 b)] [] (AV.v (Value.int IntKind.i64 (↑(2 : Nat) : Int))) [])] (by kernel_rfl) ?_
        ((repeat' refine And.intro ?_ ?_); (iterate 2 (with_reducible rfl)); (exact True.intro); (with_reducible rfl); (exact True.intro); ((show FnOk _ _ _; assumption)); (with_reducible rfl); (exact True.intro); ((show FnOk _ _ _; assumption)); (exact True.intro))
      · refine fn_go hmo Try.func152 (by kernel_rfl) [(12, Hint.call (Inst.mk [fB b] [] (AV.tup [bz true, uz (0 : Int), iz (0 : Int)]) [])), (17, Hint.call (Inst.mk [fB b] [] (iz (↑(2 : Nat) : Int)) []))] [] [[AV.v (Value.bool false), AV.v (Value.bool false), AV.v (Value.bool true), AV.v (Value.bool false), AV.v (Value.bool false), AV.v (Value.bool false), AV.lst (0 : Nat) []] = [AV.v (Value.bool false), AV.v (Value.bool false), AV.v (Value.bool true), AV.v (Value.bool false), AV.v (Value.bool false), AV.v (Value.bool false), AV.lst (0 : Nat) []] ∧ true = true ∧ True, AV.v (Value.float FloatKind.f64 b) = AV.v (Value.float FloatKind.f64 b) ∧ True, FnOk Try.prog (174 : Nat) (Inst.mk [AV.v (Value.float FloatKind.f64 b)] [] (AV.tup [AV.v (Value.bool true), AV.v (Value.int IntKind.u64 (0 : Int)), AV.v (Value.int IntKind.i64 (0 : Int))]) []), AV.v (Value.float FloatKind.f64 b) = AV.v (Value.float FloatKind.f64 b) ∧ True, FnOk Try.prog (140 : Nat) (Inst.mk [AV.v (Value.float FloatKind.f64 b)] [] (AV.v (Value.int IntKind.i64 (↑(2 : Nat) : Int))) [])] (by kernel_rfl) ?_
        ((repeat' refine And.intro ?_ ?_); (iterate 2 (with_reducible rfl)); (exact True.intro); (with_reducible rfl); (exact True.intro); ((show FnOk _ _ _; assumption)); (with_reducible rfl); (exact True.intro); ((show FnOk _ _ _; assumption)); (exact True.intro))
    · obtain rfl : k = 0 := by omega
      rw [if_neg h2, sumOneA]
      cases g
      · refine fn_go hmo Try.func152 (by kernel_rfl) [(12, Hint.call (Inst.mk [fB b] [] (AV.tup [bz false, uz (0 : Int), iz (0 : Int)]) [])), (17, Hint.call (Inst.mk [fB b] [] (iz (↑(0 : Nat) : Int)) []))] [] [[AV.v (Value.bool false), AV.v (Value.bool false), AV.v (Value.bool false), AV.v (Value.bool false), AV.v (Value.bool true), AV.v (Value.bool false), AV.lst (0 : Nat) []] = [AV.v (Value.bool false), AV.v (Value.bool false), AV.v (Value.bool false), AV.v (Value.bool false), AV.v (Value.bool true), AV.v (Value.bool false), AV.lst (0 : Nat) []] ∧ true = true ∧ True, AV.v (Value.float FloatKind.f64 b) = AV.v (Value.float FloatKind.f64 b) ∧ True, FnOk Try.prog (174 : Nat) (Inst.mk [AV.v (Value.float FloatKind.f64 b)] [] (AV.tup [AV.v (Value.bool false), AV.v (Value.int IntKind.u64 (0 : Int)), AV.v (Value.int IntKind.i64 (0 : Int))]) []), AV.v (Value.float FloatKind.f64 b) = AV.v (Value.float FloatKind.f64 b) ∧ True, FnOk Try.prog (140 : Nat) (Inst.mk [AV.v (Value.float FloatKind.f64 b)] [] (AV.v (Value.int IntKind.i64 (↑(0 : Nat) : Int))) [])] (by kernel_rfl) ?_
        ((repeat' refine And.intro ?_ ?_); (iterate 2 (with_reducible rfl)); (exact True.intro); (with_reducible rfl); (exact True.intro); ((show FnOk _ _ _; assumption)); (with_reducible rfl); (exact True.intro); ((show FnOk _ _ _; assumption)); (exact True.intro))
      · refine fn_go hmo Try.func152 (by kernel_rfl) [(12, Hint.call (Inst.mk [fB b] [] (AV.tup [bz true, uz (0 : Int), iz (0 : Int)]) [])), (17, Hint.call (Inst.mk [fB b] [] (iz (↑(0 : Nat) : Int)) []))] [] [[AV.v (Value.bool false), AV.v (Value.bool false), AV.v (Value.bool false), AV.v (Value.bool true), AV.v (Value.bool false), AV.v (Value.bool false), AV.lst (0 : Nat) []] = [AV.v (Value.bool false), AV.v (Value.bool false), AV.v (Value.bool false), AV.v (Value.bool true), AV.v (Value.bool false), AV.v (Value.bool false), AV.lst (0 : Nat) []] ∧ true = true ∧ True, AV.v (Value.float FloatKind.f64 b) = AV.v (Value.float FloatKind.f64 b) ∧ True, FnOk Try.prog (174 : Nat) (Inst.mk [AV.v (Value.float FloatKind.f64 b)] [] (AV.tup [AV.v (Value.bool true), AV.v (Value.int IntKind.u64 (0 : Int)), AV.v (Value.int IntKind.i64 (0 : Int))]) []), AV.v (Value.float FloatKind.f64 b) = AV.v (Value.float FloatKind.f64 b) ∧ True, FnOk Try.prog (140 : Nat) (Inst.mk [AV.v (Value.float FloatKind.f64 b)] [] (AV.v (Value.int IntKind.i64 (↑(0 : Nat) : Int))) [])] (by kernel_rfl) ?_
        ((repeat' refine And.intro ?_ ?_); (iterate 2 (with_reducible rfl)); (exact True.intro); (with_reducible rfl); (exact True.intro); ((show FnOk _ _ _; assumption)); (with_reducible rfl); (exact True.intro); ((show FnOk _ _ _; assumption)); (exact True.intro))
theorem add05_fn : FnOk Try.prog 152 ⟨[sumA zS0, fB b], [], .tup [sumA (sumOne b), bz true], []⟩ := by
  by_cases h : kindF b = 1
  · have hr : 0 < rg b ∧ rg b < irg := by
      have hn : nanB b = false := by
        cases hn : nanB b with
        | false => rfl
        | true => unfold kindF at h; rw [if_pos hn] at h; cases h
      have h2 : ¬ irg < rg b := by unfold nanB at hn; exact of_decide_eq_false hn
      unfold kindF at h
      rw [hn, if_neg (by simp)] at h
      split at h
      · cases h
      · split at h
        · cases h
        · omega
    have e := add05F_fn hb hr.1 hr.2
    unfold sumOne
    rw [if_pos h]; exact e
  · exact add05N_fn hb h
end
def sumC (s : SumS) : List AV := [bz s.none, bz s.up, bz s.down, bz s.minus, bz s.plus, bz (decide (s.all < 0)), dA (dig s.all.natAbs)]
def z7 : List AV := [bz false, bz false, bz false, bz false, bz false, bz false, nilM]
def o5Inv (b : Nat) (i : Nat) (cs : List AV) : AS := ⟨[(0, .lst 1 [fB b]), (2, .ptr 2 0), (3, .ptr 3 0), (4, iz (i : Nat))], [(2, .cells 131 z7), (3, .cells 131 cs)], 22, []⟩
theorem zS0_L : sumC zS0 = [bz false, bz false, bz false, bz false, bz false, bz false, .lst 0 []] := by
  have h := zS0_A
  unfold sumA at h
  injection h
theorem o5_loop {b : Nat} (hb : b < 18446744073709551616) : LoopOk Try.prog (loopBody Try.f93 3) (o5Inv b 0 (sumC zS0)) (.exit 0) (o5Inv b 1 (sumC (sumOne b))) := by
  have h1 := add05_fn hb
  rw [zS0_A] at h1
  refine LoopOk.of hmo (fun c : Bool => if c = true then o5Inv b 1 (sumC (sumOne b)) else o5Inv b 0 (sumC zS0)) (fun c => if c = true then 0 else 1) (fun c => ?_) false
  cases c
  · show Round Try.prog _ _ _ _ _ false
    have e : sumA (sumOne b) = .agg (sumC (sumOne b)) := rfl
    rw [e] at h1
    rw [zS0_L]
    obtain ⟨x1, x2, x3, x4, x5, x6, n, cs, hx⟩ : ∃ x1 x2 x3 x4 x5 x6 n cs, sumC (sumOne b) = [bz x1, bz x2, bz x3, bz x4, bz x5, bz x6, .lst n cs] := ⟨_, _, _, _, _, _, _, _, rfl⟩
    rw [hx] at h1 ⊢
    refine Round.on [(6, Hint.val (AV.v (Value.int IntKind.i64 (0 : Int)))), (8, Hint.val (AV.v (Value.int IntKind.i64 (1 : Int)))), (15, Hint.val (AV.v (Value.int IntKind.i64 (0 : Int)))), (18, Hint.call (Inst.mk [AV.agg [bz false, bz false, bz false, bz false, bz false, bz false, AV.lst (0 : Nat) []], fB b] [] (AV.tup [AV.agg [bz x1, bz x2, bz x3, bz x4, bz x5, bz x6, AV.lst n cs], bz true]) [])), (10, Hint.val (AV.v (Value.int IntKind.i64 (0 : Int)))), (11, Hint.val (AV.v (Value.int IntKind.i64 (1 : Int))))] [] true [(1 : Nat) = (1 : Nat) ∧ [AV.v (Value.float FloatKind.f64 b)] = [AV.v (Value.float FloatKind.f64 b)], (2 : Nat) = (2 : Nat) ∧ (0 : Nat) = (0 : Nat), (3 : Nat) = (3 : Nat) ∧ (0 : Nat) = (0 : Nat), (1 : Int) = (↑(1 : Nat) : Int), [AV.v (Value.bool false), AV.v (Value.bool false), AV.v (Value.bool false), AV.v (Value.bool false), AV.v (Value.bool false), AV.v (Value.bool false), AV.v (Value.slice none (0 : Nat) (0 : Nat))] = [AV.v (Value.bool false), AV.v (Value.bool false), AV.v (Value.bool false), AV.v (Value.bool false), AV.v (Value.bool false), AV.v (Value.bool false), AV.v (Value.slice none (0 : Nat) (0 : Nat))], [AV.v (Value.bool x1), AV.v (Value.bool x2), AV.v (Value.bool x3), AV.v (Value.bool x4), AV.v (Value.bool x5), AV.v (Value.bool x6), AV.lst n cs] = [AV.v (Value.bool x1), AV.v (Value.bool x2), AV.v (Value.bool x3), AV.v (Value.bool x4), AV.v (Value.bool x5), AV.v (Value.bool x6), AV.lst n cs], (↑(0 : Nat) : Int) = (0 : Int), (↑(1 : Nat) : Int) = (1 : Int), (↑(0 : Nat) : Int) = (0 : Int), (0 : Int) ≤ (0 : Int) ∧ (0 : Int) < (↑(1 : Nat) : Int), [AV.v (Value.bool false), AV.v (Value.bool false), AV.v (Value.bool false), AV.v (Value.bool false), AV.v (Value.bool false), AV.v (Value.bool false), AV.lst (0 : Nat) []] = [AV.v (Value.bool false), AV.v (Value.bool false), AV.v (Value.bool false), AV.v (Value.bool false), AV.v (Value.bool false), AV.v (Value.bool false), AV.lst (0 : Nat) []] ∧ AV.v (Value.float FloatKind.f64 b) = AV.v (Value.float FloatKind.f64 b) ∧ True, FnOk Try.prog (152 : Nat) (Inst.mk [AV.agg [AV.v (Value.bool false), AV.v (Value.bool false), AV.v (Value.bool false), AV.v (Value.bool false), AV.v (Value.bool false), AV.v (Value.bool false), AV.lst (0 : Nat) []], AV.v (Value.float FloatKind.f64 b)] [] (AV.tup [AV.agg [AV.v (Value.bool x1), AV.v (Value.bool x2), AV.v (Value.bool x3), AV.v (Value.bool x4), AV.v (Value.bool x5), AV.v (Value.bool x6), AV.lst n cs], AV.v (Value.bool true)]) []), (↑(0 : Nat) : Int) = (0 : Int), IntKind.i64.wrap ((0 : Int) + (1 : Int)) = (1 : Int)] (by kernel_rfl) (by decide) ?_
    ((repeat' refine And.intro ?_ ?_); (iterate 6 (with_reducible rfl)); (omega); (iterate 2 (with_reducible rfl)); (iterate 5 (omega)); (iterate 2 (with_reducible rfl)); (exact True.intro); ((show FnOk _ _ _; assumption)); (omega); (exact tmodN _ _); (exact True.intro))
  · obtain ⟨x1, x2, x3, x4, x5, x6, n, cs, hx⟩ : ∃ x1 x2 x3 x4 x5 x6 n cs, sumC (sumOne b) = [bz x1, bz x2, bz x3, bz x4, bz x5, bz x6, .lst n cs] := ⟨_, _, _, _, _, _, _, _, rfl⟩
    rw [zS0_L, hx]
    refine Round.out [(6, Hint.val (AV.v (Value.int IntKind.i64 (1 : Int)))), (8, Hint.val (AV.v (Value.int IntKind.i64 (1 : Int))))] [] [(1 : Nat) = (1 : Nat) ∧ [AV.v (Value.float FloatKind.f64 b)] = [AV.v (Value.float FloatKind.f64 b)], (2 : Nat) = (2 : Nat) ∧ (0 : Nat) = (0 : Nat), (3 : Nat) = (3 : Nat) ∧ (0 : Nat) = (0 : Nat), (↑(1 : Nat) : Int) = (↑(1 : Nat) : Int), [AV.v (Value.bool false), AV.v (Value.bool false), AV.v (Value.bool false), AV.v (Value.bool false), AV.v (Value.bool false), AV.v (Value.bool false), AV.v (Value.slice none (0 : Nat) (0 : Nat))] = [AV.v (Value.bool false), AV.v (Value.bool false), AV.v (Value.bool false), AV.v (Value.bool false), AV.v (Value.bool false), AV.v (Value.bool false), AV.v (Value.slice none (0 : Nat) (0 : Nat))], [AV.v (Value.bool x1), AV.v (Value.bool x2), AV.v (Value.bool x3), AV.v (Value.bool x4), AV.v (Value.bool x5), AV.v (Value.bool x6), AV.lst n cs] = [AV.v (Value.bool x1), AV.v (Value.bool x2), AV.v (Value.bool x3), AV.v (Value.bool x4), AV.v (Value.bool x5), AV.v (Value.bool x6), AV.lst n cs], (↑(1 : Nat) : Int) = (1 : Int), (↑(1 : Nat) : Int) = (1 : Int)] (by kernel_rfl) ?_
    ((repeat' refine And.intro ?_ ?_); (iterate 9 (with_reducible rfl)); (iterate 2 (omega)); (exact True.intro))
theorem of05_fn {b : Nat} (hb : b < 18446744073709551616) : FnOk Try.prog 93 ⟨[.lst 1 [fB b]], [], sumA (sumOne b), []⟩ := by
  have h1 := o5_loop hb
  have e : sumA (sumOne b) = .agg (sumC (sumOne b)) := rfl
  rw [e]
  obtain ⟨x1, x2, x3, x4, x5, x6, n, cs, hx⟩ : ∃ x1 x2 x3 x4 x5 x6 n cs, sumC (sumOne b) = [bz x1, bz x2, bz x3, bz x4, bz x5, bz x6, .lst n cs] := ⟨_, _, _, _, _, _, _, _, rfl⟩
  rw [zS0_L, hx] at h1
  rw [hx]
  refine fn_go hmo Try.func93 (by kernel_rfl) [] [(3, ⟨.exit 0, o5Inv b 0 [bz false, bz false, bz false, bz false, bz false, bz false, .lst 0 []], o5Inv b 1 [bz x1, bz x2, bz x3, bz x4, bz x5, bz x6, .lst n cs]⟩)] [[AV.v (Value.bool x1), AV.v (Value.bool x2), AV.v (Value.bool x3), AV.v (Value.bool x4), AV.v (Value.bool x5), AV.v (Value.bool x6), AV.lst n cs] = [AV.v (Value.bool x1), AV.v (Value.bool x2), AV.v (Value.bool x3), AV.v (Value.bool x4), AV.v (Value.bool x5), AV.v (Value.bool x6), AV.lst n cs], LoopOk Try.prog (loopBody Try.f93 (3 : Nat)) (o5Inv b (0 : Nat) [AV.v (Value.bool false), AV.v (Value.bool false), AV.v (Value.bool false), AV.v (Value.bool false), AV.v (Value.bool false), AV.v (Value.bool false), AV.lst (0 : Nat) []]) (Exit.exit (0 : Nat)) (o5Inv b (1 : Nat) [AV.v (Value.bool x1), AV.v (Value.bool x2), AV.v (Value.bool x3), AV.v (Value.bool x4), AV.v (Value.bool x5), AV.v (Value.bool x6), AV.lst n cs]), (1 : Nat) = (1 : Nat) ∧ [AV.v (Value.float FloatKind.f64 b)] = [AV.v (Value.float FloatKind.f64 b)], (2 : Nat) = (2 : Nat) ∧ (0 : Nat) = (0 : Nat), (3 : Nat) = (3 : Nat) ∧ (0 : Nat) = (0 : Nat), (0 : Int) = (↑(0 : Nat) : Int), [AV.v (Value.bool false), AV.v (Value.bool false), AV.v (Value.bool false), AV.v (Value.bool false), AV.v (Value.bool false), AV.v (Value.bool false), AV.v (Value.slice none (0 : Nat) (0 : Nat))] = [AV.v (Value.bool false), AV.v (Value.bool false), AV.v (Value.bool false), AV.v (Value.bool false), AV.v (Value.bool false), AV.v (Value.bool false), AV.v (Value.slice none (0 : Nat) (0 : Nat))], [AV.v (Value.bool false), AV.v (Value.bool false), AV.v (Value.bool false), AV.v (Value.bool false), AV.v (Value.bool false), AV.v (Value.bool false), AV.lst (0 : Nat) []] = [AV.v (Value.bool false), AV.v (Value.bool false), AV.v (Value.bool false), AV.v (Value.bool false), AV.v (Value.bool false), AV.v (Value.bool false), AV.lst (0 : Nat) []]] (by kernel_rfl) ?_
  ((repeat' refine And.intro ?_ ?_); (with_reducible rfl); ((show LoopOk _ _ _ _ _; assumption)); (iterate 6 (with_reducible rfl)); (omega); (iterate 2 (with_reducible rfl)); (exact True.intro))
end Go.Proofs.Ytfhmaincnlaapaa.Sy
namespace Go.Proofs.Ytfhmaincnlaapaa
open Go.ChangeShapes Go.WideShapes Go.ChangeAt Go.RowKit
set_option linter.unusedVariables false

def headN (n x0 x1 x2 : Nat) : Nat :=
  if 0 < n ∧ (63 < x0 ∨ (x0 / 32 % 2 = 1 ∧ x0 / 16 % 2 = 0)) then 6
  else if 1 < n ∧ (69 < x1 ∨ (0 < x1 ∧ x0 / 16 % 2 = 0)) then 6
  else if 2 < n ∧ (70 < x1 + x2 ∨ (0 < x2 ∧ x0 / 16 % 2 = 0) ∨ (x2 = 0 ∧ (0 < x1 ∨ x0 / 32 % 2 = 1))) then 6
  else 0
theorem headE_eq (b : List UInt8) : headE b = headN b.length (hd b 0) (hd b 1) (hd b 2) := rfl
theorem hd_get (b : List UInt8) (i : Nat) (h : i < b.length) : hd b i = (b[i]).toNat := by
  unfold hd; rw [List.getD_eq_getElem?_getD, List.getElem?_eq_getElem h]; rfl
set_option maxRecDepth 20000 in
theorem head_nil (w : World) (A : Option Addr) (c : Nat) : Calls Try.prog 153 #[.slice A 0 c] w fun y w' => y = .returned (.int .i64 0) ∧ Drw w w' := by
  go_enter Try.func153, Try.ntmps153
  go_wp2
  go_quiet (fail)
  go_wp2
  go_ret
  exact ⟨rfl, ⟨_, rfl⟩⟩
set_option maxRecDepth 20000 in
set_option maxHeartbeats 8000000 in
theorem head_some (w : World) (a : Addr) (n c x0 x1 x2 : Nat) (h1 : 1 ≤ n) (hx0 : x0 < 256) (hx1 : x1 < 256) (hx2 : x2 < 256) (k0 : w.cell? a = some (.int .u8 (x0 : Int)))
    (k1 : 2 ≤ n → w.cell? (a.add 1) = some (.int .u8 (x1 : Int)) ∧ w.cell? ⟨a.block, a.off + 1, none⟩ = some (.int .u8 (x1 : Int)))
    (k2 : 3 ≤ n → w.cell? (a.add 2) = some (.int .u8 (x2 : Int)) ∧ w.cell? ⟨a.block, a.off + 2, none⟩ = some (.int .u8 (x2 : Int))) :
    Calls Try.prog 153 #[.slice (some a) n c] w fun y w' => y = .returned (.int .i64 (headN n x0 x1 x2 : Int)) ∧ Drw w w' := by
  have a32 : bits .and .u8 (x0 : Int) 32 = ((x0 / 32 % 2 * 32 : Nat) : Int) := by
    have := u8_and_nat x0 32 hx0 (by decide)
    rw [show x0 &&& 32 = x0 / 32 % 2 * 32 from and32 ⟨x0, hx0⟩] at this
    exact this
  have a16 : bits .and .u8 (x0 : Int) 16 = ((x0 / 16 % 2 * 16 : Nat) : Int) := by
    have := u8_and_nat x0 16 hx0 (by decide)
    rw [show x0 &&& 16 = x0 / 16 % 2 * 16 from and16 ⟨x0, hx0⟩] at this
    exact this
  have p0 : x0 / 32 % 2 = 0 ∨ x0 / 32 % 2 = 1 := by omega
  have q0 : x0 / 16 % 2 = 0 ∨ x0 / 16 % 2 = 1 := by omega
  have g0 : decide ((0 : Int) < (n : Int)) = true := decide_eq_true (by omega)
  by_cases c0 : 63 < x0
  · have t0 : decide ((63 : Int) < (x0 : Int)) = true := decide_eq_true (by omega)
    have e : headN n x0 x1 x2 = 6 := by unfold headN; (repeat' split) <;> omega
    rw [e]
    clear e
    go_enter Try.func153, Try.ntmps153
    go_wp2
    go_ret
    exact ⟨rfl, Drw.refl _⟩
  have t0 : decide ((63 : Int) < (x0 : Int)) = false := decide_eq_false (by omega)
  rcases p0 with hp | hp
  · rcases q0 with hq | hq
    · have b32 : bits .and .u8 (x0 : Int) 32 = 0 := by rw [a32, hp]; rfl
      have b16 : bits .and .u8 (x0 : Int) 16 = 0 := by rw [a16, hq]; rfl
      clear a32 a16
      by_cases n2 : 2 ≤ n
      case neg =>
        obtain rfl : n = 1 := by omega
        have e : headN 1 x0 x1 x2 = 0 := by unfold headN; (repeat' split) <;> omega
        rw [e]
        clear e
        go_enter Try.func153, Try.ntmps153
        go_wp2
        go_quiet (fail)
        go_wp2
        go_ret
        exact ⟨rfl, ⟨_, rfl⟩⟩
      obtain ⟨k1a, k1b⟩ := k1 n2
      have g1 : decide ((1 : Int) < (n : Int)) = true := decide_eq_true (by omega)
      by_cases c1 : 69 < x1
      · have t1 : decide ((69 : Int) < (x1 : Int)) = true := decide_eq_true (by omega)
        have e : headN n x0 x1 x2 = 6 := by unfold headN; (repeat' split) <;> omega
        rw [e]
        clear e
        go_enter Try.func153, Try.ntmps153
        go_wp2
        go_ret
        exact ⟨rfl, Drw.refl _⟩
      have t1 : decide ((69 : Int) < (x1 : Int)) = false := decide_eq_false (by omega)
      have d1 : x1 = 0 ∨ 0 < x1 := by omega
      rcases d1 with rfl | d1
      · simp only [show ((0 : Nat) : Int) = 0 from rfl] at *
        by_cases n3 : 3 ≤ n
        case neg =>
          obtain rfl : n = 2 := by omega
          have e : headN 2 x0 0 x2 = 0 := by unfold headN; (repeat' split) <;> omega
          rw [e]
          clear e
          go_enter Try.func153, Try.ntmps153
          go_wp2
          go_quiet (fail)
          go_wp2
          go_ret
          exact ⟨rfl, ⟨_, rfl⟩⟩
        obtain ⟨k2a, k2b⟩ := k2 n3
        have g2 : decide ((2 : Int) < (n : Int)) = true := decide_eq_true (by omega)
        by_cases c2 : 70 < x2
        · have t2 : decide ((70 : Int) < (x2 : Int)) = true := decide_eq_true (by omega)
          have e : headN n x0 0 x2 = 6 := by unfold headN; (repeat' split) <;> omega
          rw [e]
          clear e
          go_enter Try.func153, Try.ntmps153
          go_wp2
          go_quiet (fail)
          go_wp2
          go_ret
          exact ⟨rfl, ⟨_, rfl⟩⟩
        have t2 : decide ((70 : Int) < (x2 : Int)) = false := decide_eq_false (by omega)
        have d2 : x2 = 0 ∨ 0 < x2 := by omega
        rcases d2 with rfl | d2
        · simp only [show ((0 : Nat) : Int) = 0 from rfl] at *
          have e : headN n x0 0 0 = 0 := by unfold headN; (repeat' split) <;> omega
          rw [e]
          clear e
          go_enter Try.func153, Try.ntmps153
          go_wp2
          go_quiet (fail)
          go_wp2
          go_ret
          exact ⟨rfl, ⟨_, rfl⟩⟩
        · have s2 : decide ((0 : Int) < (x2 : Int)) = true := decide_eq_true (by omega)
          have s3 : ((x2 : Int) == 0) = false := by rw [beq_eq_false_iff_ne]; omega
          have e : headN n x0 0 x2 = 6 := by unfold headN; (repeat' split) <;> omega
          rw [e]
          clear e
          go_enter Try.func153, Try.ntmps153
          go_wp2
          go_quiet (fail)
          go_wp2
          go_ret
          exact ⟨rfl, ⟨_, rfl⟩⟩
      · have s1 : decide ((0 : Int) < (x1 : Int)) = true := decide_eq_true (by omega)
        have e : headN n x0 x1 x2 = 6 := by unfold headN; (repeat' split) <;> omega
        rw [e]
        clear e
        go_enter Try.func153, Try.ntmps153
        go_wp2
        go_ret
        exact ⟨rfl, Drw.refl _⟩
    · have b32 : bits .and .u8 (x0 : Int) 32 = 0 := by rw [a32, hp]; rfl
      have b16 : bits .and .u8 (x0 : Int) 16 = 16 := by rw [a16, hq]; rfl
      clear a32 a16
      by_cases n2 : 2 ≤ n
      case neg =>
        obtain rfl : n = 1 := by omega
        have e : headN 1 x0 x1 x2 = 0 := by unfold headN; (repeat' split) <;> omega
        rw [e]
        clear e
        go_enter Try.func153, Try.ntmps153
        go_wp2
        go_quiet (fail)
        go_wp2
        go_ret
        exact ⟨rfl, ⟨_, rfl⟩⟩
      obtain ⟨k1a, k1b⟩ := k1 n2
      have g1 : decide ((1 : Int) < (n : Int)) = true := decide_eq_true (by omega)
      by_cases c1 : 69 < x1
      · have t1 : decide ((69 : Int) < (x1 : Int)) = true := decide_eq_true (by omega)
        have e : headN n x0 x1 x2 = 6 := by unfold headN; (repeat' split) <;> omega
        rw [e]
        clear e
        go_enter Try.func153, Try.ntmps153
        go_wp2
        go_ret
        exact ⟨rfl, Drw.refl _⟩
      have t1 : decide ((69 : Int) < (x1 : Int)) = false := decide_eq_false (by omega)
      have d1 : x1 = 0 ∨ 0 < x1 := by omega
      rcases d1 with rfl | d1
      · simp only [show ((0 : Nat) : Int) = 0 from rfl] at *
        by_cases n3 : 3 ≤ n
        case neg =>
          obtain rfl : n = 2 := by omega
          have e : headN 2 x0 0 x2 = 0 := by unfold headN; (repeat' split) <;> omega
          rw [e]
          clear e
          go_enter Try.func153, Try.ntmps153
          go_wp2
          go_quiet (fail)
          go_wp2
          go_ret
          exact ⟨rfl, ⟨_, rfl⟩⟩
        obtain ⟨k2a, k2b⟩ := k2 n3
        have g2 : decide ((2 : Int) < (n : Int)) = true := decide_eq_true (by omega)
        by_cases c2 : 70 < x2
        · have t2 : decide ((70 : Int) < (x2 : Int)) = true := decide_eq_true (by omega)
          have e : headN n x0 0 x2 = 6 := by unfold headN; (repeat' split) <;> omega
          rw [e]
          clear e
          go_enter Try.func153, Try.ntmps153
          go_wp2
          go_quiet (fail)
          go_wp2
          go_ret
          exact ⟨rfl, ⟨_, rfl⟩⟩
        have t2 : decide ((70 : Int) < (x2 : Int)) = false := decide_eq_false (by omega)
        have d2 : x2 = 0 ∨ 0 < x2 := by omega
        rcases d2 with rfl | d2
        · simp only [show ((0 : Nat) : Int) = 0 from rfl] at *
          have e : headN n x0 0 0 = 0 := by unfold headN; (repeat' split) <;> omega
          rw [e]
          clear e
          go_enter Try.func153, Try.ntmps153
          go_wp2
          go_quiet (fail)
          go_wp2
          go_ret
          exact ⟨rfl, ⟨_, rfl⟩⟩
        · have s2 : decide ((0 : Int) < (x2 : Int)) = true := decide_eq_true (by omega)
          have s3 : ((x2 : Int) == 0) = false := by rw [beq_eq_false_iff_ne]; omega
          have e : headN n x0 0 x2 = 0 := by unfold headN; (repeat' split) <;> omega
          rw [e]
          clear e
          go_enter Try.func153, Try.ntmps153
          go_wp2
          go_quiet (fail)
          go_wp2
          go_ret
          exact ⟨rfl, ⟨_, rfl⟩⟩
      · have s1 : decide ((0 : Int) < (x1 : Int)) = true := decide_eq_true (by omega)
        by_cases n3 : 3 ≤ n
        case neg =>
          obtain rfl : n = 2 := by omega
          have e : headN 2 x0 x1 x2 = 0 := by unfold headN; (repeat' split) <;> omega
          rw [e]
          clear e
          go_enter Try.func153, Try.ntmps153
          go_wp2
          go_quiet (fail)
          go_wp2
          go_ret
          exact ⟨rfl, ⟨_, rfl⟩⟩
        obtain ⟨k2a, k2b⟩ := k2 n3
        have g2 : decide ((2 : Int) < (n : Int)) = true := decide_eq_true (by omega)
        by_cases c2 : 70 < x1 + x2
        · have t2 : decide ((70 : Int) < (x1 : Int) + (x2 : Int)) = true := decide_eq_true (by omega)
          have e : headN n x0 x1 x2 = 6 := by unfold headN; (repeat' split) <;> omega
          rw [e]
          clear e
          go_enter Try.func153, Try.ntmps153
          go_wp2
          go_quiet (fail)
          go_wp2
          go_ret
          exact ⟨rfl, ⟨_, rfl⟩⟩
        have t2 : decide ((70 : Int) < (x1 : Int) + (x2 : Int)) = false := decide_eq_false (by omega)
        have d2 : x2 = 0 ∨ 0 < x2 := by omega
        rcases d2 with rfl | d2
        · simp only [show ((0 : Nat) : Int) = 0 from rfl] at *
          have t3 : decide ((70 : Int) < (x1 : Int)) = false := decide_eq_false (by omega)
          have e : headN n x0 x1 0 = 6 := by unfold headN; (repeat' split) <;> omega
          rw [e]
          clear e
          go_enter Try.func153, Try.ntmps153
          go_wp2
          go_quiet (fail)
          go_wp2
          go_ret
          exact ⟨rfl, ⟨_, rfl⟩⟩
        · have s2 : decide ((0 : Int) < (x2 : Int)) = true := decide_eq_true (by omega)
          have s3 : ((x2 : Int) == 0) = false := by rw [beq_eq_false_iff_ne]; omega
          have e : headN n x0 x1 x2 = 0 := by unfold headN; (repeat' split) <;> omega
          rw [e]
          clear e
          go_enter Try.func153, Try.ntmps153
          go_wp2
          go_quiet (fail)
          go_wp2
          go_ret
          exact ⟨rfl, ⟨_, rfl⟩⟩
  · rcases q0 with hq | hq
    · have b32 : bits .and .u8 (x0 : Int) 32 = 32 := by rw [a32, hp]; rfl
      have b16 : bits .and .u8 (x0 : Int) 16 = 0 := by rw [a16, hq]; rfl
      clear a32 a16
      have e : headN n x0 x1 x2 = 6 := by unfold headN; (repeat' split) <;> omega
      rw [e]
      clear e
      go_enter Try.func153, Try.ntmps153
      go_wp2
      go_ret
      exact ⟨rfl, Drw.refl _⟩
    · have b32 : bits .and .u8 (x0 : Int) 32 = 32 := by rw [a32, hp]; rfl
      have b16 : bits .and .u8 (x0 : Int) 16 = 16 := by rw [a16, hq]; rfl
      clear a32 a16
      by_cases n2 : 2 ≤ n
      case neg =>
        obtain rfl : n = 1 := by omega
        have e : headN 1 x0 x1 x2 = 0 := by unfold headN; (repeat' split) <;> omega
        rw [e]
        clear e
        go_enter Try.func153, Try.ntmps153
        go_wp2
        go_quiet (fail)
        go_wp2
        go_ret
        exact ⟨rfl, ⟨_, rfl⟩⟩
      obtain ⟨k1a, k1b⟩ := k1 n2
      have g1 : decide ((1 : Int) < (n : Int)) = true := decide_eq_true (by omega)
      by_cases c1 : 69 < x1
      · have t1 : decide ((69 : Int) < (x1 : Int)) = true := decide_eq_true (by omega)
        have e : headN n x0 x1 x2 = 6 := by unfold headN; (repeat' split) <;> omega
        rw [e]
        clear e
        go_enter Try.func153, Try.ntmps153
        go_wp2
        go_ret
        exact ⟨rfl, Drw.refl _⟩
      have t1 : decide ((69 : Int) < (x1 : Int)) = false := decide_eq_false (by omega)
      have d1 : x1 = 0 ∨ 0 < x1 := by omega
      rcases d1 with rfl | d1
      · simp only [show ((0 : Nat) : Int) = 0 from rfl] at *
        by_cases n3 : 3 ≤ n
        case neg =>
          obtain rfl : n = 2 := by omega
          have e : headN 2 x0 0 x2 = 0 := by unfold headN; (repeat' split) <;> omega
          rw [e]
          clear e
          go_enter Try.func153, Try.ntmps153
          go_wp2
          go_quiet (fail)
          go_wp2
          go_ret
          exact ⟨rfl, ⟨_, rfl⟩⟩
        obtain ⟨k2a, k2b⟩ := k2 n3
        have g2 : decide ((2 : Int) < (n : Int)) = true := decide_eq_true (by omega)
        by_cases c2 : 70 < x2
        · have t2 : decide ((70 : Int) < (x2 : Int)) = true := decide_eq_true (by omega)
          have e : headN n x0 0 x2 = 6 := by unfold headN; (repeat' split) <;> omega
          rw [e]
          clear e
          go_enter Try.func153, Try.ntmps153
          go_wp2
          go_quiet (fail)
          go_wp2
          go_ret
          exact ⟨rfl, ⟨_, rfl⟩⟩
        have t2 : decide ((70 : Int) < (x2 : Int)) = false := decide_eq_false (by omega)
        have d2 : x2 = 0 ∨ 0 < x2 := by omega
        rcases d2 with rfl | d2
        · simp only [show ((0 : Nat) : Int) = 0 from rfl] at *
          have e : headN n x0 0 0 = 6 := by unfold headN; (repeat' split) <;> omega
          rw [e]
          clear e
          go_enter Try.func153, Try.ntmps153
          go_wp2
          go_quiet (fail)
          go_wp2
          go_ret
          exact ⟨rfl, ⟨_, rfl⟩⟩
        · have s2 : decide ((0 : Int) < (x2 : Int)) = true := decide_eq_true (by omega)
          have s3 : ((x2 : Int) == 0) = false := by rw [beq_eq_false_iff_ne]; omega
          have e : headN n x0 0 x2 = 0 := by unfold headN; (repeat' split) <;> omega
          rw [e]
          clear e
          go_enter Try.func153, Try.ntmps153
          go_wp2
          go_quiet (fail)
          go_wp2
          go_ret
          exact ⟨rfl, ⟨_, rfl⟩⟩
      · have s1 : decide ((0 : Int) < (x1 : Int)) = true := decide_eq_true (by omega)
        by_cases n3 : 3 ≤ n
        case neg =>
          obtain rfl : n = 2 := by omega
          have e : headN 2 x0 x1 x2 = 0 := by unfold headN; (repeat' split) <;> omega
          rw [e]
          clear e
          go_enter Try.func153, Try.ntmps153
          go_wp2
          go_quiet (fail)
          go_wp2
          go_ret
          exact ⟨rfl, ⟨_, rfl⟩⟩
        obtain ⟨k2a, k2b⟩ := k2 n3
        have g2 : decide ((2 : Int) < (n : Int)) = true := decide_eq_true (by omega)
        by_cases c2 : 70 < x1 + x2
        · have t2 : decide ((70 : Int) < (x1 : Int) + (x2 : Int)) = true := decide_eq_true (by omega)
          have e : headN n x0 x1 x2 = 6 := by unfold headN; (repeat' split) <;> omega
          rw [e]
          clear e
          go_enter Try.func153, Try.ntmps153
          go_wp2
          go_quiet (fail)
          go_wp2
          go_ret
          exact ⟨rfl, ⟨_, rfl⟩⟩
        have t2 : decide ((70 : Int) < (x1 : Int) + (x2 : Int)) = false := decide_eq_false (by omega)
        have d2 : x2 = 0 ∨ 0 < x2 := by omega
        rcases d2 with rfl | d2
        · simp only [show ((0 : Nat) : Int) = 0 from rfl] at *
          have t3 : decide ((70 : Int) < (x1 : Int)) = false := decide_eq_false (by omega)
          have e : headN n x0 x1 0 = 6 := by unfold headN; (repeat' split) <;> omega
          rw [e]
          clear e
          go_enter Try.func153, Try.ntmps153
          go_wp2
          go_quiet (fail)
          go_wp2
          go_ret
          exact ⟨rfl, ⟨_, rfl⟩⟩
        · have s2 : decide ((0 : Int) < (x2 : Int)) = true := decide_eq_true (by omega)
          have s3 : ((x2 : Int) == 0) = false := by rw [beq_eq_false_iff_ne]; omega
          have e : headN n x0 x1 x2 = 0 := by unfold headN; (repeat' split) <;> omega
          rw [e]
          clear e
          go_enter Try.func153, Try.ntmps153
          go_wp2
          go_quiet (fail)
          go_wp2
          go_ret
          exact ⟨rfl, ⟨_, rfl⟩⟩
theorem head_any (w : World) (B : Nat) (A : Option Addr) (c : Nat) (b : List UInt8) (hR : Rd w B 1 A b.length (u8s b)) :
    Calls Try.prog 153 #[.slice A b.length c] w fun y w' => y = .returned (.int .i64 (headE b : Int)) ∧ Drw w w' := by
  rw [headE_eq]
  cases b with
  | nil => exact head_nil w A c
  | cons x t =>
    obtain ⟨a, rfl, hab, k0⟩ := hR.byte (k := 0) (by simp)
    rw [add_zero'] at k0
    have hl : ∀ i, hd (x :: t) i < 256 := fun i => UInt8.toNat_lt _
    have hc : ∀ i (h : i < (x :: t).length), w.cell? (a.add i) = some (.int .u8 ((hd (x :: t) i : Nat) : Int)) := fun i h => by
      obtain ⟨a', e, _, hx⟩ := hR.byte h
      injection e with e; subst e
      rw [hd_get _ _ h]; exact hx
    exact head_some w a _ c _ _ _ (by simp) (hl 0) (hl 1) (hl 2) (by have := hc 0 (by simp); rwa [add_zero'] at this)
      (fun h => ⟨hc 1 (by omega), by have := hc 1 (by omega); rw [show (1 : Nat) = 0 + 1 from rfl, add_succ] at this; exact this⟩)
      (fun h => ⟨hc 2 (by omega), by have := hc 2 (by omega); rw [show (2 : Nat) = 1 + 1 from rfl, add_succ] at this; exact this⟩)
end Go.Proofs.Ytfhmaincnlaapaa
