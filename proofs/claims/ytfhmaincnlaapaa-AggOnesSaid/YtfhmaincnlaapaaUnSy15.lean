/-
  RUNNING ON GIVEN VALUES: what an operation asks, checked by computing.
  RUNNING ON GIVEN VALUES: no contracts, no loops' invariants: all is computed.
  Contracts on trees as a law's frame wants them.
  bushelref14.One on trees.
-/
import Derived.Test.YtfhmaincnlaapaaUnRefRead
import Derived.Test.YtfhmaincnlaapaaUnEncC
import Derived.Test.YtfhmaincnlaapaaUnWordMath
import Derived.Test.YtfhmaincnlaapaaUnTRef02
import Derived.Test.YtfhmaincnlaapaaUnAggOne
namespace Go.Proofs.Ytfhmaincnlaapaa.Sy
open Go.ChangeShapes Go.WideShapes Go.ChangeAt Go.RowKit
set_option linter.unusedVariables false
set_option linter.unusedSimpArgs false
theorem sq_abs (x : Int) : x * x = ((x.natAbs * x.natAbs : Nat) : Int) := Int.natAbs_mul_self.symm
theorem sumOne_room (b : Nat) : (sumOne b).all.natAbs < roomN := by
  unfold sumOne
  split
  · rename_i h
    rw [show (⟨false, false, false, false, true, sv b⟩ : SumS).all = sv b from rfl, sv_abs]
    exact vl_room (kind1 h).2
  · have h0 : (0 : Int).natAbs < roomN := by rw [Int.natAbs_zero]; exact Nat.pow_pos (by decide)
    (repeat' split) <;> exact h0
def boI1 (F : FactS) (k : Nat) (i : Nat) : AS := ⟨[(5, .ptr 5 0), (6, .ptr 6 0), (7, .ptr 7 0), (8, iz (i : Nat))], [facO 5 F, celO 6 zeroC, celO 7 [uz k, iz 1, .row 48 0, nilA], rowWh 48 i (wsL (oneWs F.ints i))], 75, []⟩
def boI2 (F : FactS) (k : Nat) (zs : List WholeS) (i : Nat) : AS := ⟨[(5, .ptr 5 0), (6, .ptr 6 0), (7, .ptr 7 0), (11, iz (i : Nat))], [facO 5 F, celO 6 zeroC, celO 7 [uz k, iz 1, .row 48 0, .row 72 0], rowWh 48 zs.length (wsL zs), rowRe 72 i (rsL (oneRs F.nums i))], 75, []⟩
section
variable {F : FactS} (h : FacH F) (k : Nat)
include h
theorem bo1_all (hm : ∀ x ∈ F.ints, x ≠ -9223372036854775808) : LoopOk Try.prog (loopBody Try.f41 3) (boI1 F k 0) (.exit 0) (boI1 F k F.ints.length) := by
  refine LoopOk.of hmo (fun i : {i : Nat // i ≤ F.ints.length} => boI1 F k i.1) (fun i => F.ints.length - i.1) (fun i => ?_) ⟨0, Nat.zero_le _⟩
  obtain ⟨i, hi⟩ := i
  have hli := h.li
  rcases Nat.lt_or_eq_of_le hi with hlt | rfl
  · have hr := rd_code F.ints i hlt
    have hx := h.ints _ (getD_mem 0 hlt)
    have h0 := hm _ (getD_mem 0 hlt)
    have hs := oneWs_succ F.ints i
    have hz := wsL_len (oneWs F.ints i)
    rw [oneWs_len] at hz
    obtain ⟨x, hxx⟩ : ∃ x, x = F.ints.getD i 0 := ⟨_, rfl⟩
    rw [← hxx] at hr hx h0 hs
    have hx1 := hx.1
    have hx2 := hx.2
    have hn : x.natAbs < 9223372036854775808 := by omega
    have e1 := of01_ok x hx1 hx2
    have hnd : nd x ≤ 1000000 := Nat.le_trans (nd_small _ (by omega)) (by decide)
    have e2 := mul01_ok x x hnd hnd
    rw [sq_abs] at e2
    have e3 := of02_ok (x.natAbs * x.natAbs) (by
      have : x.natAbs * x.natAbs < 2 ^ 126 := Nat.lt_of_lt_of_le (Nat.mul_lt_mul'' hn hn) (by decide)
      exact Nat.le_trans (dig_len2 this) (by decide))
    have hmax : max x (IntKind.i64.wrap (-x)) = (x.natAbs : Int) := by rw [wrapI]; omega
    refine Round.on [(23, Hint.val (AV.v (Value.bool true))), (30, Hint.val (iz x)), (32, Hint.call (Inst.mk [iz x] [] (numA x) [])), (38, Hint.val (AV.v (Value.int IntKind.i64 ((0 : Int) - x)))), (39, Hint.val (iz (↑x.natAbs : Int))), (42, Hint.call (Inst.mk [numA x, numA x] [] (numA (↑(x.natAbs * x.natAbs) : Int)) [])), (43, Hint.call (Inst.mk [numA (↑(x.natAbs * x.natAbs) : Int)] [] (wA (dgw (x.natAbs * x.natAbs))) [])), (25, Hint.val (AV.v (Value.int IntKind.i64 (↑(i + (1 : Nat)) : Int))))] [] ⟨i + 1, hlt⟩ [(5 : Nat) = (5 : Nat) ∧ (0 : Nat) = (0 : Nat), (6 : Nat) = (6 : Nat) ∧ (0 : Nat) = (0 : Nat), (7 : Nat) = (7 : Nat) ∧ (0 : Nat) = (0 : Nat), (↑(i + (1 : Nat)) : Int) = (↑(i + (1 : Nat)) : Int), [AV.lst F.codes.length (List.flatMap encI64 F.codes), AV.lst F.ints.length (List.flatMap encI64 F.ints), AV.lst F.nums.length (List.flatMap encF64 F.nums)] = [AV.lst F.codes.length (List.flatMap encI64 F.codes), AV.lst F.ints.length (List.flatMap encI64 F.ints), AV.lst F.nums.length (List.flatMap encF64 F.nums)], [AV.v (Value.int IntKind.u64 (0 : Int)), AV.v (Value.int IntKind.i64 (0 : Int)), AV.v (Value.slice none (0 : Nat) (0 : Nat)), AV.v (Value.slice none (0 : Nat) (0 : Nat))] = [AV.v (Value.int IntKind.u64 (0 : Int)), AV.v (Value.int IntKind.i64 (0 : Int)), AV.v (Value.slice none (0 : Nat) (0 : Nat)), AV.v (Value.slice none (0 : Nat) (0 : Nat))], [AV.v (Value.int IntKind.u64 (↑k : Int)), AV.v (Value.int IntKind.i64 (1 : Int)), AV.row (48 : Nat) (0 : Nat), AV.v (Value.slice none (0 : Nat) (0 : Nat))] = [AV.v (Value.int IntKind.u64 (↑k : Int)), AV.v (Value.int IntKind.i64 (1 : Int)), AV.row (48 : Nat) (0 : Nat), AV.v (Value.slice none (0 : Nat) (0 : Nat))], i + (1 : Nat) = i + (1 : Nat) ∧ (0 : Nat) = (0 : Nat) ∧ wsL (oneWs F.ints i) ++ [AV.v (Value.int IntKind.i64 x), AV.v (Value.int IntKind.i64 (↑x.natAbs : Int)), AV.lst (dgw (x.natAbs * x.natAbs)).length (wL (dgw (x.natAbs * x.natAbs))), AV.v (Value.int IntKind.i64 x), AV.v (Value.int IntKind.i64 x)] = wsL (oneWs F.ints (i + (1 : Nat))), decide ((↑i : Int) < (↑F.ints.length : Int)) = true, (0 : Int) ≤ (↑i : Int) ∧ (↑i : Int) < (↑F.ints.length : Int), rd1 false (1 : Nat) (List.flatMap encI64 F.ints) ((↑i : Int).toNat * (1 : Nat)) = some (AV.v (Value.int IntKind.i64 x)), x = x ∧ True, FnOk Try.prog (91 : Nat) (Inst.mk [AV.v (Value.int IntKind.i64 x)] [] (AV.agg [AV.v (Value.bool (decide (x < (0 : Int)))), AV.lst (dig x.natAbs).length (dL (dig x.natAbs))]) []), IntKind.i64.wrap ((0 : Int) - x) = (0 : Int) - x, (bif true then if x < (0 : Int) - x then (0 : Int) - x else x else if (0 : Int) - x < x then (0 : Int) - x else x) = (↑x.natAbs : Int), [AV.v (Value.bool (decide (x < (0 : Int)))), AV.lst (dig x.natAbs).length (dL (dig x.natAbs))] = [AV.v (Value.bool (decide (x < (0 : Int)))), AV.lst (dig x.natAbs).length (dL (dig x.natAbs))] ∧ [AV.v (Value.bool (decide (x < (0 : Int)))), AV.lst (dig x.natAbs).length (dL (dig x.natAbs))] = [AV.v (Value.bool (decide (x < (0 : Int)))), AV.lst (dig x.natAbs).length (dL (dig x.natAbs))] ∧ True, FnOk Try.prog (92 : Nat) (Inst.mk [AV.agg [AV.v (Value.bool (decide (x < (0 : Int)))), AV.lst (dig x.natAbs).length (dL (dig x.natAbs))], AV.agg [AV.v (Value.bool (decide (x < (0 : Int)))), AV.lst (dig x.natAbs).length (dL (dig x.natAbs))]] [] (AV.agg [AV.v (Value.bool false), AV.lst (dig (↑(x.natAbs * x.natAbs) : Int).natAbs).length (dL (dig (↑(x.natAbs * x.natAbs) : Int).natAbs))]) []), [AV.v (Value.bool false), AV.lst (dig (↑(x.natAbs * x.natAbs) : Int).natAbs).length (dL (dig (↑(x.natAbs * x.natAbs) : Int).natAbs))] = [AV.v (Value.bool false), AV.lst (dig (↑(x.natAbs * x.natAbs) : Int).natAbs).length (dL (dig (↑(x.natAbs * x.natAbs) : Int).natAbs))] ∧ True, FnOk Try.prog (72 : Nat) (Inst.mk [AV.agg [AV.v (Value.bool false), AV.lst (dig (↑(x.natAbs * x.natAbs) : Int).natAbs).length (dL (dig (↑(x.natAbs * x.natAbs) : Int).natAbs))]] [] (AV.lst (dgw (x.natAbs * x.natAbs)).length (wL (dgw (x.natAbs * x.natAbs)))) []), [AV.v (Value.int IntKind.i64 x), AV.v (Value.int IntKind.i64 (↑x.natAbs : Int)), AV.lst (dgw (x.natAbs * x.natAbs)).length (wL (dgw (x.natAbs * x.natAbs))), AV.v (Value.int IntKind.i64 x), AV.v (Value.int IntKind.i64 x)].length = (5 : Nat), (i + (1 : Nat)) * (56 : Nat) ≤ (140737488355328 : Nat) ∧ i + (1 : Nat) ≤ (140737488355328 : Nat), IntKind.i64.wrap ((↑i : Int) + (1 : Int)) = (↑(i + (1 : Nat)) : Int)] (by kernel_rfl) (by show F.ints.length - (i + 1) < F.ints.length - i; omega) ?_
    ((repeat' refine And.intro ?_ ?_); (iterate 12 (with_reducible rfl)); rotate_left 1; ((with_reducible refine Dt ?_; omega)); (iterate 2 (omega)); ((show rd1 _ _ _ _ = _; assumption)); (with_reducible rfl); (exact True.intro); ((show FnOk _ _ _; assumption)); (exact Wi _ (by omega)); ((simp only [cond_true, cond_false]; split <;> omega)); (iterate 2 (with_reducible rfl)); (exact True.intro); ((show FnOk _ _ _; assumption)); (with_reducible rfl); (exact True.intro); ((show FnOk _ _ _; assumption)); (exact rfl); (iterate 2 (omega)); (exact Wi _ (by omega)); (exact True.intro))
    all_goals (rw [hs]; exact wsL_snoc _ (oneWh x))
  · refine Round.out [(23, Hint.val (AV.v (Value.bool false)))] [] [(5 : Nat) = (5 : Nat) ∧ (0 : Nat) = (0 : Nat), (6 : Nat) = (6 : Nat) ∧ (0 : Nat) = (0 : Nat), (7 : Nat) = (7 : Nat) ∧ (0 : Nat) = (0 : Nat), (↑F.ints.length : Int) = (↑F.ints.length : Int), [AV.lst F.codes.length (List.flatMap encI64 F.codes), AV.lst F.ints.length (List.flatMap encI64 F.ints), AV.lst F.nums.length (List.flatMap encF64 F.nums)] = [AV.lst F.codes.length (List.flatMap encI64 F.codes), AV.lst F.ints.length (List.flatMap encI64 F.ints), AV.lst F.nums.length (List.flatMap encF64 F.nums)], [AV.v (Value.int IntKind.u64 (0 : Int)), AV.v (Value.int IntKind.i64 (0 : Int)), AV.v (Value.slice none (0 : Nat) (0 : Nat)), AV.v (Value.slice none (0 : Nat) (0 : Nat))] = [AV.v (Value.int IntKind.u64 (0 : Int)), AV.v (Value.int IntKind.i64 (0 : Int)), AV.v (Value.slice none (0 : Nat) (0 : Nat)), AV.v (Value.slice none (0 : Nat) (0 : Nat))], [AV.v (Value.int IntKind.u64 (↑k : Int)), AV.v (Value.int IntKind.i64 (1 : Int)), AV.row (48 : Nat) (0 : Nat), AV.v (Value.slice none (0 : Nat) (0 : Nat))] = [AV.v (Value.int IntKind.u64 (↑k : Int)), AV.v (Value.int IntKind.i64 (1 : Int)), AV.row (48 : Nat) (0 : Nat), AV.v (Value.slice none (0 : Nat) (0 : Nat))], F.ints.length = F.ints.length ∧ (0 : Nat) = (0 : Nat) ∧ wsL (oneWs F.ints F.ints.length) = wsL (oneWs F.ints F.ints.length), decide ((↑F.ints.length : Int) < (↑F.ints.length : Int)) = false] (by kernel_rfl) ?_
    ((repeat' refine And.intro ?_ ?_); (iterate 13 (with_reducible rfl)); ((with_reducible refine Df ?_; omega)); (exact True.intro))
theorem bo2_all (zs : List WholeS) : LoopOk Try.prog (loopBody Try.f41 9) (boI2 F k zs 0) (.exit 2) (boI2 F k zs F.nums.length) := by
  refine LoopOk.of hmo (fun i : {i : Nat // i ≤ F.nums.length} => boI2 F k zs i.1) (fun i => F.nums.length - i.1) (fun i => ?_) ⟨0, Nat.zero_le _⟩
  obtain ⟨i, hi⟩ := i
  have hli := h.ln
  rcases Nat.lt_or_eq_of_le hi with hlt | rfl
  · have hr := rd_num F.nums i hlt
    have hx := h.nums _ (getD_mem 0 hlt)
    have hs := oneRs_succ F.nums i
    have hz := rsL_len (oneRs F.nums i)
    rw [oneRs_len] at hz
    obtain ⟨x, hxx⟩ : ∃ x, x = F.nums.getD i 0 := ⟨_, rfl⟩
    rw [← hxx] at hr hx hs
    have e1 := of05_fn hx
    have e2 := bytes05_ok (sumOne x) (sumOne_room x)
    refine Round.on [(54, Hint.val (AV.v (Value.bool true))), (61, Hint.val (fB x)), (66, Hint.call (Inst.mk [AV.lst (1 : Nat) [fB x]] [] (sumA (sumOne x)) [])), (67, Hint.call (Inst.mk [sumA (sumOne x)] [] (AV.lst (encS (sumOne x)).length (byL (encS (sumOne x)))) [])), (56, Hint.val (AV.v (Value.int IntKind.i64 (↑(i + (1 : Nat)) : Int))))] [] ⟨i + 1, hlt⟩ [(5 : Nat) = (5 : Nat) ∧ (0 : Nat) = (0 : Nat), (6 : Nat) = (6 : Nat) ∧ (0 : Nat) = (0 : Nat), (7 : Nat) = (7 : Nat) ∧ (0 : Nat) = (0 : Nat), (↑(i + (1 : Nat)) : Int) = (↑(i + (1 : Nat)) : Int), [AV.lst F.codes.length (List.flatMap encI64 F.codes), AV.lst F.ints.length (List.flatMap encI64 F.ints), AV.lst F.nums.length (List.flatMap encF64 F.nums)] = [AV.lst F.codes.length (List.flatMap encI64 F.codes), AV.lst F.ints.length (List.flatMap encI64 F.ints), AV.lst F.nums.length (List.flatMap encF64 F.nums)], [AV.v (Value.int IntKind.u64 (0 : Int)), AV.v (Value.int IntKind.i64 (0 : Int)), AV.v (Value.slice none (0 : Nat) (0 : Nat)), AV.v (Value.slice none (0 : Nat) (0 : Nat))] = [AV.v (Value.int IntKind.u64 (0 : Int)), AV.v (Value.int IntKind.i64 (0 : Int)), AV.v (Value.slice none (0 : Nat) (0 : Nat)), AV.v (Value.slice none (0 : Nat) (0 : Nat))], [AV.v (Value.int IntKind.u64 (↑k : Int)), AV.v (Value.int IntKind.i64 (1 : Int)), AV.row (48 : Nat) (0 : Nat), AV.row (72 : Nat) (0 : Nat)] = [AV.v (Value.int IntKind.u64 (↑k : Int)), AV.v (Value.int IntKind.i64 (1 : Int)), AV.row (48 : Nat) (0 : Nat), AV.row (72 : Nat) (0 : Nat)], zs.length = zs.length ∧ (0 : Nat) = (0 : Nat) ∧ wsL zs = wsL zs, i + (1 : Nat) = i + (1 : Nat) ∧ (0 : Nat) = (0 : Nat) ∧ rsL (oneRs F.nums i) ++ [AV.lst (encS (sumOne x)).length (byL (encS (sumOne x))), AV.v (Value.float FloatKind.f64 x), AV.v (Value.float FloatKind.f64 x)] = rsL (oneRs F.nums (i + (1 : Nat))), decide ((↑i : Int) < (↑F.nums.length : Int)) = true, (0 : Int) ≤ (↑i : Int) ∧ (↑i : Int) < (↑F.nums.length : Int), rd1 false (1 : Nat) (List.flatMap encF64 F.nums) ((↑i : Int).toNat * (1 : Nat)) = some (AV.v (Value.float FloatKind.f64 x)), ((1 : Nat) = (1 : Nat) ∧ [AV.v (Value.float FloatKind.f64 x)] = [AV.v (Value.float FloatKind.f64 x)]) ∧ True, FnOk Try.prog (93 : Nat) (Inst.mk [AV.lst (1 : Nat) [AV.v (Value.float FloatKind.f64 x)]] [] (AV.agg [AV.v (Value.bool (sumOne x).none), AV.v (Value.bool (sumOne x).up), AV.v (Value.bool (sumOne x).down), AV.v (Value.bool (sumOne x).minus), AV.v (Value.bool (sumOne x).plus), AV.v (Value.bool (decide ((sumOne x).all < (0 : Int)))), AV.lst (dig (sumOne x).all.natAbs).length (dL (dig (sumOne x).all.natAbs))]) []), [AV.v (Value.bool (sumOne x).none), AV.v (Value.bool (sumOne x).up), AV.v (Value.bool (sumOne x).down), AV.v (Value.bool (sumOne x).minus), AV.v (Value.bool (sumOne x).plus), AV.v (Value.bool (decide ((sumOne x).all < (0 : Int)))), AV.lst (dig (sumOne x).all.natAbs).length (dL (dig (sumOne x).all.natAbs))] = [AV.v (Value.bool (sumOne x).none), AV.v (Value.bool (sumOne x).up), AV.v (Value.bool (sumOne x).down), AV.v (Value.bool (sumOne x).minus), AV.v (Value.bool (sumOne x).plus), AV.v (Value.bool (decide ((sumOne x).all < (0 : Int)))), AV.lst (dig (sumOne x).all.natAbs).length (dL (dig (sumOne x).all.natAbs))] ∧ True, FnOk Try.prog (75 : Nat) (Inst.mk [AV.agg [AV.v (Value.bool (sumOne x).none), AV.v (Value.bool (sumOne x).up), AV.v (Value.bool (sumOne x).down), AV.v (Value.bool (sumOne x).minus), AV.v (Value.bool (sumOne x).plus), AV.v (Value.bool (decide ((sumOne x).all < (0 : Int)))), AV.lst (dig (sumOne x).all.natAbs).length (dL (dig (sumOne x).all.natAbs))]] [] (AV.lst (encS (sumOne x)).length (byL (encS (sumOne x)))) []), [AV.lst (encS (sumOne x)).length (byL (encS (sumOne x))), AV.v (Value.float FloatKind.f64 x), AV.v (Value.float FloatKind.f64 x)].length = (3 : Nat), (i + (1 : Nat)) * (40 : Nat) ≤ (140737488355328 : Nat) ∧ i + (1 : Nat) ≤ (140737488355328 : Nat), IntKind.i64.wrap ((↑i : Int) + (1 : Int)) = (↑(i + (1 : Nat)) : Int)] (by kernel_rfl) (by show F.nums.length - (i + 1) < F.nums.length - i; omega) ?_
    ((repeat' refine And.intro ?_ ?_); (iterate 15 (with_reducible rfl)); rotate_left 1; ((with_reducible refine Dt ?_; omega)); (iterate 2 (omega)); ((show rd1 _ _ _ _ = _; assumption)); (iterate 2 (with_reducible rfl)); (exact True.intro); ((show FnOk _ _ _; assumption)); (with_reducible rfl); (exact True.intro); ((show FnOk _ _ _; assumption)); (exact rfl); (iterate 2 (omega)); (exact Wi _ (by omega)); (exact True.intro))
    all_goals (rw [hs]; exact rsL_snoc _ (oneRe x))
  · refine Round.out [(54, Hint.val (AV.v (Value.bool false)))] [] [(5 : Nat) = (5 : Nat) ∧ (0 : Nat) = (0 : Nat), (6 : Nat) = (6 : Nat) ∧ (0 : Nat) = (0 : Nat), (7 : Nat) = (7 : Nat) ∧ (0 : Nat) = (0 : Nat), (↑F.nums.length : Int) = (↑F.nums.length : Int), [AV.lst F.codes.length (List.flatMap encI64 F.codes), AV.lst F.ints.length (List.flatMap encI64 F.ints), AV.lst F.nums.length (List.flatMap encF64 F.nums)] = [AV.lst F.codes.length (List.flatMap encI64 F.codes), AV.lst F.ints.length (List.flatMap encI64 F.ints), AV.lst F.nums.length (List.flatMap encF64 F.nums)], [AV.v (Value.int IntKind.u64 (0 : Int)), AV.v (Value.int IntKind.i64 (0 : Int)), AV.v (Value.slice none (0 : Nat) (0 : Nat)), AV.v (Value.slice none (0 : Nat) (0 : Nat))] = [AV.v (Value.int IntKind.u64 (0 : Int)), AV.v (Value.int IntKind.i64 (0 : Int)), AV.v (Value.slice none (0 : Nat) (0 : Nat)), AV.v (Value.slice none (0 : Nat) (0 : Nat))], [AV.v (Value.int IntKind.u64 (↑k : Int)), AV.v (Value.int IntKind.i64 (1 : Int)), AV.row (48 : Nat) (0 : Nat), AV.row (72 : Nat) (0 : Nat)] = [AV.v (Value.int IntKind.u64 (↑k : Int)), AV.v (Value.int IntKind.i64 (1 : Int)), AV.row (48 : Nat) (0 : Nat), AV.row (72 : Nat) (0 : Nat)], zs.length = zs.length ∧ (0 : Nat) = (0 : Nat) ∧ wsL zs = wsL zs, F.nums.length = F.nums.length ∧ (0 : Nat) = (0 : Nat) ∧ rsL (oneRs F.nums F.nums.length) = rsL (oneRs F.nums F.nums.length), decide ((↑F.nums.length : Int) < (↑F.nums.length : Int)) = false] (by kernel_rfl) ?_
    ((repeat' refine And.intro ?_ ?_); (iterate 16 (with_reducible rfl)); ((with_reducible refine Df ?_; omega)); (exact True.intro))
end
/-! ### bushelref14.One -/
theorem refOne_fn {S : Sch} {F : FactS} {mask : Nat} (h : KeyH S F mask) (hF : FacH F) (hm : ∀ x ∈ F.ints, x ≠ -9223372036854775808) : FnOk Try.prog 41 ⟨[.agg (encSch S), .v (.int .u32 (mask : Int)), .agg (encFact F)], [], cellT (oneC S F mask), []⟩ := by
  have h2 := of13_fn h
  rw [factA]
  unfold oneC
  rw [← oneWs_all, ← oneRs_all]
  obtain ⟨k, hk⟩ : ∃ k, kyS S F mask S.dims.length = k := ⟨_, rfl⟩
  have h3 := bo1_all hF k hm
  have h4 := bo2_all hF k (oneWs F.ints F.ints.length)
  rw [hk] at h2 ⊢
  have hz := oneWs_len F.ints F.ints.length
  have hz2 := oneRs_len F.nums F.nums.length
  refine fn_go hmo Try.func41 (by kernel_rfl) [(17, Hint.call (Inst.mk [AV.agg (encSch S), AV.v (Value.int IntKind.u32 (↑mask : Int)), codT F] [] (uz (↑k : Int)) []))] [(3, ⟨.exit 0, boI1 F k 0, boI1 F k F.ints.length⟩), (9, ⟨.exit 2, boI2 F k (oneWs F.ints F.ints.length) 0, boI2 F k (oneWs F.ints F.ints.length) F.nums.length⟩)] [[AV.v (Value.int IntKind.u64 (↑k : Int)), AV.v (Value.int IntKind.i64 (1 : Int)), AV.lst (oneWs F.ints F.ints.length).length (wsL (oneWs F.ints F.ints.length)), AV.lst F.nums.length (rsL (oneRs F.nums F.nums.length))] = [AV.v (Value.int IntKind.u64 (↑(CellS.mk k (1 : Int) (oneWs F.ints F.ints.length) (oneRs F.nums F.nums.length)).key : Int)), AV.v (Value.int IntKind.i64 (CellS.mk k (1 : Int) (oneWs F.ints F.ints.length) (oneRs F.nums F.nums.length)).count), AV.lst (CellS.mk k (1 : Int) (oneWs F.ints F.ints.length) (oneRs F.nums F.nums.length)).ints.length (wsL (CellS.mk k (1 : Int) (oneWs F.ints F.ints.length) (oneRs F.nums F.nums.length)).ints), AV.lst (CellS.mk k (1 : Int) (oneWs F.ints F.ints.length) (oneRs F.nums F.nums.length)).nums.length (rsL (CellS.mk k (1 : Int) (oneWs F.ints F.ints.length) (oneRs F.nums F.nums.length)).nums)], [AV.lst S.dims.length (List.flatMap encDim S.dims), AV.lst S.ints.length (List.flatMap encStr S.ints), AV.lst S.nums.length (List.flatMap encStr S.nums), AV.lst S.views.length (List.flatMap encU32 S.views)] = [AV.lst S.dims.length (List.flatMap encDim S.dims), AV.lst S.ints.length (List.flatMap encStr S.ints), AV.lst S.nums.length (List.flatMap encStr S.nums), AV.lst S.views.length (List.flatMap encU32 S.views)] ∧ (↑mask : Int) = (↑mask : Int) ∧ (F.codes.length = F.codes.length ∧ List.flatMap encI64 F.codes = List.flatMap encI64 F.codes) ∧ True, FnOk Try.prog (90 : Nat) (Inst.mk [AV.agg [AV.lst S.dims.length (List.flatMap encDim S.dims), AV.lst S.ints.length (List.flatMap encStr S.ints), AV.lst S.nums.length (List.flatMap encStr S.nums), AV.lst S.views.length (List.flatMap encU32 S.views)], AV.v (Value.int IntKind.u32 (↑mask : Int)), AV.lst F.codes.length (List.flatMap encI64 F.codes)] [] (AV.v (Value.int IntKind.u64 (↑k : Int))) []), LoopOk Try.prog (loopBody Try.f41 (3 : Nat)) (boI1 F k (0 : Nat)) (Exit.exit (0 : Nat)) (boI1 F k F.ints.length), (5 : Nat) = (5 : Nat) ∧ (0 : Nat) = (0 : Nat), (6 : Nat) = (6 : Nat) ∧ (0 : Nat) = (0 : Nat), (7 : Nat) = (7 : Nat) ∧ (0 : Nat) = (0 : Nat), (0 : Int) = (↑(0 : Nat) : Int), [AV.lst F.codes.length (List.flatMap encI64 F.codes), AV.lst F.ints.length (List.flatMap encI64 F.ints), AV.lst F.nums.length (List.flatMap encF64 F.nums)] = [AV.lst F.codes.length (List.flatMap encI64 F.codes), AV.lst F.ints.length (List.flatMap encI64 F.ints), AV.lst F.nums.length (List.flatMap encF64 F.nums)], [AV.v (Value.int IntKind.u64 (0 : Int)), AV.v (Value.int IntKind.i64 (0 : Int)), AV.v (Value.slice none (0 : Nat) (0 : Nat)), AV.v (Value.slice none (0 : Nat) (0 : Nat))] = [AV.v (Value.int IntKind.u64 (0 : Int)), AV.v (Value.int IntKind.i64 (0 : Int)), AV.v (Value.slice none (0 : Nat) (0 : Nat)), AV.v (Value.slice none (0 : Nat) (0 : Nat))], [AV.v (Value.int IntKind.u64 (↑k : Int)), AV.v (Value.int IntKind.i64 (1 : Int)), AV.row (48 : Nat) (0 : Nat), AV.v (Value.slice none (0 : Nat) (0 : Nat))] = [AV.v (Value.int IntKind.u64 (↑k : Int)), AV.v (Value.int IntKind.i64 (1 : Int)), AV.row (48 : Nat) (0 : Nat), AV.v (Value.slice none (0 : Nat) (0 : Nat))], (0 : Nat) = (0 : Nat) ∧ (0 : Nat) = (0 : Nat) ∧ ([] : List AV) = [], LoopOk Try.prog (loopBody Try.f41 (9 : Nat)) (boI2 F k (oneWs F.ints F.ints.length) (0 : Nat)) (Exit.exit (2 : Nat)) (boI2 F k (oneWs F.ints F.ints.length) F.nums.length), (5 : Nat) = (5 : Nat) ∧ (0 : Nat) = (0 : Nat), (6 : Nat) = (6 : Nat) ∧ (0 : Nat) = (0 : Nat), (7 : Nat) = (7 : Nat) ∧ (0 : Nat) = (0 : Nat), (0 : Int) = (↑(0 : Nat) : Int), [AV.lst F.codes.length (List.flatMap encI64 F.codes), AV.lst F.ints.length (List.flatMap encI64 F.ints), AV.lst F.nums.length (List.flatMap encF64 F.nums)] = [AV.lst F.codes.length (List.flatMap encI64 F.codes), AV.lst F.ints.length (List.flatMap encI64 F.ints), AV.lst F.nums.length (List.flatMap encF64 F.nums)], [AV.v (Value.int IntKind.u64 (0 : Int)), AV.v (Value.int IntKind.i64 (0 : Int)), AV.v (Value.slice none (0 : Nat) (0 : Nat)), AV.v (Value.slice none (0 : Nat) (0 : Nat))] = [AV.v (Value.int IntKind.u64 (0 : Int)), AV.v (Value.int IntKind.i64 (0 : Int)), AV.v (Value.slice none (0 : Nat) (0 : Nat)), AV.v (Value.slice none (0 : Nat) (0 : Nat))], [AV.v (Value.int IntKind.u64 (↑k : Int)), AV.v (Value.int IntKind.i64 (1 : Int)), AV.row (48 : Nat) (0 : Nat), AV.row (72 : Nat) (0 : Nat)] = [AV.v (Value.int IntKind.u64 (↑k : Int)), AV.v (Value.int IntKind.i64 (1 : Int)), AV.row (48 : Nat) (0 : Nat), AV.row (72 : Nat) (0 : Nat)], F.ints.length = (oneWs F.ints F.ints.length).length ∧ (0 : Nat) = (0 : Nat) ∧ wsL (oneWs F.ints F.ints.length) = wsL (oneWs F.ints F.ints.length), (0 : Nat) = (0 : Nat) ∧ (0 : Nat) = (0 : Nat) ∧ ([] : List AV) = []] (by kernel_rfl) ?_
  ((repeat' refine And.intro ?_ ?_); rotate_left 1; (iterate 4 (with_reducible rfl)); (exact True.intro); ((show FnOk _ _ _; assumption)); (with_reducible assumption); (iterate 6 (with_reducible rfl)); (omega); (iterate 6 (with_reducible rfl)); (with_reducible assumption); (iterate 6 (with_reducible rfl)); (omega); (iterate 3 (with_reducible rfl)); (omega); (iterate 5 (with_reducible rfl)); (exact True.intro))
  all_goals (dsimp only; rw [hz2])
end Go.Proofs.Ytfhmaincnlaapaa.Sy
namespace Go.Proofs.Ytfhmaincnlaapaa.Sy
open Go.ChangeShapes Go.WideShapes Go.ChangeAt Go.RowKit
set_option linter.unusedVariables false
theorem FnOk.calls {P : Program} {f : FuncId} {args : List AV} {r : Value} (h : FnOk P f ⟨args, [], .v r, []⟩) (w : World) (vs : List Value) (hl : vs.length = args.length)
    (hs : ∀ (E : Env), E.w = w → (∀ b, b < w.heap.size → E.F b) → ∀ (j : Nat) (x : AV) (u : Value), args[j]? = some x → vs[j]? = some u → Sees1 E x u) : Calls P f vs.toArray w fun y w' => y = .returned r ∧ Below w.heap.size w w' := by
  let E : Env := ⟨w, fun b => b < w.heap.size, fun _ => 0, fun _ => undef, lo []⟩
  have hm : Mem ⟨fun _ => False, fun b => b < w.heap.size, E⟩ w E := ⟨Chg.refl _ _, fun b hb => .inl hb, fun b hb => hb, fun o x hx => (by cases hx), fun o b hb => (by cases hb), fun o o' b hb => (by cases hb)⟩
  refine (h _ _ E vs rfl hm hl (hs E rfl fun b hb => hb)).mono ?_
  rintro y w' ⟨E', v, rfl, rfl, _, hm', _, hz⟩
  exact ⟨by rw [show v = r from hz.1], hm'.chg.below⟩
end Go.Proofs.Ytfhmaincnlaapaa.Sy
namespace Go.Proofs.Ytfhmaincnlaapaa.Sy
open Go.ChangeShapes Go.WideShapes Go.ChangeAt Go.RowKit
set_option linter.unusedVariables false
section
variable {P : Program} {ob : Nat → Option AObj} {r : Res}
def idxC (ob : Nat → Option AObj) (y i : AV) : Bool :=
  match i with
  | .v (.int k z) => (match y with
    | .lst n cs => decide (0 ≤ z ∧ z < n)
    | .row q ver => (match ob q with | some (.row _ _ n k' cs) => decide (0 ≤ z ∧ z < n) | _ => true)
    | _ => true)
  | _ => true
theorem idxC_ok {t : TypeId} {y i : AV} (hr : sIdx P ob t y i = some r) (hc : idxC ob y i = true) : allP r.vc := by
  unfold sIdx at hr
  split at hr
  · split at hr
    · injection hr with hr; subst hr; exact ⟨of_decide_eq_true hc, trivial⟩
    · split at hr
      · rename_i hq
        split at hr
        · injection hr with hr; subst hr
          simp only [idxC, hq] at hc
          exact ⟨of_decide_eq_true hc, trivial⟩
        · cases hr
      · cases hr
    · cases hr
  · cases hr
def strC (h : Option Hint) (y i : AV) : Bool :=
  match y, i, h with
  | .v (.string s), .v (.int k z), some (.val (.v (.int .u8 b))) => decide (0 ≤ z) && (match s[z.toNat]? with | some c => decide (b = c.toNat) | none => false)
  | _, _, _ => true
theorem strC_ok {h : Option Hint} {t : TypeId} {y i : AV} (hr : sStr P h t y i = some r) (hc : strC h y i = true) : allP r.vc := by
  unfold sStr at hr
  split at hr
  · injection hr with hr; subst hr
    simp only [strC, Bool.and_eq_true] at hc
    obtain ⟨h1, h2⟩ := hc
    split at h2
    · rename_i c hcc; exact ⟨⟨of_decide_eq_true h1, c, hcc, of_decide_eq_true h2⟩, trivial⟩
    · cases h2
  · cases hr
def binC (op : BinOp) (x y : AV) : Bool :=
  match x, y with
  | .v (.int _ _), .v (.int _ b) => (match op with
    | .shl => decide (0 ≤ b)
    | .shr => decide (0 ≤ b)
    | .quo => decide (b ≠ 0)
    | .rem => decide (b ≠ 0)
    | _ => true)
  | .v (.string a), .v (.string b) => (match op with
    | .add => decide (((a.size + b.size : Nat) : Int) ≤ 9223372036854775807)
    | _ => true)
  | _, _ => true
theorem intV_ok {op : BinOp} {k k' : IntKind} {a b : Int} {q : Value} {vc : List Prop} (hr : intV op k a b = some (q, vc)) (hc : binC op (.v (.int k a)) (.v (.int k' b)) = true) : allP vc := by
  cases op <;> simp only [intV, Option.some.injEq, Prod.mk.injEq, reduceCtorEq] at hr <;> obtain ⟨rfl, rfl⟩ := hr <;> first
    | exact trivial
    | exact ⟨of_decide_eq_true hc, trivial⟩
theorem binV_ok {op : BinOp} {x y q : Value} {vc : List Prop} (hr : binV op x y = some (q, vc)) (hc : binC op (.v x) (.v y) = true) : allP vc := by
  unfold binV at hr
  split at hr
  · split at hr
    · injection hr with hr; injection hr with h1 h2; subst h2; exact ⟨of_decide_eq_true hc, trivial⟩
    · injection hr with hr; injection hr with h1 h2; subst h2; exact ⟨of_decide_eq_true hc, trivial⟩
    · split at hr
      · exact intV_ok hr hc
      · cases hr
  · split at hr <;> first
      | (cases hr; done)
      | (injection hr with hr; injection hr with h1 h2; subst h2; first | exact trivial | exact ⟨of_decide_eq_true hc, trivial⟩)
  · split at hr
    · split at hr <;> first
        | (cases hr; done)
        | (injection hr with hr; injection hr with h1 h2; subst h2; exact trivial)
    · cases hr
  · cases hr
theorem sVal_none {x : AV} {vc : List Prop} (hr : sVal none x vc = some r) : r.vc = vc := by
  unfold sVal at hr; injection hr with hr; subst hr; rfl
theorem sRd_none {q : Option AV} (hr : sRd none q = some r) : allP r.vc := by
  unfold sRd at hr
  split at hr
  · rename_i h; cases h
  · split at hr
    · injection hr with hr; subst hr; trivial
    · cases hr
theorem sBin_ok {op : BinOp} {t : TypeId} {x y : AV} (hr : sBin P ob none op t x y = some r) (hc : binC op x y = true) : allP r.vc := by
  unfold sBin at hr
  split at hr
  · unfold sNil at hr
    rw [Bool.cond_eq_ite] at hr
    split at hr
    · split at hr <;> first | (cases hr; done) | (rw [sVal_none hr]; trivial)
    · cases hr
  · split at hr <;> first | (cases hr; done) | (rw [sVal_none hr]; trivial)
  · split at hr
    · rename_i q vc hq
      rw [Bool.cond_eq_ite] at hr
      split at hr
      · rw [sVal_none hr]; exact binV_ok hq hc
      · cases hr
    · cases hr
  · cases hr
theorem sUn_ok {op : UnOp} {x : AV} (hr : sUn none op x = some r) : allP r.vc := by
  unfold sUn at hr
  split at hr
  · split at hr
    · rw [sVal_none hr]; trivial
    · cases hr
  · cases hr
theorem sConv_ok {s d : TypeId} {x : AV} (hr : sConv P ob none s d x = some r) : allP r.vc := by
  unfold sConv at hr
  split at hr
  · split at hr
    · rw [sVal_none hr]; trivial
    · cases hr
  · split at hr
    · rw [sVal_none hr]; trivial
    · rw [Bool.cond_eq_ite] at hr
      split at hr
      · simp only [Bool.cond_eq_ite] at hr
        split at hr
        · injection hr with hr; subst hr; trivial
        · cases hr
      · cases hr
  · split at hr
    · rename_i h _ _; cases h
    · cases hr
def cutC (ob : Nat → Option AObj) (y : AV) (lo hi : Option AV) : Bool :=
  match y with
  | .lst n cs => (match loN lo, hiN n hi with | some l, some h => decide (0 ≤ l ∧ l ≤ h ∧ h ≤ n) | _, _ => true)
  | .row q ver => (match ob q with
    | some (.row e s n k cs) => (match loN lo, hiN n hi with | some l, some h => decide (l = 0 ∧ 0 ≤ h ∧ h ≤ n) | _, _ => true)
    | _ => true)
  | .v (.string s) => (match loN lo, hiN s.size hi with | some l, some h => decide (0 ≤ l ∧ l ≤ h ∧ h ≤ s.size) | _, _ => true)
  | _ => true
theorem cutC_ok {t : TypeId} {y : AV} {lo hi : Option AV} (hr : sCut P ob t y lo hi = some r) (hc : cutC ob y lo hi = true) : allP r.vc := by
  unfold sCut at hr
  split at hr
  · split at hr
    · rename_i h1 h2 h3
      injection hr with hr; subst hr
      simp only [cutC, h2, h3] at hc
      exact ⟨of_decide_eq_true hc, trivial⟩
    · cases hr
  · split at hr
    · rename_i hq
      split at hr
      · rename_i h1 h2 h3
        split at hr
        · injection hr with hr; subst hr
          simp only [cutC, hq, h2, h3] at hc
          exact ⟨of_decide_eq_true hc, trivial⟩
        · cases hr
      · cases hr
    · cases hr
  · split at hr
    · rename_i h1 h2 h3
      injection hr with hr; subst hr
      simp only [cutC, h2, h3] at hc
      exact ⟨of_decide_eq_true hc, trivial⟩
    · cases hr
  · cases hr
def makeC (P : Program) (t : TypeId) (y z : AV) : Bool :=
  match inB P t, y, z with
  | some (e, s, by_), .v (.int k a), .v (.int k' b) => decide (b = a) && decide (0 ≤ a ∧ a * by_ ≤ 140737488355328 ∧ a ≤ 140737488355328)
  | _, _, _ => true
theorem makeC_ok {d : Option Nat} {t : TypeId} {y z : AV} (hr : sMake P ob d t y z = some r) (hc : makeC P t y z = true) : allP r.vc := by
  unfold sMake at hr
  split at hr
  · rename_i hi
    split at hr
    · injection hr with hr; subst hr
      simp only [makeC, hi, Bool.and_eq_true] at hc
      exact ⟨of_decide_eq_true hc.1, of_decide_eq_true hc.2, trivial⟩
    · cases hr
  · cases hr
def appC (P : Program) (ob : Nat → Option AObj) (t : TypeId) (y x : AV) : Bool :=
  match inB P t, srcA ob x with
  | some (e, s, by_), some (m, cs2) => (match y with
    | .row q ver => (match ob q with
      | some (.row e' s' n k cs) => decide (cs2.length = m * s) && decide ((n + m) * by_ ≤ 140737488355328 ∧ n + m ≤ 140737488355328)
      | _ => true)
    | _ => decide (cs2.length = m * s) && decide (m * by_ ≤ 140737488355328 ∧ m ≤ 140737488355328))
  | _, _ => true
theorem appC_ok {d : Option Nat} {t : TypeId} {y x : AV} (hr : sApp P ob d t y x = some r) (hc : appC P ob t y x = true) : allP r.vc := by
  unfold sApp at hr
  split at hr
  · rename_i hi hs
    split at hr
    · split at hr
      · rename_i hq
        split at hr
        · injection hr with hr; subst hr
          simp only [appC, hi, hs, hq, Bool.and_eq_true] at hc
          exact ⟨of_decide_eq_true hc.1, of_decide_eq_true hc.2, trivial⟩
        · cases hr
      · cases hr
    · split at hr
      · split at hr
        · injection hr with hr; subst hr
          simp only [appC, hi, hs, Bool.and_eq_true] at hc
          exact ⟨of_decide_eq_true hc.1, of_decide_eq_true hc.2, trivial⟩
        · cases hr
      · cases hr
    · cases hr
  · cases hr
def storeC (ob : Nat → Option AObj) (y x : AV) : Bool :=
  match y, cellsA ob x with
  | .rptr q ver off, some xs => (match ob q with | some (.row e s n k' cs) => Nat.ble (off + xs.length) cs.length | _ => true)
  | _, _ => true
theorem storeC_ok {t : TypeId} {y x : AV} (hr : sStore P ob t y x = some r) (hc : storeC ob y x = true) : allP r.vc := by
  unfold sStore at hr
  split at hr
  · rename_i hx
    split at hr
    · rename_i hq
      split at hr
      · injection hr with hr; subst hr
        simp only [storeC, hx, hq, Nat.ble_eq] at hc
        exact ⟨hc, trivial⟩
      · cases hr
    · cases hr
  · split at hr
    · split at hr
      · injection hr with hr; subst hr; trivial
      · cases hr
    · cases hr
  · cases hr
theorem sMin_ok {mx : Bool} {x y : AV} (hr : sMin mx none x y = some r) : allP r.vc := by
  unfold sMin at hr
  split at hr
  · split at hr
    · rw [sVal_none hr]; trivial
    · cases hr
  · cases hr
/-- what the operation asks, computed -/
def chkE (P : Program) (o : Oper) (h : Option Hint) (g : Operand → AV) (ob : Nat → Option AObj) : Bool :=
  match o.op with
  | .store t y x => storeC ob (g y) (g x)
  | .indexAddr t y i => idxC ob (g y) (g i)
  | .index t y i => strC h (g y) (g i)
  | .binOp op xt x y _ => binC op (g x) (g y)
  | .slice t y lo hi none => cutC ob (g y) (lo.map g) (hi.map g)
  | .makeSlice t y z => makeC P t (g y) (g z)
  | .call c => (match c.callee, c.args.toList, c.argTypes.toList with
    | .builtin .append, [y, x], [t, t'] => appC P ob t (g y) (g x)
    | _, _, _ => true)
  | _ => true
/-- a hint that the operation takes: none but for calls and bytes of texts -/
def hintB (o : Oper) (h : Option Hint) : Bool :=
  match o.op with
  | .call c => (match c.callee with | .value (.func f) => true | _ => h.isNone)
  | .index _ _ _ => true
  | _ => h.isNone
def isCall (o : Oper) : Option FuncId :=
  match o.op with
  | .call c => (match c.callee with | .value (.func f) => some f | _ => none)
  | _ => none
theorem chkE_ok {o : Oper} {h : Option Hint} {g : Operand → AV} (hr : stepE P o h g ob = some r) (hc : chkE P o h g ob = true) (hh : hintB o h = true)
    (hcall : ∀ f I, isCall o = some f → h = some (.call I) → FnOk P f I ∧ (∀ args, (∃ c, o.op = .call c ∧ args = c.args.toList.map g) → lsEq (args.map (adapt ob)) I.args) ∧ allP (preVc ob I.pre)) : allP r.vc := by
  have hn : ∀ {q : Option Hint}, q.isNone = true → q = none := fun hq => Option.isNone_iff_eq_none.1 hq
  unfold stepE at hr
  unfold chkE at hc
  unfold hintB at hh
  split at hr <;> rename_i ho <;> simp only [ho] at hc hh
  · rw [hn hh] at hr; rw [sVal_none hr]; trivial
  · rw [hn hh] at hr; rw [sVal_none hr]; trivial
  · split at hr
    · rw [hn hh] at hr; rw [sVal_none hr]; trivial
    · cases hr
  · split at hr
    · rw [hn hh] at hr; exact sRd_none hr
    · cases hr
  · exact storeC_ok hr hc
  · split at hr
    · injection hr with hr; subst hr; trivial
    · cases hr
  · exact idxC_ok hr hc
  · exact strC_ok hr hc
  · split at hr
    · injection hr with hr; subst hr; trivial
    · cases hr
  · split at hr
    · rw [hn hh] at hr; exact sRd_none hr
    · cases hr
  · split at hr
    · split at hr
      · rw [hn hh] at hr; rw [sVal_none hr]; trivial
      · cases hr
    · cases hr
  · rw [hn hh] at hr; exact sBin_ok hr hc
  · rw [hn hh] at hr; exact sUn_ok hr
  · rw [hn hh] at hr; exact sConv_ok hr
  · exact cutC_ok hr hc
  · exact makeC_ok hr hc
  · unfold sBox at hr
    split at hr
    · split at hr
      · injection hr with hr; subst hr; trivial
      · cases hr
    · cases hr
  · unfold sAlloc at hr
    split at hr
    · split at hr
      · injection hr with hr; subst hr; trivial
      · cases hr
    · cases hr
  · unfold sBuild at hr
    split at hr
    · split at hr
      · injection hr with hr; subst hr; trivial
      · cases hr
    · cases hr
  · unfold sBuildSlice at hr
    split at hr
    · split at hr
      · split at hr
        · split at hr
          · injection hr with hr; subst hr; trivial
          · cases hr
        · cases hr
      · cases hr
    · cases hr
  · rename_i c
    split at hr
    · rename_i hcal h1 h2
      simp only [hcal] at hh
      rw [hn hh] at hr
      split at hr
      · rw [sVal_none hr]; trivial
      · cases hr
    · rename_i hcal h1
      simp only [hcal] at hh
      rw [hn hh] at hr; exact sMin_ok hr
    · rename_i hcal h1
      simp only [hcal] at hh
      rw [hn hh] at hr; exact sMin_ok hr
    · rename_i hcal h1 h2
      simp only [hcal, h1, h2] at hc
      split at hr
      · exact appC_ok hr hc
      · cases hr
    · rename_i f hcal
      unfold sCall at hr
      split at hr
      · rename_i I
        rw [Bool.cond_eq_ite] at hr
        split at hr
        · injection hr with hr; subst hr
          obtain ⟨h1, h2, h3⟩ := hcall f I (by unfold isCall; simp only [ho, hcal]) rfl
          exact ⟨h2 _ ⟨_, ho, rfl⟩, h1, h3⟩
        · cases hr
      · cases hr
    · rename_i t0 hcal
      simp only [hcal] at hh
      split at hr
      · rw [hn hh] at hr; cases hr
      · cases hr
    · cases hr
  · cases hr
end
end Go.Proofs.Ytfhmaincnlaapaa.Sy
