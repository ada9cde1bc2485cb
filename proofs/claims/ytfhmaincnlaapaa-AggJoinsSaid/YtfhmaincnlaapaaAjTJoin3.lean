/-
  bushelref14.room and Join on trees.
-/
import Derived.Test.YtfhmaincnlaapaaAjNumMath
import Derived.Test.YtfhmaincnlaapaaAjTJoin2
namespace Go.Proofs.Ytfhmaincnlaapaa.Sy
open Go.ChangeShapes Go.WideShapes Go.ChangeAt Go.RowKit
set_option linter.unusedVariables false
set_option linter.unusedSimpArgs false
theorem nd_i64 {z : Int} (h : I64 z) : nd z ≤ 7 := by unfold I64 at h; exact nd_small _ (by omega)
theorem room_fn {a b : Int} (ha : I64 a) (hb : I64 b) : FnOk Try.prog 69 ⟨[iz a, iz b], [], .tup [iz (addW a b).1, bz (addW a b).2], []⟩ := by
  have na := nd_i64 ha
  have nb := nd_i64 hb
  unfold I64 at ha hb
  have h1 := of01_ok a ha.1 ha.2
  have h2 := of01_ok b hb.1 hb.2
  have h3 := add01_ok a b (by omega) (by omega)
  have hn : nd (a + b) ≤ 1000 := by
    have : (a + b).natAbs < 1000 ^ 8 := by omega
    have := dig_len this
    unfold nd; omega
  have h4 := fits01_ok (a + b) (by omega)
  by_cases h : -9223372036854775808 ≤ a + b ∧ a + b ≤ 9223372036854775807
  · have e : addW a b = (a + b, true) := if_pos h
    have ef : fitsZ (a + b) = true := by unfold fitsZ; rw [decide_eq_true h.1, decide_eq_true h.2]; rfl
    have h5 := int01_ok (a + b) h.1 h.2
    rw [e]
    rw [ef] at h4
    refine fn_go hmo Try.func69 (by kernel_rfl) [(8, Hint.call (Inst.mk [iz a] [] (numA a) [])), (10, Hint.call (Inst.mk [iz b] [] (numA b) [])), (11, Hint.call (Inst.mk [numA a, numA b] [] (numA (a + b)) [])), (13, Hint.call (Inst.mk [numA (a + b)] [] (bz true) [])), (16, Hint.call (Inst.mk [numA (a + b)] [] (iz (a + b)) []))] [] [a + b = a + b ∧ true = true ∧ True, a = a ∧ True, FnOk Try.prog (91 : Nat) (Inst.mk [AV.v (Value.int IntKind.i64 a)] [] (AV.agg [AV.v (Value.bool (decide (a < (0 : Int)))), AV.lst (dig a.natAbs).length (dL (dig a.natAbs))]) []), b = b ∧ True, FnOk Try.prog (91 : Nat) (Inst.mk [AV.v (Value.int IntKind.i64 b)] [] (AV.agg [AV.v (Value.bool (decide (b < (0 : Int)))), AV.lst (dig b.natAbs).length (dL (dig b.natAbs))]) []), [AV.v (Value.bool (decide (a < (0 : Int)))), AV.lst (dig a.natAbs).length (dL (dig a.natAbs))] = [AV.v (Value.bool (decide (a < (0 : Int)))), AV.lst (dig a.natAbs).length (dL (dig a.natAbs))] ∧ [AV.v (Value.bool (decide (b < (0 : Int)))), AV.lst (dig b.natAbs).length (dL (dig b.natAbs))] = [AV.v (Value.bool (decide (b < (0 : Int)))), AV.lst (dig b.natAbs).length (dL (dig b.natAbs))] ∧ True, FnOk Try.prog (70 : Nat) (Inst.mk [AV.agg [AV.v (Value.bool (decide (a < (0 : Int)))), AV.lst (dig a.natAbs).length (dL (dig a.natAbs))], AV.agg [AV.v (Value.bool (decide (b < (0 : Int)))), AV.lst (dig b.natAbs).length (dL (dig b.natAbs))]] [] (AV.agg [AV.v (Value.bool (decide (a + b < (0 : Int)))), AV.lst (dig (a + b).natAbs).length (dL (dig (a + b).natAbs))]) []), [AV.v (Value.bool (decide (a + b < (0 : Int)))), AV.lst (dig (a + b).natAbs).length (dL (dig (a + b).natAbs))] = [AV.v (Value.bool (decide (a + b < (0 : Int)))), AV.lst (dig (a + b).natAbs).length (dL (dig (a + b).natAbs))] ∧ True, FnOk Try.prog (129 : Nat) (Inst.mk [AV.agg [AV.v (Value.bool (decide (a + b < (0 : Int)))), AV.lst (dig (a + b).natAbs).length (dL (dig (a + b).natAbs))]] [] (AV.v (Value.bool true)) []), [AV.v (Value.bool (decide (a + b < (0 : Int)))), AV.lst (dig (a + b).natAbs).length (dL (dig (a + b).natAbs))] = [AV.v (Value.bool (decide (a + b < (0 : Int)))), AV.lst (dig (a + b).natAbs).length (dL (dig (a + b).natAbs))] ∧ True, FnOk Try.prog (130 : Nat) (Inst.mk [AV.agg [AV.v (Value.bool (decide (a + b < (0 : Int)))), AV.lst (dig (a + b).natAbs).length (dL (dig (a + b).natAbs))]] [] (AV.v (Value.int IntKind.i64 (a + b))) [])] (by kernel_rfl) ?_
    ((repeat' refine And.intro ?_ ?_); (iterate 2 (with_reducible rfl)); (exact True.intro); (with_reducible rfl); (exact True.intro); ((show FnOk _ _ _; assumption)); (with_reducible rfl); (exact True.intro); ((show FnOk _ _ _; assumption)); (iterate 2 (with_reducible rfl)); (exact True.intro); ((show FnOk _ _ _; assumption)); (with_reducible rfl); (exact True.intro); ((show FnOk _ _ _; assumption)); (with_reducible rfl); (exact True.intro); ((show FnOk _ _ _; assumption)); (exact True.intro))
  · have e : addW a b = (0, false) := if_neg h
    have ef : fitsZ (a + b) = false := by
      unfold fitsZ
      by_cases h6 : -9223372036854775808 ≤ a + b
      · rw [decide_eq_false (p := a + b ≤ _) (by omega), Bool.and_false]
      · rw [decide_eq_false h6, Bool.false_and]
    rw [e]
    rw [ef] at h4
    refine fn_go hmo Try.func69 (by kernel_rfl) [(8, Hint.call (Inst.mk [iz a] [] (numA a) [])), (10, Hint.call (Inst.mk [iz b] [] (numA b) [])), (11, Hint.call (Inst.mk [numA a, numA b] [] (numA (a + b)) [])), (13, Hint.call (Inst.mk [numA (a + b)] [] (bz false) []))] [] [(0 : Int) = (0 : Int) ∧ false = false ∧ True, a = a ∧ True, FnOk Try.prog (91 : Nat) (Inst.mk [AV.v (Value.int IntKind.i64 a)] [] (AV.agg [AV.v (Value.bool (decide (a < (0 : Int)))), AV.lst (dig a.natAbs).length (dL (dig a.natAbs))]) []), b = b ∧ True, FnOk Try.prog (91 : Nat) (Inst.mk [AV.v (Value.int IntKind.i64 b)] [] (AV.agg [AV.v (Value.bool (decide (b < (0 : Int)))), AV.lst (dig b.natAbs).length (dL (dig b.natAbs))]) []), [AV.v (Value.bool (decide (a < (0 : Int)))), AV.lst (dig a.natAbs).length (dL (dig a.natAbs))] = [AV.v (Value.bool (decide (a < (0 : Int)))), AV.lst (dig a.natAbs).length (dL (dig a.natAbs))] ∧ [AV.v (Value.bool (decide (b < (0 : Int)))), AV.lst (dig b.natAbs).length (dL (dig b.natAbs))] = [AV.v (Value.bool (decide (b < (0 : Int)))), AV.lst (dig b.natAbs).length (dL (dig b.natAbs))] ∧ True, FnOk Try.prog (70 : Nat) (Inst.mk [AV.agg [AV.v (Value.bool (decide (a < (0 : Int)))), AV.lst (dig a.natAbs).length (dL (dig a.natAbs))], AV.agg [AV.v (Value.bool (decide (b < (0 : Int)))), AV.lst (dig b.natAbs).length (dL (dig b.natAbs))]] [] (AV.agg [AV.v (Value.bool (decide (a + b < (0 : Int)))), AV.lst (dig (a + b).natAbs).length (dL (dig (a + b).natAbs))]) []), [AV.v (Value.bool (decide (a + b < (0 : Int)))), AV.lst (dig (a + b).natAbs).length (dL (dig (a + b).natAbs))] = [AV.v (Value.bool (decide (a + b < (0 : Int)))), AV.lst (dig (a + b).natAbs).length (dL (dig (a + b).natAbs))] ∧ True, FnOk Try.prog (129 : Nat) (Inst.mk [AV.agg [AV.v (Value.bool (decide (a + b < (0 : Int)))), AV.lst (dig (a + b).natAbs).length (dL (dig (a + b).natAbs))]] [] (AV.v (Value.bool false)) [])] (by kernel_rfl) ?_
    ((repeat' refine And.intro ?_ ?_); (iterate 2 (with_reducible rfl)); (exact True.intro); (with_reducible rfl); (exact True.intro); ((show FnOk _ _ _; assumption)); (with_reducible rfl); (exact True.intro); ((show FnOk _ _ _; assumption)); (iterate 2 (with_reducible rfl)); (exact True.intro); ((show FnOk _ _ _; assumption)); (with_reducible rfl); (exact True.intro); ((show FnOk _ _ _; assumption)); (exact True.intro))
theorem pow_room (k : Nat) : 4294967296 ^ k * 2 ≤ 1000 ^ (4 * (k + 1)) := by
  rw [Nat.pow_mul, Nat.pow_succ (1000 ^ 4)]
  exact Nat.mul_le_mul (Nat.pow_le_pow_left (by decide) _) (by decide)
theorem nd_words {l m : List Nat} (hl : Wd l) (hm : Wd m) (h1 : l.length ≤ 1000) (h2 : m.length ≤ 1000) : (dig (vw l + vw m)).length ≤ 5000 := by
  obtain ⟨K, hK⟩ : ∃ K : Nat, K = 1000 := ⟨_, rfl⟩
  have a1 := vd_ltW l hl
  have a2 := vd_ltW m hm
  have b1 : 4294967296 ^ l.length ≤ 4294967296 ^ K := Nat.pow_le_pow_right (by decide) (by omega)
  have b2 : 4294967296 ^ m.length ≤ 4294967296 ^ K := Nat.pow_le_pow_right (by decide) (by omega)
  have b3 := pow_room K
  have : vw l + vw m < 1000 ^ (4 * (K + 1)) := by
    generalize (4294967296 : Nat) ^ K = W at *
    generalize (1000 : Nat) ^ (4 * (K + 1)) = V at *
    omega
  have := dig_len this
  omega
/-! ### the first loop -/
def rjInv1 (a b : CellS) (k c : Int) (i : Nat) : AS := ⟨[(2, .ptr 2 0), (3, .ptr 3 0), (4, .ptr 4 0), (8, .ptr 8 0), (9, iz (i : Nat))], [celO 2 (cellL a), celO 3 (cellL b), celO 4 zeroC, celO 8 [uz k, iz c, .row 130 0, nilA], rowWh 130 i (wsL (accW a b i))], 196, []⟩
def rjEnd (e : Int) : AS := ⟨[(4, .ptr 4 0), (5, iz e)], [celO 4 zeroC], 196, []⟩
section
variable {a b : CellS} (ha : OkC a) (hb : OkC b) (k c : Int) (hl : b.ints.length = a.ints.length)
include ha hb hl
theorem rj1_on (e : Exit) (σ' : AS) (P : Nat → Prop) (i : Nat) (hi : i < a.ints.length) (h0 : errW a b i = 0) (h1) (h2 : P (i + 1)) : Round Try.prog (loopBody Try.f35 8) (fun i : {i : Nat // P i} => rjInv1 a b k c i.1) (fun i => a.ints.length - i.1) e σ' ⟨i, h1⟩ := by
  have hx := ha.w hi
  have hy := hb.w (i := i) (by omega)
  have hli := ha.li
  have e1 := room_fn hx.sum hy.sum
  have e2 := room_fn hx.abs hy.abs
  obtain ⟨x, hxx⟩ : ∃ x, wAt a.ints i = x := ⟨_, rfl⟩
  obtain ⟨y, hyy⟩ : ∃ y, wAt b.ints i = y := ⟨_, rfl⟩
  have hr1 := rd_ws a.ints i hi
  have hr2 := rd_ws b.ints i (by omega)
  have hj : joinW x y = some (valW a b i) ∧ (addW x.sum y.sum).2 = true ∧ (addW x.abs y.abs).2 = true := by
    rw [← hxx, ← hyy]
    unfold errW at h0
    unfold valW
    cases hz : joinW (wAt a.ints i) (wAt b.ints i) with
    | none => rw [hz] at h0; cases h0
    | some z =>
      refine ⟨rfl, ?_⟩
      unfold joinW at hz
      split at hz
      · assumption
      · cases hz
  obtain ⟨hj1, hj2, hj3⟩ := hj
  have hval : valW a b i = ⟨(addW x.sum y.sum).1, (addW x.abs y.abs).1, dgw (vw x.sq + vw y.sq), min x.mn y.mn, max x.mx y.mx⟩ := by
    have : joinW x y = some ⟨(addW x.sum y.sum).1, (addW x.abs y.abs).1, dgw (vw x.sq + vw y.sq), min x.mn y.mn, max x.mx y.mx⟩ := if_pos ⟨hj2, hj3⟩
    rw [this] at hj1; injection hj1 with hj1; exact hj1.symm
  rw [hxx, hyy] at e1 e2
  rw [hxx] at hx hr1; rw [hyy] at hy hr2
  rw [hj2] at e1
  rw [hj3] at e2
  have f1 := num02_ok (l := x.sq) (by have := hx.len; omega) hx.sq
  have f2 := num02_ok (l := y.sq) (by have := hy.len; omega) hy.sq
  have n1 := vw_nd hx.sq
  have n2 := vw_nd hy.sq
  have lx := hx.len
  have ly := hy.len
  have f3 := add01_ok (vw x.sq : Nat) (vw y.sq : Nat) (by omega) (by omega)
  have f4 := of02_ok (vw x.sq + vw y.sq) (Nat.le_trans (nd_words hx.sq hy.sq lx ly) (by decide))
  rw [Int.natCast_add] at f4
  have hz := wsL_len (accW a b i)
  rw [accW_len] at hz
  have hacc := accW_succ a b i
  rw [hval] at hacc
  clear hval hj1
  refine Round.on [(69, Hint.val (AV.v (Value.bool true))), (76, Hint.val (wholeA x)), (81, Hint.val (wholeA y)), (87, Hint.call (Inst.mk [iz x.sum, iz y.sum] [] (AV.tup [iz (addW x.sum y.sum).fst, bz true]) [])), (95, Hint.call (Inst.mk [iz x.abs, iz y.abs] [] (AV.tup [iz (addW x.abs y.abs).fst, bz true]) [])), (107, Hint.call (Inst.mk [wA x.sq] [] (numA (↑(vw x.sq) : Int)) [])), (110, Hint.call (Inst.mk [wA y.sq] [] (numA (↑(vw y.sq) : Int)) [])), (111, Hint.call (Inst.mk [numA (↑(vw x.sq) : Int), numA (↑(vw y.sq) : Int)] [] (numA ((↑(vw x.sq) : Int) + (↑(vw y.sq) : Int))) [])), (117, Hint.call (Inst.mk [numA ((↑(vw x.sq) : Int) + (↑(vw y.sq) : Int))] [] (wA (dgw (vw x.sq + vw y.sq))) [])), (122, Hint.val (AV.v (Value.int IntKind.i64 (min x.mn y.mn)))), (127, Hint.val (AV.v (Value.int IntKind.i64 (max x.mx y.mx)))), (71, Hint.val (AV.v (Value.int IntKind.i64 (↑(i + (1 : Nat)) : Int))))] [] ⟨i + 1, h2⟩ [(2 : Nat) = (2 : Nat) ∧ (0 : Nat) = (0 : Nat), (3 : Nat) = (3 : Nat) ∧ (0 : Nat) = (0 : Nat), (4 : Nat) = (4 : Nat) ∧ (0 : Nat) = (0 : Nat), (8 : Nat) = (8 : Nat) ∧ (0 : Nat) = (0 : Nat), (↑(i + (1 : Nat)) : Int) = (↑(i + (1 : Nat)) : Int), [AV.v (Value.int IntKind.u64 (↑a.key : Int)), AV.v (Value.int IntKind.i64 a.count), AV.lst a.ints.length (wsL a.ints), AV.lst a.nums.length (rsL a.nums)] = [AV.v (Value.int IntKind.u64 (↑a.key : Int)), AV.v (Value.int IntKind.i64 a.count), AV.lst a.ints.length (wsL a.ints), AV.lst a.nums.length (rsL a.nums)], [AV.v (Value.int IntKind.u64 (↑b.key : Int)), AV.v (Value.int IntKind.i64 b.count), AV.lst b.ints.length (wsL b.ints), AV.lst b.nums.length (rsL b.nums)] = [AV.v (Value.int IntKind.u64 (↑b.key : Int)), AV.v (Value.int IntKind.i64 b.count), AV.lst b.ints.length (wsL b.ints), AV.lst b.nums.length (rsL b.nums)], [AV.v (Value.int IntKind.u64 (0 : Int)), AV.v (Value.int IntKind.i64 (0 : Int)), AV.v (Value.slice none (0 : Nat) (0 : Nat)), AV.v (Value.slice none (0 : Nat) (0 : Nat))] = [AV.v (Value.int IntKind.u64 (0 : Int)), AV.v (Value.int IntKind.i64 (0 : Int)), AV.v (Value.slice none (0 : Nat) (0 : Nat)), AV.v (Value.slice none (0 : Nat) (0 : Nat))], [AV.v (Value.int IntKind.u64 k), AV.v (Value.int IntKind.i64 c), AV.row (130 : Nat) (0 : Nat), AV.v (Value.slice none (0 : Nat) (0 : Nat))] = [AV.v (Value.int IntKind.u64 k), AV.v (Value.int IntKind.i64 c), AV.row (130 : Nat) (0 : Nat), AV.v (Value.slice none (0 : Nat) (0 : Nat))], i + (1 : Nat) = i + (1 : Nat) ∧ (0 : Nat) = (0 : Nat) ∧ wsL (accW a b i) ++ [AV.v (Value.int IntKind.i64 (addW x.sum y.sum).fst), AV.v (Value.int IntKind.i64 (addW x.abs y.abs).fst), AV.lst (dgw (vw x.sq + vw y.sq)).length (wL (dgw (vw x.sq + vw y.sq))), AV.v (Value.int IntKind.i64 (min x.mn y.mn)), AV.v (Value.int IntKind.i64 (max x.mx y.mx))] = wsL (accW a b (i + (1 : Nat))), decide ((↑i : Int) < (↑a.ints.length : Int)) = true, (0 : Int) ≤ (↑i : Int) ∧ (↑i : Int) < (↑a.ints.length : Int), rd1 true (5 : Nat) (wsL a.ints) ((↑i : Int).toNat * (5 : Nat)) = some (AV.agg [AV.v (Value.int IntKind.i64 x.sum), AV.v (Value.int IntKind.i64 x.abs), AV.lst x.sq.length (wL x.sq), AV.v (Value.int IntKind.i64 x.mn), AV.v (Value.int IntKind.i64 x.mx)]), (0 : Int) ≤ (↑i : Int) ∧ (↑i : Int) < (↑b.ints.length : Int), rd1 true (5 : Nat) (wsL b.ints) ((↑i : Int).toNat * (5 : Nat)) = some (AV.agg [AV.v (Value.int IntKind.i64 y.sum), AV.v (Value.int IntKind.i64 y.abs), AV.lst y.sq.length (wL y.sq), AV.v (Value.int IntKind.i64 y.mn), AV.v (Value.int IntKind.i64 y.mx)]), x.sum = x.sum ∧ y.sum = y.sum ∧ True, FnOk Try.prog (69 : Nat) (Inst.mk [AV.v (Value.int IntKind.i64 x.sum), AV.v (Value.int IntKind.i64 y.sum)] [] (AV.tup [AV.v (Value.int IntKind.i64 (addW x.sum y.sum).fst), AV.v (Value.bool true)]) []), x.abs = x.abs ∧ y.abs = y.abs ∧ True, FnOk Try.prog (69 : Nat) (Inst.mk [AV.v (Value.int IntKind.i64 x.abs), AV.v (Value.int IntKind.i64 y.abs)] [] (AV.tup [AV.v (Value.int IntKind.i64 (addW x.abs y.abs).fst), AV.v (Value.bool true)]) []), (x.sq.length = x.sq.length ∧ wL x.sq = wL x.sq) ∧ True, FnOk Try.prog (71 : Nat) (Inst.mk [AV.lst x.sq.length (wL x.sq)] [] (AV.agg [AV.v (Value.bool false), AV.lst (dig (↑(vw x.sq) : Int).natAbs).length (dL (dig (↑(vw x.sq) : Int).natAbs))]) []), (y.sq.length = y.sq.length ∧ wL y.sq = wL y.sq) ∧ True, FnOk Try.prog (71 : Nat) (Inst.mk [AV.lst y.sq.length (wL y.sq)] [] (AV.agg [AV.v (Value.bool false), AV.lst (dig (↑(vw y.sq) : Int).natAbs).length (dL (dig (↑(vw y.sq) : Int).natAbs))]) []), [AV.v (Value.bool false), AV.lst (dig (↑(vw x.sq) : Int).natAbs).length (dL (dig (↑(vw x.sq) : Int).natAbs))] = [AV.v (Value.bool false), AV.lst (dig (↑(vw x.sq) : Int).natAbs).length (dL (dig (↑(vw x.sq) : Int).natAbs))] ∧ [AV.v (Value.bool false), AV.lst (dig (↑(vw y.sq) : Int).natAbs).length (dL (dig (↑(vw y.sq) : Int).natAbs))] = [AV.v (Value.bool false), AV.lst (dig (↑(vw y.sq) : Int).natAbs).length (dL (dig (↑(vw y.sq) : Int).natAbs))] ∧ True, FnOk Try.prog (70 : Nat) (Inst.mk [AV.agg [AV.v (Value.bool false), AV.lst (dig (↑(vw x.sq) : Int).natAbs).length (dL (dig (↑(vw x.sq) : Int).natAbs))], AV.agg [AV.v (Value.bool false), AV.lst (dig (↑(vw y.sq) : Int).natAbs).length (dL (dig (↑(vw y.sq) : Int).natAbs))]] [] (AV.agg [AV.v (Value.bool false), AV.lst (dig ((↑(vw x.sq) : Int) + (↑(vw y.sq) : Int)).natAbs).length (dL (dig ((↑(vw x.sq) : Int) + (↑(vw y.sq) : Int)).natAbs))]) []), [AV.v (Value.bool false), AV.lst (dig ((↑(vw x.sq) : Int) + (↑(vw y.sq) : Int)).natAbs).length (dL (dig ((↑(vw x.sq) : Int) + (↑(vw y.sq) : Int)).natAbs))] = [AV.v (Value.bool false), AV.lst (dig ((↑(vw x.sq) : Int) + (↑(vw y.sq) : Int)).natAbs).length (dL (dig ((↑(vw x.sq) : Int) + (↑(vw y.sq) : Int)).natAbs))] ∧ True, FnOk Try.prog (72 : Nat) (Inst.mk [AV.agg [AV.v (Value.bool false), AV.lst (dig ((↑(vw x.sq) : Int) + (↑(vw y.sq) : Int)).natAbs).length (dL (dig ((↑(vw x.sq) : Int) + (↑(vw y.sq) : Int)).natAbs))]] [] (AV.lst (dgw (vw x.sq + vw y.sq)).length (wL (dgw (vw x.sq + vw y.sq)))) []), (bif false then if x.mn < y.mn then y.mn else x.mn else if y.mn < x.mn then y.mn else x.mn) = min x.mn y.mn, (bif true then if x.mx < y.mx then y.mx else x.mx else if y.mx < x.mx then y.mx else x.mx) = max x.mx y.mx, [AV.v (Value.int IntKind.i64 (addW x.sum y.sum).fst), AV.v (Value.int IntKind.i64 (addW x.abs y.abs).fst), AV.lst (dgw (vw x.sq + vw y.sq)).length (wL (dgw (vw x.sq + vw y.sq))), AV.v (Value.int IntKind.i64 (min x.mn y.mn)), AV.v (Value.int IntKind.i64 (max x.mx y.mx))].length = (5 : Nat), (i + (1 : Nat)) * (56 : Nat) ≤ (140737488355328 : Nat) ∧ i + (1 : Nat) ≤ (140737488355328 : Nat), IntKind.i64.wrap ((↑i : Int) + (1 : Int)) = (↑(i + (1 : Nat)) : Int)] (by kernel_rfl) (by show a.ints.length - (i + 1) < a.ints.length - i; omega) ?_
  ((repeat' refine And.intro ?_ ?_); (iterate 15 (with_reducible rfl)); rotate_left 1; ((with_reducible refine Dt ?_; omega)); (iterate 2 (omega)); ((show rd1 _ _ _ _ = _; assumption)); (iterate 2 (omega)); ((show rd1 _ _ _ _ = _; assumption)); (iterate 2 (with_reducible rfl)); (exact True.intro); ((show FnOk _ _ _; assumption)); (iterate 2 (with_reducible rfl)); (exact True.intro); ((show FnOk _ _ _; assumption)); (iterate 2 (with_reducible rfl)); (exact True.intro); ((show FnOk _ _ _; assumption)); (iterate 2 (with_reducible rfl)); (exact True.intro); ((show FnOk _ _ _; assumption)); (iterate 2 (with_reducible rfl)); (exact True.intro); ((show FnOk _ _ _; assumption)); (with_reducible rfl); (exact True.intro); ((show FnOk _ _ _; assumption)); (iterate 2 ((simp only [cond_true, cond_false]; split <;> omega))); (exact rfl); (iterate 2 (omega)); (exact Wi _ (by omega)); (exact True.intro))
  all_goals first | exact hr1 | exact hr2 | (rw [hacc, ← wsL_snoc]; rfl) | skip
theorem rj1_all (h : errs (errW a b) a.ints.length = 0) : LoopOk Try.prog (loopBody Try.f35 8) (rjInv1 a b k c 0) (.exit 0) (rjInv1 a b k c a.ints.length) := by
  refine LoopOk.of hmo (fun i : {i : Nat // i ≤ a.ints.length} => rjInv1 a b k c i.1) (fun i => a.ints.length - i.1) (fun i => ?_) ⟨0, Nat.zero_le _⟩
  obtain ⟨i, hi⟩ := i
  rcases Nat.lt_or_eq_of_le hi with hlt | rfl
  · exact rj1_on ha hb k c hl _ _ (fun i => i ≤ a.ints.length) i hlt (errs_all h i hlt) _ hlt
  · refine Round.out [(69, Hint.val (AV.v (Value.bool false)))] [] [(2 : Nat) = (2 : Nat) ∧ (0 : Nat) = (0 : Nat), (3 : Nat) = (3 : Nat) ∧ (0 : Nat) = (0 : Nat), (4 : Nat) = (4 : Nat) ∧ (0 : Nat) = (0 : Nat), (8 : Nat) = (8 : Nat) ∧ (0 : Nat) = (0 : Nat), (↑a.ints.length : Int) = (↑a.ints.length : Int), [AV.v (Value.int IntKind.u64 (↑a.key : Int)), AV.v (Value.int IntKind.i64 a.count), AV.lst a.ints.length (wsL a.ints), AV.lst a.nums.length (rsL a.nums)] = [AV.v (Value.int IntKind.u64 (↑a.key : Int)), AV.v (Value.int IntKind.i64 a.count), AV.lst a.ints.length (wsL a.ints), AV.lst a.nums.length (rsL a.nums)], [AV.v (Value.int IntKind.u64 (↑b.key : Int)), AV.v (Value.int IntKind.i64 b.count), AV.lst b.ints.length (wsL b.ints), AV.lst b.nums.length (rsL b.nums)] = [AV.v (Value.int IntKind.u64 (↑b.key : Int)), AV.v (Value.int IntKind.i64 b.count), AV.lst b.ints.length (wsL b.ints), AV.lst b.nums.length (rsL b.nums)], [AV.v (Value.int IntKind.u64 (0 : Int)), AV.v (Value.int IntKind.i64 (0 : Int)), AV.v (Value.slice none (0 : Nat) (0 : Nat)), AV.v (Value.slice none (0 : Nat) (0 : Nat))] = [AV.v (Value.int IntKind.u64 (0 : Int)), AV.v (Value.int IntKind.i64 (0 : Int)), AV.v (Value.slice none (0 : Nat) (0 : Nat)), AV.v (Value.slice none (0 : Nat) (0 : Nat))], [AV.v (Value.int IntKind.u64 k), AV.v (Value.int IntKind.i64 c), AV.row (130 : Nat) (0 : Nat), AV.v (Value.slice none (0 : Nat) (0 : Nat))] = [AV.v (Value.int IntKind.u64 k), AV.v (Value.int IntKind.i64 c), AV.row (130 : Nat) (0 : Nat), AV.v (Value.slice none (0 : Nat) (0 : Nat))], a.ints.length = a.ints.length ∧ (0 : Nat) = (0 : Nat) ∧ wsL (accW a b a.ints.length) = wsL (accW a b a.ints.length), decide ((↑a.ints.length : Int) < (↑a.ints.length : Int)) = false] (by kernel_rfl) ?_
    ((repeat' refine And.intro ?_ ?_); (iterate 16 (with_reducible rfl)); ((with_reducible refine Df ?_; omega)); (exact True.intro))
theorem rj1_no {m : Nat} (hm : m < a.ints.length) {e : Nat} (he : errW a b m = e) (h0 : e ≠ 0) (hlow : ∀ i, i < m → errW a b i = 0) : LoopOk Try.prog (loopBody Try.f35 8) (rjInv1 a b k c 0) .ret (rjEnd (e : Nat)) := by
  refine LoopOk.of hmo (fun i : {i : Nat // i ≤ m} => rjInv1 a b k c i.1) (fun i => a.ints.length - i.1) (fun i => ?_) ⟨0, Nat.zero_le _⟩
  obtain ⟨i, hi⟩ := i
  rcases Nat.lt_or_eq_of_le hi with hlt | rfl
  · exact rj1_on ha hb k c hl _ _ (fun i => i ≤ m) i (by omega) (hlow i hlt) _ hlt
  · have hx := ha.w hm
    have hy := hb.w (i := i) (by omega)
    have hli := ha.li
    have e1 := room_fn hx.sum hy.sum
    have e2 := room_fn hx.abs hy.abs
    have hr1 := rd_ws a.ints i hm
    have hr2 := rd_ws b.ints i (by omega)
    obtain ⟨x, hxx⟩ : ∃ x, wAt a.ints i = x := ⟨_, rfl⟩
    obtain ⟨y, hyy⟩ : ∃ y, wAt b.ints i = y := ⟨_, rfl⟩
    have hj : e = 10 ∧ ¬ ((addW x.sum y.sum).2 = true ∧ (addW x.abs y.abs).2 = true) := by
      rw [← he] at h0 ⊢
      rw [← hxx, ← hyy]
      unfold errW at h0 ⊢
      cases hz : joinW (wAt a.ints i) (wAt b.ints i) with
      | none =>
        refine ⟨rfl, fun hc => ?_⟩
        unfold joinW at hz
        rw [if_pos hc] at hz; cases hz
      | some z => rw [hz] at h0; exact absurd rfl h0
    obtain ⟨rfl, hj⟩ := hj
    rw [hxx, hyy] at e1 e2
    rw [hxx] at hx hr1; rw [hyy] at hy hr2
    cases g1 : (addW x.sum y.sum).2 with
    | false =>
      rw [g1] at e1
      refine Round.out [(69, Hint.val (AV.v (Value.bool true))), (76, Hint.val (wholeA x)), (81, Hint.val (wholeA y)), (87, Hint.call (Inst.mk [iz x.sum, iz y.sum] [] (AV.tup [iz (addW x.sum y.sum).fst, bz false]) [])), (95, Hint.call (Inst.mk [iz x.abs, iz y.abs] [] (AV.tup [iz (addW x.abs y.abs).fst, bz (addW x.abs y.abs).snd]) []))] [] [(4 : Nat) = (4 : Nat) ∧ (0 : Nat) = (0 : Nat), (10 : Int) = (↑(10 : Nat) : Int), [AV.v (Value.int IntKind.u64 (0 : Int)), AV.v (Value.int IntKind.i64 (0 : Int)), AV.v (Value.slice none (0 : Nat) (0 : Nat)), AV.v (Value.slice none (0 : Nat) (0 : Nat))] = [AV.v (Value.int IntKind.u64 (0 : Int)), AV.v (Value.int IntKind.i64 (0 : Int)), AV.v (Value.slice none (0 : Nat) (0 : Nat)), AV.v (Value.slice none (0 : Nat) (0 : Nat))], decide ((↑i : Int) < (↑a.ints.length : Int)) = true, (0 : Int) ≤ (↑i : Int) ∧ (↑i : Int) < (↑a.ints.length : Int), rd1 true (5 : Nat) (wsL a.ints) ((↑i : Int).toNat * (5 : Nat)) = some (AV.agg [AV.v (Value.int IntKind.i64 x.sum), AV.v (Value.int IntKind.i64 x.abs), AV.lst x.sq.length (wL x.sq), AV.v (Value.int IntKind.i64 x.mn), AV.v (Value.int IntKind.i64 x.mx)]), (0 : Int) ≤ (↑i : Int) ∧ (↑i : Int) < (↑b.ints.length : Int), rd1 true (5 : Nat) (wsL b.ints) ((↑i : Int).toNat * (5 : Nat)) = some (AV.agg [AV.v (Value.int IntKind.i64 y.sum), AV.v (Value.int IntKind.i64 y.abs), AV.lst y.sq.length (wL y.sq), AV.v (Value.int IntKind.i64 y.mn), AV.v (Value.int IntKind.i64 y.mx)]), x.sum = x.sum ∧ y.sum = y.sum ∧ True, FnOk Try.prog (69 : Nat) (Inst.mk [AV.v (Value.int IntKind.i64 x.sum), AV.v (Value.int IntKind.i64 y.sum)] [] (AV.tup [AV.v (Value.int IntKind.i64 (addW x.sum y.sum).fst), AV.v (Value.bool false)]) []), x.abs = x.abs ∧ y.abs = y.abs ∧ True, FnOk Try.prog (69 : Nat) (Inst.mk [AV.v (Value.int IntKind.i64 x.abs), AV.v (Value.int IntKind.i64 y.abs)] [] (AV.tup [AV.v (Value.int IntKind.i64 (addW x.abs y.abs).fst), AV.v (Value.bool (addW x.abs y.abs).snd)]) [])] (by kernel_rfl) ?_
      ((repeat' refine And.intro ?_ ?_); (iterate 2 (with_reducible rfl)); (omega); (with_reducible rfl); ((with_reducible refine Dt ?_; omega)); (iterate 2 (omega)); ((show rd1 _ _ _ _ = _; assumption)); (iterate 2 (omega)); ((show rd1 _ _ _ _ = _; assumption)); (iterate 2 (with_reducible rfl)); (exact True.intro); ((show FnOk _ _ _; assumption)); (iterate 2 (with_reducible rfl)); (exact True.intro); ((show FnOk _ _ _; assumption)); (exact True.intro))
      all_goals first | exact hr1 | exact hr2 | skip
    | true =>
      have g2 : (addW x.abs y.abs).2 = false := by
        cases g2 : (addW x.abs y.abs).2 with
        | false => rfl
        | true => exact absurd ⟨g1, g2⟩ hj
      rw [g1] at e1
      rw [g2] at e2
      refine Round.out [(69, Hint.val (AV.v (Value.bool true))), (76, Hint.val (wholeA x)), (81, Hint.val (wholeA y)), (87, Hint.call (Inst.mk [iz x.sum, iz y.sum] [] (AV.tup [iz (addW x.sum y.sum).fst, bz true]) [])), (95, Hint.call (Inst.mk [iz x.abs, iz y.abs] [] (AV.tup [iz (addW x.abs y.abs).fst, bz false]) []))] [] [(4 : Nat) = (4 : Nat) ∧ (0 : Nat) = (0 : Nat), (10 : Int) = (↑(10 : Nat) : Int), [AV.v (Value.int IntKind.u64 (0 : Int)), AV.v (Value.int IntKind.i64 (0 : Int)), AV.v (Value.slice none (0 : Nat) (0 : Nat)), AV.v (Value.slice none (0 : Nat) (0 : Nat))] = [AV.v (Value.int IntKind.u64 (0 : Int)), AV.v (Value.int IntKind.i64 (0 : Int)), AV.v (Value.slice none (0 : Nat) (0 : Nat)), AV.v (Value.slice none (0 : Nat) (0 : Nat))], decide ((↑i : Int) < (↑a.ints.length : Int)) = true, (0 : Int) ≤ (↑i : Int) ∧ (↑i : Int) < (↑a.ints.length : Int), rd1 true (5 : Nat) (wsL a.ints) ((↑i : Int).toNat * (5 : Nat)) = some (AV.agg [AV.v (Value.int IntKind.i64 x.sum), AV.v (Value.int IntKind.i64 x.abs), AV.lst x.sq.length (wL x.sq), AV.v (Value.int IntKind.i64 x.mn), AV.v (Value.int IntKind.i64 x.mx)]), (0 : Int) ≤ (↑i : Int) ∧ (↑i : Int) < (↑b.ints.length : Int), rd1 true (5 : Nat) (wsL b.ints) ((↑i : Int).toNat * (5 : Nat)) = some (AV.agg [AV.v (Value.int IntKind.i64 y.sum), AV.v (Value.int IntKind.i64 y.abs), AV.lst y.sq.length (wL y.sq), AV.v (Value.int IntKind.i64 y.mn), AV.v (Value.int IntKind.i64 y.mx)]), x.sum = x.sum ∧ y.sum = y.sum ∧ True, FnOk Try.prog (69 : Nat) (Inst.mk [AV.v (Value.int IntKind.i64 x.sum), AV.v (Value.int IntKind.i64 y.sum)] [] (AV.tup [AV.v (Value.int IntKind.i64 (addW x.sum y.sum).fst), AV.v (Value.bool true)]) []), x.abs = x.abs ∧ y.abs = y.abs ∧ True, FnOk Try.prog (69 : Nat) (Inst.mk [AV.v (Value.int IntKind.i64 x.abs), AV.v (Value.int IntKind.i64 y.abs)] [] (AV.tup [AV.v (Value.int IntKind.i64 (addW x.abs y.abs).fst), AV.v (Value.bool false)]) [])] (by kernel_rfl) ?_
      ((repeat' refine And.intro ?_ ?_); (iterate 2 (with_reducible rfl)); (omega); (with_reducible rfl); ((with_reducible refine Dt ?_; omega)); (iterate 2 (omega)); ((show rd1 _ _ _ _ = _; assumption)); (iterate 2 (omega)); ((show rd1 _ _ _ _ = _; assumption)); (iterate 2 (with_reducible rfl)); (exact True.intro); ((show FnOk _ _ _; assumption)); (iterate 2 (with_reducible rfl)); (exact True.intro); ((show FnOk _ _ _; assumption)); (exact True.intro))
      all_goals first | exact hr1 | exact hr2 | skip
end
end Go.Proofs.Ytfhmaincnlaapaa.Sy
