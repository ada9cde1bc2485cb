/-
  NUMBERS OF WORDS OF 32 BITS: the same laws as those of digits (printed by gen_wordmath.py).
  bushelref01 on trees: Cmp, Mul, Power, Two, Uint, Fits, Int.
-/
import Derived.Test.YtfhmaincnlaapaaUnRefRead
import Derived.Test.YtfhmaincnlaapaaUnNumMath
import Derived.Test.YtfhmaincnlaapaaUnTRef01
namespace Go.Proofs.Ytfhmaincnlaapaa.Sy
open Go.ChangeShapes Go.WideShapes Go.ChangeAt Go.RowKit
set_option linter.unusedVariables false
set_option linter.unusedSimpArgs false
def cmpZ (x y : Int) : Int := if x < y then -1 else if y < x then 1 else 0
theorem cmp01_ok (x y : Int) (hx : nd x ≤ 100000000) (hy : nd y ≤ 100000000) : FnOk Try.prog 137 ⟨[numA x, numA y], [], iz (cmpZ x y), []⟩ := by
  have tx := Td_dig x.natAbs
  have ty := Td_dig y.natAbs
  have hx' : (dig x.natAbs).length ≤ 100000000 := hx
  have hy' : (dig y.natAbs).length ≤ 100000000 := hy
  by_cases h1 : x < 0 <;> by_cases h2 : y < 0
  · have hs : (decide (x < 0) != decide (y < 0)) = false := by simp [h1, h2]
    have e1 : decide (x < 0) = true := decide_eq_true h1
    have h0 := less_ok ty tx (by omega) (by omega)
    rw [vd_dig, vd_dig, show cmpN y.natAbs x.natAbs = cmpZ x y by unfold cmpN cmpZ; (repeat' split) <;> omega] at h0
    refine fn_go hmo Try.func137 (by kernel_rfl) [(6, Hint.val (AV.v (Value.bool true))), (8, Hint.val (AV.v (Value.bool true))), (13, Hint.val (AV.v (Value.bool true))), (18, Hint.call (Inst.mk [dA (dig y.natAbs), dA (dig x.natAbs)] [] (iz (cmpZ x y)) []))] [] [cmpZ x y = cmpZ x y, some (AV.v (Value.bool (decide (x < (0 : Int))))) = some (AV.v (Value.bool true)), some (AV.v (Value.bool (decide (y < (0 : Int))))) = some (AV.v (Value.bool true)), some (AV.v (Value.bool (decide (x < (0 : Int))))) = some (AV.v (Value.bool true)), ((dig y.natAbs).length = (dig y.natAbs).length ∧ dL (dig y.natAbs) = dL (dig y.natAbs)) ∧ ((dig x.natAbs).length = (dig x.natAbs).length ∧ dL (dig x.natAbs) = dL (dig x.natAbs)) ∧ True, FnOk Try.prog (133 : Nat) (Inst.mk [AV.lst (dig y.natAbs).length (dL (dig y.natAbs)), AV.lst (dig x.natAbs).length (dL (dig x.natAbs))] [] (AV.v (Value.int IntKind.i64 (cmpZ x y))) [])] (by kernel_rfl) ?_
    ((repeat' refine And.intro ?_ ?_); (with_reducible rfl); ((refine someB ?_; with_reducible assumption)); ((refine someB ?_; refine Dt ?_; omega)); ((refine someB ?_; with_reducible assumption)); (iterate 4 (with_reducible rfl)); (exact True.intro); ((show FnOk _ _ _; assumption)); (exact True.intro))
  · have hs : (decide (x < 0) != decide (y < 0)) = true := by simp [h1, h2]
    rw [show cmpZ x y = -1 by unfold cmpZ; rw [if_pos (by omega)]]
    refine fn_go hmo Try.func137 (by kernel_rfl) [(6, Hint.val (AV.v (Value.bool true))), (8, Hint.val (AV.v (Value.bool false))), (11, Hint.val (AV.v (Value.bool true)))] [] [(-1 : Int) = (-1 : Int), some (AV.v (Value.bool (decide (x < (0 : Int))))) = some (AV.v (Value.bool true)), some (AV.v (Value.bool (decide (y < (0 : Int))))) = some (AV.v (Value.bool false)), some (AV.v (Value.bool (decide (x < (0 : Int))))) = some (AV.v (Value.bool true))] (by kernel_rfl) ?_
    ((repeat' refine And.intro ?_ ?_); (with_reducible rfl); ((refine someB ?_; refine Dt ?_; omega)); ((refine someB ?_; refine Df ?_; omega)); ((refine someB ?_; refine Dt ?_; omega)); (exact True.intro))
  · have hs : (decide (x < 0) != decide (y < 0)) = true := by simp [h1, h2]
    rw [show cmpZ x y = 1 by unfold cmpZ; rw [if_neg (by omega), if_pos (by omega)]]
    refine fn_go hmo Try.func137 (by kernel_rfl) [(6, Hint.val (AV.v (Value.bool false))), (8, Hint.val (AV.v (Value.bool true))), (11, Hint.val (AV.v (Value.bool false)))] [] [(1 : Int) = (1 : Int), some (AV.v (Value.bool (decide (x < (0 : Int))))) = some (AV.v (Value.bool false)), some (AV.v (Value.bool (decide (y < (0 : Int))))) = some (AV.v (Value.bool true)), some (AV.v (Value.bool (decide (x < (0 : Int))))) = some (AV.v (Value.bool false))] (by kernel_rfl) ?_
    ((repeat' refine And.intro ?_ ?_); (with_reducible rfl); ((refine someB ?_; refine Df ?_; omega)); ((refine someB ?_; refine Dt ?_; omega)); ((refine someB ?_; refine Df ?_; omega)); (exact True.intro))
  · have hs : (decide (x < 0) != decide (y < 0)) = false := by simp [h1, h2]
    have e1 : decide (x < 0) = false := decide_eq_false h1
    have h0 := less_ok tx ty (by omega) (by omega)
    rw [vd_dig, vd_dig, show cmpN x.natAbs y.natAbs = cmpZ x y by unfold cmpN cmpZ; (repeat' split) <;> omega] at h0
    refine fn_go hmo Try.func137 (by kernel_rfl) [(6, Hint.val (AV.v (Value.bool false))), (8, Hint.val (AV.v (Value.bool false))), (13, Hint.val (AV.v (Value.bool false))), (23, Hint.call (Inst.mk [dA (dig x.natAbs), dA (dig y.natAbs)] [] (iz (cmpZ x y)) []))] [] [cmpZ x y = cmpZ x y, some (AV.v (Value.bool (decide (x < (0 : Int))))) = some (AV.v (Value.bool false)), some (AV.v (Value.bool (decide (y < (0 : Int))))) = some (AV.v (Value.bool false)), some (AV.v (Value.bool (decide (x < (0 : Int))))) = some (AV.v (Value.bool false)), ((dig x.natAbs).length = (dig x.natAbs).length ∧ dL (dig x.natAbs) = dL (dig x.natAbs)) ∧ ((dig y.natAbs).length = (dig y.natAbs).length ∧ dL (dig y.natAbs) = dL (dig y.natAbs)) ∧ True, FnOk Try.prog (133 : Nat) (Inst.mk [AV.lst (dig x.natAbs).length (dL (dig x.natAbs)), AV.lst (dig y.natAbs).length (dL (dig y.natAbs))] [] (AV.v (Value.int IntKind.i64 (cmpZ x y))) [])] (by kernel_rfl) ?_
    ((repeat' refine And.intro ?_ ?_); (with_reducible rfl); ((refine someB ?_; with_reducible assumption)); ((refine someB ?_; refine Df ?_; omega)); ((refine someB ?_; with_reducible assumption)); (iterate 4 (with_reducible rfl)); (exact True.intro); ((show FnOk _ _ _; assumption)); (exact True.intro))
/-! ### Mul -/
def mlX (a b o : List Nat) (i k c : Nat) : Nat := dg o (i + k) + dg a i * dg b k + c
def mlK (a b : List Nat) (i : Nat) (o : List Nat) : Nat → List Nat × Nat
  | 0 => (o, 0)
  | k + 1 => ((mlK a b i o k).1.set (i + k) (mlX a b (mlK a b i o k).1 i k (mlK a b i o k).2 % 1000), mlX a b (mlK a b i o k).1 i k (mlK a b i o k).2 / 1000)
def mlR (a b : List Nat) : Nat → List Nat
  | 0 => List.replicate (a.length + b.length + 1) 0
  | i + 1 => (mlK a b i (mlR a b i) b.length).1.set (i + b.length) (mlK a b i (mlR a b i) b.length).2
theorem mlK_ok {a b : List Nat} (ha : Td a) (hb : Td b) {i : Nat} (hi : i < a.length) {o : List Nat} (h : MulR a b o i) : ∀ k, k ≤ b.length → MulI a b (mlK a b i o k).1 i k (mlK a b i o k).2
  | 0, _ => h.start
  | k + 1, hk => (mlK_ok ha hb hi h k (by omega)).succ ha hb hi (by omega)
theorem mlR_ok {a b : List Nat} (ha : Td a) (hb : Td b) : ∀ i, i ≤ a.length → MulR a b (mlR a b i) i
  | 0, _ => MulR.zero a b
  | i + 1, hi => (mlK_ok ha hb (by omega) (mlR_ok ha hb i (by omega)) b.length (Nat.le_refl _)).end_ (by omega)
theorem dL_set (l : List Nat) (k x : Nat) (h : k < l.length) : (dL l).take (k * 1) ++ [iz (x : Nat)] ++ (dL l).drop (k * 1 + 1) = dL (l.set k x) := by
  rw [Nat.mul_one, dL_take, dL_drop, show [iz (x : Nat)] = dL [x] from rfl, ← dL_app, ← dL_app]
  congr 1
  rw [List.set_eq_take_append_cons_drop, if_pos h, List.append_assoc]; rfl
def mk (d e : List Nat) (i k : Nat) : List Nat × Nat := mlK d e i (mlR d e i) k
def mkX (d e : List Nat) (i k : Nat) : Nat := mlX d e (mk d e i k).1 i k (mk d e i k).2
theorem mk_ok {d e : List Nat} (hd : Td d) (he : Td e) {i k : Nat} (hi : i < d.length) (hk : k ≤ e.length) : MulI d e (mk d e i k).1 i k (mk d e i k).2 := mlK_ok hd he hi (mlR_ok hd he i (by omega)) k hk
def invMlK (u v : Bool) (d e : List Nat) (i k : Nat) : AS := ⟨[(2, .ptr 2 0), (3, .ptr 3 0), (4, .ptr 4 0), (5, .row 18 0), (6, iz (i : Nat)), (7, iz ((mk d e i k).2 : Nat)), (8, iz (k : Nat))], [numO 2 u (dA d), numO 3 v (dA e), numO 4 false (.v (.slice none 0 0)), rowI 18 (d.length + e.length + 1) (dL (mk d e i k).1)], 77, []⟩
theorem mlk_loop {d e : List Nat} (u v : Bool) (hd : Td d) (he : Td e) (hl : d.length + e.length ≤ 2000000) {i : Nat} (hi : i < d.length) (k : {k : Nat // k ≤ e.length}) : LoopOk Try.prog (loopBody Try.f92 7) (invMlK u v d e i k.1) (.exit 2) (invMlK u v d e i e.length) := by
  refine LoopOk.of hmo (fun k : {k : Nat // k ≤ e.length} => invMlK u v d e i k.1) (fun k => e.length - k.1) (fun k => ?_) k
  obtain ⟨k, hk⟩ := k
  rcases Nat.lt_or_eq_of_le hk with hlt | rfl
  · obtain ⟨m1, m2, m3, m4, m5⟩ := mk_ok hd he hi hk
    have hz := dL_len (mk d e i k).1
    have x1 := dg_lt d i hd
    have x2 := dg_lt e k he
    have x3 := dg_lt _ (i + k) m2
    have hbd := prod_bd x1 x2 x3 m4
    have hX : mkX d e i k = dg (mk d e i k).1 (i + k) + dg d i * dg e k + (mk d e i k).2 := rfl
    refine Round.on [(30, Hint.val (AV.v (Value.bool true))), (36, Hint.val (AV.v (Value.int IntKind.i64 (↑(i + k) : Int)))), (38, Hint.val (iz (↑(dg (mk d e i k).fst (i + k)) : Int))), (43, Hint.val (iz (↑(dg d i) : Int))), (48, Hint.val (iz (↑(dg e k) : Int))), (49, Hint.val (AV.v (Value.int IntKind.i64 (↑(dg d i * dg e k) : Int)))), (50, Hint.val (AV.v (Value.int IntKind.i64 (↑(dg (mk d e i k).fst (i + k) + dg d i * dg e k) : Int)))), (52, Hint.val (AV.v (Value.int IntKind.i64 (↑(dg (mk d e i k).fst (i + k) + dg d i * dg e k + (mk d e i k).snd) : Int)))), (56, Hint.val (AV.v (Value.int IntKind.i64 (↑(i + k) : Int)))), (58, Hint.val (AV.v (Value.int IntKind.i64 (↑((dg (mk d e i k).fst (i + k) + dg d i * dg e k + (mk d e i k).snd) % (1000 : Nat)) : Int)))), (61, Hint.val (AV.v (Value.int IntKind.i64 (↑((dg (mk d e i k).fst (i + k) + dg d i * dg e k + (mk d e i k).snd) / (1000 : Nat)) : Int)))), (32, Hint.val (AV.v (Value.int IntKind.i64 (↑(k + (1 : Nat)) : Int))))] [] ⟨k + 1, hlt⟩ [(2 : Nat) = (2 : Nat) ∧ (0 : Nat) = (0 : Nat), (3 : Nat) = (3 : Nat) ∧ (0 : Nat) = (0 : Nat), (4 : Nat) = (4 : Nat) ∧ (0 : Nat) = (0 : Nat), (18 : Nat) = (18 : Nat) ∧ (0 : Nat) = (0 : Nat), (↑i : Int) = (↑i : Int), (↑((dg (mk d e i k).fst (i + k) + dg d i * dg e k + (mk d e i k).snd) / (1000 : Nat)) : Int) = (↑(mk d e i (k + (1 : Nat))).snd : Int), (↑(k + (1 : Nat)) : Int) = (↑(k + (1 : Nat)) : Int), [AV.v (Value.bool u), AV.lst d.length (dL d)] = [AV.v (Value.bool u), AV.lst d.length (dL d)], [AV.v (Value.bool v), AV.lst e.length (dL e)] = [AV.v (Value.bool v), AV.lst e.length (dL e)], [AV.v (Value.bool false), AV.v (Value.slice none (0 : Nat) (0 : Nat))] = [AV.v (Value.bool false), AV.v (Value.slice none (0 : Nat) (0 : Nat))], d.length + e.length + (1 : Nat) = d.length + e.length + (1 : Nat) ∧ (0 : Nat) = (0 : Nat) ∧ List.take ((↑(i + k) : Int).toNat * (1 : Nat)) (dL (mk d e i k).fst) ++ [AV.v (Value.int IntKind.i64 (↑((dg (mk d e i k).fst (i + k) + dg d i * dg e k + (mk d e i k).snd) % (1000 : Nat)) : Int))] ++ List.drop ((↑(i + k) : Int).toNat * (1 : Nat) + [AV.v (Value.int IntKind.i64 (↑((dg (mk d e i k).fst (i + k) + dg d i * dg e k + (mk d e i k).snd) % (1000 : Nat)) : Int))].length) (dL (mk d e i k).fst) = dL (mk d e i (k + (1 : Nat))).fst, decide ((↑k : Int) < (↑e.length : Int)) = true, IntKind.i64.wrap ((↑i : Int) + (↑k : Int)) = (↑(i + k) : Int), (0 : Int) ≤ (↑(i + k) : Int) ∧ (↑(i + k) : Int) < (↑(d.length + e.length + (1 : Nat)) : Int), rd1 false (1 : Nat) (dL (mk d e i k).fst) ((↑(i + k) : Int).toNat * (1 : Nat)) = some (AV.v (Value.int IntKind.i64 (↑(dg (mk d e i k).fst (i + k)) : Int))), (0 : Int) ≤ (↑i : Int) ∧ (↑i : Int) < (↑d.length : Int), rd1 false (1 : Nat) (dL d) ((↑i : Int).toNat * (1 : Nat)) = some (AV.v (Value.int IntKind.i64 (↑(dg d i) : Int))), (0 : Int) ≤ (↑k : Int) ∧ (↑k : Int) < (↑e.length : Int), rd1 false (1 : Nat) (dL e) ((↑k : Int).toNat * (1 : Nat)) = some (AV.v (Value.int IntKind.i64 (↑(dg e k) : Int))), IntKind.i64.wrap ((↑(dg d i) : Int) * (↑(dg e k) : Int)) = (↑(dg d i * dg e k) : Int), IntKind.i64.wrap ((↑(dg (mk d e i k).fst (i + k)) : Int) + (↑(dg d i * dg e k) : Int)) = (↑(dg (mk d e i k).fst (i + k) + dg d i * dg e k) : Int), IntKind.i64.wrap ((↑(dg (mk d e i k).fst (i + k) + dg d i * dg e k) : Int) + (↑(mk d e i k).snd : Int)) = (↑(dg (mk d e i k).fst (i + k) + dg d i * dg e k + (mk d e i k).snd) : Int), IntKind.i64.wrap ((↑i : Int) + (↑k : Int)) = (↑(i + k) : Int), (↑(dg (mk d e i k).fst (i + k) + dg d i * dg e k + (mk d e i k).snd) : Int).tmod (1000 : Int) = (↑((dg (mk d e i k).fst (i + k) + dg d i * dg e k + (mk d e i k).snd) % (1000 : Nat)) : Int), (1000 : Int) ≠ (0 : Int), (0 : Int) ≤ (↑(i + k) : Int) ∧ (↑(i + k) : Int) < (↑(d.length + e.length + (1 : Nat)) : Int), (↑(i + k) : Int).toNat * (1 : Nat) + [AV.v (Value.int IntKind.i64 (↑((dg (mk d e i k).fst (i + k) + dg d i * dg e k + (mk d e i k).snd) % (1000 : Nat)) : Int))].length ≤ (dL (mk d e i k).fst).length, IntKind.i64.wrap ((↑(dg (mk d e i k).fst (i + k) + dg d i * dg e k + (mk d e i k).snd) : Int).tdiv (1000 : Int)) = (↑((dg (mk d e i k).fst (i + k) + dg d i * dg e k + (mk d e i k).snd) / (1000 : Nat)) : Int), (1000 : Int) ≠ (0 : Int), IntKind.i64.wrap ((↑k : Int) + (1 : Int)) = (↑(k + (1 : Nat)) : Int)] (by kernel_rfl) (by show e.length - (k + 1) < e.length - k; omega) ?_
    ((repeat' refine And.intro ?_ ?_); (iterate 9 (with_reducible rfl)); (exact tdivN _ _); (iterate 6 (with_reducible rfl)); rotate_left 1; ((with_reducible refine Dt ?_; omega)); (exact Wi _ (by omega)); (iterate 2 (omega)); rotate_left 1; (iterate 2 (omega)); rotate_left 1; (iterate 2 (omega)); rotate_left 1; (iterate 4 (exact Wi _ (by omega))); (exact tmodN _ _); (iterate 3 (omega)); ((simp only [List.length_cons, List.length_nil]; omega)); (exact tdivI _ _ _ (by rfl) (by omega)); (omega); (exact Wi _ (by omega)); (exact True.intro))
    all_goals first | exact rd_dL _ _ (by omega) | exact dL_set _ _ _ (by omega) | skip
  · refine Round.out [(30, Hint.val (AV.v (Value.bool false)))] [] [(2 : Nat) = (2 : Nat) ∧ (0 : Nat) = (0 : Nat), (3 : Nat) = (3 : Nat) ∧ (0 : Nat) = (0 : Nat), (4 : Nat) = (4 : Nat) ∧ (0 : Nat) = (0 : Nat), (18 : Nat) = (18 : Nat) ∧ (0 : Nat) = (0 : Nat), (↑i : Int) = (↑i : Int), (↑(mk d e i e.length).snd : Int) = (↑(mk d e i e.length).snd : Int), (↑e.length : Int) = (↑e.length : Int), [AV.v (Value.bool u), AV.lst d.length (dL d)] = [AV.v (Value.bool u), AV.lst d.length (dL d)], [AV.v (Value.bool v), AV.lst e.length (dL e)] = [AV.v (Value.bool v), AV.lst e.length (dL e)], [AV.v (Value.bool false), AV.v (Value.slice none (0 : Nat) (0 : Nat))] = [AV.v (Value.bool false), AV.v (Value.slice none (0 : Nat) (0 : Nat))], d.length + e.length + (1 : Nat) = d.length + e.length + (1 : Nat) ∧ (0 : Nat) = (0 : Nat) ∧ dL (mk d e i e.length).fst = dL (mk d e i e.length).fst, decide ((↑e.length : Int) < (↑e.length : Int)) = false] (by kernel_rfl) ?_
    ((repeat' refine And.intro ?_ ?_); (iterate 17 (with_reducible rfl)); ((with_reducible refine Df ?_; omega)); (exact True.intro))
def invMlR (u v : Bool) (d e : List Nat) (i : Nat) : AS := ⟨[(2, .ptr 2 0), (3, .ptr 3 0), (4, .ptr 4 0), (5, .row 18 0), (6, iz (i : Nat))], [numO 2 u (dA d), numO 3 v (dA e), numO 4 false (.v (.slice none 0 0)), rowI 18 (d.length + e.length + 1) (dL (mlR d e i))], 77, []⟩
theorem mlr_loop {d e : List Nat} (u v : Bool) (hd : Td d) (he : Td e) (hl : d.length + e.length ≤ 2000000) (i : {i : Nat // i ≤ d.length}) : LoopOk Try.prog (loopBody Try.f92 3) (invMlR u v d e i.1) (.exit 0) (invMlR u v d e d.length) := by
  refine LoopOk.of hmo (fun i : {i : Nat // i ≤ d.length} => invMlR u v d e i.1) (fun i => d.length - i.1) (fun i => ?_) i
  obtain ⟨i, hi⟩ := i
  rcases Nat.lt_or_eq_of_le hi with hlt | rfl
  · obtain ⟨m1, m2, m3, m4, m5⟩ := mk_ok hd he hlt (Nat.le_refl e.length)
    have hz := dL_len (mk d e i e.length).1
    have hk := mlk_loop u v hd he hl hlt ⟨0, Nat.zero_le _⟩
    refine Round.on [(23, Hint.val (AV.v (Value.bool true))), (67, Hint.val (AV.v (Value.int IntKind.i64 (↑(i + e.length) : Int)))), (25, Hint.val (AV.v (Value.int IntKind.i64 (↑(i + (1 : Nat)) : Int))))] [(7, ⟨.exit 2, invMlK u v d e i 0, invMlK u v d e i e.length⟩)] ⟨i + 1, hlt⟩ [(2 : Nat) = (2 : Nat) ∧ (0 : Nat) = (0 : Nat), (3 : Nat) = (3 : Nat) ∧ (0 : Nat) = (0 : Nat), (4 : Nat) = (4 : Nat) ∧ (0 : Nat) = (0 : Nat), (18 : Nat) = (18 : Nat) ∧ (0 : Nat) = (0 : Nat), (↑(i + (1 : Nat)) : Int) = (↑(i + (1 : Nat)) : Int), [AV.v (Value.bool u), AV.lst d.length (dL d)] = [AV.v (Value.bool u), AV.lst d.length (dL d)], [AV.v (Value.bool v), AV.lst e.length (dL e)] = [AV.v (Value.bool v), AV.lst e.length (dL e)], [AV.v (Value.bool false), AV.v (Value.slice none (0 : Nat) (0 : Nat))] = [AV.v (Value.bool false), AV.v (Value.slice none (0 : Nat) (0 : Nat))], d.length + e.length + (1 : Nat) = d.length + e.length + (1 : Nat) ∧ (0 : Nat) = (0 : Nat) ∧ List.take ((↑(i + e.length) : Int).toNat * (1 : Nat)) (dL (mk d e i e.length).fst) ++ [AV.v (Value.int IntKind.i64 (↑(mk d e i e.length).snd : Int))] ++ List.drop ((↑(i + e.length) : Int).toNat * (1 : Nat) + [AV.v (Value.int IntKind.i64 (↑(mk d e i e.length).snd : Int))].length) (dL (mk d e i e.length).fst) = dL (mlR d e (i + (1 : Nat))), decide ((↑i : Int) < (↑d.length : Int)) = true, LoopOk Try.prog (loopBody Try.f92 (7 : Nat)) (invMlK u v d e i (0 : Nat)) (Exit.exit (2 : Nat)) (invMlK u v d e i e.length), (2 : Nat) = (2 : Nat) ∧ (0 : Nat) = (0 : Nat), (3 : Nat) = (3 : Nat) ∧ (0 : Nat) = (0 : Nat), (4 : Nat) = (4 : Nat) ∧ (0 : Nat) = (0 : Nat), (18 : Nat) = (18 : Nat) ∧ (0 : Nat) = (0 : Nat), (↑i : Int) = (↑i : Int), (0 : Int) = (↑(mk d e i (0 : Nat)).snd : Int), (0 : Int) = (↑(0 : Nat) : Int), [AV.v (Value.bool u), AV.lst d.length (dL d)] = [AV.v (Value.bool u), AV.lst d.length (dL d)], [AV.v (Value.bool v), AV.lst e.length (dL e)] = [AV.v (Value.bool v), AV.lst e.length (dL e)], [AV.v (Value.bool false), AV.v (Value.slice none (0 : Nat) (0 : Nat))] = [AV.v (Value.bool false), AV.v (Value.slice none (0 : Nat) (0 : Nat))], d.length + e.length + (1 : Nat) = d.length + e.length + (1 : Nat) ∧ (0 : Nat) = (0 : Nat) ∧ dL (mlR d e i) = dL (mk d e i (0 : Nat)).fst, IntKind.i64.wrap ((↑i : Int) + (↑e.length : Int)) = (↑(i + e.length) : Int), (0 : Int) ≤ (↑(i + e.length) : Int) ∧ (↑(i + e.length) : Int) < (↑(d.length + e.length + (1 : Nat)) : Int), (↑(i + e.length) : Int).toNat * (1 : Nat) + [AV.v (Value.int IntKind.i64 (↑(mk d e i e.length).snd : Int))].length ≤ (dL (mk d e i e.length).fst).length, IntKind.i64.wrap ((↑i : Int) + (1 : Int)) = (↑(i + (1 : Nat)) : Int)] (by kernel_rfl) (by show d.length - (i + 1) < d.length - i; omega) ?_
    ((repeat' refine And.intro ?_ ?_); (iterate 14 (with_reducible rfl)); rotate_left 1; ((with_reducible refine Dt ?_; omega)); (with_reducible assumption); (iterate 9 (with_reducible rfl)); (exact rfl); (omega); (iterate 5 (with_reducible rfl)); (exact rfl); (exact Wi _ (by omega)); (iterate 2 (omega)); ((simp only [List.length_cons, List.length_nil]; omega)); (exact Wi _ (by omega)); (exact True.intro))
    all_goals exact dL_set _ _ _ (by omega)
  · refine Round.out [(23, Hint.val (AV.v (Value.bool false)))] [] [(2 : Nat) = (2 : Nat) ∧ (0 : Nat) = (0 : Nat), (3 : Nat) = (3 : Nat) ∧ (0 : Nat) = (0 : Nat), (4 : Nat) = (4 : Nat) ∧ (0 : Nat) = (0 : Nat), (18 : Nat) = (18 : Nat) ∧ (0 : Nat) = (0 : Nat), (↑d.length : Int) = (↑d.length : Int), [AV.v (Value.bool u), AV.lst d.length (dL d)] = [AV.v (Value.bool u), AV.lst d.length (dL d)], [AV.v (Value.bool v), AV.lst e.length (dL e)] = [AV.v (Value.bool v), AV.lst e.length (dL e)], [AV.v (Value.bool false), AV.v (Value.slice none (0 : Nat) (0 : Nat))] = [AV.v (Value.bool false), AV.v (Value.slice none (0 : Nat) (0 : Nat))], d.length + e.length + (1 : Nat) = d.length + e.length + (1 : Nat) ∧ (0 : Nat) = (0 : Nat) ∧ dL (mlR d e d.length) = dL (mlR d e d.length), decide ((↑d.length : Int) < (↑d.length : Int)) = false] (by kernel_rfl) ?_
    ((repeat' refine And.intro ?_ ?_); (iterate 15 (with_reducible rfl)); ((with_reducible refine Df ?_; omega)); (exact True.intro))
theorem sgZ_mul (x y : Int) : sgZ (decide (x < 0) != decide (y < 0)) (x.natAbs * y.natAbs) = x * y := by
  unfold sgZ
  rw [← Int.natAbs_mul]
  rcases Int.lt_or_le x 0 with h1 | h1 <;> rcases Int.lt_or_le y 0 with h2 | h2
  · have : 0 < x * y := Int.mul_pos_of_neg_of_neg h1 h2
    simp [h1, h2]; omega
  · have h3 : x * y ≤ 0 := Int.mul_nonpos_of_nonpos_of_nonneg (by omega) h2
    have h4 : ¬ y < 0 := by omega
    simp [h1, h4]; omega
  · have h3 : x * y ≤ 0 := Int.mul_nonpos_of_nonneg_of_nonpos h1 (by omega)
    have h4 : ¬ x < 0 := by omega
    simp [h2, h4]; omega
  · have h3 : 0 ≤ x * y := Int.mul_nonneg h1 h2
    have h4 : ¬ x < 0 := by omega
    have h5 : ¬ y < 0 := by omega
    simp [h4, h5]; omega
theorem mul01_ok (x y : Int) (hx : nd x ≤ 1000000) (hy : nd y ≤ 1000000) : FnOk Try.prog 92 ⟨[numA x, numA y], [], numA (x * y), []⟩ := by
  obtain ⟨d, hd⟩ : ∃ d, dig x.natAbs = d := ⟨_, rfl⟩
  obtain ⟨e, he⟩ : ∃ e, dig y.natAbs = e := ⟨_, rfl⟩
  have td : Td d := hd ▸ Td_dig _
  have te : Td e := he ▸ Td_dig _
  have hx' : d.length ≤ 1000000 := hd ▸ hx
  have hy' : e.length ≤ 1000000 := he ▸ hy
  have hl := mlr_loop (decide (x < 0)) (decide (y < 0)) td te (by omega) ⟨0, Nat.zero_le _⟩
  have hr := mlR_ok td te d.length (Nat.le_refl _)
  obtain ⟨h1, h2⟩ := hr.all
  have hlo := hr.1
  have hm := made_ok (decide (x < 0) != decide (y < 0)) (mlR d e d.length) (by omega) h2
  have hv : vd (mlR d e d.length) = x.natAbs * y.natAbs := by rw [h1, ← hd, ← he, vd_dig, vd_dig]
  rw [hv, sgZ_mul] at hm
  have hz := dL_len (mlR d e d.length)
  have hz0 : List.replicate (d.length + e.length + 1) (AV.v (.int .i64 0)) = dL (mlR d e 0) := by simp [mlR, dL, iz]
  unfold numA numT
  rw [hd, he]
  refine fn_go hmo Try.func92 (by kernel_rfl) [(16, Hint.val (AV.v (Value.int IntKind.i64 (↑(d.length + e.length) : Int)))), (17, Hint.val (AV.v (Value.int IntKind.i64 (↑(d.length + e.length + (1 : Nat)) : Int)))), (76, Hint.call (Inst.mk [bz (decide (x < (0 : Int)) != decide (y < (0 : Int))), dA (mlR d e d.length)] [] (numA (x * y)) []))] [(3, ⟨.exit 0, invMlR (decide (x < 0)) (decide (y < 0)) d e 0, invMlR (decide (x < 0)) (decide (y < 0)) d e d.length⟩)] [[AV.v (Value.bool (decide (x * y < (0 : Int)))), AV.lst (dig (x * y).natAbs).length (dL (dig (x * y).natAbs))] = [AV.v (Value.bool (decide (x * y < (0 : Int)))), AV.lst (dig (x * y).natAbs).length (dL (dig (x * y).natAbs))], IntKind.i64.wrap ((↑d.length : Int) + (↑e.length : Int)) = (↑(d.length + e.length) : Int), IntKind.i64.wrap ((↑(d.length + e.length) : Int) + (1 : Int)) = (↑(d.length + e.length + (1 : Nat)) : Int), (↑(d.length + e.length + (1 : Nat)) : Int) = (↑(d.length + e.length + (1 : Nat)) : Int), (0 : Int) ≤ (↑(d.length + e.length + (1 : Nat)) : Int) ∧ (↑(d.length + e.length + (1 : Nat)) : Int) * (↑(8 : Nat) : Int) ≤ (140737488355328 : Int) ∧ (↑(d.length + e.length + (1 : Nat)) : Int) ≤ (140737488355328 : Int), LoopOk Try.prog (loopBody Try.f92 (3 : Nat)) (invMlR (decide (x < (0 : Int))) (decide (y < (0 : Int))) d e (0 : Nat)) (Exit.exit (0 : Nat)) (invMlR (decide (x < (0 : Int))) (decide (y < (0 : Int))) d e d.length), (2 : Nat) = (2 : Nat) ∧ (0 : Nat) = (0 : Nat), (3 : Nat) = (3 : Nat) ∧ (0 : Nat) = (0 : Nat), (4 : Nat) = (4 : Nat) ∧ (0 : Nat) = (0 : Nat), (18 : Nat) = (18 : Nat) ∧ (0 : Nat) = (0 : Nat), (0 : Int) = (↑(0 : Nat) : Int), [AV.v (Value.bool (decide (x < (0 : Int)))), AV.lst d.length (dL d)] = [AV.v (Value.bool (decide (x < (0 : Int)))), AV.lst d.length (dL d)], [AV.v (Value.bool (decide (y < (0 : Int)))), AV.lst e.length (dL e)] = [AV.v (Value.bool (decide (y < (0 : Int)))), AV.lst e.length (dL e)], [AV.v (Value.bool false), AV.v (Value.slice none (0 : Nat) (0 : Nat))] = [AV.v (Value.bool false), AV.v (Value.slice none (0 : Nat) (0 : Nat))], (↑(d.length + e.length + (1 : Nat)) : Int).toNat = d.length + e.length + (1 : Nat) ∧ (0 : Nat) = (0 : Nat) ∧ repA (↑(d.length + e.length + (1 : Nat)) : Int).toNat [Value.int IntKind.i64 (0 : Int)] = dL (mlR d e (0 : Nat)), (!decide (x < (0 : Int)) == decide (y < (0 : Int))) = (decide (x < (0 : Int)) != decide (y < (0 : Int))) ∧ (d.length + e.length + (1 : Nat) = (mlR d e d.length).length ∧ dL (mlR d e d.length) = dL (mlR d e d.length)) ∧ True, FnOk Try.prog (131 : Nat) (Inst.mk [AV.v (Value.bool (decide (x < (0 : Int)) != decide (y < (0 : Int)))), AV.lst (mlR d e d.length).length (dL (mlR d e d.length))] [] (AV.agg [AV.v (Value.bool (decide (x * y < (0 : Int)))), AV.lst (dig (x * y).natAbs).length (dL (dig (x * y).natAbs))]) [])] (by kernel_rfl) ?_
  ((repeat' refine And.intro ?_ ?_); (with_reducible rfl); (iterate 2 (exact Wi _ (by omega))); (with_reducible rfl); (iterate 3 (omega)); (with_reducible assumption); (iterate 8 (with_reducible rfl)); (omega); (iterate 3 (with_reducible rfl)); (omega); (with_reducible rfl); ((show repA _ _ = _; assumption)); (exact rfl); (omega); (with_reducible rfl); (exact True.intro); ((show FnOk _ _ _; assumption)); (exact True.intro))
  all_goals exact hz0
/-! ### Power, Two -/
def p2 (n : Nat) : Nat := 2 ^ n
theorem p2_abs (q : Nat) : ((p2 q : Nat) : Int).natAbs < 2 ^ (q + 1) := by
  rw [Int.natAbs_natCast]; unfold p2; exact Nat.pow_lt_pow_right (by decide) (by omega)
theorem p2_nd (q : Nat) : nd ((p2 q : Nat) : Int) ≤ q + 1 := dig_len2 (p2_abs q)
theorem p2_dbl (q : Nat) : ((p2 q : Nat) : Int) * ((p2 q : Nat) : Int) = ((p2 (q + q) : Nat) : Int) := by
  rw [← Int.natCast_mul]; unfold p2; rw [← Nat.pow_add]
theorem power01_ok (two : Int) (h2 : two = 2) (n : Nat) (hn : n ≤ 100000) : FnOk Try.prog 168 ⟨[numA two, iz (n : Nat)], [], numA (p2 n : Nat), []⟩ := by
  induction n using Nat.strongRecOn with
  | ind n ih =>
    obtain ⟨one, hone⟩ : ∃ k : Nat, k = 1 := ⟨1, rfl⟩
    have e1 := nat01_ok one (by omega)
    by_cases h0 : n = 0
    · subst h0
      have hp : p2 0 = one := by rw [hone]; rfl
      rw [hp]
      refine fn_go hmo Try.func168 (by kernel_rfl) [(6, Hint.val (AV.v (Value.int IntKind.i64 (0 : Int)))), (8, Hint.call (Inst.mk [uz (↑one : Int)] [] (numA (↑one : Int)) []))] [] [[AV.v (Value.bool false), AV.lst (dig (↑one : Int).natAbs).length (dL (dig (↑one : Int).natAbs))] = [AV.v (Value.bool false), AV.lst (dig (↑one : Int).natAbs).length (dL (dig (↑one : Int).natAbs))], (↑(0 : Nat) : Int) = (0 : Int), (1 : Int) = (↑one : Int) ∧ True, FnOk Try.prog (135 : Nat) (Inst.mk [AV.v (Value.int IntKind.u64 (↑one : Int))] [] (AV.agg [AV.v (Value.bool false), AV.lst (dig (↑one : Int).natAbs).length (dL (dig (↑one : Int).natAbs))]) [])] (by kernel_rfl) ?_
      ((repeat' refine And.intro ?_ ?_); (with_reducible rfl); (iterate 2 (omega)); (exact True.intro); ((show FnOk _ _ _; assumption)); (exact True.intro))
    · have h1 := ih (n / 2) (by omega) (by omega)
      have hb := p2_nd (n / 2)
      have e2 := mul01_ok (p2 (n / 2) : Nat) (p2 (n / 2) : Nat) (by omega) (by omega)
      rw [p2_dbl] at e2
      by_cases ho : n % 2 = 1
      · have e3 := mul01_ok (p2 (n / 2 + n / 2) : Nat) two (by have := p2_nd (n / 2 + n / 2); omega) (by subst h2; have := p2_nd 1; exact Nat.le_trans this (by omega))
        have e4 : ((p2 (n / 2 + n / 2) : Nat) : Int) * two = ((p2 n : Nat) : Int) := by
          rw [h2]; unfold p2
          have e5 : (2 ^ n : Nat) = 2 ^ (n / 2 + n / 2) * 2 := by rw [← Nat.pow_succ]; congr 1; omega
          rw [e5]; omega
        rw [e4] at e3
        refine fn_go hmo Try.func168 (by kernel_rfl) [(7, Hint.val (AV.v (Value.bool false))), (11, Hint.val (AV.v (Value.int IntKind.i64 (↑(n / (2 : Nat)) : Int)))), (12, Hint.call (Inst.mk [numA two, iz (↑(n / (2 : Nat)) : Int)] [] (numA (↑(p2 (n / (2 : Nat))) : Int)) [])), (14, Hint.val (AV.v (Value.int IntKind.i64 (↑(n % (2 : Nat)) : Int)))), (15, Hint.val (AV.v (Value.bool true))), (18, Hint.call (Inst.mk [numA (↑(p2 (n / (2 : Nat))) : Int), numA (↑(p2 (n / (2 : Nat))) : Int)] [] (numA (↑(p2 (n / (2 : Nat) + n / (2 : Nat))) : Int)) [])), (20, Hint.call (Inst.mk [numA (↑(p2 (n / (2 : Nat) + n / (2 : Nat))) : Int), numA two] [] (numA (↑(p2 n) : Int)) []))] [] [[AV.v (Value.bool false), AV.lst (dig (↑(p2 n) : Int).natAbs).length (dL (dig (↑(p2 n) : Int).natAbs))] = [AV.v (Value.bool false), AV.lst (dig (↑(p2 n) : Int).natAbs).length (dL (dig (↑(p2 n) : Int).natAbs))], decide ((↑n : Int) ≤ (0 : Int)) = false, IntKind.i64.wrap ((↑n : Int).tdiv (2 : Int)) = (↑(n / (2 : Nat)) : Int), (2 : Int) ≠ (0 : Int), [AV.v (Value.bool (decide (two < (0 : Int)))), AV.lst (dig two.natAbs).length (dL (dig two.natAbs))] = [AV.v (Value.bool (decide (two < (0 : Int)))), AV.lst (dig two.natAbs).length (dL (dig two.natAbs))] ∧ (↑(n / (2 : Nat)) : Int) = (↑(n / (2 : Nat)) : Int) ∧ True, FnOk Try.prog (168 : Nat) (Inst.mk [AV.agg [AV.v (Value.bool (decide (two < (0 : Int)))), AV.lst (dig two.natAbs).length (dL (dig two.natAbs))], AV.v (Value.int IntKind.i64 (↑(n / (2 : Nat)) : Int))] [] (AV.agg [AV.v (Value.bool false), AV.lst (dig (↑(p2 (n / (2 : Nat))) : Int).natAbs).length (dL (dig (↑(p2 (n / (2 : Nat))) : Int).natAbs))]) []), (↑n : Int).tmod (2 : Int) = (↑(n % (2 : Nat)) : Int), (2 : Int) ≠ (0 : Int), ((↑(n % (2 : Nat)) : Int) == (1 : Int)) = true, [AV.v (Value.bool false), AV.lst (dig (↑(p2 (n / (2 : Nat))) : Int).natAbs).length (dL (dig (↑(p2 (n / (2 : Nat))) : Int).natAbs))] = [AV.v (Value.bool false), AV.lst (dig (↑(p2 (n / (2 : Nat))) : Int).natAbs).length (dL (dig (↑(p2 (n / (2 : Nat))) : Int).natAbs))] ∧ [AV.v (Value.bool false), AV.lst (dig (↑(p2 (n / (2 : Nat))) : Int).natAbs).length (dL (dig (↑(p2 (n / (2 : Nat))) : Int).natAbs))] = [AV.v (Value.bool false), AV.lst (dig (↑(p2 (n / (2 : Nat))) : Int).natAbs).length (dL (dig (↑(p2 (n / (2 : Nat))) : Int).natAbs))] ∧ True, FnOk Try.prog (92 : Nat) (Inst.mk [AV.agg [AV.v (Value.bool false), AV.lst (dig (↑(p2 (n / (2 : Nat))) : Int).natAbs).length (dL (dig (↑(p2 (n / (2 : Nat))) : Int).natAbs))], AV.agg [AV.v (Value.bool false), AV.lst (dig (↑(p2 (n / (2 : Nat))) : Int).natAbs).length (dL (dig (↑(p2 (n / (2 : Nat))) : Int).natAbs))]] [] (AV.agg [AV.v (Value.bool false), AV.lst (dig (↑(p2 (n / (2 : Nat) + n / (2 : Nat))) : Int).natAbs).length (dL (dig (↑(p2 (n / (2 : Nat) + n / (2 : Nat))) : Int).natAbs))]) []), [AV.v (Value.bool false), AV.lst (dig (↑(p2 (n / (2 : Nat) + n / (2 : Nat))) : Int).natAbs).length (dL (dig (↑(p2 (n / (2 : Nat) + n / (2 : Nat))) : Int).natAbs))] = [AV.v (Value.bool false), AV.lst (dig (↑(p2 (n / (2 : Nat) + n / (2 : Nat))) : Int).natAbs).length (dL (dig (↑(p2 (n / (2 : Nat) + n / (2 : Nat))) : Int).natAbs))] ∧ [AV.v (Value.bool (decide (two < (0 : Int)))), AV.lst (dig two.natAbs).length (dL (dig two.natAbs))] = [AV.v (Value.bool (decide (two < (0 : Int)))), AV.lst (dig two.natAbs).length (dL (dig two.natAbs))] ∧ True, FnOk Try.prog (92 : Nat) (Inst.mk [AV.agg [AV.v (Value.bool false), AV.lst (dig (↑(p2 (n / (2 : Nat) + n / (2 : Nat))) : Int).natAbs).length (dL (dig (↑(p2 (n / (2 : Nat) + n / (2 : Nat))) : Int).natAbs))], AV.agg [AV.v (Value.bool (decide (two < (0 : Int)))), AV.lst (dig two.natAbs).length (dL (dig two.natAbs))]] [] (AV.agg [AV.v (Value.bool false), AV.lst (dig (↑(p2 n) : Int).natAbs).length (dL (dig (↑(p2 n) : Int).natAbs))]) [])] (by kernel_rfl) ?_
        ((repeat' refine And.intro ?_ ?_); (with_reducible rfl); ((with_reducible refine Df ?_; omega)); (exact tdivI _ _ _ (by rfl) (by omega)); (omega); (iterate 2 (with_reducible rfl)); (exact True.intro); ((show FnOk _ _ _; assumption)); (exact tmodN _ _); (omega); ((with_reducible refine Be ?_; omega)); (iterate 2 (with_reducible rfl)); (exact True.intro); ((show FnOk _ _ _; assumption)); (iterate 2 (with_reducible rfl)); (exact True.intro); ((show FnOk _ _ _; assumption)); (exact True.intro))
      · rw [show n / 2 + n / 2 = n by omega] at e2
        refine fn_go hmo Try.func168 (by kernel_rfl) [(7, Hint.val (AV.v (Value.bool false))), (11, Hint.val (AV.v (Value.int IntKind.i64 (↑(n / (2 : Nat)) : Int)))), (12, Hint.call (Inst.mk [numA two, iz (↑(n / (2 : Nat)) : Int)] [] (numA (↑(p2 (n / (2 : Nat))) : Int)) [])), (14, Hint.val (AV.v (Value.int IntKind.i64 (↑(n % (2 : Nat)) : Int)))), (15, Hint.val (AV.v (Value.bool false))), (23, Hint.call (Inst.mk [numA (↑(p2 (n / (2 : Nat))) : Int), numA (↑(p2 (n / (2 : Nat))) : Int)] [] (numA (↑(p2 n) : Int)) []))] [] [[AV.v (Value.bool false), AV.lst (dig (↑(p2 n) : Int).natAbs).length (dL (dig (↑(p2 n) : Int).natAbs))] = [AV.v (Value.bool false), AV.lst (dig (↑(p2 n) : Int).natAbs).length (dL (dig (↑(p2 n) : Int).natAbs))], decide ((↑n : Int) ≤ (0 : Int)) = false, IntKind.i64.wrap ((↑n : Int).tdiv (2 : Int)) = (↑(n / (2 : Nat)) : Int), (2 : Int) ≠ (0 : Int), [AV.v (Value.bool (decide (two < (0 : Int)))), AV.lst (dig two.natAbs).length (dL (dig two.natAbs))] = [AV.v (Value.bool (decide (two < (0 : Int)))), AV.lst (dig two.natAbs).length (dL (dig two.natAbs))] ∧ (↑(n / (2 : Nat)) : Int) = (↑(n / (2 : Nat)) : Int) ∧ True, FnOk Try.prog (168 : Nat) (Inst.mk [AV.agg [AV.v (Value.bool (decide (two < (0 : Int)))), AV.lst (dig two.natAbs).length (dL (dig two.natAbs))], AV.v (Value.int IntKind.i64 (↑(n / (2 : Nat)) : Int))] [] (AV.agg [AV.v (Value.bool false), AV.lst (dig (↑(p2 (n / (2 : Nat))) : Int).natAbs).length (dL (dig (↑(p2 (n / (2 : Nat))) : Int).natAbs))]) []), (↑n : Int).tmod (2 : Int) = (↑(n % (2 : Nat)) : Int), (2 : Int) ≠ (0 : Int), ((↑(n % (2 : Nat)) : Int) == (1 : Int)) = false, [AV.v (Value.bool false), AV.lst (dig (↑(p2 (n / (2 : Nat))) : Int).natAbs).length (dL (dig (↑(p2 (n / (2 : Nat))) : Int).natAbs))] = [AV.v (Value.bool false), AV.lst (dig (↑(p2 (n / (2 : Nat))) : Int).natAbs).length (dL (dig (↑(p2 (n / (2 : Nat))) : Int).natAbs))] ∧ [AV.v (Value.bool false), AV.lst (dig (↑(p2 (n / (2 : Nat))) : Int).natAbs).length (dL (dig (↑(p2 (n / (2 : Nat))) : Int).natAbs))] = [AV.v (Value.bool false), AV.lst (dig (↑(p2 (n / (2 : Nat))) : Int).natAbs).length (dL (dig (↑(p2 (n / (2 : Nat))) : Int).natAbs))] ∧ True, FnOk Try.prog (92 : Nat) (Inst.mk [AV.agg [AV.v (Value.bool false), AV.lst (dig (↑(p2 (n / (2 : Nat))) : Int).natAbs).length (dL (dig (↑(p2 (n / (2 : Nat))) : Int).natAbs))], AV.agg [AV.v (Value.bool false), AV.lst (dig (↑(p2 (n / (2 : Nat))) : Int).natAbs).length (dL (dig (↑(p2 (n / (2 : Nat))) : Int).natAbs))]] [] (AV.agg [AV.v (Value.bool false), AV.lst (dig (↑(p2 n) : Int).natAbs).length (dL (dig (↑(p2 n) : Int).natAbs))]) [])] (by kernel_rfl) ?_
        ((repeat' refine And.intro ?_ ?_); (with_reducible rfl); ((with_reducible refine Df ?_; omega)); (exact tdivI _ _ _ (by rfl) (by omega)); (omega); (iterate 2 (with_reducible rfl)); (exact True.intro); ((show FnOk _ _ _; assumption)); (exact tmodN _ _); (omega); ((with_reducible refine Bn ?_; omega)); (iterate 2 (with_reducible rfl)); (exact True.intro); ((show FnOk _ _ _; assumption)); (exact True.intro))
theorem two01_ok (n : Nat) (hn : n ≤ 100000) : FnOk Try.prog 138 ⟨[iz (n : Nat)], [], numA (p2 n : Nat), []⟩ := by
  obtain ⟨two, h2⟩ : ∃ k : Nat, k = 2 := ⟨2, rfl⟩
  have e1 := nat01_ok two (by omega)
  have e2 := power01_ok two (by omega) n hn
  refine fn_go hmo Try.func138 (by kernel_rfl) [(3, Hint.call (Inst.mk [uz (↑two : Int)] [] (numA (↑two : Int)) [])), (5, Hint.call (Inst.mk [numA (↑two : Int), iz (↑n : Int)] [] (numA (↑(p2 n) : Int)) []))] [] [[AV.v (Value.bool false), AV.lst (dig (↑(p2 n) : Int).natAbs).length (dL (dig (↑(p2 n) : Int).natAbs))] = [AV.v (Value.bool false), AV.lst (dig (↑(p2 n) : Int).natAbs).length (dL (dig (↑(p2 n) : Int).natAbs))], (2 : Int) = (↑two : Int) ∧ True, FnOk Try.prog (135 : Nat) (Inst.mk [AV.v (Value.int IntKind.u64 (↑two : Int))] [] (AV.agg [AV.v (Value.bool false), AV.lst (dig (↑two : Int).natAbs).length (dL (dig (↑two : Int).natAbs))]) []), [AV.v (Value.bool false), AV.lst (dig (↑two : Int).natAbs).length (dL (dig (↑two : Int).natAbs))] = [AV.v (Value.bool false), AV.lst (dig (↑two : Int).natAbs).length (dL (dig (↑two : Int).natAbs))] ∧ (↑n : Int) = (↑n : Int) ∧ True, FnOk Try.prog (168 : Nat) (Inst.mk [AV.agg [AV.v (Value.bool false), AV.lst (dig (↑two : Int).natAbs).length (dL (dig (↑two : Int).natAbs))], AV.v (Value.int IntKind.i64 (↑n : Int))] [] (AV.agg [AV.v (Value.bool false), AV.lst (dig (↑(p2 n) : Int).natAbs).length (dL (dig (↑(p2 n) : Int).natAbs))]) [])] (by kernel_rfl) ?_
  ((repeat' refine And.intro ?_ ?_); (with_reducible rfl); (omega); (exact True.intro); ((show FnOk _ _ _; assumption)); (iterate 2 (with_reducible rfl)); (exact True.intro); ((show FnOk _ _ _; assumption)); (exact True.intro))
/-! ### Uint, Fits, Int -/
end Go.Proofs.Ytfhmaincnlaapaa.Sy
namespace Go.Proofs.Ytfhmaincnlaapaa
open Go.ChangeShapes Go.WideShapes Go.ChangeAt Go.RowKit
set_option linter.unusedVariables false
/-- the number of a list of digits, the lowest one first -/
def vw : List Nat → Nat
  | [] => 0
  | d :: l => d + 4294967296 * vw l
theorem vd_consW (d : Nat) (l : List Nat) : vw (d :: l) = d + 4294967296 * vw l := rfl
/-- a number's digits, no noughts at the end -/
def dgw (n : Nat) : List Nat := if h : n = 0 then [] else n % 4294967296 :: dgw (n / 4294967296)
termination_by n
decreasing_by exact Nat.div_lt_self (by omega) (by decide)
theorem dig_zeroW : dgw 0 = [] := by rw [dgw]; simp
theorem dig_posW {n : Nat} (h : n ≠ 0) : dgw n = n % 4294967296 :: dgw (n / 4294967296) := by rw [dgw]; simp [h]
theorem vd_digW (n : Nat) : vw (dgw n) = n := by
  induction n using Nat.strongRecOn with
  | ind n ih =>
    by_cases h : n = 0
    · subst h; rw [dig_zeroW]; rfl
    · rw [dig_posW h]
      unfold vw
      rw [ih (n / 4294967296) (by omega)]
      omega
theorem dig_ltW (n : Nat) : ∀ d ∈ dgw n, d < 4294967296 := by
  induction n using Nat.strongRecOn with
  | ind n ih =>
    by_cases h : n = 0
    · subst h; rw [dig_zeroW]; intro d hd; cases hd
    · rw [dig_posW h]
      intro d hd
      rcases List.mem_cons.1 hd with rfl | hd
      · omega
      · exact ih (n / 4294967296) (by omega) d hd
theorem vd_appW (l m : List Nat) : vw (l ++ m) = vw l + 4294967296 ^ l.length * vw m := by
  induction l with
  | nil => simp [vw]
  | cons d l ih =>
    rw [List.cons_append, vd_consW, vd_consW, ih, List.length_cons, Nat.pow_succ, Nat.mul_add, ← Nat.mul_assoc, Nat.mul_comm 4294967296 (4294967296 ^ l.length)]
    omega
theorem vd_ltW (l : List Nat) (h : ∀ d ∈ l, d < 4294967296) : vw l < 4294967296 ^ l.length := by
  induction l with
  | nil => simp [vw]
  | cons d l ih =>
    unfold vw
    have h1 := h d (by simp)
    have h2 := ih (fun x hx => h x (by simp [hx]))
    rw [List.length_cons, Nat.pow_succ]
    omega
theorem tsz_zeroW (l : List Nat) : tsz l = 0 ↔ vw l = 0 := by
  induction l with
  | nil => simp [tsz, vw]
  | cons d l ih =>
    unfold tsz vw
    split
    · rename_i h
      have := ih.1 h
      split <;> omega
    · rename_i h
      have : vw l ≠ 0 := fun e => h (ih.2 e)
      omega
theorem take_tszW (l : List Nat) (h : ∀ d ∈ l, d < 4294967296) : l.take (tsz l) = dgw (vw l) := by
  induction l with
  | nil => simp [tsz, vw, dig_zeroW]
  | cons d l ih =>
    have hd := h d (by simp)
    have hl := ih (fun x hx => h x (by simp [hx]))
    unfold tsz vw
    split
    · rename_i h0
      have hz := (tsz_zeroW l).1 h0
      split
      · rename_i hd0; subst hd0; rw [hz]; simp [dig_zeroW]
      · rename_i hd0
        rw [hz, Nat.mul_zero, Nat.add_zero, dig_posW hd0, Nat.mod_eq_of_lt hd, Nat.div_eq_of_lt hd, dig_zeroW]; simp
    · rename_i h0
      have hz : vw l ≠ 0 := fun e => h0 ((tsz_zeroW l).2 e)
      have e1 : (d + 4294967296 * vw l) % 4294967296 = d := by omega
      have e2 : (d + 4294967296 * vw l) / 4294967296 = vw l := by omega
      rw [List.take_succ_cons, hl, dig_posW (n := d + 4294967296 * vw l) (by omega), e1, e2]
theorem vd_powW (l : List Nat) (k : Nat) : vw (List.replicate k 0 ++ l) = 4294967296 ^ k * vw l := by
  rw [vd_appW, List.length_replicate]
  have : vw (List.replicate k 0) = 0 := by
    induction k with
    | zero => rfl
    | succ k ih => rw [List.replicate_succ]; unfold vw; rw [ih]
  omega
theorem dig_lenW {n k : Nat} (h : n < 4294967296 ^ k) : (dgw n).length ≤ k := by
  induction k generalizing n with
  | zero => have : n = 0 := by simpa using h
            subst this; rw [dig_zeroW]; simp
  | succ k ih =>
    by_cases h0 : n = 0
    · subst h0; rw [dig_zeroW]; simp
    · rw [dig_posW h0, List.length_cons]
      have := ih (n := n / 4294967296) (by rw [Nat.pow_succ] at h; omega)
      omega

theorem dg_ltW (l : List Nat) (j : Nat) (h : ∀ d ∈ l, d < 4294967296) : dg l j < 4294967296 := by
  rcases Nat.lt_or_ge j l.length with hj | hj
  · rw [← dg_get l j hj]; exact h _ (List.getElem_mem hj)
  · rw [dg_far l j hj]; decide
theorem vd_nilW : vw [] = 0 := rfl
/-- the number from digit i on -/
theorem vd_dropW (l : List Nat) (i : Nat) : vw (l.drop i) = dg l i + 4294967296 * vw (l.drop (i + 1)) := by
  rcases Nat.lt_or_ge i l.length with hi | hi
  · rw [List.drop_eq_getElem_cons hi, vd_consW, dg_get l i hi]
  · rw [List.drop_eq_nil_of_le hi, List.drop_eq_nil_of_le (by omega), dg_far l i hi]; rfl
theorem vd_partsW (l : List Nat) (i : Nat) : vw l = vw (l.take i) + 4294967296 ^ (min i l.length) * vw (l.drop i) := by
  have h := vd_appW (l.take i) (l.drop i)
  rw [List.take_append_drop, List.length_take] at h
  exact h
theorem vd_drop_farW (l : List Nat) (i : Nat) (h : l.length ≤ i) : vw (l.drop i) = 0 := by rw [List.drop_eq_nil_of_le h]; rfl
theorem vd_snocW (l : List Nat) (d : Nat) : vw (l ++ [d]) = vw l + 4294967296 ^ l.length * d := by rw [vd_appW, vd_consW, vd_nilW]; simp
theorem p_posW (k : Nat) : 0 < 4294967296 ^ k := Nat.pow_pos (by decide)
/-- the same from digit i on, less at digit i: less -/
theorem vd_lessW {a b : List Nat} (ha : ∀ d ∈ a, d < 4294967296) (hb : ∀ d ∈ b, d < 4294967296) {i : Nat} (h : vw (a.drop (i + 1)) = vw (b.drop (i + 1))) (hl : dg a i < dg b i) : vw a < vw b := by
  have e1 := vd_dropW a i
  have e2 := vd_dropW b i
  have hlt : vw (a.drop i) < vw (b.drop i) := by omega
  clear e1 e2 h hl
  induction i with
  | zero => simpa using hlt
  | succ i ih =>
    apply ih
    have e1 := vd_dropW a i
    have e2 := vd_dropW b i
    have h1 := dg_ltW a i ha
    have h2 := dg_ltW b i hb
    omega
/-- the sum of digits, as far as it goes -/
def SumRW (a b out : List Nat) (i carry : Nat) : Prop := out.length = i ∧ carry ≤ 1 ∧ (∀ d ∈ out, d < 4294967296) ∧ vw out + 4294967296 ^ i * (carry + vw (a.drop i) + vw (b.drop i)) = vw a + vw b
theorem SumRW.zero (a b : List Nat) : SumRW a b [] 0 0 := ⟨rfl, by decide, fun d hd => (by cases hd), by simp [vd_nilW]⟩
theorem SumRW.succ {a b out : List Nat} {i carry : Nat} (ha : ∀ d ∈ a, d < 4294967296) (hb : ∀ d ∈ b, d < 4294967296) (h : SumRW a b out i carry) : SumRW a b (out ++ [(dg a i + dg b i + carry) % 4294967296]) (i + 1) ((dg a i + dg b i + carry) / 4294967296) := by
  obtain ⟨h1, h2, h3, h4⟩ := h
  have x1 := dg_ltW a i ha
  have x2 := dg_ltW b i hb
  refine ⟨by simp [h1], by omega, fun d hd => ?_, ?_⟩
  · rcases List.mem_append.1 hd with hd | hd
    · exact h3 d hd
    · obtain rfl := List.mem_singleton.1 hd; exact Nat.mod_lt _ (by decide)
  · rw [vd_snocW, h1, ← h4, vd_dropW a i, vd_dropW b i, Nat.pow_succ]
    generalize 4294967296 ^ i = P
    generalize vw (a.drop (i + 1)) = x
    generalize vw (b.drop (i + 1)) = y
    obtain ⟨s, hs⟩ : ∃ s, dg a i + dg b i + carry = s := ⟨_, rfl⟩
    have e1 : carry + (dg a i + 4294967296 * x) + (dg b i + 4294967296 * y) = s % 4294967296 + 4294967296 * (s / 4294967296 + x + y) := by omega
    rw [hs, e1, Nat.mul_add P (s % 4294967296), Nat.mul_assoc P 4294967296, Nat.add_assoc]
theorem SumRW.end_ {a b out : List Nat} {i carry : Nat} (h : SumRW a b out i carry) (h1 : a.length ≤ i) (h2 : b.length ≤ i) : vw (out ++ [carry]) = vw a + vw b ∧ ∀ d ∈ out ++ [carry], d < 4294967296 := by
  obtain ⟨g1, g2, g3, g4⟩ := h
  rw [vd_drop_farW a i h1, vd_drop_farW b i h2] at g4
  refine ⟨by rw [vd_snocW, g1, ← g4]; simp, fun d hd => ?_⟩
  rcases List.mem_append.1 hd with hd | hd
  · exact g3 d hd
  · obtain rfl := List.mem_singleton.1 hd; omega
/-- the difference of digits, as far as it goes -/
def RestRW (a b out : List Nat) (i borrow : Nat) : Prop := out.length = i ∧ borrow ≤ 1 ∧ (∀ d ∈ out, d < 4294967296) ∧ (vw out : Int) + (4294967296 ^ i : Nat) * ((vw (a.drop i) : Int) - vw (b.drop i) - borrow) = (vw a : Int) - vw b
theorem RestRW.zero (a b : List Nat) : RestRW a b [] 0 0 := ⟨rfl, by decide, fun d hd => (by cases hd), by simp [vd_nilW]⟩
theorem RestRW.step {a b out : List Nat} {i borrow d borrow' : Nat} (hd : d < 4294967296) (hb' : borrow' ≤ 1) (h : RestRW a b out i borrow) (he : (dg a i : Int) - dg b i - borrow = (d : Int) - 4294967296 * borrow') : RestRW a b (out ++ [d]) (i + 1) borrow' := by
  obtain ⟨h1, h2, h3, h4⟩ := h
  refine ⟨by simp [h1], hb', fun x hx => ?_, ?_⟩
  · rcases List.mem_append.1 hx with hx | hx
    · exact h3 x hx
    · obtain rfl := List.mem_singleton.1 hx; exact hd
  · rw [vd_snocW, h1, ← h4, vd_dropW a i, vd_dropW b i, Nat.pow_succ]
    generalize 4294967296 ^ i = P
    generalize vw (a.drop (i + 1)) = x
    generalize vw (b.drop (i + 1)) = y
    have e1 : ((dg a i + 4294967296 * x : Nat) : Int) - ((dg b i + 4294967296 * y : Nat) : Int) - borrow = d + 4294967296 * ((x : Int) - y - borrow') := by omega
    rw [e1, Int.mul_add]
    simp only [Int.natCast_add, Int.natCast_mul]
    rw [Int.mul_assoc (P : Int), Int.add_assoc]
    rfl
theorem RestRW.end_ {a b out : List Nat} (h : ∃ borrow, RestRW a b out a.length borrow) (hle : vw b ≤ vw a) : vw out = vw a - vw b ∧ ∀ d ∈ out, d < 4294967296 := by
  obtain ⟨borrow, g1, g2, g3, g4⟩ := h
  refine ⟨?_, g3⟩
  rw [vd_drop_farW a _ (Nat.le_refl _)] at g4
  have hlt := vd_ltW out g3
  rw [g1] at hlt
  generalize 4294967296 ^ a.length = P at *
  generalize hx : vw (b.drop a.length) = x at *
  have hz : x + borrow = 0 := by
    rcases Nat.eq_zero_or_pos (x + borrow) with h0 | h0
    · exact h0
    · exfalso
      have e : (P : Int) * ((0 : Nat) - (x : Int) - borrow) = -((P * (x + borrow) : Nat) : Int) := by push_cast; rw [show ((0 : Int) - x - borrow) = -((x : Int) + borrow) from by omega, Int.mul_neg]
      rw [e] at g4
      have : P * 1 ≤ P * (x + borrow) := Nat.mul_le_mul_left _ h0
      omega
  obtain ⟨rfl, rfl⟩ : x = 0 ∧ borrow = 0 := by omega
  simp at g4
  omega
/-- one digit turned -/
theorem vd_setW (l : List Nat) (j x : Nat) (h : j < l.length) : vw (l.set j x) + 4294967296 ^ j * dg l j = vw l + 4294967296 ^ j * x := by
  induction l generalizing j with
  | nil => simp at h
  | cons d l ih =>
    cases j with
    | zero => simp [vd_consW, dg]; omega
    | succ j =>
      have := ih j (by simpa using h)
      rw [List.set_cons_succ, vd_consW, vd_consW, Nat.pow_succ]
      have e : dg (d :: l) (j + 1) = dg l j := by simp [dg]
      rw [e, Nat.mul_comm (4294967296 ^ j) 4294967296, Nat.mul_assoc, Nat.mul_assoc]
      omega
theorem vd_replW (k : Nat) : vw (List.replicate k 0) = 0 := by have := vd_powW [] k; simpa [vd_nilW] using this
/-- the product of digits, as far as it goes: rounds i; in round i, k digits of b -/
def MulRW (a b out : List Nat) (i : Nat) : Prop := out.length = a.length + b.length + 1 ∧ (∀ d ∈ out, d < 4294967296) ∧ (∀ j, i + b.length ≤ j → dg out j = 0) ∧ vw out = vw (a.take i) * vw b
def MulIW (a b out : List Nat) (i k carry : Nat) : Prop := out.length = a.length + b.length + 1 ∧ (∀ d ∈ out, d < 4294967296) ∧ (∀ j, i + b.length ≤ j → dg out j = 0) ∧ carry < 4294967296 ∧ vw out + 4294967296 ^ (i + k) * carry = vw (a.take i) * vw b + 4294967296 ^ i * (dg a i * vw (b.take k))
theorem mem_set_ltW {l : List Nat} {j x : Nat} (h : ∀ d ∈ l, d < 4294967296) (hx : x < 4294967296) : ∀ d ∈ l.set j x, d < 4294967296 := fun d hd => by
  rcases List.mem_or_eq_of_mem_set hd with hd | rfl
  · exact h d hd
  · exact hx
theorem vd_take_succW (l : List Nat) (k : Nat) (h : k < l.length) : vw (l.take (k + 1)) = vw (l.take k) + 4294967296 ^ k * dg l k := by
  rw [List.take_succ_eq_append_getElem h, vd_snocW, List.length_take, dg_get l k h, Nat.min_eq_left (by omega)]
theorem MulRW.zero (a b : List Nat) : MulRW a b (List.replicate (a.length + b.length + 1) 0) 0 := by
  refine ⟨by simp, fun d hd => ?_, fun j _ => ?_, ?_⟩
  · have := List.eq_of_mem_replicate hd; omega
  · unfold dg List.getD; rw [List.getElem?_replicate]; split <;> rfl
  · rw [vd_replW]; simp [vd_nilW]
theorem MulRW.start {a b out : List Nat} {i : Nat} (h : MulRW a b out i) : MulIW a b out i 0 0 := ⟨h.1, h.2.1, h.2.2.1, by decide, by rw [h.2.2.2]; simp [vd_nilW]⟩
theorem prod_bdW {x y z c : Nat} (hx : x < 4294967296) (hy : y < 4294967296) (hz : z < 4294967296) (hc : c < 4294967296) : z + x * y + c < 18446744073709551616 := by
  have : x * y ≤ 4294967295 * 4294967295 := Nat.mul_le_mul (by omega) (by omega)
  omega
theorem MulIW.succ {a b out : List Nat} {i k carry : Nat} (ha : ∀ d ∈ a, d < 4294967296) (hb : ∀ d ∈ b, d < 4294967296) (h : MulIW a b out i k carry) (hi : i < a.length) (hk : k < b.length) :
    MulIW a b (out.set (i + k) ((dg out (i + k) + dg a i * dg b k + carry) % 4294967296)) i (k + 1) ((dg out (i + k) + dg a i * dg b k + carry) / 4294967296) := by
  obtain ⟨h1, h2, h3, h4, h5⟩ := h
  have x1 := dg_ltW a i ha
  have x2 := dg_ltW b k hb
  have x3 := dg_ltW out (i + k) h2
  have hbd := prod_bdW x1 x2 x3 h4
  have hs := vd_setW out (i + k) ((dg out (i + k) + dg a i * dg b k + carry) % 4294967296) (by omega)
  refine ⟨by simp [h1], mem_set_ltW h2 (Nat.mod_lt _ (by decide)), fun j hj => by rw [dg_set_ne _ _ _ _ (by omega)]; exact h3 j hj, by omega, ?_⟩
  rw [vd_take_succW b k hk, Nat.mul_add, Nat.mul_add, ← Nat.add_assoc (vw (a.take i) * vw b), ← h5, ← Nat.add_assoc i k 1, Nat.pow_succ]
  generalize dg out (i + k) = o at *
  generalize dg a i = p at *
  generalize dg b k = q at *
  have e1 : 4294967296 ^ i * (p * (4294967296 ^ k * q)) = 4294967296 ^ (i + k) * (p * q) := by rw [Nat.pow_add, ← Nat.mul_assoc p, Nat.mul_comm p, Nat.mul_assoc (4294967296 ^ k), ← Nat.mul_assoc (4294967296 ^ i)]
  rw [e1]
  generalize vw (out.set (i + k) ((o + p * q + carry) % 4294967296)) = V' at *
  generalize vw out = V at *
  generalize 4294967296 ^ (i + k) = P at *
  obtain ⟨s, hss⟩ : ∃ s, o + p * q + carry = s := ⟨_, rfl⟩
  rw [hss] at hs ⊢
  have e2 : P * s = P * o + P * (p * q) + P * carry := by rw [← hss, Nat.mul_add, Nat.mul_add]
  have e3 : P * s = P * (s % 4294967296) + P * 4294967296 * (s / 4294967296) := by
    rw [Nat.mul_assoc, ← Nat.mul_add, Nat.mod_add_div]
  omega
theorem MulIW.end_ {a b out : List Nat} {i carry : Nat} (h : MulIW a b out i b.length carry) (hi : i < a.length) : MulRW a b (out.set (i + b.length) carry) (i + 1) := by
  obtain ⟨h1, h2, h3, h4, h5⟩ := h
  have hs := vd_setW out (i + b.length) carry (by omega)
  have h0 := h3 (i + b.length) (Nat.le_refl _)
  refine ⟨by simp [h1], mem_set_ltW h2 h4, fun j hj => by rw [dg_set_ne _ _ _ _ (by omega)]; exact h3 j (by omega), ?_⟩
  rw [h0, Nat.mul_zero, Nat.add_zero] at hs
  rw [hs, h5, vd_take_succW a i hi, List.take_length, Nat.add_mul, Nat.mul_assoc]
theorem MulRW.all {a b out : List Nat} (h : MulRW a b out a.length) : vw out = vw a * vw b ∧ ∀ d ∈ out, d < 4294967296 := by
  obtain ⟨_, h2, _, h4⟩ := h
  rw [List.take_length] at h4
  exact ⟨h4, h2⟩
theorem dig_len2W {n k : Nat} (h : n < 2 ^ k) : (dgw n).length ≤ k := dig_lenW (Nat.lt_of_lt_of_le h (Nat.pow_le_pow_left (by decide) k))
theorem dig_monoW {m n : Nat} (h : m ≤ n) : (dgw m).length ≤ (dgw n).length := by
  apply dig_lenW
  have := vd_ltW (dgw n) (dig_ltW n)
  rw [vd_digW] at this
  omega
/-- long division: what is left, and a digit more -/
theorem ldiv_stepW {b r d : Nat} (hb : 0 < b) (hr : r < b) (hd : d < 4294967296) : (d + 4294967296 * r) / b < 4294967296 := by
  rw [Nat.div_lt_iff_lt_mul hb]
  have : 4294967296 * r + 4294967296 ≤ 4294967296 * b := by omega
  rw [Nat.mul_comm]; omega
/-- long division, as far as it goes: digits from i on are done -/
def DivRW (a q : List Nat) (b i r : Nat) : Prop := q.length = a.length ∧ (∀ d ∈ q, d < 4294967296) ∧ (∀ j, j < i → dg q j = 0) ∧ r < b ∧ vw (q.drop i) * b + r = vw (a.drop i)
theorem DivRW.start (a : List Nat) (b : Nat) (hb : 0 < b) : DivRW a (List.replicate a.length 0) b a.length 0 := by
  refine ⟨by simp, fun d hd => ?_, fun j _ => ?_, hb, ?_⟩
  · have := List.eq_of_mem_replicate hd; omega
  · unfold dg List.getD; rw [List.getElem?_replicate]; split <;> rfl
  · rw [vd_drop_farW _ _ (by simp), vd_drop_farW _ _ (Nat.le_refl _)]; simp
theorem DivRW.step {a q : List Nat} {b i r : Nat} (ha : ∀ d ∈ a, d < 4294967296) (h : DivRW a q b (i + 1) r) (hi : i < a.length) : DivRW a (q.set i ((dg a i + 4294967296 * r) / b)) b i ((dg a i + 4294967296 * r) % b) := by
  obtain ⟨h1, h2, h3, h4, h5⟩ := h
  have hb : 0 < b := by omega
  have hd := ldiv_stepW hb h4 (dg_ltW a i ha)
  refine ⟨by simp [h1], mem_set_ltW h2 hd, fun j hj => by rw [dg_set_ne _ _ _ _ (by omega)]; exact h3 j (by omega), Nat.mod_lt _ hb, ?_⟩
  rw [vd_dropW (q.set i _) i, vd_dropW a i, dg_set_self _ _ _ (by omega), drop_set_le, ← h5, Nat.add_mul]
  have e := Nat.div_add_mod (dg a i + 4294967296 * r) b
  rw [Nat.mul_comm b] at e
  rw [Nat.mul_add, ← Nat.mul_assoc]
  generalize (dg a i + 4294967296 * r) / b * b = x at *
  generalize (dg a i + 4294967296 * r) % b = y at *
  generalize 4294967296 * vw (List.drop (i + 1) q) * b = z
  omega
theorem DivRW.all {a q : List Nat} {b r : Nat} (h : DivRW a q b 0 r) : vw q = vw a / b ∧ (∀ d ∈ q, d < 4294967296) := by
  obtain ⟨_, h2, _, h4, h5⟩ := h
  refine ⟨?_, h2⟩
  rw [List.drop_zero, List.drop_zero] at h5
  rw [← h5, Nat.add_comm, Nat.add_mul_div_right _ _ (by omega), Nat.div_eq_of_lt h4]; omega
end Go.Proofs.Ytfhmaincnlaapaa
namespace Go.Proofs.Ytfhmaincnlaapaa
open Go.ChangeShapes Go.WideShapes Go.ChangeAt Go.RowKit
set_option linter.unusedVariables false

end Go.Proofs.Ytfhmaincnlaapaa
