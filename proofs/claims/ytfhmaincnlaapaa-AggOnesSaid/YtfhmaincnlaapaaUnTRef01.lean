/-
  bushelref01 on trees: numbers of base 1000.
-/
import Derived.Test.YtfhmaincnlaapaaUnRefRead
import Derived.Test.YtfhmaincnlaapaaUnNumMath
namespace Go.Proofs.Ytfhmaincnlaapaa.Sy
open Go.ChangeShapes Go.WideShapes Go.ChangeAt Go.RowKit
set_option linter.unusedVariables false
set_option linter.unusedSimpArgs false
def dL (l : List Nat) : List AV := l.map fun n => iz (n : Nat)
def dA (l : List Nat) : AV := .lst l.length (dL l)
def Td (l : List Nat) : Prop := ∀ d ∈ l, d < 1000
theorem dL_len (l : List Nat) : (dL l).length = l.length := by simp [dL]
theorem dL_app (l m : List Nat) : dL (l ++ m) = dL l ++ dL m := by simp [dL]
theorem dL_take (l : List Nat) (k : Nat) : (dL l).take k = dL (l.take k) := by simp [dL, List.map_take]
theorem dL_drop (l : List Nat) (k : Nat) : (dL l).drop k = dL (l.drop k) := by simp [dL, List.map_drop]
theorem rd_dL (l : List Nat) (k : Nat) (h : k < l.length) : rd1 false 1 (dL l) ((k : Int).toNat * 1) = some (iz (dg l k : Nat)) := by
  unfold rd1 dL
  simp [dg, List.getD, h]
def numT (b : Bool) (l : List Nat) : AV := .agg [.v (.bool b), .lst l.length (dL l)]
def numA (z : Int) : AV := numT (decide (z < 0)) (dig z.natAbs)
def sgZ (b : Bool) (x : Nat) : Int := if b then -(x : Int) else x
/-! ### digit -/
theorem digit_ok (l : List Nat) (k : Nat) (hk : k < 9223372036854775808) (hl : l.length < 9223372036854775808) : FnOk Try.prog 167 ⟨[dA l, iz (k : Nat)], [], iz (dg l k : Nat), []⟩ := by
  by_cases h : k < l.length
  · refine fn_go hmo Try.func167 (by kernel_rfl) [(8, Hint.val (AV.v (Value.bool true))), (12, Hint.val (iz (↑(dg l k) : Int)))] [] [(↑(dg l k) : Int) = (↑(dg l k) : Int), decide ((↑k : Int) < (↑l.length : Int)) = true, (0 : Int) ≤ (↑k : Int) ∧ (↑k : Int) < (↑l.length : Int), rd1 false (1 : Nat) (dL l) ((↑k : Int).toNat * (1 : Nat)) = some (AV.v (Value.int IntKind.i64 (↑(dg l k) : Int)))] (by kernel_rfl) ?_
    ((repeat' refine And.intro ?_ ?_); (with_reducible rfl); ((with_reducible refine Dt ?_; omega)); (iterate 2 (omega)); rotate_left 1; (exact True.intro))
    all_goals exact rd_dL l k h
  · rw [dg_far l k (by omega)]
    refine fn_go hmo Try.func167 (by kernel_rfl) [(8, Hint.val (AV.v (Value.bool false)))] [] [(0 : Int) = (↑(0 : Nat) : Int), decide ((↑k : Int) < (↑l.length : Int)) = false] (by kernel_rfl) ?_
    ((repeat' refine And.intro ?_ ?_); (omega); ((with_reducible refine Df ?_; omega)); (exact True.intro))
/-! ### made -/
theorem tsz_takeD (l : List Nat) (n : Nat) (h : n < l.length) : tsz (l.take (n + 1)) = if dg l n = 0 then tsz (l.take n) else n + 1 := by
  rw [List.take_succ_eq_append_getElem h, tsz_last, dg_get l n h, List.length_take, Nat.min_eq_left (by omega)]
def invMade (b : Bool) (l : List Nat) (n : {n : Nat // n ≤ l.length ∧ tsz (l.take n) = tsz l}) : AS := ⟨[(0, bz b), (1, dA l), (4, .ptr 4 0), (5, iz (n.1 : Nat))], [(4, .cells 126 [bz false, .v (.slice none 0 0)])], 29, []⟩
def madeEnd (b : Bool) (l : List Nat) : AS := ⟨[(0, bz b), (1, dA l), (4, .ptr 4 0), (5, iz (tsz l : Nat))], [(4, .cells 126 [bz false, .v (.slice none 0 0)])], 29, []⟩
theorem made_loop (b : Bool) (l : List Nat) (hl : l.length ≤ 1000000000) (i) : LoopOk Try.prog (loopBody Try.f131 2) (invMade b l i) (.exit 0) (madeEnd b l) := by
  refine LoopOk.of hmo (invMade b l) (fun n => n.1) (fun i => ?_) i
  obtain ⟨n, hn, hs⟩ := i
  cases n with
  | zero =>
    refine Round.out [(8, Hint.val (AV.v (Value.int IntKind.i64 (0 : Int))))] [] [b = b, l.length = l.length ∧ dL l = dL l, (4 : Nat) = (4 : Nat) ∧ (0 : Nat) = (0 : Nat), (↑(0 : Nat) : Int) = (↑(tsz l) : Int), [AV.v (Value.bool false), AV.v (Value.slice none (0 : Nat) (0 : Nat))] = [AV.v (Value.bool false), AV.v (Value.slice none (0 : Nat) (0 : Nat))], (↑(0 : Nat) : Int) = (0 : Int)] (by kernel_rfl) ?_
    ((repeat' refine And.intro ?_ ?_); (iterate 5 (with_reducible rfl)); rotate_left 1; (with_reducible rfl); (omega); (exact True.intro))
    all_goals rw [← hs]; rfl
  | succ n =>
    rw [tsz_takeD l n (by omega)] at hs
    have hr := rd_dL l n (by omega)
    by_cases hd : dg l n = 0
    · rw [if_pos hd] at hs
      refine Round.on [(9, Hint.val (AV.v (Value.bool true))), (13, Hint.val (AV.v (Value.int IntKind.i64 (↑n : Int)))), (15, Hint.val (iz (↑(dg l n) : Int))), (16, Hint.val (AV.v (Value.bool true))), (19, Hint.val (AV.v (Value.int IntKind.i64 (↑n : Int))))] [] ⟨n, by omega, hs⟩ [b = b, l.length = l.length ∧ dL l = dL l, (4 : Nat) = (4 : Nat) ∧ (0 : Nat) = (0 : Nat), (↑n : Int) = (↑n : Int), [AV.v (Value.bool false), AV.v (Value.slice none (0 : Nat) (0 : Nat))] = [AV.v (Value.bool false), AV.v (Value.slice none (0 : Nat) (0 : Nat))], decide ((0 : Int) < (↑(n + (1 : Nat)) : Int)) = true, IntKind.i64.wrap ((↑(n + (1 : Nat)) : Int) - (1 : Int)) = (↑n : Int), (0 : Int) ≤ (↑n : Int) ∧ (↑n : Int) < (↑l.length : Int), rd1 false (1 : Nat) (dL l) ((↑n : Int).toNat * (1 : Nat)) = some (AV.v (Value.int IntKind.i64 (↑(dg l n) : Int))), ((↑(dg l n) : Int) == (0 : Int)) = true, IntKind.i64.wrap ((↑(n + (1 : Nat)) : Int) - (1 : Int)) = (↑n : Int)] (by kernel_rfl) (Nat.lt_succ_self _) ?_
      ((repeat' refine And.intro ?_ ?_); (iterate 7 (with_reducible rfl)); ((with_reducible refine Dt ?_; omega)); ((rw [Wi _ (by omega)]; omega)); (iterate 2 (omega)); ((show rd1 _ _ _ _ = _; assumption)); ((with_reducible refine Be ?_; omega)); ((rw [Wi _ (by omega)]; omega)); (exact True.intro))
    · rw [if_neg hd] at hs
      refine Round.out [(9, Hint.val (AV.v (Value.bool true))), (13, Hint.val (AV.v (Value.int IntKind.i64 (↑n : Int)))), (15, Hint.val (iz (↑(dg l n) : Int))), (16, Hint.val (AV.v (Value.bool false)))] [] [b = b, l.length = l.length ∧ dL l = dL l, (4 : Nat) = (4 : Nat) ∧ (0 : Nat) = (0 : Nat), (↑(n + (1 : Nat)) : Int) = (↑(tsz l) : Int), [AV.v (Value.bool false), AV.v (Value.slice none (0 : Nat) (0 : Nat))] = [AV.v (Value.bool false), AV.v (Value.slice none (0 : Nat) (0 : Nat))], decide ((0 : Int) < (↑(n + (1 : Nat)) : Int)) = true, IntKind.i64.wrap ((↑(n + (1 : Nat)) : Int) - (1 : Int)) = (↑n : Int), (0 : Int) ≤ (↑n : Int) ∧ (↑n : Int) < (↑l.length : Int), rd1 false (1 : Nat) (dL l) ((↑n : Int).toNat * (1 : Nat)) = some (AV.v (Value.int IntKind.i64 (↑(dg l n) : Int))), ((↑(dg l n) : Int) == (0 : Int)) = false] (by kernel_rfl) ?_
      ((repeat' refine And.intro ?_ ?_); (iterate 5 (with_reducible rfl)); (omega); (with_reducible rfl); ((with_reducible refine Dt ?_; omega)); ((rw [Wi _ (by omega)]; omega)); (iterate 2 (omega)); ((show rd1 _ _ _ _ = _; assumption)); ((with_reducible refine Bn ?_; omega)); (exact True.intro))
def made0 (l : List Nat) : {n : Nat // n ≤ l.length ∧ tsz (l.take n) = tsz l} := ⟨l.length, Nat.le_refl _, by rw [List.take_length]⟩
theorem sgZ_ok (b : Bool) (l : List Nat) : (b && decide (0 < tsz l)) = decide (sgZ b (vd l) < 0) ∧ (sgZ b (vd l)).natAbs = vd l := by
  have := tsz_zero l
  unfold sgZ
  cases b
  · refine ⟨?_, by simp⟩
    rw [Bool.false_and]; symm; exact decide_eq_false (by simp)
  · simp only [if_true, Bool.true_and]
    refine ⟨?_, by omega⟩
    rw [decide_eq_decide]; omega
theorem made_ok (b : Bool) (l : List Nat) (hl : l.length ≤ 1000000000) (hd : Td l) : FnOk Try.prog 131 ⟨[bz b, dA l], [], numA (sgZ b (vd l)), []⟩ := by
  have h1 := made_loop b l hl (made0 l)
  have ht := tsz_le l
  obtain ⟨e1, e2⟩ := sgZ_ok b l
  have e3 := take_tsz l hd
  have e4 : (dig (vd l)).length = tsz l := by rw [← e3, List.length_take]; omega
  cases b with
  | true =>
    by_cases h0 : 0 < tsz l
    · refine fn_go hmo Try.func131 (by kernel_rfl) [(23, Hint.val (AV.v (Value.bool true)))] [(2, ⟨.exit 0, invMade true l (made0 l), madeEnd true l⟩)] [[AV.v (Value.bool true), AV.lst ((↑(tsz l) : Int).toNat - (0 : Nat)) (List.take (((↑(tsz l) : Int).toNat - (0 : Nat)) * (1 : Nat)) (List.drop (0 : Nat) (dL l)))] = [AV.v (Value.bool (decide (sgZ true (vd l) < (0 : Int)))), AV.lst (dig (sgZ true (vd l)).natAbs).length (dL (dig (sgZ true (vd l)).natAbs))], LoopOk Try.prog (loopBody Try.f131 (2 : Nat)) (invMade true l (made0 l)) (Exit.exit (0 : Nat)) (madeEnd true l), true = true, l.length = l.length ∧ dL l = dL l, (4 : Nat) = (4 : Nat) ∧ (0 : Nat) = (0 : Nat), (↑l.length : Int) = (↑l.length : Int), [AV.v (Value.bool false), AV.v (Value.slice none (0 : Nat) (0 : Nat))] = [AV.v (Value.bool false), AV.v (Value.slice none (0 : Nat) (0 : Nat))], decide ((0 : Int) < (↑(tsz l) : Int)) = true, (0 : Int) ≤ (0 : Int) ∧ (0 : Int) ≤ (↑(tsz l) : Int) ∧ (↑(tsz l) : Int) ≤ (↑l.length : Int)] (by kernel_rfl) ?_
      ((repeat' refine And.intro ?_ ?_); rotate_left 1; (with_reducible assumption); (iterate 7 (with_reducible rfl)); ((with_reducible refine Dt ?_; omega)); (iterate 3 (omega)); (exact True.intro))
      all_goals simp [dL_take, ← e1, e2, e3, e4, h0]
    · refine fn_go hmo Try.func131 (by kernel_rfl) [(23, Hint.val (AV.v (Value.bool false)))] [(2, ⟨.exit 0, invMade true l (made0 l), madeEnd true l⟩)] [[AV.v (Value.bool false), AV.lst ((↑(tsz l) : Int).toNat - (0 : Nat)) (List.take (((↑(tsz l) : Int).toNat - (0 : Nat)) * (1 : Nat)) (List.drop (0 : Nat) (dL l)))] = [AV.v (Value.bool (decide (sgZ true (vd l) < (0 : Int)))), AV.lst (dig (sgZ true (vd l)).natAbs).length (dL (dig (sgZ true (vd l)).natAbs))], LoopOk Try.prog (loopBody Try.f131 (2 : Nat)) (invMade true l (made0 l)) (Exit.exit (0 : Nat)) (madeEnd true l), true = true, l.length = l.length ∧ dL l = dL l, (4 : Nat) = (4 : Nat) ∧ (0 : Nat) = (0 : Nat), (↑l.length : Int) = (↑l.length : Int), [AV.v (Value.bool false), AV.v (Value.slice none (0 : Nat) (0 : Nat))] = [AV.v (Value.bool false), AV.v (Value.slice none (0 : Nat) (0 : Nat))], decide ((0 : Int) < (↑(tsz l) : Int)) = false, (0 : Int) ≤ (0 : Int) ∧ (0 : Int) ≤ (↑(tsz l) : Int) ∧ (↑(tsz l) : Int) ≤ (↑l.length : Int)] (by kernel_rfl) ?_
      ((repeat' refine And.intro ?_ ?_); rotate_left 1; (with_reducible assumption); (iterate 7 (with_reducible rfl)); ((with_reducible refine Df ?_; omega)); (iterate 3 (omega)); (exact True.intro))
      all_goals simp [dL_take, ← e1, e2, e3, e4, h0]
  | false =>
    refine fn_go hmo Try.func131 (by kernel_rfl) [] [(2, ⟨.exit 0, invMade false l (made0 l), madeEnd false l⟩)] [[AV.v (Value.bool false), AV.lst ((↑(tsz l) : Int).toNat - (0 : Nat)) (List.take (((↑(tsz l) : Int).toNat - (0 : Nat)) * (1 : Nat)) (List.drop (0 : Nat) (dL l)))] = [AV.v (Value.bool false), AV.lst (dig (sgZ false (vd l)).natAbs).length (dL (dig (sgZ false (vd l)).natAbs))], LoopOk Try.prog (loopBody Try.f131 (2 : Nat)) (invMade false l (made0 l)) (Exit.exit (0 : Nat)) (madeEnd false l), false = false, l.length = l.length ∧ dL l = dL l, (4 : Nat) = (4 : Nat) ∧ (0 : Nat) = (0 : Nat), (↑l.length : Int) = (↑l.length : Int), [AV.v (Value.bool false), AV.v (Value.slice none (0 : Nat) (0 : Nat))] = [AV.v (Value.bool false), AV.v (Value.slice none (0 : Nat) (0 : Nat))], (0 : Int) ≤ (0 : Int) ∧ (0 : Int) ≤ (↑(tsz l) : Int) ∧ (↑(tsz l) : Int) ≤ (↑l.length : Int)] (by kernel_rfl) ?_
    ((repeat' refine And.intro ?_ ?_); rotate_left 1; (with_reducible assumption); (iterate 7 (with_reducible rfl)); (iterate 3 (omega)); (exact True.intro))
    all_goals simp [dL_take, ← e1, e2, e3, e4]
/-! ### Nat -/
theorem dL_snoc (l : List Nat) (d : Nat) : dL l ++ [iz (d : Nat)] = dL (l ++ [d]) := by simp [dL]
def rowI (q n : Nat) (cs : List AV) : Nat × AObj := (q, .row 3 1 n 0 cs)
def numO (q : Nat) (b : Bool) (x : AV) : Nat × AObj := (q, .cells 126 [bz b, x])
def natS (x : Nat) : Nat → List Nat × Nat
  | 0 => ([], x)
  | i + 1 => ((natS x i).1 ++ [(natS x i).2 % 1000], (natS x i).2 / 1000)
theorem natS_len (x : Nat) : ∀ i, (natS x i).1.length = i
  | 0 => rfl
  | i + 1 => by simp [natS, natS_len x i]
theorem natS_le (x : Nat) : ∀ i, (natS x i).2 ≤ x
  | 0 => Nat.le_refl _
  | i + 1 => Nat.le_trans (Nat.div_le_self _ _) (natS_le x i)
def natInv (x : Nat) (i : Nat) : AS := ⟨[(0, uz ((natS x i).2 : Nat)), (2, .ptr 2 0), (3, .row 11 0)], [numO 2 false (.v (.slice none 0 0)), rowI 11 i (dL (natS x i).1)], 16, []⟩
theorem natS_dig (x i : Nat) (h : ∀ j, j < i → (natS x j).2 ≠ 0) : (natS x i).1 ++ dig (natS x i).2 = dig x := by
  induction i with
  | zero => rfl
  | succ i ih =>
    have h1 := h i (Nat.lt_succ_self _)
    rw [← ih fun j hj => h j (by omega)]
    show ((natS x i).1 ++ [(natS x i).2 % 1000]) ++ dig ((natS x i).2 / 1000) = _
    rw [dig_pos h1]; simp
theorem nat_loop (x : Nat) (hx : x < 18446744073709551616) (i : {i : Nat // ∀ j, j < i → (natS x j).2 ≠ 0}) : LoopOk Try.prog (loopBody Try.f135 2) (natInv x i.1) (.exit 0) (natInv x (dig x).length) := by
  refine LoopOk.of hmo (fun i : {i : Nat // ∀ j, j < i → (natS x j).2 ≠ 0} => natInv x i.1) (fun i => (natS x i.1).2) (fun i => ?_) i
  obtain ⟨i, hi⟩ := i
  have hd := natS_dig x i hi
  have hlen := natS_len x i
  have hle := natS_le x i
  have hi64 : i ≤ 64 := by
    have h1 := congrArg List.length hd
    rw [List.length_append, hlen] at h1
    have := dig_len (n := x) (k := 7) (by omega)
    omega
  have hz := dL_len (natS x i).1
  by_cases h : (natS x i).2 = 0
  · have e : natInv x (dig x).length = natInv x i := by
      rw [h, dig_zero, List.append_nil] at hd
      rw [← hd, hlen]
    rw [e]
    refine Round.out [(5, Hint.val (AV.v (Value.bool false)))] [] [(↑(natS x i).snd : Int) = (↑(natS x i).snd : Int), (2 : Nat) = (2 : Nat) ∧ (0 : Nat) = (0 : Nat), (11 : Nat) = (11 : Nat) ∧ (0 : Nat) = (0 : Nat), [AV.v (Value.bool false), AV.v (Value.slice none (0 : Nat) (0 : Nat))] = [AV.v (Value.bool false), AV.v (Value.slice none (0 : Nat) (0 : Nat))], i = i ∧ (0 : Nat) = (0 : Nat) ∧ dL (natS x i).fst = dL (natS x i).fst, decide ((0 : Int) < (↑(natS x i).snd : Int)) = false] (by kernel_rfl) ?_
    ((repeat' refine And.intro ?_ ?_); (iterate 9 (with_reducible rfl)); ((with_reducible refine Df ?_; omega)); (exact True.intro))
  · have hj : ∀ j, j < i + 1 → (natS x j).2 ≠ 0 := fun j hj => by
      rcases Nat.lt_succ_iff_lt_or_eq.1 hj with h1 | rfl
      · exact hi j h1
      · exact h
    refine Round.on [(5, Hint.val (AV.v (Value.bool true))), (8, Hint.val (AV.v (Value.int IntKind.u64 (↑((natS x i).snd % (1000 : Nat)) : Int)))), (9, Hint.val (AV.v (Value.int IntKind.i64 (↑((natS x i).snd % (1000 : Nat)) : Int)))), (13, Hint.val (AV.v (Value.int IntKind.u64 (↑((natS x i).snd / (1000 : Nat)) : Int))))] [] ⟨i + 1, hj⟩ [(↑((natS x i).snd / (1000 : Nat)) : Int) = (↑(natS x (i + (1 : Nat))).snd : Int), (2 : Nat) = (2 : Nat) ∧ (0 : Nat) = (0 : Nat), (11 : Nat) = (11 : Nat) ∧ (0 : Nat) = (0 : Nat), [AV.v (Value.bool false), AV.v (Value.slice none (0 : Nat) (0 : Nat))] = [AV.v (Value.bool false), AV.v (Value.slice none (0 : Nat) (0 : Nat))], i + (1 : Nat) = i + (1 : Nat) ∧ (0 : Nat) = (0 : Nat) ∧ dL (natS x i).fst ++ [AV.v (Value.int IntKind.i64 (↑((natS x i).snd % (1000 : Nat)) : Int))] = dL (natS x (i + (1 : Nat))).fst, decide ((0 : Int) < (↑(natS x i).snd : Int)) = true, (↑(natS x i).snd : Int).tmod (1000 : Int) = (↑((natS x i).snd % (1000 : Nat)) : Int), (1000 : Int) ≠ (0 : Int), IntKind.i64.wrap (↑((natS x i).snd % (1000 : Nat)) : Int) = (↑((natS x i).snd % (1000 : Nat)) : Int), [AV.v (Value.int IntKind.i64 (↑((natS x i).snd % (1000 : Nat)) : Int))].length = (1 : Nat), (i + (1 : Nat)) * (8 : Nat) ≤ (140737488355328 : Nat) ∧ i + (1 : Nat) ≤ (140737488355328 : Nat), IntKind.u64.wrap ((↑(natS x i).snd : Int).tdiv (1000 : Int)) = (↑((natS x i).snd / (1000 : Nat)) : Int), (1000 : Int) ≠ (0 : Int)] (by kernel_rfl) (Nat.div_lt_self (by omega) (by decide)) ?_
    ((repeat' refine And.intro ?_ ?_); (exact tdivN _ _); (iterate 7 (with_reducible rfl)); rotate_left 1; ((with_reducible refine Dt ?_; omega)); (exact tmodN _ _); (omega); (exact Wi _ (by omega)); (exact List.length_singleton); (iterate 2 (omega)); (exact tdivU _ _ _ (by rfl) (by omega)); (omega); (exact True.intro))
    all_goals exact dL_snoc _ _
theorem natS_all (x : Nat) : (natS x (dig x).length).1 = dig x := by
  have : ∀ n i x, (dig (natS x i).2).length = n → (natS x (i + n)).1 = (natS x i).1 ++ dig (natS x i).2 := by
    intro n
    induction n with
    | zero => intro i x h; rw [List.eq_nil_of_length_eq_zero h, List.append_nil]; rfl
    | succ n ih =>
      intro i x h
      by_cases h0 : (natS x i).2 = 0
      · rw [h0, dig_zero] at h; simp at h
      · have h1 := dig_pos h0
        rw [h1] at h ⊢
        rw [← Nat.add_assoc, Nat.add_right_comm, ih (i + 1) x (by simpa [natS] using h)]
        simp [natS]
  have h := this (dig x).length 0 x rfl
  simpa [natS] using h
theorem nat01_ok (x : Nat) (hx : x < 18446744073709551616) : FnOk Try.prog 135 ⟨[uz (x : Nat)], [], numA (x : Nat), []⟩ := by
  have h1 := nat_loop x hx ⟨0, fun j hj => by omega⟩
  refine fn_go hmo Try.func135 (by kernel_rfl) [] [(2, ⟨.exit 0, natInv x 0, natInv x (dig x).length⟩)] [[AV.v (Value.bool false), AV.lst (dig x).length (dL (natS x (dig x).length).fst)] = [AV.v (Value.bool false), AV.lst (dig (↑x : Int).natAbs).length (dL (dig (↑x : Int).natAbs))], LoopOk Try.prog (loopBody Try.f135 (2 : Nat)) (natInv x (0 : Nat)) (Exit.exit (0 : Nat)) (natInv x (dig x).length), (↑x : Int) = (↑(natS x (0 : Nat)).snd : Int), (2 : Nat) = (2 : Nat) ∧ (0 : Nat) = (0 : Nat), (11 : Nat) = (11 : Nat) ∧ (0 : Nat) = (0 : Nat), [AV.v (Value.bool false), AV.v (Value.slice none (0 : Nat) (0 : Nat))] = [AV.v (Value.bool false), AV.v (Value.slice none (0 : Nat) (0 : Nat))], (0 : Nat) = (0 : Nat) ∧ (0 : Nat) = (0 : Nat) ∧ ([] : List AV) = []] (by kernel_rfl) ?_
  have e := natS_all x
  ((repeat' refine And.intro ?_ ?_); rotate_left 1; (with_reducible assumption); (exact rfl); (iterate 8 (with_reducible rfl)); (exact True.intro))
  · first | (rw [e, Int.natAbs_natCast, decide_eq_false (by omega)]; done) | (rw [e]; rfl)
  all_goals rfl
/-! ### less -/
def cmpN (x y : Nat) : Int := if x < y then -1 else if y < x then 1 else 0
def LI (a b : List Nat) : Type := {n : Nat // n ≤ 1000000000 ∧ vd (a.drop n) = vd (b.drop n)}
def invLess (a b : List Nat) (i : LI a b) : AS := ⟨[(0, dA a), (1, dA b), (5, iz ((i.1 : Int) - 1))], [], 30, []⟩
theorem less_on {a b : List Nat} (hal : a.length ≤ 1000000000) (hbl : b.length ≤ 1000000000) (e : Exit) (σ' : AS) (m : Nat) (hn) (he : dg a m = dg b m) : Round Try.prog (loopBody Try.f133 2) (invLess a b) (·.1) e σ' ⟨m + 1, hn⟩ := by
  have hj : m ≤ 1000000000 ∧ vd (a.drop m) = vd (b.drop m) := ⟨by omega, by rw [vd_drop a m, vd_drop b m, he, hn.2]⟩
  have h1 := digit_ok a m (by omega) (by omega)
  have h2 := digit_ok b m (by omega) (by omega)
  refine Round.on [(12, Hint.val (AV.v (Value.int IntKind.i64 (↑m : Int)))), (17, Hint.val (AV.v (Value.int IntKind.i64 (↑m : Int)))), (18, Hint.call (Inst.mk [dA a, iz (↑m : Int)] [] (iz (↑(dg a m) : Int)) [])), (20, Hint.val (AV.v (Value.int IntKind.i64 (↑m : Int)))), (21, Hint.call (Inst.mk [dA b, iz (↑m : Int)] [] (iz (↑(dg b m) : Int)) [])), (22, Hint.val (AV.v (Value.bool false))), (14, Hint.val (AV.v (Value.int IntKind.i64 (↑m : Int)))), (15, Hint.val (AV.v (Value.int IntKind.i64 ((↑m : Int) - (1 : Int)))))] [] ⟨m, hj⟩ [a.length = a.length ∧ dL a = dL a, b.length = b.length ∧ dL b = dL b, (↑m : Int) - (1 : Int) = (↑m : Int) - (1 : Int), (↑(m + (1 : Nat)) : Int) - (1 : Int) = (↑m : Int), (↑(m + (1 : Nat)) : Int) - (1 : Int) = (↑m : Int), (a.length = a.length ∧ dL a = dL a) ∧ (↑m : Int) = (↑m : Int) ∧ True, FnOk Try.prog (167 : Nat) (Inst.mk [AV.lst a.length (dL a), AV.v (Value.int IntKind.i64 (↑m : Int))] [] (AV.v (Value.int IntKind.i64 (↑(dg a m) : Int))) []), (↑(m + (1 : Nat)) : Int) - (1 : Int) = (↑m : Int), (b.length = b.length ∧ dL b = dL b) ∧ (↑m : Int) = (↑m : Int) ∧ True, FnOk Try.prog (167 : Nat) (Inst.mk [AV.lst b.length (dL b), AV.v (Value.int IntKind.i64 (↑m : Int))] [] (AV.v (Value.int IntKind.i64 (↑(dg b m) : Int))) []), ((↑(dg a m) : Int) != (↑(dg b m) : Int)) = false, (↑(m + (1 : Nat)) : Int) - (1 : Int) = (↑m : Int), IntKind.i64.wrap ((↑m : Int) - (1 : Int)) = (↑m : Int) - (1 : Int)] (by kernel_rfl) (Nat.lt_succ_self m) ?_
  ((repeat' refine And.intro ?_ ?_); (iterate 5 (with_reducible rfl)); (iterate 2 (omega)); (iterate 3 (with_reducible rfl)); (exact True.intro); ((show FnOk _ _ _; assumption)); (omega); (iterate 3 (with_reducible rfl)); (exact True.intro); ((show FnOk _ _ _; assumption)); ((with_reducible refine Nq ?_; omega)); (omega); (exact Wi _ (by omega)); (exact True.intro))
section
variable {a b : List Nat} (ha : Td a) (hb : Td b) (hal : a.length ≤ 1000000000) (hbl : b.length ≤ 1000000000)
include ha hb hal hbl
theorem less_loop_eq (h : vd a = vd b) (i : LI a b) : LoopOk Try.prog (loopBody Try.f133 2) (invLess a b i) (.exit 0) ⟨[], [], 30, []⟩ := by
  refine LoopOk.of hmo (invLess a b) (·.1) (fun i => ?_) i
  obtain ⟨n, hn⟩ := i
  cases n with
  | zero =>
    refine Round.out [(12, Hint.val (AV.v (Value.int IntKind.i64 ((0 : Int) - (1 : Int)))))] [] [(↑(0 : Nat) : Int) - (1 : Int) = (0 : Int) - (1 : Int)] (by kernel_rfl) ?_
    ((repeat' refine And.intro ?_ ?_); (omega); (exact True.intro))
  | succ m =>
    refine less_on hal hbl _ _ m hn ?_
    rcases Nat.lt_trichotomy (dg a m) (dg b m) with h1 | h1 | h1
    · have := vd_less ha hb hn.2 h1; omega
    · exact h1
    · have := vd_less hb ha hn.2.symm h1; omega
theorem less_loop_lt (h : vd a < vd b) (i : LI a b) : LoopOk Try.prog (loopBody Try.f133 2) (invLess a b i) .ret ⟨[(4, iz (-1))], [], 30, []⟩ := by
  refine LoopOk.of hmo (invLess a b) (·.1) (fun i => ?_) i
  obtain ⟨n, hn⟩ := i
  cases n with
  | zero => have := hn.2; simp only [List.drop_zero] at this; omega
  | succ m =>
    have h1 := digit_ok a m (by omega) (by omega)
    have h2 := digit_ok b m (by omega) (by omega)
    rcases Nat.lt_trichotomy (dg a m) (dg b m) with h3 | h3 | h3
    · refine Round.out [(12, Hint.val (AV.v (Value.int IntKind.i64 (↑m : Int)))), (17, Hint.val (AV.v (Value.int IntKind.i64 (↑m : Int)))), (18, Hint.call (Inst.mk [dA a, iz (↑m : Int)] [] (iz (↑(dg a m) : Int)) [])), (20, Hint.val (AV.v (Value.int IntKind.i64 (↑m : Int)))), (21, Hint.call (Inst.mk [dA b, iz (↑m : Int)] [] (iz (↑(dg b m) : Int)) [])), (22, Hint.val (AV.v (Value.bool true))), (24, Hint.val (AV.v (Value.int IntKind.i64 (↑m : Int)))), (25, Hint.call (Inst.mk [dA a, iz (↑m : Int)] [] (iz (↑(dg a m) : Int)) [])), (27, Hint.val (AV.v (Value.int IntKind.i64 (↑m : Int)))), (28, Hint.call (Inst.mk [dA b, iz (↑m : Int)] [] (iz (↑(dg b m) : Int)) [])), (29, Hint.val (AV.v (Value.bool true)))] [] [(-1 : Int) = (-1 : Int), (↑(m + (1 : Nat)) : Int) - (1 : Int) = (↑m : Int), (↑(m + (1 : Nat)) : Int) - (1 : Int) = (↑m : Int), (a.length = a.length ∧ dL a = dL a) ∧ (↑m : Int) = (↑m : Int) ∧ True, FnOk Try.prog (167 : Nat) (Inst.mk [AV.lst a.length (dL a), AV.v (Value.int IntKind.i64 (↑m : Int))] [] (AV.v (Value.int IntKind.i64 (↑(dg a m) : Int))) []), (↑(m + (1 : Nat)) : Int) - (1 : Int) = (↑m : Int), (b.length = b.length ∧ dL b = dL b) ∧ (↑m : Int) = (↑m : Int) ∧ True, FnOk Try.prog (167 : Nat) (Inst.mk [AV.lst b.length (dL b), AV.v (Value.int IntKind.i64 (↑m : Int))] [] (AV.v (Value.int IntKind.i64 (↑(dg b m) : Int))) []), ((↑(dg a m) : Int) != (↑(dg b m) : Int)) = true, (↑(m + (1 : Nat)) : Int) - (1 : Int) = (↑m : Int), (a.length = a.length ∧ dL a = dL a) ∧ (↑m : Int) = (↑m : Int) ∧ True, FnOk Try.prog (167 : Nat) (Inst.mk [AV.lst a.length (dL a), AV.v (Value.int IntKind.i64 (↑m : Int))] [] (AV.v (Value.int IntKind.i64 (↑(dg a m) : Int))) []), (↑(m + (1 : Nat)) : Int) - (1 : Int) = (↑m : Int), (b.length = b.length ∧ dL b = dL b) ∧ (↑m : Int) = (↑m : Int) ∧ True, FnOk Try.prog (167 : Nat) (Inst.mk [AV.lst b.length (dL b), AV.v (Value.int IntKind.i64 (↑m : Int))] [] (AV.v (Value.int IntKind.i64 (↑(dg b m) : Int))) []), decide ((↑(dg a m) : Int) < (↑(dg b m) : Int)) = true] (by kernel_rfl) ?_
      ((repeat' refine And.intro ?_ ?_); (with_reducible rfl); (iterate 2 (omega)); (iterate 3 (with_reducible rfl)); (exact True.intro); ((show FnOk _ _ _; assumption)); (omega); (iterate 3 (with_reducible rfl)); (exact True.intro); ((show FnOk _ _ _; assumption)); ((with_reducible refine Ne ?_; omega)); (omega); (iterate 3 (with_reducible rfl)); (exact True.intro); ((show FnOk _ _ _; assumption)); (omega); (iterate 3 (with_reducible rfl)); (exact True.intro); ((show FnOk _ _ _; assumption)); ((with_reducible refine Dt ?_; omega)); (exact True.intro))
    · exact less_on hal hbl _ _ m hn h3
    · have := vd_less hb ha hn.2.symm h3; omega
theorem less_loop_gt (h : vd b < vd a) (i : LI a b) : LoopOk Try.prog (loopBody Try.f133 2) (invLess a b i) .ret ⟨[(4, iz 1)], [], 30, []⟩ := by
  refine LoopOk.of hmo (invLess a b) (·.1) (fun i => ?_) i
  obtain ⟨n, hn⟩ := i
  cases n with
  | zero => have := hn.2; simp only [List.drop_zero] at this; omega
  | succ m =>
    have h1 := digit_ok a m (by omega) (by omega)
    have h2 := digit_ok b m (by omega) (by omega)
    rcases Nat.lt_trichotomy (dg a m) (dg b m) with h3 | h3 | h3
    · have := vd_less ha hb hn.2 h3; omega
    · exact less_on hal hbl _ _ m hn h3
    · refine Round.out [(12, Hint.val (AV.v (Value.int IntKind.i64 (↑m : Int)))), (17, Hint.val (AV.v (Value.int IntKind.i64 (↑m : Int)))), (18, Hint.call (Inst.mk [dA a, iz (↑m : Int)] [] (iz (↑(dg a m) : Int)) [])), (20, Hint.val (AV.v (Value.int IntKind.i64 (↑m : Int)))), (21, Hint.call (Inst.mk [dA b, iz (↑m : Int)] [] (iz (↑(dg b m) : Int)) [])), (22, Hint.val (AV.v (Value.bool true))), (24, Hint.val (AV.v (Value.int IntKind.i64 (↑m : Int)))), (25, Hint.call (Inst.mk [dA a, iz (↑m : Int)] [] (iz (↑(dg a m) : Int)) [])), (27, Hint.val (AV.v (Value.int IntKind.i64 (↑m : Int)))), (28, Hint.call (Inst.mk [dA b, iz (↑m : Int)] [] (iz (↑(dg b m) : Int)) [])), (29, Hint.val (AV.v (Value.bool false)))] [] [(1 : Int) = (1 : Int), (↑(m + (1 : Nat)) : Int) - (1 : Int) = (↑m : Int), (↑(m + (1 : Nat)) : Int) - (1 : Int) = (↑m : Int), (a.length = a.length ∧ dL a = dL a) ∧ (↑m : Int) = (↑m : Int) ∧ True, FnOk Try.prog (167 : Nat) (Inst.mk [AV.lst a.length (dL a), AV.v (Value.int IntKind.i64 (↑m : Int))] [] (AV.v (Value.int IntKind.i64 (↑(dg a m) : Int))) []), (↑(m + (1 : Nat)) : Int) - (1 : Int) = (↑m : Int), (b.length = b.length ∧ dL b = dL b) ∧ (↑m : Int) = (↑m : Int) ∧ True, FnOk Try.prog (167 : Nat) (Inst.mk [AV.lst b.length (dL b), AV.v (Value.int IntKind.i64 (↑m : Int))] [] (AV.v (Value.int IntKind.i64 (↑(dg b m) : Int))) []), ((↑(dg a m) : Int) != (↑(dg b m) : Int)) = true, (↑(m + (1 : Nat)) : Int) - (1 : Int) = (↑m : Int), (a.length = a.length ∧ dL a = dL a) ∧ (↑m : Int) = (↑m : Int) ∧ True, FnOk Try.prog (167 : Nat) (Inst.mk [AV.lst a.length (dL a), AV.v (Value.int IntKind.i64 (↑m : Int))] [] (AV.v (Value.int IntKind.i64 (↑(dg a m) : Int))) []), (↑(m + (1 : Nat)) : Int) - (1 : Int) = (↑m : Int), (b.length = b.length ∧ dL b = dL b) ∧ (↑m : Int) = (↑m : Int) ∧ True, FnOk Try.prog (167 : Nat) (Inst.mk [AV.lst b.length (dL b), AV.v (Value.int IntKind.i64 (↑m : Int))] [] (AV.v (Value.int IntKind.i64 (↑(dg b m) : Int))) []), decide ((↑(dg a m) : Int) < (↑(dg b m) : Int)) = false] (by kernel_rfl) ?_
      ((repeat' refine And.intro ?_ ?_); (with_reducible rfl); (iterate 2 (omega)); (iterate 3 (with_reducible rfl)); (exact True.intro); ((show FnOk _ _ _; assumption)); (omega); (iterate 3 (with_reducible rfl)); (exact True.intro); ((show FnOk _ _ _; assumption)); ((with_reducible refine Ne ?_; omega)); (omega); (iterate 3 (with_reducible rfl)); (exact True.intro); ((show FnOk _ _ _; assumption)); (omega); (iterate 3 (with_reducible rfl)); (exact True.intro); ((show FnOk _ _ _; assumption)); ((with_reducible refine Df ?_; omega)); (exact True.intro))
end
def less0 (a b : List Nat) (h : max a.length b.length ≤ 1000000000) : LI a b := ⟨max a.length b.length, h, by rw [List.drop_eq_nil_of_le (by omega), List.drop_eq_nil_of_le (by omega)]⟩
theorem less_ok {a b : List Nat} (ha : Td a) (hb : Td b) (hal : a.length ≤ 1000000000) (hbl : b.length ≤ 1000000000) : FnOk Try.prog 133 ⟨[dA a, dA b], [], iz (cmpN (vd a) (vd b)), []⟩ := by
  have hm : max a.length b.length ≤ 1000000000 := by omega
  rcases Nat.lt_trichotomy (vd a) (vd b) with h | h | h
  · have h1 := less_loop_lt ha hb hal hbl h (less0 a b hm)
    rw [show cmpN (vd a) (vd b) = -1 by unfold cmpN; rw [if_pos h]]
    refine fn_go hmo Try.func133 (by kernel_rfl) [(10, Hint.val (AV.v (Value.int IntKind.i64 (↑(max a.length b.length) : Int)))), (11, Hint.val (AV.v (Value.int IntKind.i64 ((↑(max a.length b.length) : Int) - (1 : Int)))))] [(2, ⟨.ret, invLess a b (less0 a b hm), ⟨[(4, iz (-1))], [], 30, []⟩⟩)] [(-1 : Int) = (-1 : Int), (bif true then if (↑a.length : Int) < (↑b.length : Int) then (↑b.length : Int) else (↑a.length : Int) else if (↑b.length : Int) < (↑a.length : Int) then (↑b.length : Int) else (↑a.length : Int)) = (↑(max a.length b.length) : Int), IntKind.i64.wrap ((↑(max a.length b.length) : Int) - (1 : Int)) = (↑(max a.length b.length) : Int) - (1 : Int), LoopOk Try.prog (loopBody Try.f133 (2 : Nat)) (invLess a b (less0 a b hm)) Exit.ret (AS.mk [((4 : Nat), AV.v (Value.int IntKind.i64 (-1 : Int)))] [] (30 : Nat) []), a.length = a.length ∧ dL a = dL a, b.length = b.length ∧ dL b = dL b, (↑(max a.length b.length) : Int) - (1 : Int) = (↑(max a.length b.length) : Int) - (1 : Int)] (by kernel_rfl) ?_
    ((repeat' refine And.intro ?_ ?_); (with_reducible rfl); ((simp only [cond_true, cond_false]; split <;> omega)); (exact Wi _ (by omega)); ((show LoopOk _ _ _ _ _; assumption)); (iterate 5 (with_reducible rfl)); (exact True.intro))
  · have h1 := less_loop_eq ha hb hal hbl h (less0 a b hm)
    rw [show cmpN (vd a) (vd b) = 0 by unfold cmpN; rw [if_neg (by omega), if_neg (by omega)]]
    refine fn_go hmo Try.func133 (by kernel_rfl) [(10, Hint.val (AV.v (Value.int IntKind.i64 (↑(max a.length b.length) : Int)))), (11, Hint.val (AV.v (Value.int IntKind.i64 ((↑(max a.length b.length) : Int) - (1 : Int)))))] [(2, ⟨.exit 0, invLess a b (less0 a b hm), ⟨[], [], 30, []⟩⟩)] [(0 : Int) = (0 : Int), (bif true then if (↑a.length : Int) < (↑b.length : Int) then (↑b.length : Int) else (↑a.length : Int) else if (↑b.length : Int) < (↑a.length : Int) then (↑b.length : Int) else (↑a.length : Int)) = (↑(max a.length b.length) : Int), IntKind.i64.wrap ((↑(max a.length b.length) : Int) - (1 : Int)) = (↑(max a.length b.length) : Int) - (1 : Int), LoopOk Try.prog (loopBody Try.f133 (2 : Nat)) (invLess a b (less0 a b hm)) (Exit.exit (0 : Nat)) (AS.mk [] [] (30 : Nat) []), a.length = a.length ∧ dL a = dL a, b.length = b.length ∧ dL b = dL b, (↑(max a.length b.length) : Int) - (1 : Int) = (↑(max a.length b.length) : Int) - (1 : Int)] (by kernel_rfl) ?_
    ((repeat' refine And.intro ?_ ?_); (with_reducible rfl); ((simp only [cond_true, cond_false]; split <;> omega)); (exact Wi _ (by omega)); (with_reducible assumption); (iterate 5 (with_reducible rfl)); (exact True.intro))
  · have h1 := less_loop_gt ha hb hal hbl h (less0 a b hm)
    rw [show cmpN (vd a) (vd b) = 1 by unfold cmpN; rw [if_neg (by omega), if_pos h]]
    refine fn_go hmo Try.func133 (by kernel_rfl) [(10, Hint.val (AV.v (Value.int IntKind.i64 (↑(max a.length b.length) : Int)))), (11, Hint.val (AV.v (Value.int IntKind.i64 ((↑(max a.length b.length) : Int) - (1 : Int)))))] [(2, ⟨.ret, invLess a b (less0 a b hm), ⟨[(4, iz 1)], [], 30, []⟩⟩)] [(1 : Int) = (1 : Int), (bif true then if (↑a.length : Int) < (↑b.length : Int) then (↑b.length : Int) else (↑a.length : Int) else if (↑b.length : Int) < (↑a.length : Int) then (↑b.length : Int) else (↑a.length : Int)) = (↑(max a.length b.length) : Int), IntKind.i64.wrap ((↑(max a.length b.length) : Int) - (1 : Int)) = (↑(max a.length b.length) : Int) - (1 : Int), LoopOk Try.prog (loopBody Try.f133 (2 : Nat)) (invLess a b (less0 a b hm)) Exit.ret (AS.mk [((4 : Nat), AV.v (Value.int IntKind.i64 (1 : Int)))] [] (30 : Nat) []), a.length = a.length ∧ dL a = dL a, b.length = b.length ∧ dL b = dL b, (↑(max a.length b.length) : Int) - (1 : Int) = (↑(max a.length b.length) : Int) - (1 : Int)] (by kernel_rfl) ?_
    ((repeat' refine And.intro ?_ ?_); (with_reducible rfl); ((simp only [cond_true, cond_false]; split <;> omega)); (exact Wi _ (by omega)); ((show LoopOk _ _ _ _ _; assumption)); (iterate 5 (with_reducible rfl)); (exact True.intro))
/-! ### sum -/
def sumS (a b : List Nat) : Nat → List Nat × Nat
  | 0 => ([], 0)
  | i + 1 => ((sumS a b i).1 ++ [(dg a i + dg b i + (sumS a b i).2) % 1000], (dg a i + dg b i + (sumS a b i).2) / 1000)
theorem sumS_ok {a b : List Nat} (ha : Td a) (hb : Td b) : ∀ i, SumR a b (sumS a b i).1 i (sumS a b i).2
  | 0 => SumR.zero a b
  | i + 1 => (sumS_ok ha hb i).succ ha hb
def sumInv (a b : List Nat) (i : Nat) : AS := ⟨[(0, dA a), (1, dA b), (5, .row 31 0), (6, iz ((sumS a b i).2 : Nat)), (7, iz (i : Nat))], [rowI 31 i (dL (sumS a b i).1)], 38, []⟩
theorem sum_loop {a b : List Nat} (ha : Td a) (hb : Td b) (hal : a.length ≤ 1000000000) (hbl : b.length ≤ 1000000000) (i : {i : Nat // i ≤ max a.length b.length}) : LoopOk Try.prog (loopBody Try.f132 4) (sumInv a b i.1) (.exit 0) (sumInv a b (max a.length b.length)) := by
  refine LoopOk.of hmo (fun i : {i : Nat // i ≤ max a.length b.length} => sumInv a b i.1) (fun i => max a.length b.length - i.1) (fun i => ?_) i
  obtain ⟨i, hi⟩ := i
  obtain ⟨hl, hc, hd, _⟩ := sumS_ok ha hb i
  have h1 := dg_lt a i ha
  have h2 := dg_lt b i hb
  have hz := dL_len (sumS a b i).1
  by_cases h : i < max a.length b.length
  · have h3 := digit_ok a i (by omega) (by omega)
    have h4 := digit_ok b i (by omega) (by omega)
    refine Round.on [(14, Hint.val (AV.v (Value.int IntKind.i64 (↑(max a.length b.length) : Int)))), (15, Hint.val (AV.v (Value.bool true))), (20, Hint.call (Inst.mk [dA a, iz (↑i : Int)] [] (iz (↑(dg a i) : Int)) [])), (23, Hint.call (Inst.mk [dA b, iz (↑i : Int)] [] (iz (↑(dg b i) : Int)) [])), (24, Hint.val (AV.v (Value.int IntKind.i64 (↑(dg a i + dg b i) : Int)))), (26, Hint.val (AV.v (Value.int IntKind.i64 (↑(dg a i + dg b i + (sumS a b i).snd) : Int)))), (29, Hint.val (AV.v (Value.int IntKind.i64 (↑((dg a i + dg b i + (sumS a b i).snd) % (1000 : Nat)) : Int)))), (33, Hint.val (AV.v (Value.int IntKind.i64 (↑((dg a i + dg b i + (sumS a b i).snd) / (1000 : Nat)) : Int)))), (17, Hint.val (AV.v (Value.int IntKind.i64 (↑(i + (1 : Nat)) : Int))))] [] ⟨i + 1, h⟩ [a.length = a.length ∧ dL a = dL a, b.length = b.length ∧ dL b = dL b, (31 : Nat) = (31 : Nat) ∧ (0 : Nat) = (0 : Nat), (↑((dg a i + dg b i + (sumS a b i).snd) / (1000 : Nat)) : Int) = (↑(sumS a b (i + (1 : Nat))).snd : Int), (↑(i + (1 : Nat)) : Int) = (↑(i + (1 : Nat)) : Int), i + (1 : Nat) = i + (1 : Nat) ∧ (0 : Nat) = (0 : Nat) ∧ dL (sumS a b i).fst ++ [AV.v (Value.int IntKind.i64 (↑((dg a i + dg b i + (sumS a b i).snd) % (1000 : Nat)) : Int))] = dL (sumS a b (i + (1 : Nat))).fst, (bif true then if (↑a.length : Int) < (↑b.length : Int) then (↑b.length : Int) else (↑a.length : Int) else if (↑b.length : Int) < (↑a.length : Int) then (↑b.length : Int) else (↑a.length : Int)) = (↑(max a.length b.length) : Int), decide ((↑i : Int) < (↑(max a.length b.length) : Int)) = true, (a.length = a.length ∧ dL a = dL a) ∧ (↑i : Int) = (↑i : Int) ∧ True, FnOk Try.prog (167 : Nat) (Inst.mk [AV.lst a.length (dL a), AV.v (Value.int IntKind.i64 (↑i : Int))] [] (AV.v (Value.int IntKind.i64 (↑(dg a i) : Int))) []), (b.length = b.length ∧ dL b = dL b) ∧ (↑i : Int) = (↑i : Int) ∧ True, FnOk Try.prog (167 : Nat) (Inst.mk [AV.lst b.length (dL b), AV.v (Value.int IntKind.i64 (↑i : Int))] [] (AV.v (Value.int IntKind.i64 (↑(dg b i) : Int))) []), IntKind.i64.wrap ((↑(dg a i) : Int) + (↑(dg b i) : Int)) = (↑(dg a i + dg b i) : Int), IntKind.i64.wrap ((↑(dg a i + dg b i) : Int) + (↑(sumS a b i).snd : Int)) = (↑(dg a i + dg b i + (sumS a b i).snd) : Int), (↑(dg a i + dg b i + (sumS a b i).snd) : Int).tmod (1000 : Int) = (↑((dg a i + dg b i + (sumS a b i).snd) % (1000 : Nat)) : Int), (1000 : Int) ≠ (0 : Int), [AV.v (Value.int IntKind.i64 (↑((dg a i + dg b i + (sumS a b i).snd) % (1000 : Nat)) : Int))].length = (1 : Nat), (i + (1 : Nat)) * (8 : Nat) ≤ (140737488355328 : Nat) ∧ i + (1 : Nat) ≤ (140737488355328 : Nat), IntKind.i64.wrap ((↑(dg a i + dg b i + (sumS a b i).snd) : Int).tdiv (1000 : Int)) = (↑((dg a i + dg b i + (sumS a b i).snd) / (1000 : Nat)) : Int), (1000 : Int) ≠ (0 : Int), IntKind.i64.wrap ((↑i : Int) + (1 : Int)) = (↑(i + (1 : Nat)) : Int)] (by kernel_rfl) (by show max a.length b.length - (i + 1) < max a.length b.length - i; omega) ?_
    ((repeat' refine And.intro ?_ ?_); (iterate 6 (with_reducible rfl)); (exact tdivN _ _); (iterate 3 (with_reducible rfl)); rotate_left 1; ((simp only [cond_true, cond_false]; split <;> omega)); ((with_reducible refine Dt ?_; omega)); (iterate 3 (with_reducible rfl)); (exact True.intro); ((show FnOk _ _ _; assumption)); (iterate 3 (with_reducible rfl)); (exact True.intro); ((show FnOk _ _ _; assumption)); (iterate 2 (exact Wi _ (by omega))); (exact tmodN _ _); (omega); (exact List.length_singleton); (iterate 2 (omega)); (exact tdivI _ _ _ (by rfl) (by omega)); (omega); (exact Wi _ (by omega)); (exact True.intro))
    all_goals first | rfl | exact dL_snoc _ _
  · obtain rfl : i = max a.length b.length := by omega
    refine Round.out [(14, Hint.val (AV.v (Value.int IntKind.i64 (↑(max a.length b.length) : Int)))), (15, Hint.val (AV.v (Value.bool false)))] [] [a.length = a.length ∧ dL a = dL a, b.length = b.length ∧ dL b = dL b, (31 : Nat) = (31 : Nat) ∧ (0 : Nat) = (0 : Nat), (↑(sumS a b (max a.length b.length)).snd : Int) = (↑(sumS a b (max a.length b.length)).snd : Int), (↑(max a.length b.length) : Int) = (↑(max a.length b.length) : Int), max a.length b.length = max a.length b.length ∧ (0 : Nat) = (0 : Nat) ∧ dL (sumS a b (max a.length b.length)).fst = dL (sumS a b (max a.length b.length)).fst, (bif true then if (↑a.length : Int) < (↑b.length : Int) then (↑b.length : Int) else (↑a.length : Int) else if (↑b.length : Int) < (↑a.length : Int) then (↑b.length : Int) else (↑a.length : Int)) = (↑(max a.length b.length) : Int), decide ((↑(max a.length b.length) : Int) < (↑(max a.length b.length) : Int)) = false] (by kernel_rfl) ?_
    ((repeat' refine And.intro ?_ ?_); (iterate 11 (with_reducible rfl)); ((simp only [cond_true, cond_false]; split <;> omega)); ((with_reducible refine Df ?_; omega)); (exact True.intro))
def sumL (a b : List Nat) : List Nat := (sumS a b (max a.length b.length)).1 ++ [(sumS a b (max a.length b.length)).2]
theorem sumL_ok {a b : List Nat} (ha : Td a) (hb : Td b) : vd (sumL a b) = vd a + vd b ∧ Td (sumL a b) ∧ (sumL a b).length = max a.length b.length + 1 := by
  have h := sumS_ok ha hb (max a.length b.length)
  obtain ⟨h1, h2⟩ := h.end_ (by omega) (by omega)
  exact ⟨h1, h2, by unfold sumL; rw [List.length_append, h.1]; rfl⟩
theorem sum_ok {a b : List Nat} (ha : Td a) (hb : Td b) (hal : a.length ≤ 1000000000) (hbl : b.length ≤ 1000000000) : FnOk Try.prog 132 ⟨[dA a, dA b], [], dA (sumL a b), []⟩ := by
  have h1 := sum_loop ha hb hal hbl ⟨0, Nat.zero_le _⟩
  have h2 := sumL_ok ha hb
  have hz := dL_len (sumS a b (max a.length b.length)).1
  have hl := (sumS_ok ha hb (max a.length b.length)).1
  refine fn_go hmo Try.func132 (by kernel_rfl) [] [(4, ⟨.exit 0, sumInv a b 0, sumInv a b (max a.length b.length)⟩)] [max a.length b.length + (1 : Nat) = (sumL a b).length ∧ dL (sumS a b (max a.length b.length)).fst ++ [AV.v (Value.int IntKind.i64 (↑(sumS a b (max a.length b.length)).snd : Int))] = dL (sumL a b), LoopOk Try.prog (loopBody Try.f132 (4 : Nat)) (sumInv a b (0 : Nat)) (Exit.exit (0 : Nat)) (sumInv a b (max a.length b.length)), a.length = a.length ∧ dL a = dL a, b.length = b.length ∧ dL b = dL b, (31 : Nat) = (31 : Nat) ∧ (0 : Nat) = (0 : Nat), (0 : Int) = (↑(sumS a b (0 : Nat)).snd : Int), (0 : Int) = (↑(0 : Nat) : Int), (0 : Nat) = (0 : Nat) ∧ (0 : Nat) = (0 : Nat) ∧ ([] : List AV) = [], [AV.v (Value.int IntKind.i64 (↑(sumS a b (max a.length b.length)).snd : Int))].length = (1 : Nat), (max a.length b.length + (1 : Nat)) * (8 : Nat) ≤ (140737488355328 : Nat) ∧ max a.length b.length + (1 : Nat) ≤ (140737488355328 : Nat)] (by kernel_rfl) ?_
  ((repeat' refine And.intro ?_ ?_); (omega); rotate_left 1; (with_reducible assumption); (iterate 6 (with_reducible rfl)); (exact rfl); (omega); (iterate 3 (with_reducible rfl)); (exact List.length_singleton); (iterate 2 (omega)); (exact True.intro))
  all_goals exact dL_snoc _ _
/-! ### rest -/
def rstX (a b : List Nat) (i c : Nat) : Int := (dg a i : Int) - dg b i - c
def rstD (x : Int) : Nat := if x < 0 then (x + 1000).toNat else x.toNat
def rstS (a b : List Nat) : Nat → List Nat × Nat
  | 0 => ([], 0)
  | i + 1 => ((rstS a b i).1 ++ [rstD (rstX a b i (rstS a b i).2)], if rstX a b i (rstS a b i).2 < 0 then 1 else 0)
theorem rstD_ok {x : Int} (h : -1000 ≤ x ∧ x < 1000) : rstD x < 1000 ∧ x = (rstD x : Int) - 1000 * ((if x < 0 then 1 else 0 : Nat) : Int) := by
  unfold rstD; by_cases hx : x < 0
  · simp only [hx, if_true]; omega
  · simp only [hx, if_false]; omega
theorem rstS_ok {a b : List Nat} (ha : Td a) (hb : Td b) : ∀ i, RestR a b (rstS a b i).1 i (rstS a b i).2
  | 0 => RestR.zero a b
  | i + 1 => by
    have h := rstS_ok ha hb i
    have h1 := dg_lt a i ha
    have h2 := dg_lt b i hb
    have hc := h.2.1
    have hx : rstX a b i (rstS a b i).2 = (dg a i : Int) - dg b i - (rstS a b i).2 := rfl
    obtain ⟨h3, h4⟩ := rstD_ok (x := rstX a b i (rstS a b i).2) (by omega)
    refine h.step h3 ?_ (by rw [← hx]; exact h4)
    show (if _ then 1 else 0) ≤ 1; split <;> omega
def rstInv (a b : List Nat) (i : Nat) : AS := ⟨[(0, dA a), (1, dA b), (5, .row 31 0), (6, iz ((rstS a b i).2 : Nat)), (7, iz (i : Nat))], [rowI 31 i (dL (rstS a b i).1)], 33, []⟩
theorem rst_loop {a b : List Nat} (ha : Td a) (hb : Td b) (hal : a.length ≤ 1000000000) (hbl : b.length ≤ 1000000000) (i : {i : Nat // i ≤ a.length}) : LoopOk Try.prog (loopBody Try.f134 4) (rstInv a b i.1) (.exit 0) (rstInv a b a.length) := by
  refine LoopOk.of hmo (fun i : {i : Nat // i ≤ a.length} => rstInv a b i.1) (fun i => a.length - i.1) (fun i => ?_) i
  obtain ⟨i, hi⟩ := i
  obtain ⟨hl, hc, hd, _⟩ := rstS_ok ha hb i
  have h1 := dg_lt a i ha
  have h2 := dg_lt b i hb
  have hz := dL_len (rstS a b i).1
  by_cases h : i < a.length
  · have h3 := digit_ok a i (by omega) (by omega)
    have h4 := digit_ok b i (by omega) (by omega)
    have hx : rstX a b i (rstS a b i).2 = (dg a i : Int) - dg b i - (rstS a b i).2 := rfl
    have e1 : (rstS a b (i + 1)).1 = (rstS a b i).1 ++ [rstD (rstX a b i (rstS a b i).2)] := rfl
    have e2 : (rstS a b (i + 1)).2 = if rstX a b i (rstS a b i).2 < 0 then 1 else 0 := rfl
    rw [hx] at e1 e2
    unfold rstD at e1
    by_cases hn : (dg a i : Int) - dg b i - (rstS a b i).2 < 0
    · rw [if_pos hn] at e1 e2
      refine Round.on [(12, Hint.val (AV.v (Value.bool true))), (17, Hint.call (Inst.mk [dA a, iz (↑i : Int)] [] (iz (↑(dg a i) : Int)) [])), (20, Hint.call (Inst.mk [dA b, iz (↑i : Int)] [] (iz (↑(dg b i) : Int)) [])), (21, Hint.val (AV.v (Value.int IntKind.i64 ((↑(dg a i) : Int) - (↑(dg b i) : Int))))), (23, Hint.val (AV.v (Value.int IntKind.i64 ((↑(dg a i) : Int) - (↑(dg b i) : Int) - (↑(rstS a b i).snd : Int))))), (25, Hint.val (AV.v (Value.bool true))), (27, Hint.val (AV.v (Value.int IntKind.i64 ((↑(dg a i) : Int) - (↑(dg b i) : Int) - (↑(rstS a b i).snd : Int) + (1000 : Int))))), (14, Hint.val (AV.v (Value.int IntKind.i64 (↑(i + (1 : Nat)) : Int))))] [] ⟨i + 1, h⟩ [a.length = a.length ∧ dL a = dL a, b.length = b.length ∧ dL b = dL b, (31 : Nat) = (31 : Nat) ∧ (0 : Nat) = (0 : Nat), (1 : Int) = (↑(rstS a b (i + (1 : Nat))).snd : Int), (↑(i + (1 : Nat)) : Int) = (↑(i + (1 : Nat)) : Int), i + (1 : Nat) = i + (1 : Nat) ∧ (0 : Nat) = (0 : Nat) ∧ dL (rstS a b i).fst ++ [AV.v (Value.int IntKind.i64 ((↑(dg a i) : Int) - (↑(dg b i) : Int) - (↑(rstS a b i).snd : Int) + (1000 : Int)))] = dL (rstS a b (i + (1 : Nat))).fst, decide ((↑i : Int) < (↑a.length : Int)) = true, (a.length = a.length ∧ dL a = dL a) ∧ (↑i : Int) = (↑i : Int) ∧ True, FnOk Try.prog (167 : Nat) (Inst.mk [AV.lst a.length (dL a), AV.v (Value.int IntKind.i64 (↑i : Int))] [] (AV.v (Value.int IntKind.i64 (↑(dg a i) : Int))) []), (b.length = b.length ∧ dL b = dL b) ∧ (↑i : Int) = (↑i : Int) ∧ True, FnOk Try.prog (167 : Nat) (Inst.mk [AV.lst b.length (dL b), AV.v (Value.int IntKind.i64 (↑i : Int))] [] (AV.v (Value.int IntKind.i64 (↑(dg b i) : Int))) []), IntKind.i64.wrap ((↑(dg a i) : Int) - (↑(dg b i) : Int)) = (↑(dg a i) : Int) - (↑(dg b i) : Int), IntKind.i64.wrap ((↑(dg a i) : Int) - (↑(dg b i) : Int) - (↑(rstS a b i).snd : Int)) = (↑(dg a i) : Int) - (↑(dg b i) : Int) - (↑(rstS a b i).snd : Int), decide ((↑(dg a i) : Int) - (↑(dg b i) : Int) - (↑(rstS a b i).snd : Int) < (0 : Int)) = true, IntKind.i64.wrap ((↑(dg a i) : Int) - (↑(dg b i) : Int) - (↑(rstS a b i).snd : Int) + (1000 : Int)) = (↑(dg a i) : Int) - (↑(dg b i) : Int) - (↑(rstS a b i).snd : Int) + (1000 : Int), [AV.v (Value.int IntKind.i64 ((↑(dg a i) : Int) - (↑(dg b i) : Int) - (↑(rstS a b i).snd : Int) + (1000 : Int)))].length = (1 : Nat), (i + (1 : Nat)) * (8 : Nat) ≤ (140737488355328 : Nat) ∧ i + (1 : Nat) ≤ (140737488355328 : Nat), IntKind.i64.wrap ((↑i : Int) + (1 : Int)) = (↑(i + (1 : Nat)) : Int)] (by kernel_rfl) (by show a.length - (i + 1) < a.length - i; omega) ?_
      ((repeat' refine And.intro ?_ ?_); (iterate 6 (with_reducible rfl)); (omega); (iterate 3 (with_reducible rfl)); rotate_left 1; ((with_reducible refine Dt ?_; omega)); (iterate 3 (with_reducible rfl)); (exact True.intro); ((show FnOk _ _ _; assumption)); (iterate 3 (with_reducible rfl)); (exact True.intro); ((show FnOk _ _ _; assumption)); (iterate 2 (exact Wi _ (by omega))); ((with_reducible refine Dt ?_; omega)); (exact Wi _ (by omega)); (exact List.length_singleton); (iterate 2 (omega)); (exact Wi _ (by omega)); (exact True.intro))
      all_goals first | (rw [e2]; rfl) | (rw [e1, ← dL_snoc]; congr 5; omega)
    · rw [if_neg hn] at e1 e2
      refine Round.on [(12, Hint.val (AV.v (Value.bool true))), (17, Hint.call (Inst.mk [dA a, iz (↑i : Int)] [] (iz (↑(dg a i) : Int)) [])), (20, Hint.call (Inst.mk [dA b, iz (↑i : Int)] [] (iz (↑(dg b i) : Int)) [])), (21, Hint.val (AV.v (Value.int IntKind.i64 (↑(dg a i - dg b i) : Int)))), (23, Hint.val (AV.v (Value.int IntKind.i64 (↑(dg a i - dg b i - (rstS a b i).snd) : Int)))), (14, Hint.val (AV.v (Value.int IntKind.i64 (↑(i + (1 : Nat)) : Int))))] [] ⟨i + 1, h⟩ [a.length = a.length ∧ dL a = dL a, b.length = b.length ∧ dL b = dL b, (31 : Nat) = (31 : Nat) ∧ (0 : Nat) = (0 : Nat), (0 : Int) = (↑(rstS a b (i + (1 : Nat))).snd : Int), (↑(i + (1 : Nat)) : Int) = (↑(i + (1 : Nat)) : Int), i + (1 : Nat) = i + (1 : Nat) ∧ (0 : Nat) = (0 : Nat) ∧ dL (rstS a b i).fst ++ [AV.v (Value.int IntKind.i64 (↑(dg a i - dg b i - (rstS a b i).snd) : Int))] = dL (rstS a b (i + (1 : Nat))).fst, decide ((↑i : Int) < (↑a.length : Int)) = true, (a.length = a.length ∧ dL a = dL a) ∧ (↑i : Int) = (↑i : Int) ∧ True, FnOk Try.prog (167 : Nat) (Inst.mk [AV.lst a.length (dL a), AV.v (Value.int IntKind.i64 (↑i : Int))] [] (AV.v (Value.int IntKind.i64 (↑(dg a i) : Int))) []), (b.length = b.length ∧ dL b = dL b) ∧ (↑i : Int) = (↑i : Int) ∧ True, FnOk Try.prog (167 : Nat) (Inst.mk [AV.lst b.length (dL b), AV.v (Value.int IntKind.i64 (↑i : Int))] [] (AV.v (Value.int IntKind.i64 (↑(dg b i) : Int))) []), IntKind.i64.wrap ((↑(dg a i) : Int) - (↑(dg b i) : Int)) = (↑(dg a i - dg b i) : Int), IntKind.i64.wrap ((↑(dg a i - dg b i) : Int) - (↑(rstS a b i).snd : Int)) = (↑(dg a i - dg b i - (rstS a b i).snd) : Int), [AV.v (Value.int IntKind.i64 (↑(dg a i - dg b i - (rstS a b i).snd) : Int))].length = (1 : Nat), (i + (1 : Nat)) * (8 : Nat) ≤ (140737488355328 : Nat) ∧ i + (1 : Nat) ≤ (140737488355328 : Nat), IntKind.i64.wrap ((↑i : Int) + (1 : Int)) = (↑(i + (1 : Nat)) : Int)] (by kernel_rfl) (by show a.length - (i + 1) < a.length - i; omega) ?_
      ((repeat' refine And.intro ?_ ?_); (iterate 6 (with_reducible rfl)); (omega); (iterate 3 (with_reducible rfl)); rotate_left 1; ((with_reducible refine Dt ?_; omega)); (iterate 3 (with_reducible rfl)); (exact True.intro); ((show FnOk _ _ _; assumption)); (iterate 3 (with_reducible rfl)); (exact True.intro); ((show FnOk _ _ _; assumption)); (iterate 2 ((rw [Wi _ (by omega)]; omega))); (exact List.length_singleton); (iterate 2 (omega)); (exact Wi _ (by omega)); (exact True.intro))
      all_goals first | (rw [e2]; rfl) | (rw [e1, ← dL_snoc]; congr 5; omega)
  · obtain rfl : i = a.length := by omega
    refine Round.out [(12, Hint.val (AV.v (Value.bool false)))] [] [a.length = a.length ∧ dL a = dL a, b.length = b.length ∧ dL b = dL b, (31 : Nat) = (31 : Nat) ∧ (0 : Nat) = (0 : Nat), (↑(rstS a b a.length).snd : Int) = (↑(rstS a b a.length).snd : Int), (↑a.length : Int) = (↑a.length : Int), a.length = a.length ∧ (0 : Nat) = (0 : Nat) ∧ dL (rstS a b a.length).fst = dL (rstS a b a.length).fst, decide ((↑a.length : Int) < (↑a.length : Int)) = false] (by kernel_rfl) ?_
    ((repeat' refine And.intro ?_ ?_); (iterate 11 (with_reducible rfl)); ((with_reducible refine Df ?_; omega)); (exact True.intro))
theorem rest_ok {a b : List Nat} (ha : Td a) (hb : Td b) (hal : a.length ≤ 1000000000) (hbl : b.length ≤ 1000000000) (hle : vd b ≤ vd a) : ∃ l, vd l = vd a - vd b ∧ Td l ∧ l.length = a.length ∧ FnOk Try.prog 134 ⟨[dA a, dA b], [], dA l, []⟩ := by
  have h1 := rst_loop ha hb hal hbl ⟨0, Nat.zero_le _⟩
  have h2 := rstS_ok ha hb a.length
  obtain ⟨h3, h4⟩ := RestR.end_ ⟨_, h2⟩ hle
  have hz := dL_len (rstS a b a.length).1
  have hl := h2.1
  refine ⟨_, h3, h4, hl, ?_⟩
  refine fn_go hmo Try.func134 (by kernel_rfl) [] [(4, ⟨.exit 0, rstInv a b 0, rstInv a b a.length⟩)] [a.length = (rstS a b a.length).fst.length ∧ dL (rstS a b a.length).fst = dL (rstS a b a.length).fst, LoopOk Try.prog (loopBody Try.f134 (4 : Nat)) (rstInv a b (0 : Nat)) (Exit.exit (0 : Nat)) (rstInv a b a.length), a.length = a.length ∧ dL a = dL a, b.length = b.length ∧ dL b = dL b, (31 : Nat) = (31 : Nat) ∧ (0 : Nat) = (0 : Nat), (0 : Int) = (↑(rstS a b (0 : Nat)).snd : Int), (0 : Int) = (↑(0 : Nat) : Int), (0 : Nat) = (0 : Nat) ∧ (0 : Nat) = (0 : Nat) ∧ ([] : List AV) = []] (by kernel_rfl) ?_
  ((repeat' refine And.intro ?_ ?_); (omega); (with_reducible rfl); (with_reducible assumption); (iterate 6 (with_reducible rfl)); (exact rfl); (omega); (iterate 3 (with_reducible rfl)); (exact True.intro))
/-! ### Neg, Add, Of, Cmp -/
theorem Td_dig (n : Nat) : Td (dig n) := dig_lt n
theorem sgZ_not (z : Int) : sgZ (!decide (z < 0)) z.natAbs = -z := by
  unfold sgZ; by_cases h : z < 0
  · simp [h]; omega
  · simp [h]; omega
theorem neg01_ok (z : Int) (hl : nd z ≤ 1000000000) : FnOk Try.prog 136 ⟨[numA z], [], numA (-z), []⟩ := by
  have h1 := made_ok (!decide (z < 0)) (dig z.natAbs) hl (Td_dig _)
  rw [vd_dig, sgZ_not] at h1
  refine fn_go hmo Try.func136 (by kernel_rfl) [(8, Hint.call (Inst.mk [bz !decide (z < (0 : Int)), dA (dig z.natAbs)] [] (numA (-z)) []))] [] [[AV.v (Value.bool (decide (-z < (0 : Int)))), AV.lst (dig (-z).natAbs).length (dL (dig (-z).natAbs))] = [AV.v (Value.bool (decide (-z < (0 : Int)))), AV.lst (dig (-z).natAbs).length (dL (dig (-z).natAbs))], (!decide (z < (0 : Int))) = !decide (z < (0 : Int)) ∧ ((dig z.natAbs).length = (dig z.natAbs).length ∧ dL (dig z.natAbs) = dL (dig z.natAbs)) ∧ True, FnOk Try.prog (131 : Nat) (Inst.mk [AV.v (Value.bool !decide (z < (0 : Int))), AV.lst (dig z.natAbs).length (dL (dig z.natAbs))] [] (AV.agg [AV.v (Value.bool (decide (-z < (0 : Int)))), AV.lst (dig (-z).natAbs).length (dL (dig (-z).natAbs))]) [])] (by kernel_rfl) ?_
  ((repeat' refine And.intro ?_ ?_); (iterate 4 (with_reducible rfl)); (exact True.intro); ((show FnOk _ _ _; assumption)); (exact True.intro))
theorem add01_ok (x y : Int) (hx : nd x ≤ 100000000) (hy : nd y ≤ 100000000) : FnOk Try.prog 70 ⟨[numA x, numA y], [], numA (x + y), []⟩ := by
  have tx := Td_dig x.natAbs
  have ty := Td_dig y.natAbs
  have hx' : (dig x.natAbs).length ≤ 100000000 := hx
  have hy' : (dig y.natAbs).length ≤ 100000000 := hy
  by_cases hs : decide (x < 0) = decide (y < 0)
  · have hb : (decide (x < 0) == decide (y < 0)) = true := beq_iff_eq.2 hs
    have h1 := sum_ok tx ty (by omega) (by omega)
    obtain ⟨s1, s2, s3⟩ := sumL_ok tx ty
    have h2 := made_ok (decide (x < 0)) (sumL (dig x.natAbs) (dig y.natAbs)) (by omega) s2
    rw [s1, vd_dig, vd_dig] at h2
    have e : sgZ (decide (x < 0)) (x.natAbs + y.natAbs) = x + y := by
      unfold sgZ
      by_cases h : x < 0
      · have : y < 0 := by simpa [h] using hs
        simp [h]; omega
      · have : ¬ y < 0 := by simpa [h] using hs
        simp [h]; omega
    rw [e] at h2
    refine fn_go hmo Try.func70 (by kernel_rfl) [(9, Hint.val (AV.v (Value.bool true))), (16, Hint.call (Inst.mk [dA (dig x.natAbs), dA (dig y.natAbs)] [] (dA (sumL (dig x.natAbs) (dig y.natAbs))) [])), (17, Hint.call (Inst.mk [bz (decide (x < (0 : Int))), dA (sumL (dig x.natAbs) (dig y.natAbs))] [] (numA (x + y)) []))] [] [[AV.v (Value.bool (decide (x + y < (0 : Int)))), AV.lst (dig (x + y).natAbs).length (dL (dig (x + y).natAbs))] = [AV.v (Value.bool (decide (x + y < (0 : Int)))), AV.lst (dig (x + y).natAbs).length (dL (dig (x + y).natAbs))], (decide (x < (0 : Int)) == decide (y < (0 : Int))) = true, ((dig x.natAbs).length = (dig x.natAbs).length ∧ dL (dig x.natAbs) = dL (dig x.natAbs)) ∧ ((dig y.natAbs).length = (dig y.natAbs).length ∧ dL (dig y.natAbs) = dL (dig y.natAbs)) ∧ True, FnOk Try.prog (132 : Nat) (Inst.mk [AV.lst (dig x.natAbs).length (dL (dig x.natAbs)), AV.lst (dig y.natAbs).length (dL (dig y.natAbs))] [] (AV.lst (sumL (dig x.natAbs) (dig y.natAbs)).length (dL (sumL (dig x.natAbs) (dig y.natAbs)))) []), decide (x < (0 : Int)) = decide (x < (0 : Int)) ∧ ((sumL (dig x.natAbs) (dig y.natAbs)).length = (sumL (dig x.natAbs) (dig y.natAbs)).length ∧ dL (sumL (dig x.natAbs) (dig y.natAbs)) = dL (sumL (dig x.natAbs) (dig y.natAbs))) ∧ True, FnOk Try.prog (131 : Nat) (Inst.mk [AV.v (Value.bool (decide (x < (0 : Int)))), AV.lst (sumL (dig x.natAbs) (dig y.natAbs)).length (dL (sumL (dig x.natAbs) (dig y.natAbs)))] [] (AV.agg [AV.v (Value.bool (decide (x + y < (0 : Int)))), AV.lst (dig (x + y).natAbs).length (dL (dig (x + y).natAbs))]) [])] (by kernel_rfl) ?_
    ((repeat' refine And.intro ?_ ?_); (with_reducible rfl); (with_reducible assumption); (iterate 4 (with_reducible rfl)); (exact True.intro); ((show FnOk _ _ _; assumption)); (iterate 3 (with_reducible rfl)); (exact True.intro); ((show FnOk _ _ _; assumption)); (exact True.intro))
  · have hb : (decide (x < 0) == decide (y < 0)) = false := beq_eq_false_iff_ne.2 hs
    have h0 := less_ok tx ty (by omega) (by omega)
    rw [vd_dig, vd_dig] at h0
    by_cases hle : y.natAbs ≤ x.natAbs
    · have hc : 0 ≤ cmpN x.natAbs y.natAbs := by unfold cmpN; (repeat' split) <;> omega
      obtain ⟨l, l1, l2, l3, h1⟩ := rest_ok tx ty (by omega) (by omega) (by rw [vd_dig, vd_dig]; exact hle)
      rw [vd_dig, vd_dig] at l1
      have h2 := made_ok (decide (x < 0)) l (by omega) l2
      have e : sgZ (decide (x < 0)) (x.natAbs - y.natAbs) = x + y := by
        unfold sgZ
        by_cases h : x < 0
        · have : ¬ y < 0 := fun h3 => hs (by simp [h, h3])
          simp [h]; omega
        · have : y < 0 := Decidable.byContradiction fun h3 => hs (by simp [h, h3])
          simp [h]; omega
      rw [l1, e] at h2
      refine fn_go hmo Try.func70 (by kernel_rfl) [(9, Hint.val (AV.v (Value.bool false))), (22, Hint.call (Inst.mk [dA (dig x.natAbs), dA (dig y.natAbs)] [] (iz (cmpN x.natAbs y.natAbs)) [])), (23, Hint.val (AV.v (Value.bool true))), (30, Hint.call (Inst.mk [dA (dig x.natAbs), dA (dig y.natAbs)] [] (dA l) [])), (31, Hint.call (Inst.mk [bz (decide (x < (0 : Int))), dA l] [] (numA (x + y)) []))] [] [[AV.v (Value.bool (decide (x + y < (0 : Int)))), AV.lst (dig (x + y).natAbs).length (dL (dig (x + y).natAbs))] = [AV.v (Value.bool (decide (x + y < (0 : Int)))), AV.lst (dig (x + y).natAbs).length (dL (dig (x + y).natAbs))], (decide (x < (0 : Int)) == decide (y < (0 : Int))) = false, ((dig x.natAbs).length = (dig x.natAbs).length ∧ dL (dig x.natAbs) = dL (dig x.natAbs)) ∧ ((dig y.natAbs).length = (dig y.natAbs).length ∧ dL (dig y.natAbs) = dL (dig y.natAbs)) ∧ True, FnOk Try.prog (133 : Nat) (Inst.mk [AV.lst (dig x.natAbs).length (dL (dig x.natAbs)), AV.lst (dig y.natAbs).length (dL (dig y.natAbs))] [] (AV.v (Value.int IntKind.i64 (cmpN x.natAbs y.natAbs))) []), decide ((0 : Int) ≤ cmpN x.natAbs y.natAbs) = true, ((dig x.natAbs).length = (dig x.natAbs).length ∧ dL (dig x.natAbs) = dL (dig x.natAbs)) ∧ ((dig y.natAbs).length = (dig y.natAbs).length ∧ dL (dig y.natAbs) = dL (dig y.natAbs)) ∧ True, FnOk Try.prog (134 : Nat) (Inst.mk [AV.lst (dig x.natAbs).length (dL (dig x.natAbs)), AV.lst (dig y.natAbs).length (dL (dig y.natAbs))] [] (AV.lst l.length (dL l)) []), decide (x < (0 : Int)) = decide (x < (0 : Int)) ∧ (l.length = l.length ∧ dL l = dL l) ∧ True, FnOk Try.prog (131 : Nat) (Inst.mk [AV.v (Value.bool (decide (x < (0 : Int)))), AV.lst l.length (dL l)] [] (AV.agg [AV.v (Value.bool (decide (x + y < (0 : Int)))), AV.lst (dig (x + y).natAbs).length (dL (dig (x + y).natAbs))]) [])] (by kernel_rfl) ?_
      ((repeat' refine And.intro ?_ ?_); (with_reducible rfl); (with_reducible assumption); (iterate 4 (with_reducible rfl)); (exact True.intro); ((show FnOk _ _ _; assumption)); ((with_reducible refine Dt ?_; omega)); (iterate 4 (with_reducible rfl)); (exact True.intro); ((show FnOk _ _ _; assumption)); (iterate 3 (with_reducible rfl)); (exact True.intro); ((show FnOk _ _ _; assumption)); (exact True.intro))
    · have hc : cmpN x.natAbs y.natAbs < 0 := by unfold cmpN; rw [if_pos (by omega)]; decide
      obtain ⟨l, l1, l2, l3, h1⟩ := rest_ok ty tx (by omega) (by omega) (by rw [vd_dig, vd_dig]; omega)
      rw [vd_dig, vd_dig] at l1
      have h2 := made_ok (decide (y < 0)) l (by omega) l2
      have e : sgZ (decide (y < 0)) (y.natAbs - x.natAbs) = x + y := by
        unfold sgZ
        by_cases h : y < 0
        · have : ¬ x < 0 := fun h3 => hs (by simp [h, h3])
          simp [h]; omega
        · have : x < 0 := Decidable.byContradiction fun h3 => hs (by simp [h, h3])
          simp [h]; omega
      rw [l1, e] at h2
      refine fn_go hmo Try.func70 (by kernel_rfl) [(9, Hint.val (AV.v (Value.bool false))), (22, Hint.call (Inst.mk [dA (dig x.natAbs), dA (dig y.natAbs)] [] (iz (cmpN x.natAbs y.natAbs)) [])), (23, Hint.val (AV.v (Value.bool false))), (38, Hint.call (Inst.mk [dA (dig y.natAbs), dA (dig x.natAbs)] [] (dA l) [])), (39, Hint.call (Inst.mk [bz (decide (y < (0 : Int))), dA l] [] (numA (x + y)) []))] [] [[AV.v (Value.bool (decide (x + y < (0 : Int)))), AV.lst (dig (x + y).natAbs).length (dL (dig (x + y).natAbs))] = [AV.v (Value.bool (decide (x + y < (0 : Int)))), AV.lst (dig (x + y).natAbs).length (dL (dig (x + y).natAbs))], (decide (x < (0 : Int)) == decide (y < (0 : Int))) = false, ((dig x.natAbs).length = (dig x.natAbs).length ∧ dL (dig x.natAbs) = dL (dig x.natAbs)) ∧ ((dig y.natAbs).length = (dig y.natAbs).length ∧ dL (dig y.natAbs) = dL (dig y.natAbs)) ∧ True, FnOk Try.prog (133 : Nat) (Inst.mk [AV.lst (dig x.natAbs).length (dL (dig x.natAbs)), AV.lst (dig y.natAbs).length (dL (dig y.natAbs))] [] (AV.v (Value.int IntKind.i64 (cmpN x.natAbs y.natAbs))) []), decide ((0 : Int) ≤ cmpN x.natAbs y.natAbs) = false, ((dig y.natAbs).length = (dig y.natAbs).length ∧ dL (dig y.natAbs) = dL (dig y.natAbs)) ∧ ((dig x.natAbs).length = (dig x.natAbs).length ∧ dL (dig x.natAbs) = dL (dig x.natAbs)) ∧ True, FnOk Try.prog (134 : Nat) (Inst.mk [AV.lst (dig y.natAbs).length (dL (dig y.natAbs)), AV.lst (dig x.natAbs).length (dL (dig x.natAbs))] [] (AV.lst l.length (dL l)) []), decide (y < (0 : Int)) = decide (y < (0 : Int)) ∧ (l.length = l.length ∧ dL l = dL l) ∧ True, FnOk Try.prog (131 : Nat) (Inst.mk [AV.v (Value.bool (decide (y < (0 : Int)))), AV.lst l.length (dL l)] [] (AV.agg [AV.v (Value.bool (decide (x + y < (0 : Int)))), AV.lst (dig (x + y).natAbs).length (dL (dig (x + y).natAbs))]) [])] (by kernel_rfl) ?_
      ((repeat' refine And.intro ?_ ?_); (with_reducible rfl); (with_reducible assumption); (iterate 4 (with_reducible rfl)); (exact True.intro); ((show FnOk _ _ _; assumption)); ((with_reducible refine Df ?_; omega)); (iterate 4 (with_reducible rfl)); (exact True.intro); ((show FnOk _ _ _; assumption)); (iterate 3 (with_reducible rfl)); (exact True.intro); ((show FnOk _ _ _; assumption)); (exact True.intro))
theorem nd_small (n : Nat) (h : n < 18446744073709551616) : (dig n).length ≤ 7 := dig_len (by omega)
theorem of01_ok (x : Int) (h1 : -9223372036854775808 ≤ x) (h2 : x ≤ 9223372036854775807) : FnOk Try.prog 91 ⟨[iz x], [], numA x, []⟩ := by
  by_cases h : x < 0
  · have e1 := nat01_ok (-(x + 1)).toNat (by omega)
    obtain ⟨one, hone⟩ : ∃ k : Nat, k = 1 := ⟨1, rfl⟩
    have e2 := nat01_ok one (by omega)
    have e3 := add01_ok ((-(x + 1)).toNat : Nat) (one : Nat) (by have := nd_small (-(x + 1)).toNat (by omega); unfold nd; rw [Int.natAbs_natCast]; omega) (by have := nd_small one (by omega); unfold nd; rw [Int.natAbs_natCast]; omega)
    have e4 := neg01_ok (((-(x + 1)).toNat : Nat) + (one : Nat)) (by have := nd_small x.natAbs (by omega); unfold nd; rw [show (((-(x + 1)).toNat : Nat) + (one : Nat) : Int).natAbs = x.natAbs by omega]; omega)
    have e5 : -((((-(x + 1)).toNat : Nat) : Int) + (one : Int)) = x := by omega
    rw [e5] at e4
    refine fn_go hmo Try.func91 (by kernel_rfl) [(4, Hint.val (AV.v (Value.bool true))), (6, Hint.val (AV.v (Value.int IntKind.i64 (x + (1 : Int))))), (7, Hint.val (AV.v (Value.int IntKind.i64 ((0 : Int) - (x + (1 : Int)))))), (8, Hint.val (uz (↑(-(x + (1 : Int))).toNat : Int))), (9, Hint.call (Inst.mk [uz (↑(-(x + (1 : Int))).toNat : Int)] [] (numA (↑(-(x + (1 : Int))).toNat : Int)) [])), (10, Hint.call (Inst.mk [uz (↑one : Int)] [] (numA (↑one : Int)) [])), (11, Hint.call (Inst.mk [numA (↑(-(x + (1 : Int))).toNat : Int), numA (↑one : Int)] [] (numA ((↑(-(x + (1 : Int))).toNat : Int) + (↑one : Int))) [])), (12, Hint.call (Inst.mk [numA ((↑(-(x + (1 : Int))).toNat : Int) + (↑one : Int))] [] (numA x) []))] [] [[AV.v (Value.bool (decide (x < (0 : Int)))), AV.lst (dig x.natAbs).length (dL (dig x.natAbs))] = [AV.v (Value.bool (decide (x < (0 : Int)))), AV.lst (dig x.natAbs).length (dL (dig x.natAbs))], decide (x < (0 : Int)) = true, IntKind.i64.wrap (x + (1 : Int)) = x + (1 : Int), IntKind.i64.wrap ((0 : Int) - (x + (1 : Int))) = (0 : Int) - (x + (1 : Int)), IntKind.u64.wrap ((0 : Int) - (x + (1 : Int))) = (↑(-(x + (1 : Int))).toNat : Int), (↑(-(x + (1 : Int))).toNat : Int) = (↑(-(x + (1 : Int))).toNat : Int) ∧ True, FnOk Try.prog (135 : Nat) (Inst.mk [AV.v (Value.int IntKind.u64 (↑(-(x + (1 : Int))).toNat : Int))] [] (AV.agg [AV.v (Value.bool false), AV.lst (dig (↑(-(x + (1 : Int))).toNat : Int).natAbs).length (dL (dig (↑(-(x + (1 : Int))).toNat : Int).natAbs))]) []), (1 : Int) = (↑one : Int) ∧ True, FnOk Try.prog (135 : Nat) (Inst.mk [AV.v (Value.int IntKind.u64 (↑one : Int))] [] (AV.agg [AV.v (Value.bool false), AV.lst (dig (↑one : Int).natAbs).length (dL (dig (↑one : Int).natAbs))]) []), [AV.v (Value.bool false), AV.lst (dig (↑(-(x + (1 : Int))).toNat : Int).natAbs).length (dL (dig (↑(-(x + (1 : Int))).toNat : Int).natAbs))] = [AV.v (Value.bool false), AV.lst (dig (↑(-(x + (1 : Int))).toNat : Int).natAbs).length (dL (dig (↑(-(x + (1 : Int))).toNat : Int).natAbs))] ∧ [AV.v (Value.bool false), AV.lst (dig (↑one : Int).natAbs).length (dL (dig (↑one : Int).natAbs))] = [AV.v (Value.bool false), AV.lst (dig (↑one : Int).natAbs).length (dL (dig (↑one : Int).natAbs))] ∧ True, FnOk Try.prog (70 : Nat) (Inst.mk [AV.agg [AV.v (Value.bool false), AV.lst (dig (↑(-(x + (1 : Int))).toNat : Int).natAbs).length (dL (dig (↑(-(x + (1 : Int))).toNat : Int).natAbs))], AV.agg [AV.v (Value.bool false), AV.lst (dig (↑one : Int).natAbs).length (dL (dig (↑one : Int).natAbs))]] [] (AV.agg [AV.v (Value.bool false), AV.lst (dig ((↑(-(x + (1 : Int))).toNat : Int) + (↑one : Int)).natAbs).length (dL (dig ((↑(-(x + (1 : Int))).toNat : Int) + (↑one : Int)).natAbs))]) []), [AV.v (Value.bool false), AV.lst (dig ((↑(-(x + (1 : Int))).toNat : Int) + (↑one : Int)).natAbs).length (dL (dig ((↑(-(x + (1 : Int))).toNat : Int) + (↑one : Int)).natAbs))] = [AV.v (Value.bool false), AV.lst (dig ((↑(-(x + (1 : Int))).toNat : Int) + (↑one : Int)).natAbs).length (dL (dig ((↑(-(x + (1 : Int))).toNat : Int) + (↑one : Int)).natAbs))] ∧ True, FnOk Try.prog (136 : Nat) (Inst.mk [AV.agg [AV.v (Value.bool false), AV.lst (dig ((↑(-(x + (1 : Int))).toNat : Int) + (↑one : Int)).natAbs).length (dL (dig ((↑(-(x + (1 : Int))).toNat : Int) + (↑one : Int)).natAbs))]] [] (AV.agg [AV.v (Value.bool (decide (x < (0 : Int)))), AV.lst (dig x.natAbs).length (dL (dig x.natAbs))]) [])] (by kernel_rfl) ?_
    ((repeat' refine And.intro ?_ ?_); (with_reducible rfl); ((with_reducible refine Dt ?_; omega)); (iterate 2 (exact Wi _ (by omega))); ((rw [IntKind.wrap_u64]; omega)); (with_reducible rfl); (exact True.intro); ((show FnOk _ _ _; assumption)); (omega); (exact True.intro); ((show FnOk _ _ _; assumption)); (iterate 2 (with_reducible rfl)); (exact True.intro); ((show FnOk _ _ _; assumption)); (with_reducible rfl); (exact True.intro); ((show FnOk _ _ _; assumption)); (exact True.intro))
  · have e1 := nat01_ok x.toNat (by omega)
    have e2 : ((x.toNat : Nat) : Int) = x := by omega
    rw [e2] at e1
    refine fn_go hmo Try.func91 (by kernel_rfl) [(4, Hint.val (AV.v (Value.bool false))), (14, Hint.val (AV.v (Value.int IntKind.u64 x))), (15, Hint.call (Inst.mk [uz x] [] (numA x) []))] [] [[AV.v (Value.bool (decide (x < (0 : Int)))), AV.lst (dig x.natAbs).length (dL (dig x.natAbs))] = [AV.v (Value.bool (decide (x < (0 : Int)))), AV.lst (dig x.natAbs).length (dL (dig x.natAbs))], decide (x < (0 : Int)) = false, IntKind.u64.wrap x = x, x = x ∧ True, FnOk Try.prog (135 : Nat) (Inst.mk [AV.v (Value.int IntKind.u64 x)] [] (AV.agg [AV.v (Value.bool (decide (x < (0 : Int)))), AV.lst (dig x.natAbs).length (dL (dig x.natAbs))]) [])] (by kernel_rfl) ?_
    ((repeat' refine And.intro ?_ ?_); (with_reducible rfl); ((with_reducible refine Df ?_; omega)); ((rw [IntKind.wrap_u64]; omega)); (with_reducible rfl); (exact True.intro); ((show FnOk _ _ _; assumption)); (exact True.intro))
end Go.Proofs.Ytfhmaincnlaapaa.Sy
