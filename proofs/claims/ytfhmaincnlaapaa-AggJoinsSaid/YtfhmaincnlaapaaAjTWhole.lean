/-
  whole.Add, Abs; bushelref05's flags, Join.
  bushelref02 on trees: Num, Of.
-/
import Derived.Test.YtfhmaincnlaapaaAjNumMath
import Derived.Test.YtfhmaincnlaapaaAjTRef01b
import Derived.Test.YtfhmaincnlaapaaAjTNat1
namespace Go.Proofs.Ytfhmaincnlaapaa.Sy
open Go.ChangeShapes Go.WideShapes Go.ChangeAt Go.RowKit
set_option linter.unusedVariables false
set_option linter.unusedSimpArgs false
theorem vw_nd {l : List Nat} (h : Wd l) : nd ((vw l : Nat) : Int) ≤ 4 * l.length := by
  unfold nd; rw [Int.natAbs_natCast]
  refine dig_len (Nat.lt_of_lt_of_le (vd_ltW l h) ?_)
  rw [Nat.pow_mul]
  exact Nat.pow_le_pow_left (by decide) _
def numInv (l : List Nat) (i : Nat) : AS := ⟨[(0, wA l), (2, .ptr 2 0), (3, .ptr 3 0), (4, iz ((i : Int) - 1))], [(2, .cells 126 [bz false, .v (.slice none 0 0)]), (3, .cells 126 [bz (decide (((vw (l.drop i) : Nat) : Int) < 0)), dA (dig ((vw (l.drop i) : Nat) : Int).natAbs)])], 24, []⟩
theorem num_loop {l : List Nat} (hl : l.length ≤ 100000) (hd : Wd l) (i : {i : Nat // i ≤ l.length}) : LoopOk Try.prog (loopBody Try.f71 3) (numInv l i.1) (.exit 0) (numInv l 0) := by
  refine LoopOk.of hmo (fun i : {i : Nat // i ≤ l.length} => numInv l i.1) (fun i => i.1) (fun i => ?_) i
  obtain ⟨i, hi⟩ := i
  cases i with
  | zero =>
    refine Round.out [(9, Hint.val (AV.v (Value.int IntKind.i64 ((0 : Int) - (1 : Int)))))] [] [l.length = l.length ∧ wL l = wL l, (2 : Nat) = (2 : Nat) ∧ (0 : Nat) = (0 : Nat), (3 : Nat) = (3 : Nat) ∧ (0 : Nat) = (0 : Nat), (↑(0 : Nat) : Int) - (1 : Int) = (↑(0 : Nat) : Int) - (1 : Int), [AV.v (Value.bool false), AV.v (Value.slice none (0 : Nat) (0 : Nat))] = [AV.v (Value.bool false), AV.v (Value.slice none (0 : Nat) (0 : Nat))], [AV.v (Value.bool false), AV.lst (dig (↑(vw (List.drop (0 : Nat) l)) : Int).natAbs).length (dL (dig (↑(vw (List.drop (0 : Nat) l)) : Int).natAbs))] = [AV.v (Value.bool false), AV.lst (dig (↑(vw (List.drop (0 : Nat) l)) : Int).natAbs).length (dL (dig (↑(vw (List.drop (0 : Nat) l)) : Int).natAbs))], (↑(0 : Nat) : Int) - (1 : Int) = (0 : Int) - (1 : Int)] (by kernel_rfl) ?_
    ((repeat' refine And.intro ?_ ?_); (iterate 9 (with_reducible rfl)); (omega); (exact True.intro))
  | succ m =>
    obtain ⟨W, hW⟩ : ∃ k : Nat, k = 4294967296 := ⟨_, rfl⟩
    have h1 := vd_dropW l m
    have h2 := dg_ltW l m hd
    have hn1 : nd ((vw (l.drop (m + 1)) : Nat) : Int) ≤ 4 * l.length := Nat.le_trans (vw_nd fun d h => hd d (List.mem_of_mem_drop h)) (by rw [List.length_drop]; omega)
    have e1 := nat01_ok W (by omega)
    have nW := nd_small W (by omega)
    have e2 := mul01_ok (vw (l.drop (m + 1)) : Nat) (W : Nat) (by omega) (by unfold nd; rw [Int.natAbs_natCast]; omega)
    have e3 := nat01_ok (dg l m) (by omega)
    have nd3 := nd_small (dg l m) (by omega)
    have hn4 : nd (((vw (l.drop (m + 1)) : Nat) : Int) * (W : Nat)) ≤ 100000000 := by
      have : nd (((vw (l.drop (m + 1)) : Nat) : Int) * (W : Nat)) ≤ 4 * (l.length + 1) := by
        unfold nd
        refine dig_len ?_
        rw [← Int.natCast_mul, Int.natAbs_natCast, Nat.pow_mul, hW]
        have h5 := vd_ltW (l.drop (m + 1)) fun d h => hd d (List.mem_of_mem_drop h)
        have h6 : 4294967296 ^ (l.drop (m + 1)).length ≤ (1000 ^ 4) ^ l.length := Nat.le_trans (Nat.pow_le_pow_left (by decide) _) (Nat.pow_le_pow_right (by decide) (by rw [List.length_drop]; omega))
        rw [Nat.pow_succ]
        exact Nat.lt_of_lt_of_le (Nat.mul_lt_mul_of_pos_right (Nat.lt_of_lt_of_le h5 h6) (by decide)) (Nat.mul_le_mul_left _ (by decide))
      omega
    have e4 := add01_ok (((vw (l.drop (m + 1)) : Nat) : Int) * (W : Nat)) (dg l m : Nat) hn4 (by unfold nd; rw [Int.natAbs_natCast]; omega)
    have e5 : ((vw (l.drop (m + 1)) : Nat) : Int) * (W : Nat) + (dg l m : Nat) = ((vw (l.drop m) : Nat) : Int) := by rw [h1, hW]; omega
    rw [e5] at e4
    refine Round.on [(9, Hint.val (AV.v (Value.int IntKind.i64 (↑m : Int)))), (14, Hint.call (Inst.mk [uz (↑W : Int)] [] (numA (↑W : Int)) [])), (15, Hint.call (Inst.mk [numA (↑(vw (List.drop (m + (1 : Nat)) l)) : Int), numA (↑W : Int)] [] (numA ((↑(vw (List.drop (m + (1 : Nat)) l)) : Int) * (↑W : Int))) [])), (17, Hint.val (AV.v (Value.int IntKind.i64 (↑m : Int)))), (19, Hint.val (u3 (dg l m))), (20, Hint.val (AV.v (Value.int IntKind.u64 (↑(dg l m) : Int)))), (21, Hint.call (Inst.mk [uz (↑(dg l m) : Int)] [] (numA (↑(dg l m) : Int)) [])), (22, Hint.call (Inst.mk [numA ((↑(vw (List.drop (m + (1 : Nat)) l)) : Int) * (↑W : Int)), numA (↑(dg l m) : Int)] [] (numA (↑(vw (List.drop m l)) : Int)) [])), (11, Hint.val (AV.v (Value.int IntKind.i64 (↑m : Int)))), (12, Hint.val (AV.v (Value.int IntKind.i64 ((↑m : Int) - (1 : Int)))))] [] ⟨m, by omega⟩ [l.length = l.length ∧ wL l = wL l, (2 : Nat) = (2 : Nat) ∧ (0 : Nat) = (0 : Nat), (3 : Nat) = (3 : Nat) ∧ (0 : Nat) = (0 : Nat), (↑m : Int) - (1 : Int) = (↑m : Int) - (1 : Int), [AV.v (Value.bool false), AV.v (Value.slice none (0 : Nat) (0 : Nat))] = [AV.v (Value.bool false), AV.v (Value.slice none (0 : Nat) (0 : Nat))], [AV.v (Value.bool false), AV.lst (dig (↑(vw (List.drop m l)) : Int).natAbs).length (dL (dig (↑(vw (List.drop m l)) : Int).natAbs))] = [AV.v (Value.bool false), AV.lst (dig (↑(vw (List.drop m l)) : Int).natAbs).length (dL (dig (↑(vw (List.drop m l)) : Int).natAbs))], (↑(m + (1 : Nat)) : Int) - (1 : Int) = (↑m : Int), (4294967296 : Int) = (↑W : Int) ∧ True, FnOk Try.prog (135 : Nat) (Inst.mk [AV.v (Value.int IntKind.u64 (↑W : Int))] [] (AV.agg [AV.v (Value.bool false), AV.lst (dig (↑W : Int).natAbs).length (dL (dig (↑W : Int).natAbs))]) []), [AV.v (Value.bool false), AV.lst (dig (↑(vw (List.drop (m + (1 : Nat)) l)) : Int).natAbs).length (dL (dig (↑(vw (List.drop (m + (1 : Nat)) l)) : Int).natAbs))] = [AV.v (Value.bool false), AV.lst (dig (↑(vw (List.drop (m + (1 : Nat)) l)) : Int).natAbs).length (dL (dig (↑(vw (List.drop (m + (1 : Nat)) l)) : Int).natAbs))] ∧ [AV.v (Value.bool false), AV.lst (dig (↑W : Int).natAbs).length (dL (dig (↑W : Int).natAbs))] = [AV.v (Value.bool false), AV.lst (dig (↑W : Int).natAbs).length (dL (dig (↑W : Int).natAbs))] ∧ True, FnOk Try.prog (92 : Nat) (Inst.mk [AV.agg [AV.v (Value.bool false), AV.lst (dig (↑(vw (List.drop (m + (1 : Nat)) l)) : Int).natAbs).length (dL (dig (↑(vw (List.drop (m + (1 : Nat)) l)) : Int).natAbs))], AV.agg [AV.v (Value.bool false), AV.lst (dig (↑W : Int).natAbs).length (dL (dig (↑W : Int).natAbs))]] [] (AV.agg [AV.v (Value.bool false), AV.lst (dig ((↑(vw (List.drop (m + (1 : Nat)) l)) : Int) * (↑W : Int)).natAbs).length (dL (dig ((↑(vw (List.drop (m + (1 : Nat)) l)) : Int) * (↑W : Int)).natAbs))]) []), (↑(m + (1 : Nat)) : Int) - (1 : Int) = (↑m : Int), (0 : Int) ≤ (↑m : Int) ∧ (↑m : Int) < (↑l.length : Int), rd1 false (1 : Nat) (wL l) ((↑m : Int).toNat * (1 : Nat)) = some (AV.v (Value.int IntKind.u32 (↑(dg l m) : Int))), IntKind.u64.wrap (↑(dg l m) : Int) = (↑(dg l m) : Int), (↑(dg l m) : Int) = (↑(dg l m) : Int) ∧ True, FnOk Try.prog (135 : Nat) (Inst.mk [AV.v (Value.int IntKind.u64 (↑(dg l m) : Int))] [] (AV.agg [AV.v (Value.bool false), AV.lst (dig (↑(dg l m) : Int).natAbs).length (dL (dig (↑(dg l m) : Int).natAbs))]) []), [AV.v (Value.bool false), AV.lst (dig ((↑(vw (List.drop (m + (1 : Nat)) l)) : Int) * (↑W : Int)).natAbs).length (dL (dig ((↑(vw (List.drop (m + (1 : Nat)) l)) : Int) * (↑W : Int)).natAbs))] = [AV.v (Value.bool false), AV.lst (dig ((↑(vw (List.drop (m + (1 : Nat)) l)) : Int) * (↑W : Int)).natAbs).length (dL (dig ((↑(vw (List.drop (m + (1 : Nat)) l)) : Int) * (↑W : Int)).natAbs))] ∧ [AV.v (Value.bool false), AV.lst (dig (↑(dg l m) : Int).natAbs).length (dL (dig (↑(dg l m) : Int).natAbs))] = [AV.v (Value.bool false), AV.lst (dig (↑(dg l m) : Int).natAbs).length (dL (dig (↑(dg l m) : Int).natAbs))] ∧ True, FnOk Try.prog (70 : Nat) (Inst.mk [AV.agg [AV.v (Value.bool false), AV.lst (dig ((↑(vw (List.drop (m + (1 : Nat)) l)) : Int) * (↑W : Int)).natAbs).length (dL (dig ((↑(vw (List.drop (m + (1 : Nat)) l)) : Int) * (↑W : Int)).natAbs))], AV.agg [AV.v (Value.bool false), AV.lst (dig (↑(dg l m) : Int).natAbs).length (dL (dig (↑(dg l m) : Int).natAbs))]] [] (AV.agg [AV.v (Value.bool false), AV.lst (dig (↑(vw (List.drop m l)) : Int).natAbs).length (dL (dig (↑(vw (List.drop m l)) : Int).natAbs))]) []), (↑(m + (1 : Nat)) : Int) - (1 : Int) = (↑m : Int), IntKind.i64.wrap ((↑m : Int) - (1 : Int)) = (↑m : Int) - (1 : Int)] (by kernel_rfl) (Nat.lt_succ_self m) ?_
    ((repeat' refine And.intro ?_ ?_); (iterate 9 (with_reducible rfl)); (iterate 2 (omega)); (exact True.intro); ((show FnOk _ _ _; assumption)); (iterate 2 (with_reducible rfl)); (exact True.intro); ((show FnOk _ _ _; assumption)); (iterate 3 (omega)); rotate_left 1; ((rw [IntKind.wrap_u64]; omega)); (with_reducible rfl); (exact True.intro); ((show FnOk _ _ _; assumption)); (iterate 2 (with_reducible rfl)); (exact True.intro); ((show FnOk _ _ _; assumption)); (omega); (exact Wi _ (by omega)); (exact True.intro))
    all_goals exact rd_wL _ _ (by omega)
theorem num02_ok {l : List Nat} (hl : l.length ≤ 100000) (hd : Wd l) : FnOk Try.prog 71 ⟨[wA l], [], numA (vw l : Nat), []⟩ := by
  have h := num_loop hl hd ⟨l.length, Nat.le_refl _⟩
  refine fn_go hmo Try.func71 (by kernel_rfl) [(8, Hint.val (AV.v (Value.int IntKind.i64 ((↑l.length : Int) - (1 : Int)))))] [(3, ⟨.exit 0, numInv l l.length, numInv l 0⟩)] [[AV.v (Value.bool false), AV.lst (dig (↑(vw (List.drop (0 : Nat) l)) : Int).natAbs).length (dL (dig (↑(vw (List.drop (0 : Nat) l)) : Int).natAbs))] = [AV.v (Value.bool false), AV.lst (dig (↑(vw l) : Int).natAbs).length (dL (dig (↑(vw l) : Int).natAbs))], IntKind.i64.wrap ((↑l.length : Int) - (1 : Int)) = (↑l.length : Int) - (1 : Int), LoopOk Try.prog (loopBody Try.f71 (3 : Nat)) (numInv l l.length) (Exit.exit (0 : Nat)) (numInv l (0 : Nat)), l.length = l.length ∧ wL l = wL l, (2 : Nat) = (2 : Nat) ∧ (0 : Nat) = (0 : Nat), (3 : Nat) = (3 : Nat) ∧ (0 : Nat) = (0 : Nat), (↑l.length : Int) - (1 : Int) = (↑l.length : Int) - (1 : Int), [AV.v (Value.bool false), AV.v (Value.slice none (0 : Nat) (0 : Nat))] = [AV.v (Value.bool false), AV.v (Value.slice none (0 : Nat) (0 : Nat))], [AV.v (Value.bool false), AV.lst (0 : Nat) []] = [AV.v (Value.bool false), AV.lst (dig (↑(vw (List.drop l.length l)) : Int).natAbs).length (dL (dig (↑(vw (List.drop l.length l)) : Int).natAbs))]] (by kernel_rfl) ?_
  have h0 : vw (l.drop l.length) = 0 := by rw [List.drop_length]; rfl
  have h1 : vw (l.drop 0) = vw l := by rw [List.drop_zero]
  ((repeat' refine And.intro ?_ ?_); (exact rfl); (exact Wi _ (by omega)); (with_reducible assumption); (iterate 8 (with_reducible rfl)); rotate_left 1; (exact True.intro))
  all_goals (rw [h0]; simp [dig_zero, dL])
/-! ### Of -/
def dv : List Nat → List Nat × Nat
  | [] => ([], 0)
  | d :: l => (((dv l).2 * 1000 + d) / 4294967296 :: (dv l).1, ((dv l).2 * 1000 + d) % 4294967296)
theorem dv_ok : ∀ {l : List Nat}, Td l → (dv l).1.length = l.length ∧ Td (dv l).1 ∧ vd (dv l).1 = vd l / 4294967296 ∧ (dv l).2 = vd l % 4294967296
  | [], _ => ⟨rfl, (fun x (hx : x ∈ []) => by cases hx), rfl, rfl⟩
  | d :: l, h => by
    obtain ⟨h1, h2, h3, h4⟩ := dv_ok (l := l) fun x hx => h x (by simp [hx])
    have hd := h d (by simp)
    have hr : (dv l).2 < 4294967296 := by omega
    have hv := vd_cons d l
    refine ⟨by simp [dv, h1], fun x hx => ?_, ?_, ?_⟩
    · rcases List.mem_cons.1 hx with rfl | hx
      · omega
      · exact h2 x hx
    · show ((dv l).2 * 1000 + d) / 4294967296 + 1000 * vd (dv l).1 = _
      omega
    · show ((dv l).2 * 1000 + d) % 4294967296 = _
      omega
theorem wL_snoc (l : List Nat) (d : Nat) : wL l ++ [u3 d] = wL (l ++ [d]) := by simp [wL]
def rowW (q n : Nat) (cs : List AV) : Nat × AObj := (q, .row 33 1 n 0 cs)
def dvL (l : List Nat) (i : Nat) : List Nat := l.take i ++ (dv (l.drop i)).1
def ofInv1 (l out : List Nat) (i : Nat) : AS := ⟨[(3, .row 7 0), (4, .row 39 0), (5, iz ((dv (l.drop i)).2 : Nat)), (6, iz ((i : Int) - 1))], [rowI 7 l.length (dL (dvL l i)), rowW 39 out.length (wL out)], 58, []⟩
theorem of_loop1 {l : List Nat} (out : List Nat) (hl : l.length ≤ 100000) (hd : Td l) (i : {i : Nat // i ≤ l.length}) : LoopOk Try.prog (loopBody Try.f72 6) (ofInv1 l out i.1) (.exit 2) (ofInv1 l out 0) := by
  refine LoopOk.of hmo (fun i : {i : Nat // i ≤ l.length} => ofInv1 l out i.1) (fun i => i.1) (fun i => ?_) i
  obtain ⟨i, hi⟩ := i
  cases i with
  | zero =>
    refine Round.out [(17, Hint.val (AV.v (Value.int IntKind.i64 ((0 : Int) - (1 : Int)))))] [] [(7 : Nat) = (7 : Nat) ∧ (0 : Nat) = (0 : Nat), (39 : Nat) = (39 : Nat) ∧ (0 : Nat) = (0 : Nat), (↑(dv (List.drop (0 : Nat) l)).snd : Int) = (↑(dv (List.drop (0 : Nat) l)).snd : Int), (↑(0 : Nat) : Int) - (1 : Int) = (↑(0 : Nat) : Int) - (1 : Int), l.length = l.length ∧ (0 : Nat) = (0 : Nat) ∧ dL (dvL l (0 : Nat)) = dL (dvL l (0 : Nat)), out.length = out.length ∧ (0 : Nat) = (0 : Nat) ∧ wL out = wL out, (↑(0 : Nat) : Int) - (1 : Int) = (0 : Int) - (1 : Int)] (by kernel_rfl) ?_
    ((repeat' refine And.intro ?_ ?_); (iterate 12 (with_reducible rfl)); (omega); (exact True.intro))
  | succ m =>
    have hdrop : l.drop m = dg l m :: l.drop (m + 1) := by rw [← dg_get l m (by omega)]; exact List.drop_eq_getElem_cons (by omega)
    have hq : dv (l.drop m) = (((dv (l.drop (m + 1))).2 * 1000 + dg l m) / 4294967296 :: (dv (l.drop (m + 1))).1, ((dv (l.drop (m + 1))).2 * 1000 + dg l m) % 4294967296) := by rw [hdrop]; rfl
    have h2 := dg_lt l m hd
    obtain ⟨d1, d2, d3, d4⟩ := dv_ok (l := l.drop (m + 1)) fun x hx => hd x (List.mem_of_mem_drop hx)
    rw [List.length_drop] at d1
    have hlen : (dvL l (m + 1)).length = l.length := by unfold dvL; rw [List.length_append, List.length_take, d1]; omega
    have hr := rd_dL (dvL l (m + 1)) m (by omega)
    have hg : dg (dvL l (m + 1)) m = dg l m := by
      unfold dvL dg
      rw [List.getD_eq_getElem?_getD, List.getD_eq_getElem?_getD, List.getElem?_append_left (by rw [List.length_take]; omega), List.getElem?_take_of_lt (by omega)]
    rw [hg] at hr
    have hlt : (dv (l.drop (m + 1))).2 < 4294967296 := by omega
    have hz := dL_len (dvL l (m + 1))
    have hset : (dvL l (m + 1)).set m (((dv (l.drop (m + 1))).2 * 1000 + dg l m) / 4294967296) = dvL l m := by
      unfold dvL
      rw [hq]
      simp only
      rw [List.set_append_left _ _ (by rw [List.length_take]; omega), List.take_succ_eq_append_getElem (by omega), List.set_append_right _ _ (by rw [List.length_take]; omega)]
      simp [List.length_take, Nat.min_eq_left (show m ≤ l.length by omega)]
    refine Round.on [(17, Hint.val (AV.v (Value.int IntKind.i64 (↑m : Int)))), (22, Hint.val (AV.v (Value.int IntKind.i64 (↑((dv (List.drop (m + (1 : Nat)) l)).snd * (1000 : Nat)) : Int)))), (24, Hint.val (AV.v (Value.int IntKind.i64 (↑m : Int)))), (26, Hint.val (iz (↑(dg l m) : Int))), (27, Hint.val (AV.v (Value.int IntKind.i64 (↑((dv (List.drop (m + (1 : Nat)) l)).snd * (1000 : Nat) + dg l m) : Int)))), (29, Hint.val (AV.v (Value.int IntKind.i64 (↑m : Int)))), (31, Hint.val (AV.v (Value.int IntKind.i64 (↑(((dv (List.drop (m + (1 : Nat)) l)).snd * (1000 : Nat) + dg l m) / (4294967296 : Nat)) : Int)))), (34, Hint.val (AV.v (Value.int IntKind.i64 (↑(((dv (List.drop (m + (1 : Nat)) l)).snd * (1000 : Nat) + dg l m) % (4294967296 : Nat)) : Int)))), (19, Hint.val (AV.v (Value.int IntKind.i64 (↑m : Int)))), (20, Hint.val (AV.v (Value.int IntKind.i64 ((↑m : Int) - (1 : Int)))))] [] ⟨m, by omega⟩ [(7 : Nat) = (7 : Nat) ∧ (0 : Nat) = (0 : Nat), (39 : Nat) = (39 : Nat) ∧ (0 : Nat) = (0 : Nat), (↑(((dv (List.drop (m + (1 : Nat)) l)).snd * (1000 : Nat) + dg l m) % (4294967296 : Nat)) : Int) = (↑(dv (List.drop m l)).snd : Int), (↑m : Int) - (1 : Int) = (↑m : Int) - (1 : Int), l.length = l.length ∧ (0 : Nat) = (0 : Nat) ∧ List.take ((↑m : Int).toNat * (1 : Nat)) (dL (dvL l (m + (1 : Nat)))) ++ [AV.v (Value.int IntKind.i64 (↑(((dv (List.drop (m + (1 : Nat)) l)).snd * (1000 : Nat) + dg l m) / (4294967296 : Nat)) : Int))] ++ List.drop ((↑m : Int).toNat * (1 : Nat) + [AV.v (Value.int IntKind.i64 (↑(((dv (List.drop (m + (1 : Nat)) l)).snd * (1000 : Nat) + dg l m) / (4294967296 : Nat)) : Int))].length) (dL (dvL l (m + (1 : Nat)))) = dL (dvL l m), out.length = out.length ∧ (0 : Nat) = (0 : Nat) ∧ wL out = wL out, (↑(m + (1 : Nat)) : Int) - (1 : Int) = (↑m : Int), IntKind.i64.wrap ((↑(dv (List.drop (m + (1 : Nat)) l)).snd : Int) * (1000 : Int)) = (↑((dv (List.drop (m + (1 : Nat)) l)).snd * (1000 : Nat)) : Int), (↑(m + (1 : Nat)) : Int) - (1 : Int) = (↑m : Int), (0 : Int) ≤ (↑m : Int) ∧ (↑m : Int) < (↑l.length : Int), rd1 false (1 : Nat) (dL (dvL l (m + (1 : Nat)))) ((↑m : Int).toNat * (1 : Nat)) = some (AV.v (Value.int IntKind.i64 (↑(dg l m) : Int))), IntKind.i64.wrap ((↑((dv (List.drop (m + (1 : Nat)) l)).snd * (1000 : Nat)) : Int) + (↑(dg l m) : Int)) = (↑((dv (List.drop (m + (1 : Nat)) l)).snd * (1000 : Nat) + dg l m) : Int), (↑(m + (1 : Nat)) : Int) - (1 : Int) = (↑m : Int), IntKind.i64.wrap ((↑((dv (List.drop (m + (1 : Nat)) l)).snd * (1000 : Nat) + dg l m) : Int).tdiv (4294967296 : Int)) = (↑(((dv (List.drop (m + (1 : Nat)) l)).snd * (1000 : Nat) + dg l m) / (4294967296 : Nat)) : Int), (4294967296 : Int) ≠ (0 : Int), (0 : Int) ≤ (↑m : Int) ∧ (↑m : Int) < (↑l.length : Int), (↑m : Int).toNat * (1 : Nat) + [AV.v (Value.int IntKind.i64 (↑(((dv (List.drop (m + (1 : Nat)) l)).snd * (1000 : Nat) + dg l m) / (4294967296 : Nat)) : Int))].length ≤ (dL (dvL l (m + (1 : Nat)))).length, (↑((dv (List.drop (m + (1 : Nat)) l)).snd * (1000 : Nat) + dg l m) : Int).tmod (4294967296 : Int) = (↑(((dv (List.drop (m + (1 : Nat)) l)).snd * (1000 : Nat) + dg l m) % (4294967296 : Nat)) : Int), (4294967296 : Int) ≠ (0 : Int), (↑(m + (1 : Nat)) : Int) - (1 : Int) = (↑m : Int), IntKind.i64.wrap ((↑m : Int) - (1 : Int)) = (↑m : Int) - (1 : Int)] (by kernel_rfl) (Nat.lt_succ_self m) ?_
    ((repeat' refine And.intro ?_ ?_); (iterate 4 (with_reducible rfl)); rotate_left 1; (iterate 3 (with_reducible rfl)); rotate_left 1; (iterate 3 (with_reducible rfl)); (omega); (exact Wi _ (by omega)); (iterate 3 (omega)); ((show rd1 _ _ _ _ = _; assumption)); (exact Wi _ (by omega)); (omega); (exact tdivI _ _ _ (by rfl) (by omega)); (iterate 3 (omega)); ((simp only [List.length_cons, List.length_nil]; omega)); (exact tmodN _ _); (iterate 2 (omega)); (exact Wi _ (by omega)); (exact True.intro))
    all_goals first | (rw [hq]; done) | (rw [hq]) | (rw [← hset]; exact dL_set _ _ _ (by omega))
def ofInv2 (m out : List Nat) (k : Nat) : AS := ⟨[(3, .row 7 0), (4, .row 39 0)], [rowI 7 k (dL (m.take k)), rowW 39 out.length (wL out)], 58, []⟩
theorem of_loop2 {m : List Nat} (out : List Nat) (hl : m.length ≤ 100000) (i : {k : Nat // k ≤ m.length ∧ tsz (m.take k) = tsz m}) : LoopOk Try.prog (loopBody Try.f72 12) (ofInv2 m out i.1) (.exit 4) (ofInv2 m out (tsz m)) := by
  refine LoopOk.of hmo (fun i : {k : Nat // k ≤ m.length ∧ tsz (m.take k) = tsz m} => ofInv2 m out i.1) (fun i => i.1) (fun i => ?_) i
  obtain ⟨k, hk, hs⟩ := i
  have hz := dL_len (m.take k)
  rw [List.length_take] at hz
  cases k with
  | zero =>
    have e : tsz m = 0 := by rw [← hs]; rfl
    refine Round.out [(41, Hint.val (AV.v (Value.int IntKind.i64 (0 : Int))))] [] [(7 : Nat) = (7 : Nat) ∧ (0 : Nat) = (0 : Nat), (39 : Nat) = (39 : Nat) ∧ (0 : Nat) = (0 : Nat), (0 : Nat) = tsz m ∧ (0 : Nat) = (0 : Nat) ∧ [] = dL (List.take (tsz m) m), out.length = out.length ∧ (0 : Nat) = (0 : Nat) ∧ wL out = wL out, (↑(0 : Nat) : Int) = (0 : Int)] (by kernel_rfl) ?_
    ((repeat' refine And.intro ?_ ?_); (iterate 4 (with_reducible rfl)); (omega); (with_reducible rfl); rotate_left 1; (iterate 3 (with_reducible rfl)); (omega); (exact True.intro))
    all_goals (rw [e]; rfl)
  | succ k =>
    rw [tsz_takeD m k (by omega)] at hs
    have hr := rd_dL (m.take (k + 1)) k (by rw [List.length_take]; omega)
    have hg : dg (m.take (k + 1)) k = dg m k := by unfold dg; rw [List.getD_eq_getElem?_getD, List.getD_eq_getElem?_getD, List.getElem?_take_of_lt (by omega)]
    rw [hg] at hr
    by_cases hd : dg m k = 0
    · rw [if_pos hd] at hs
      refine Round.on [(42, Hint.val (AV.v (Value.bool true))), (47, Hint.val (AV.v (Value.int IntKind.i64 (↑k : Int)))), (49, Hint.val (iz (↑(dg m k) : Int))), (50, Hint.val (AV.v (Value.bool true))), (55, Hint.val (AV.v (Value.int IntKind.i64 (↑k : Int))))] [] ⟨k, by omega, hs⟩ [(7 : Nat) = (7 : Nat) ∧ (0 : Nat) = (0 : Nat), (39 : Nat) = (39 : Nat) ∧ (0 : Nat) = (0 : Nat), (↑k : Int).toNat = k ∧ (0 : Nat) = (0 : Nat) ∧ List.take ((↑k : Int).toNat * (1 : Nat)) (dL (List.take (k + (1 : Nat)) m)) = dL (List.take k m), out.length = out.length ∧ (0 : Nat) = (0 : Nat) ∧ wL out = wL out, decide ((0 : Int) < (↑(k + (1 : Nat)) : Int)) = true, IntKind.i64.wrap ((↑(k + (1 : Nat)) : Int) - (1 : Int)) = (↑k : Int), (0 : Int) ≤ (↑k : Int) ∧ (↑k : Int) < (↑(k + (1 : Nat)) : Int), rd1 false (1 : Nat) (dL (List.take (k + (1 : Nat)) m)) ((↑k : Int).toNat * (1 : Nat)) = some (AV.v (Value.int IntKind.i64 (↑(dg m k) : Int))), ((↑(dg m k) : Int) == (0 : Int)) = true, IntKind.i64.wrap ((↑(k + (1 : Nat)) : Int) - (1 : Int)) = (↑k : Int), (0 : Int) = (0 : Int) ∧ (0 : Int) ≤ (↑k : Int) ∧ (↑k : Int) ≤ (↑(k + (1 : Nat)) : Int)] (by kernel_rfl) (Nat.lt_succ_self _) ?_
      ((repeat' refine And.intro ?_ ?_); (iterate 4 (with_reducible rfl)); (omega); (with_reducible rfl); rotate_left 1; (iterate 3 (with_reducible rfl)); ((with_reducible refine Dt ?_; omega)); ((rw [Wi _ (by omega)]; omega)); (iterate 2 (omega)); ((show rd1 _ _ _ _ = _; assumption)); ((with_reducible refine Be ?_; omega)); ((rw [Wi _ (by omega)]; omega)); (with_reducible rfl); (iterate 2 (omega)); (exact True.intro))
      all_goals (rw [dL_take, List.take_take]; simp)
    · rw [if_neg hd] at hs
      refine Round.out [(42, Hint.val (AV.v (Value.bool true))), (47, Hint.val (AV.v (Value.int IntKind.i64 (↑k : Int)))), (49, Hint.val (iz (↑(dg m k) : Int))), (50, Hint.val (AV.v (Value.bool false)))] [] [(7 : Nat) = (7 : Nat) ∧ (0 : Nat) = (0 : Nat), (39 : Nat) = (39 : Nat) ∧ (0 : Nat) = (0 : Nat), k + (1 : Nat) = tsz m ∧ (0 : Nat) = (0 : Nat) ∧ dL (List.take (k + (1 : Nat)) m) = dL (List.take (tsz m) m), out.length = out.length ∧ (0 : Nat) = (0 : Nat) ∧ wL out = wL out, decide ((0 : Int) < (↑(k + (1 : Nat)) : Int)) = true, IntKind.i64.wrap ((↑(k + (1 : Nat)) : Int) - (1 : Int)) = (↑k : Int), (0 : Int) ≤ (↑k : Int) ∧ (↑k : Int) < (↑(k + (1 : Nat)) : Int), rd1 false (1 : Nat) (dL (List.take (k + (1 : Nat)) m)) ((↑k : Int).toNat * (1 : Nat)) = some (AV.v (Value.int IntKind.i64 (↑(dg m k) : Int))), ((↑(dg m k) : Int) == (0 : Int)) = false] (by kernel_rfl) ?_
      ((repeat' refine And.intro ?_ ?_); (iterate 4 (with_reducible rfl)); (with_reducible assumption); (with_reducible rfl); rotate_left 1; (iterate 3 (with_reducible rfl)); ((with_reducible refine Dt ?_; omega)); ((rw [Wi _ (by omega)]; omega)); (iterate 2 (omega)); ((show rd1 _ _ _ _ = _; assumption)); ((with_reducible refine Bn ?_; omega)); (exact True.intro))
      all_goals (rw [hs])
/-! the words of a number, one by one -/
def wS (x : Nat) : Nat → List Nat × Nat
  | 0 => ([], x)
  | i + 1 => ((wS x i).1 ++ [(wS x i).2 % 4294967296], (wS x i).2 / 4294967296)
theorem wS_len (x : Nat) : ∀ i, (wS x i).1.length = i
  | 0 => rfl
  | i + 1 => by simp [wS, wS_len x i]
theorem wS_le (x : Nat) : ∀ i, (wS x i).2 ≤ x
  | 0 => Nat.le_refl _
  | i + 1 => Nat.le_trans (Nat.div_le_self _ _) (wS_le x i)
theorem wS_dig (x i : Nat) (h : ∀ j, j < i → (wS x j).2 ≠ 0) : (wS x i).1 ++ dgw (wS x i).2 = dgw x := by
  induction i with
  | zero => rfl
  | succ i ih =>
    have h1 := h i (Nat.lt_succ_self _)
    rw [← ih fun j hj => h j (by omega)]
    show ((wS x i).1 ++ [(wS x i).2 % 4294967296]) ++ dgw ((wS x i).2 / 4294967296) = _
    rw [dig_posW h1]; simp
def ofInv (x : Nat) (i : Nat) : AS := ⟨[(3, .row 7 0), (4, .row 39 0)], [rowI 7 (dig (wS x i).2).length (dL (dig (wS x i).2)), rowW 39 i (wL (wS x i).1)], 58, []⟩
theorem of_loop (x : Nat) (hx : (dig x).length ≤ 100000) (i : {i : Nat // ∀ j, j < i → (wS x j).2 ≠ 0}) : LoopOk Try.prog (loopBody Try.f72 3) (ofInv x i.1) (.exit 0) (ofInv x (dgw x).length) := by
  refine LoopOk.of hmo (fun i : {i : Nat // ∀ j, j < i → (wS x j).2 ≠ 0} => ofInv x i.1) (fun i => (wS x i.1).2) (fun i => ?_) i
  obtain ⟨i, hi⟩ := i
  have hd := wS_dig x i hi
  have hlen := wS_len x i
  have hle := wS_le x i
  have hnd : (dig (wS x i).2).length ≤ 100000 := Nat.le_trans (dig_mono hle) hx
  have hil : i ≤ 100000 := by
    have h1 := congrArg List.length hd
    rw [List.length_append, hlen] at h1
    have h2 : (dgw x).length ≤ (dig x).length := dig_lenW (Nat.lt_of_lt_of_le (by have := vd_lt (dig x) (dig_lt x); rw [vd_dig] at this; exact this) (Nat.pow_le_pow_left (by decide) _))
    omega
  have hz := wL_len (wS x i).1
  by_cases h : (wS x i).2 = 0
  · have e : ofInv x (dgw x).length = ofInv x i := by
      rw [h, dig_zeroW, List.append_nil] at hd
      rw [← hd, hlen]
    have e2 : (dig (wS x i).2).length = 0 := by rw [h, dig_zero]; rfl
    rw [e]
    refine Round.out [(13, Hint.val (AV.v (Value.bool false)))] [] [(7 : Nat) = (7 : Nat) ∧ (0 : Nat) = (0 : Nat), (39 : Nat) = (39 : Nat) ∧ (0 : Nat) = (0 : Nat), (dig (wS x i).snd).length = (dig (wS x i).snd).length ∧ (0 : Nat) = (0 : Nat) ∧ dL (dig (wS x i).snd) = dL (dig (wS x i).snd), i = i ∧ (0 : Nat) = (0 : Nat) ∧ wL (wS x i).fst = wL (wS x i).fst, decide ((0 : Int) < (↑(dig (wS x i).snd).length : Int)) = false] (by kernel_rfl) ?_
    ((repeat' refine And.intro ?_ ?_); (iterate 10 (with_reducible rfl)); ((with_reducible refine Df ?_; omega)); (exact True.intro))
  · have hj : ∀ j, j < i + 1 → (wS x j).2 ≠ 0 := fun j hj => by
      rcases Nat.lt_succ_iff_lt_or_eq.1 hj with h1 | rfl
      · exact hi j h1
      · exact h
    obtain ⟨r, hr⟩ : ∃ r, (wS x i).2 = r := ⟨_, rfl⟩
    obtain ⟨l, hl⟩ : ∃ l, dig r = l := ⟨_, rfl⟩
    have hpos : 0 < l.length := by rw [← hl, dig_pos (by omega)]; simp
    rw [hr, hl] at hnd
    have tl : Td l := hl ▸ Td_dig r
    have hvl : vd l = r := by rw [← hl, vd_dig]
    obtain ⟨d1, d2, d3, d4⟩ := dv_ok tl
    rw [hvl] at d3 d4
    have l1 := of_loop1 (l := l) (wS x i).1 hnd tl ⟨l.length, Nat.le_refl _⟩
    have l2 := of_loop2 (m := (dv l).1) ((wS x i).1 ++ [(dv l).2]) (by omega) ⟨(dv l).1.length, Nat.le_refl _, by rw [List.take_length]⟩
    have ht := take_tsz (dv l).1 d2
    rw [d3] at ht
    have htl : (dig (r / 4294967296)).length = tsz (dv l).1 := by rw [← ht, List.length_take, Nat.min_eq_left (tsz_le _)]
    have e1 : (wS x (i + 1)).2 = r / 4294967296 := by rw [← hr]; rfl
    have e2 : (wS x (i + 1)).1 = (wS x i).1 ++ [(dv l).2] := by rw [d4, ← hr]; rfl
    have f0 : (dv (l.drop l.length)).2 = 0 := by rw [List.drop_length]; rfl
    have f1 : dvL l l.length = l := by unfold dvL; rw [List.take_length, List.drop_length]; exact List.append_nil l
    have f2 : dvL l 0 = (dv l).1 := by unfold dvL; rw [List.drop_zero]; rfl
    have f3 : (dv (l.drop 0)).2 = (dv l).2 := by rw [List.drop_zero]
    have hi1 : ofInv x i = ⟨[(3, .row 7 0), (4, .row 39 0)], [rowI 7 l.length (dL l), rowW 39 i (wL (wS x i).1)], 58, []⟩ := by unfold ofInv; rw [hr, hl]
    have hi2 : ofInv x (i + 1) = ⟨[(3, .row 7 0), (4, .row 39 0)], [rowI 7 (tsz (dv l).1) (dL ((dv l).1.take (tsz (dv l).1))), rowW 39 (i + 1) (wL ((wS x i).1 ++ [(dv l).2]))], 58, []⟩ := by unfold ofInv; rw [e1, e2, htl, ht]
    have hlt : (dv l).2 < 4294967296 := by omega
    have hg : List.take (dv l).1.length (dv l).1 = (dv l).1 := List.take_length
    have hb : 0 < (dig (wS x i).2).length := by rw [hr, hl]; exact hpos
    have hb2 : (dig (wS x i).2).length = l.length := by rw [hr, hl]
    have hol : ((wS x i).1 ++ [(dv l).2]).length = i + 1 := by rw [List.length_append, hlen]; rfl
    refine Round.on [(13, Hint.val (AV.v (Value.bool true))), (16, Hint.val (AV.v (Value.int IntKind.i64 (↑((dig (wS x i).snd).length - (1 : Nat)) : Int)))), (37, Hint.val (AV.v (Value.int IntKind.u32 (↑(dv (List.drop (0 : Nat) l)).snd : Int))))] [(6, ⟨.exit 2, ofInv1 l (wS x i).1 l.length, ofInv1 l (wS x i).1 0⟩), (12, ⟨.exit 4, ofInv2 (dv l).1 ((wS x i).1 ++ [(dv l).2]) (dv l).1.length, ofInv2 (dv l).1 ((wS x i).1 ++ [(dv l).2]) (tsz (dv l).1)⟩)] ⟨i + 1, hj⟩ [(7 : Nat) = (7 : Nat) ∧ (0 : Nat) = (0 : Nat), (39 : Nat) = (39 : Nat) ∧ (0 : Nat) = (0 : Nat), tsz (dv l).fst = (dig (wS x (i + (1 : Nat))).snd).length ∧ (0 : Nat) = (0 : Nat) ∧ dL (List.take (tsz (dv l).fst) (dv l).fst) = dL (dig (wS x (i + (1 : Nat))).snd), ((wS x i).fst ++ [(dv l).snd]).length = i + (1 : Nat) ∧ (0 : Nat) = (0 : Nat) ∧ wL ((wS x i).fst ++ [(dv l).snd]) = wL (wS x (i + (1 : Nat))).fst, decide ((0 : Int) < (↑(dig (wS x i).snd).length : Int)) = true, IntKind.i64.wrap ((↑(dig (wS x i).snd).length : Int) - (1 : Int)) = (↑((dig (wS x i).snd).length - (1 : Nat)) : Int), LoopOk Try.prog (loopBody Try.f72 (6 : Nat)) (ofInv1 l (wS x i).fst l.length) (Exit.exit (2 : Nat)) (ofInv1 l (wS x i).fst (0 : Nat)), (7 : Nat) = (7 : Nat) ∧ (0 : Nat) = (0 : Nat), (39 : Nat) = (39 : Nat) ∧ (0 : Nat) = (0 : Nat), (0 : Int) = (↑(dv (List.drop l.length l)).snd : Int), (↑((dig (wS x i).snd).length - (1 : Nat)) : Int) = (↑l.length : Int) - (1 : Int), (dig (wS x i).snd).length = l.length ∧ (0 : Nat) = (0 : Nat) ∧ dL (dig (wS x i).snd) = dL (dvL l l.length), i = (wS x i).fst.length ∧ (0 : Nat) = (0 : Nat) ∧ wL (wS x i).fst = wL (wS x i).fst, IntKind.u32.wrap (↑(dv (List.drop (0 : Nat) l)).snd : Int) = (↑(dv (List.drop (0 : Nat) l)).snd : Int), [AV.v (Value.int IntKind.u32 (↑(dv (List.drop (0 : Nat) l)).snd : Int))].length = (1 : Nat), ((wS x i).fst.length + (1 : Nat)) * (4 : Nat) ≤ (140737488355328 : Nat) ∧ (wS x i).fst.length + (1 : Nat) ≤ (140737488355328 : Nat), LoopOk Try.prog (loopBody Try.f72 (12 : Nat)) (ofInv2 (dv l).fst ((wS x i).fst ++ [(dv l).snd]) (dv l).fst.length) (Exit.exit (4 : Nat)) (ofInv2 (dv l).fst ((wS x i).fst ++ [(dv l).snd]) (tsz (dv l).fst)), (7 : Nat) = (7 : Nat) ∧ (0 : Nat) = (0 : Nat), (39 : Nat) = (39 : Nat) ∧ (0 : Nat) = (0 : Nat), l.length = (dv l).fst.length ∧ (0 : Nat) = (0 : Nat) ∧ dL (dvL l (0 : Nat)) = dL (List.take (dv l).fst.length (dv l).fst), (wS x i).fst.length + (1 : Nat) = ((wS x i).fst ++ [(dv l).snd]).length ∧ (0 : Nat) = (0 : Nat) ∧ wL (wS x i).fst ++ [AV.v (Value.int IntKind.u32 (↑(dv (List.drop (0 : Nat) l)).snd : Int))] = wL ((wS x i).fst ++ [(dv l).snd])] (by kernel_rfl) (Nat.div_lt_self (by omega) (by decide)) ?_
    ((repeat' refine And.intro ?_ ?_); (iterate 4 (with_reducible rfl)); rotate_left 1; (with_reducible rfl); rotate_left 1; (with_reducible assumption); (with_reducible rfl); rotate_left 1; ((with_reducible refine Dt ?_; omega)); ((rw [Wi _ (by omega)]; omega)); (with_reducible assumption); (iterate 4 (with_reducible rfl)); (iterate 2 (omega)); (with_reducible assumption); (with_reducible rfl); rotate_left 1; (omega); (iterate 2 (with_reducible rfl)); ((rw [IntKind.wrap_u32]; omega)); (exact List.length_singleton); (iterate 2 (omega)); (with_reducible assumption); (iterate 4 (with_reducible rfl)); (omega); (with_reducible rfl); rotate_left 1; (omega); (with_reducible rfl); rotate_left 1; (exact True.intro))
    all_goals first | (rw [e1, htl]; done) | (rw [e1, ht]; done) | (rw [e2]; done) | (rw [hr, hl, f1]; done) | (rw [f2, hg]; done) | (rw [f3]; exact wL_snoc _ _) | (rw [f2]; omega) | skip
theorem wS_all (x : Nat) : (wS x (dgw x).length).1 = dgw x ∧ (wS x (dgw x).length).2 = 0 := by
  have : ∀ n i x, (dgw (wS x i).2).length = n → (wS x (i + n)).1 = (wS x i).1 ++ dgw (wS x i).2 ∧ (wS x (i + n)).2 = 0 := by
    intro n
    induction n with
    | zero =>
      intro i x h
      have h0 : (wS x i).2 = 0 := Decidable.byContradiction fun h1 => by rw [dig_posW h1] at h; simp at h
      exact ⟨by rw [List.eq_nil_of_length_eq_zero h, List.append_nil]; rfl, h0⟩
    | succ n ih =>
      intro i x h
      by_cases h0 : (wS x i).2 = 0
      · rw [h0, dig_zeroW] at h; simp at h
      · have h1 := dig_posW h0
        rw [h1] at h ⊢
        rw [← Nat.add_assoc, Nat.add_right_comm]
        obtain ⟨h2, h3⟩ := ih (i + 1) x (by simpa [wS] using h)
        exact ⟨by rw [h2]; simp [wS], h3⟩
  have h := this (dgw x).length 0 x rfl
  simpa [wS] using h
theorem of02_ok (x : Nat) (hx : (dig x).length ≤ 100000) : FnOk Try.prog 72 ⟨[numA (x : Nat)], [], wA (dgw x), []⟩ := by
  have hl := of_loop x hx ⟨0, fun j hj => by omega⟩
  have h1 := (wS_all x).1
  have e0 : dig (x : Int).natAbs = dig x := by rw [Int.natAbs_natCast]
  have hz := dL_len (dig x)
  have h0 : (wS x 0).2 = x := rfl
  unfold numA numT
  rw [e0, decide_eq_false (by omega)]
  refine fn_go hmo Try.func72 (by kernel_rfl) [] [(3, ⟨.exit 0, ofInv x 0, ofInv x (dgw x).length⟩)] [(dgw x).length = (dgw x).length ∧ wL (wS x (dgw x).length).fst = wL (dgw x), (dL (dig x)).length = (dig x).length * (1 : Nat), ((0 : Nat) + (dig x).length) * (8 : Nat) ≤ (140737488355328 : Nat) ∧ (0 : Nat) + (dig x).length ≤ (140737488355328 : Nat), LoopOk Try.prog (loopBody Try.f72 (3 : Nat)) (ofInv x (0 : Nat)) (Exit.exit (0 : Nat)) (ofInv x (dgw x).length), (7 : Nat) = (7 : Nat) ∧ (0 : Nat) = (0 : Nat), (39 : Nat) = (39 : Nat) ∧ (0 : Nat) = (0 : Nat), (0 : Nat) + (dig x).length = (dig (wS x (0 : Nat)).snd).length ∧ (0 : Nat) = (0 : Nat) ∧ [] ++ dL (dig x) = dL (dig (wS x (0 : Nat)).snd), (0 : Nat) = (0 : Nat) ∧ (0 : Nat) = (0 : Nat) ∧ ([] : List AV) = []] (by kernel_rfl) ?_
  ((repeat' refine And.intro ?_ ?_); (with_reducible rfl); rotate_left 1; (iterate 3 (omega)); (with_reducible assumption); (iterate 4 (with_reducible rfl)); rotate_left 1; (with_reducible rfl); (exact rfl); (iterate 3 (with_reducible rfl)); (exact True.intro))
  all_goals first | (rw [h1]; done) | exact Nat.zero_add _
end Go.Proofs.Ytfhmaincnlaapaa.Sy
namespace Go.Proofs.Ytfhmaincnlaapaa.Sy
open Go.ChangeShapes Go.WideShapes Go.ChangeAt Go.RowKit
set_option linter.unusedVariables false
set_option linter.unusedSimpArgs false
def I64 (z : Int) : Prop := -9223372036854775808 ≤ z ∧ z ≤ 9223372036854775807
def addW (a b : Int) : Int × Bool := if -9223372036854775808 ≤ a + b ∧ a + b ≤ 9223372036854775807 then (a + b, true) else (0, false)
theorem wrapI (z : Int) : IntKind.i64.wrap z = (z + 9223372036854775808) % 18446744073709551616 - 9223372036854775808 := by
  unfold IntKind.wrap; simp [IntKind.bits, IntKind.signed]; split <;> omega
theorem wadd_ok {a b : Int} (ha : I64 a) (hb : I64 b) : FnOk Try.prog 66 ⟨[iz a, iz b], [], .tup [iz (addW a b).1, bz (addW a b).2], []⟩ := by
  unfold I64 at ha hb
  by_cases h : -9223372036854775808 ≤ a + b ∧ a + b ≤ 9223372036854775807
  · have e : addW a b = (a + b, true) := if_pos h
    rw [e]
    refine fn_go hmo Try.func66 (by kernel_rfl) [(9, Hint.val (AV.v (Value.int IntKind.i64 (a + b)))), (16, Hint.gd), (17, Hint.gd), (18, Hint.gd), (19, Hint.gd), (20, Hint.gd), (21, Hint.gdv (AV.v (Value.bool false)))] [] [a + b = a + b ∧ true = true ∧ True, IntKind.i64.wrap (a + b) = a + b, ((decide (a < (0 : Int)) == decide (b < (0 : Int))) == true) = true → true = true, ((decide (a < (0 : Int)) == decide (b < (0 : Int))) == true) = true → ((decide (a < (0 : Int)) == decide (b < (0 : Int))) == true, AV.v (Value.int IntKind.i64 (a + b))).fst = true, ((decide (a < (0 : Int)) == decide (b < (0 : Int))) == true) = true → true = true, ((decide (a < (0 : Int)) == decide (b < (0 : Int))) == true) = true → ((decide (a < (0 : Int)) == decide (b < (0 : Int))) == true, AV.v (Value.int IntKind.i64 a)).fst = true, ((decide (a < (0 : Int)) == decide (b < (0 : Int))) == true) = true → ((decide (a < (0 : Int)) == decide (b < (0 : Int))) == true, AV.v (Value.bool (decide (a + b < (0 : Int))))).fst = true, ((decide (a < (0 : Int)) == decide (b < (0 : Int))) == true) = true → ((decide (a < (0 : Int)) == decide (b < (0 : Int))) == true, AV.v (Value.bool (decide (a < (0 : Int))))).fst = true, (bif decide (a < (0 : Int)) == decide (b < (0 : Int)) then !decide (a + b < (0 : Int)) == decide (a < (0 : Int)) else false) = false, true = true → true = true ∧ ((decide (a < (0 : Int)) == decide (b < (0 : Int))) = true → ((decide (a < (0 : Int)) == decide (b < (0 : Int))) == true, AV.v (Value.bool !decide (a + b < (0 : Int)) == decide (a < (0 : Int)))).fst = true) ∧ ((decide (a < (0 : Int)) == decide (b < (0 : Int))) = false → true = true)] (by kernel_rfl) ?_
    ((repeat' refine And.intro ?_ ?_); (iterate 2 (with_reducible rfl)); (exact True.intro); (exact Wi _ (by omega)); (exact (fun (_ : (_ : Bool) = true) => rfl)); (exact (fun (h : (_ : Bool) = true) => h)); (exact (fun (_ : (_ : Bool) = true) => rfl)); (iterate 3 (exact (fun (h : (_ : Bool) = true) => h))); (iterate 2 ((simp only [Bool.or_eq_true, Bool.and_eq_true, Bool.or_eq_false_iff, Bool.and_eq_false_iff, Bool.not_eq_true', Bool.not_eq_false', decide_eq_true_eq, decide_eq_false_iff_not, beq_iff_eq, beq_eq_false_iff_ne, bne_iff_ne, bne_eq_false_iff_eq, ne_eq, ← decide_not, decide_eq_decide, Bool.cond_true_left, Bool.cond_false_right, reduceCtorEq, or_false, false_or, and_true, true_and, implies_true, Bool.false_or, Bool.or_false, Bool.true_or, Bool.or_true, Bool.and_false, Bool.false_and, Bool.and_true, Bool.true_and]; omega))); (exact True.intro))
  · have e : addW a b = (0, false) := if_neg h
    rw [e]
    by_cases h2 : 0 ≤ a
    · refine fn_go hmo Try.func66 (by kernel_rfl) [(9, Hint.val (iz (a + b - (18446744073709551616 : Int)))), (11, Hint.val (AV.v (Value.bool false))), (13, Hint.val (AV.v (Value.bool false))), (17, Hint.val (AV.v (Value.bool true))), (19, Hint.val (AV.v (Value.bool false)))] [] [(0 : Int) = (0 : Int) ∧ false = false ∧ True, IntKind.i64.wrap (a + b) = a + b - (18446744073709551616 : Int), decide (a < (0 : Int)) = false, decide (b < (0 : Int)) = false, decide (a + b - (18446744073709551616 : Int) < (0 : Int)) = true, decide (a < (0 : Int)) = false] (by kernel_rfl) ?_
      ((repeat' refine And.intro ?_ ?_); (iterate 2 (with_reducible rfl)); (exact True.intro); rotate_left 1; (iterate 2 ((with_reducible refine Df ?_; omega))); ((with_reducible refine Dt ?_; omega)); ((with_reducible refine Df ?_; omega)); (exact True.intro))
      all_goals (rw [wrapI]; omega)
    · refine fn_go hmo Try.func66 (by kernel_rfl) [(9, Hint.val (iz (a + b + (18446744073709551616 : Int)))), (11, Hint.val (AV.v (Value.bool true))), (13, Hint.val (AV.v (Value.bool true))), (17, Hint.val (AV.v (Value.bool false))), (19, Hint.val (AV.v (Value.bool true)))] [] [(0 : Int) = (0 : Int) ∧ false = false ∧ True, IntKind.i64.wrap (a + b) = a + b + (18446744073709551616 : Int), decide (a < (0 : Int)) = true, decide (b < (0 : Int)) = true, decide (a + b + (18446744073709551616 : Int) < (0 : Int)) = false, decide (a < (0 : Int)) = true] (by kernel_rfl) ?_
      ((repeat' refine And.intro ?_ ?_); (iterate 2 (with_reducible rfl)); (exact True.intro); rotate_left 1; (iterate 2 ((with_reducible refine Dt ?_; omega))); ((with_reducible refine Df ?_; omega)); ((with_reducible refine Dt ?_; omega)); (exact True.intro))
      all_goals (rw [wrapI]; omega)
/-! ### bushelref05 -/
theorem flag_ok (b : Bool) (n : Int) : FnOk Try.prog 139 ⟨[bz b, iz n], [], iz (if b then n else 0), []⟩ := by
  cases b
  · refine fn_go hmo Try.func139 (by kernel_rfl) [] [] [(0 : Int) = if false = true then n else (0 : Int)] (by kernel_rfl) ?_
    ((repeat' refine And.intro ?_ ?_); (exact rfl); (exact True.intro))
  · refine fn_go hmo Try.func139 (by kernel_rfl) [] [] [n = if true = true then n else (0 : Int)] (by kernel_rfl) ?_
    ((repeat' refine And.intro ?_ ?_); (exact rfl); (exact True.intro))
structure SumS where
  none : Bool
  up : Bool
  down : Bool
  minus : Bool
  plus : Bool
  all : Int
def sumA (s : SumS) : AV := .agg [bz s.none, bz s.up, bz s.down, bz s.minus, bz s.plus, bz (decide (s.all < 0)), dA (dig s.all.natAbs)]
def roomK : Nat := 32 * 70
theorem p2_mul (a b : Nat) : p2 (a * b) = (2 ^ a) ^ b := Nat.pow_mul ..
def roomN : Nat := p2 roomK
def joinS (s o : SumS) : SumS × Bool := if (s.all + o.all).natAbs < roomN then (⟨s.none || o.none, s.up || o.up, s.down || o.down, s.minus || o.minus, s.plus || o.plus, s.all + o.all⟩, true) else (s, false)
theorem join05_ok (s o : SumS) (hs : nd s.all ≤ 1000000) (ho : nd o.all ≤ 1000000) (hso : nd (s.all + o.all) ≤ 1000000) : FnOk Try.prog 74 ⟨[sumA s, sumA o], [], .tup [sumA (joinS s o).1, bz (joinS s o).2], []⟩ := by
  have e1 := add01_ok s.all o.all (by omega) (by omega)
  obtain ⟨k, hk⟩ : ∃ k : Nat, k = 2240 := ⟨_, rfl⟩
  have e2 := two01_ok k (by omega)
  have hp := p2_nd k
  obtain ⟨R, hR⟩ : ∃ R, p2 k = R := ⟨_, rfl⟩
  have hroom : roomN = R := by rw [← hR, hk]; unfold roomN; rw [show roomK = 2240 from rfl]
  rw [hR] at e2 hp
  have e3 := cmp01_ok ((s.all + o.all).natAbs : Nat) (R : Nat) (by unfold nd; rw [Int.natAbs_natCast]; exact Nat.le_trans hso (by decide)) (by omega)
  by_cases h : (s.all + o.all).natAbs < R
  · have e4 : joinS s o = (⟨s.none || o.none, s.up || o.up, s.down || o.down, s.minus || o.minus, s.plus || o.plus, s.all + o.all⟩, true) := if_pos (hroom ▸ h)
    have e5 : cmpZ ((s.all + o.all).natAbs : Nat) (R : Nat) = -1 := by unfold cmpZ; rw [if_pos (by omega)]
    rw [e5] at e3
    rw [e4]
    clear hR hroom e4
    refine fn_go hmo Try.func74 (by kernel_rfl) [(11, Hint.call (Inst.mk [numA s.all, numA o.all] [] (numA (s.all + o.all)) [])), (15, Hint.call (Inst.mk [iz (↑k : Int)] [] (numA (↑R : Int)) [])), (16, Hint.call (Inst.mk [numA (↑(s.all + o.all).natAbs : Int), numA (↑R : Int)] [] (iz (-1 : Int)) [])), (22, Hint.gd), (23, Hint.gd), (24, Hint.gdv (AV.v (Value.bool (s.none || o.none)))), (28, Hint.gd), (29, Hint.gd), (30, Hint.gdv (AV.v (Value.bool (s.up || o.up)))), (34, Hint.gd), (35, Hint.gd), (36, Hint.gdv (AV.v (Value.bool (s.down || o.down)))), (40, Hint.gd), (41, Hint.gd), (42, Hint.gdv (AV.v (Value.bool (s.minus || o.minus)))), (46, Hint.gd), (47, Hint.gd), (48, Hint.gdv (AV.v (Value.bool (s.plus || o.plus))))] [] [[AV.v (Value.bool (s.none || o.none)), AV.v (Value.bool (s.up || o.up)), AV.v (Value.bool (s.down || o.down)), AV.v (Value.bool (s.minus || o.minus)), AV.v (Value.bool (s.plus || o.plus)), AV.v (Value.bool (decide (s.all + o.all < (0 : Int)))), AV.lst (dig (s.all + o.all).natAbs).length (dL (dig (s.all + o.all).natAbs))] = [AV.v (Value.bool (SumS.mk (s.none || o.none) (s.up || o.up) (s.down || o.down) (s.minus || o.minus) (s.plus || o.plus) (s.all + o.all)).none), AV.v (Value.bool (SumS.mk (s.none || o.none) (s.up || o.up) (s.down || o.down) (s.minus || o.minus) (s.plus || o.plus) (s.all + o.all)).up), AV.v (Value.bool (SumS.mk (s.none || o.none) (s.up || o.up) (s.down || o.down) (s.minus || o.minus) (s.plus || o.plus) (s.all + o.all)).down), AV.v (Value.bool (SumS.mk (s.none || o.none) (s.up || o.up) (s.down || o.down) (s.minus || o.minus) (s.plus || o.plus) (s.all + o.all)).minus), AV.v (Value.bool (SumS.mk (s.none || o.none) (s.up || o.up) (s.down || o.down) (s.minus || o.minus) (s.plus || o.plus) (s.all + o.all)).plus), AV.v (Value.bool (decide ((SumS.mk (s.none || o.none) (s.up || o.up) (s.down || o.down) (s.minus || o.minus) (s.plus || o.plus) (s.all + o.all)).all < (0 : Int)))), AV.lst (dig (SumS.mk (s.none || o.none) (s.up || o.up) (s.down || o.down) (s.minus || o.minus) (s.plus || o.plus) (s.all + o.all)).all.natAbs).length (dL (dig (SumS.mk (s.none || o.none) (s.up || o.up) (s.down || o.down) (s.minus || o.minus) (s.plus || o.plus) (s.all + o.all)).all.natAbs))] ∧ true = true ∧ True, [AV.v (Value.bool (decide (s.all < (0 : Int)))), AV.lst (dig s.all.natAbs).length (dL (dig s.all.natAbs))] = [AV.v (Value.bool (decide (s.all < (0 : Int)))), AV.lst (dig s.all.natAbs).length (dL (dig s.all.natAbs))] ∧ [AV.v (Value.bool (decide (o.all < (0 : Int)))), AV.lst (dig o.all.natAbs).length (dL (dig o.all.natAbs))] = [AV.v (Value.bool (decide (o.all < (0 : Int)))), AV.lst (dig o.all.natAbs).length (dL (dig o.all.natAbs))] ∧ True, FnOk Try.prog (70 : Nat) (Inst.mk [AV.agg [AV.v (Value.bool (decide (s.all < (0 : Int)))), AV.lst (dig s.all.natAbs).length (dL (dig s.all.natAbs))], AV.agg [AV.v (Value.bool (decide (o.all < (0 : Int)))), AV.lst (dig o.all.natAbs).length (dL (dig o.all.natAbs))]] [] (AV.agg [AV.v (Value.bool (decide (s.all + o.all < (0 : Int)))), AV.lst (dig (s.all + o.all).natAbs).length (dL (dig (s.all + o.all).natAbs))]) []), (2240 : Int) = (↑k : Int) ∧ True, FnOk Try.prog (138 : Nat) (Inst.mk [AV.v (Value.int IntKind.i64 (↑k : Int))] [] (AV.agg [AV.v (Value.bool false), AV.lst (dig (↑R : Int).natAbs).length (dL (dig (↑R : Int).natAbs))]) []), [AV.v (Value.bool false), AV.lst (dig (s.all + o.all).natAbs).length (dL (dig (s.all + o.all).natAbs))] = [AV.v (Value.bool false), AV.lst (dig (↑(s.all + o.all).natAbs : Int).natAbs).length (dL (dig (↑(s.all + o.all).natAbs : Int).natAbs))] ∧ [AV.v (Value.bool false), AV.lst (dig (↑R : Int).natAbs).length (dL (dig (↑R : Int).natAbs))] = [AV.v (Value.bool false), AV.lst (dig (↑R : Int).natAbs).length (dL (dig (↑R : Int).natAbs))] ∧ True, FnOk Try.prog (137 : Nat) (Inst.mk [AV.agg [AV.v (Value.bool false), AV.lst (dig (↑(s.all + o.all).natAbs : Int).natAbs).length (dL (dig (↑(s.all + o.all).natAbs : Int).natAbs))], AV.agg [AV.v (Value.bool false), AV.lst (dig (↑R : Int).natAbs).length (dL (dig (↑R : Int).natAbs))]] [] (AV.v (Value.int IntKind.i64 (-1 : Int))) []), (s.none == false) = true → true = true, (s.none == false) = true → (s.none == false, AV.ptr (3 : Nat) (0 : Nat)).fst = true, (bif s.none then true else o.none) = (s.none || o.none), true = true → true = true ∧ (s.none = true → true = true) ∧ (s.none = false → (s.none == false, AV.v (Value.bool o.none)).fst = true), (s.up == false) = true → true = true, (s.up == false) = true → (s.up == false, AV.ptr (3 : Nat) (1 : Nat)).fst = true, (bif s.up then true else o.up) = (s.up || o.up), true = true → true = true ∧ (s.up = true → true = true) ∧ (s.up = false → (s.up == false, AV.v (Value.bool o.up)).fst = true), (s.down == false) = true → true = true, (s.down == false) = true → (s.down == false, AV.ptr (3 : Nat) (2 : Nat)).fst = true, (bif s.down then true else o.down) = (s.down || o.down), true = true → true = true ∧ (s.down = true → true = true) ∧ (s.down = false → (s.down == false, AV.v (Value.bool o.down)).fst = true), (s.minus == false) = true → true = true, (s.minus == false) = true → (s.minus == false, AV.ptr (3 : Nat) (3 : Nat)).fst = true, (bif s.minus then true else o.minus) = (s.minus || o.minus), true = true → true = true ∧ (s.minus = true → true = true) ∧ (s.minus = false → (s.minus == false, AV.v (Value.bool o.minus)).fst = true), (s.plus == false) = true → true = true, (s.plus == false) = true → (s.plus == false, AV.ptr (3 : Nat) (4 : Nat)).fst = true, (bif s.plus then true else o.plus) = (s.plus || o.plus), true = true → true = true ∧ (s.plus = true → true = true) ∧ (s.plus = false → (s.plus == false, AV.v (Value.bool o.plus)).fst = true)] (by kernel_rfl) ?_
    ((repeat' refine And.intro ?_ ?_); (iterate 2 (with_reducible rfl)); (exact True.intro); (iterate 2 (with_reducible rfl)); (exact True.intro); ((show FnOk _ _ _; assumption)); (omega); (exact True.intro); ((show FnOk _ _ _; assumption)); (exact rfl); (with_reducible rfl); (exact True.intro); ((show FnOk _ _ _; assumption)); (exact (fun (_ : (_ : Bool) = true) => rfl)); (exact (fun (h : (_ : Bool) = true) => h)); (focus (simp only [Bool.or_eq_true, Bool.and_eq_true, Bool.or_eq_false_iff, Bool.and_eq_false_iff, Bool.not_eq_true', Bool.not_eq_false', decide_eq_true_eq, decide_eq_false_iff_not, beq_iff_eq, beq_eq_false_iff_ne, bne_iff_ne, bne_eq_false_iff_eq, ne_eq, ← decide_not, decide_eq_decide, Bool.cond_true_left, Bool.cond_false_right, reduceCtorEq, or_false, false_or, and_true, true_and, implies_true, Bool.false_or, Bool.or_false, Bool.true_or, Bool.or_true, Bool.and_false, Bool.false_and, Bool.and_true, Bool.true_and]; done)); (focus (simp; done)); (exact (fun (_ : (_ : Bool) = true) => rfl)); (exact (fun (h : (_ : Bool) = true) => h)); (focus (simp only [Bool.or_eq_true, Bool.and_eq_true, Bool.or_eq_false_iff, Bool.and_eq_false_iff, Bool.not_eq_true', Bool.not_eq_false', decide_eq_true_eq, decide_eq_false_iff_not, beq_iff_eq, beq_eq_false_iff_ne, bne_iff_ne, bne_eq_false_iff_eq, ne_eq, ← decide_not, decide_eq_decide, Bool.cond_true_left, Bool.cond_false_right, reduceCtorEq, or_false, false_or, and_true, true_and, implies_true, Bool.false_or, Bool.or_false, Bool.true_or, Bool.or_true, Bool.and_false, Bool.false_and, Bool.and_true, Bool.true_and]; done)); (focus (simp; done)); (exact (fun (_ : (_ : Bool) = true) => rfl)); (exact (fun (h : (_ : Bool) = true) => h)); (focus (simp only [Bool.or_eq_true, Bool.and_eq_true, Bool.or_eq_false_iff, Bool.and_eq_false_iff, Bool.not_eq_true', Bool.not_eq_false', decide_eq_true_eq, decide_eq_false_iff_not, beq_iff_eq, beq_eq_false_iff_ne, bne_iff_ne, bne_eq_false_iff_eq, ne_eq, ← decide_not, decide_eq_decide, Bool.cond_true_left, Bool.cond_false_right, reduceCtorEq, or_false, false_or, and_true, true_and, implies_true, Bool.false_or, Bool.or_false, Bool.true_or, Bool.or_true, Bool.and_false, Bool.false_and, Bool.and_true, Bool.true_and]; done)); (focus (simp; done)); (exact (fun (_ : (_ : Bool) = true) => rfl)); (exact (fun (h : (_ : Bool) = true) => h)); (focus (simp only [Bool.or_eq_true, Bool.and_eq_true, Bool.or_eq_false_iff, Bool.and_eq_false_iff, Bool.not_eq_true', Bool.not_eq_false', decide_eq_true_eq, decide_eq_false_iff_not, beq_iff_eq, beq_eq_false_iff_ne, bne_iff_ne, bne_eq_false_iff_eq, ne_eq, ← decide_not, decide_eq_decide, Bool.cond_true_left, Bool.cond_false_right, reduceCtorEq, or_false, false_or, and_true, true_and, implies_true, Bool.false_or, Bool.or_false, Bool.true_or, Bool.or_true, Bool.and_false, Bool.false_and, Bool.and_true, Bool.true_and]; done)); (focus (simp; done)); (exact (fun (_ : (_ : Bool) = true) => rfl)); (exact (fun (h : (_ : Bool) = true) => h)); (focus (simp only [Bool.or_eq_true, Bool.and_eq_true, Bool.or_eq_false_iff, Bool.and_eq_false_iff, Bool.not_eq_true', Bool.not_eq_false', decide_eq_true_eq, decide_eq_false_iff_not, beq_iff_eq, beq_eq_false_iff_ne, bne_iff_ne, bne_eq_false_iff_eq, ne_eq, ← decide_not, decide_eq_decide, Bool.cond_true_left, Bool.cond_false_right, reduceCtorEq, or_false, false_or, and_true, true_and, implies_true, Bool.false_or, Bool.or_false, Bool.true_or, Bool.or_true, Bool.and_false, Bool.false_and, Bool.and_true, Bool.true_and]; done)); (focus (simp; done)); (exact True.intro))
  · have e4 : joinS s o = (s, false) := if_neg (hroom ▸ h)
    have e5 : 0 ≤ cmpZ ((s.all + o.all).natAbs : Nat) (R : Nat) := by unfold cmpZ; rw [if_neg (by omega)]; split <;> omega
    rw [e4]
    clear hR hroom e4
    refine fn_go hmo Try.func74 (by kernel_rfl) [(11, Hint.call (Inst.mk [numA s.all, numA o.all] [] (numA (s.all + o.all)) [])), (15, Hint.call (Inst.mk [iz (↑k : Int)] [] (numA (↑R : Int)) [])), (16, Hint.call (Inst.mk [numA (↑(s.all + o.all).natAbs : Int), numA (↑R : Int)] [] (iz (cmpZ (↑(s.all + o.all).natAbs : Int) (↑R : Int))) [])), (17, Hint.val (AV.v (Value.bool true)))] [] [[AV.v (Value.bool s.none), AV.v (Value.bool s.up), AV.v (Value.bool s.down), AV.v (Value.bool s.minus), AV.v (Value.bool s.plus), AV.v (Value.bool (decide (s.all < (0 : Int)))), AV.lst (dig s.all.natAbs).length (dL (dig s.all.natAbs))] = [AV.v (Value.bool s.none), AV.v (Value.bool s.up), AV.v (Value.bool s.down), AV.v (Value.bool s.minus), AV.v (Value.bool s.plus), AV.v (Value.bool (decide (s.all < (0 : Int)))), AV.lst (dig s.all.natAbs).length (dL (dig s.all.natAbs))] ∧ false = false ∧ True, [AV.v (Value.bool (decide (s.all < (0 : Int)))), AV.lst (dig s.all.natAbs).length (dL (dig s.all.natAbs))] = [AV.v (Value.bool (decide (s.all < (0 : Int)))), AV.lst (dig s.all.natAbs).length (dL (dig s.all.natAbs))] ∧ [AV.v (Value.bool (decide (o.all < (0 : Int)))), AV.lst (dig o.all.natAbs).length (dL (dig o.all.natAbs))] = [AV.v (Value.bool (decide (o.all < (0 : Int)))), AV.lst (dig o.all.natAbs).length (dL (dig o.all.natAbs))] ∧ True, FnOk Try.prog (70 : Nat) (Inst.mk [AV.agg [AV.v (Value.bool (decide (s.all < (0 : Int)))), AV.lst (dig s.all.natAbs).length (dL (dig s.all.natAbs))], AV.agg [AV.v (Value.bool (decide (o.all < (0 : Int)))), AV.lst (dig o.all.natAbs).length (dL (dig o.all.natAbs))]] [] (AV.agg [AV.v (Value.bool (decide (s.all + o.all < (0 : Int)))), AV.lst (dig (s.all + o.all).natAbs).length (dL (dig (s.all + o.all).natAbs))]) []), (2240 : Int) = (↑k : Int) ∧ True, FnOk Try.prog (138 : Nat) (Inst.mk [AV.v (Value.int IntKind.i64 (↑k : Int))] [] (AV.agg [AV.v (Value.bool false), AV.lst (dig (↑R : Int).natAbs).length (dL (dig (↑R : Int).natAbs))]) []), [AV.v (Value.bool false), AV.lst (dig (s.all + o.all).natAbs).length (dL (dig (s.all + o.all).natAbs))] = [AV.v (Value.bool false), AV.lst (dig (↑(s.all + o.all).natAbs : Int).natAbs).length (dL (dig (↑(s.all + o.all).natAbs : Int).natAbs))] ∧ [AV.v (Value.bool false), AV.lst (dig (↑R : Int).natAbs).length (dL (dig (↑R : Int).natAbs))] = [AV.v (Value.bool false), AV.lst (dig (↑R : Int).natAbs).length (dL (dig (↑R : Int).natAbs))] ∧ True, FnOk Try.prog (137 : Nat) (Inst.mk [AV.agg [AV.v (Value.bool false), AV.lst (dig (↑(s.all + o.all).natAbs : Int).natAbs).length (dL (dig (↑(s.all + o.all).natAbs : Int).natAbs))], AV.agg [AV.v (Value.bool false), AV.lst (dig (↑R : Int).natAbs).length (dL (dig (↑R : Int).natAbs))]] [] (AV.v (Value.int IntKind.i64 (cmpZ (↑(s.all + o.all).natAbs : Int) (↑R : Int)))) []), decide ((0 : Int) ≤ cmpZ (↑(s.all + o.all).natAbs : Int) (↑R : Int)) = true] (by kernel_rfl) ?_
    ((repeat' refine And.intro ?_ ?_); (iterate 2 (with_reducible rfl)); (exact True.intro); (iterate 2 (with_reducible rfl)); (exact True.intro); ((show FnOk _ _ _; assumption)); (omega); (exact True.intro); ((show FnOk _ _ _; assumption)); (exact rfl); (with_reducible rfl); (exact True.intro); ((show FnOk _ _ _; assumption)); ((with_reducible refine Dt ?_; omega)); (exact True.intro))
end Go.Proofs.Ytfhmaincnlaapaa.Sy
