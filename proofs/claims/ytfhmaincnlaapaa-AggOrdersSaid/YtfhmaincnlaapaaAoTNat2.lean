/-
  nat.Add, nat.Sub.
-/
import Derived.Test.YtfhmaincnlaapaaAoTWhole
namespace Go.Proofs.Ytfhmaincnlaapaa.Sy
open Go.ChangeShapes Go.WideShapes Go.ChangeAt Go.RowKit
set_option linter.unusedVariables false
set_option linter.unusedSimpArgs false
theorem u32n (n : Nat) : IntKind.u32.wrap (n : Int) = ((n % 4294967296 : Nat) : Int) := by rw [IntKind.wrap_u32]; omega
theorem u32s (n : Nat) (h : n < 4294967296) : IntKind.u32.wrap (n : Int) = (n : Int) := by rw [IntKind.wrap_u32]; omega
theorem u64s (n : Nat) (h : n < 18446744073709551616) : IntKind.u64.wrap (n : Int) = (n : Int) := u64n _ (by omega)
theorem shr32 (n : Nat) : ((n : Int).fdiv ((2 : Int) ^ 32)) = ((n / 4294967296 : Nat) : Int) := by
  rw [show ((2 : Int) ^ 32) = ((4294967296 : Nat) : Int) by decide, Int.fdiv_eq_ediv_of_nonneg _ (by omega)]; omega
theorem dgl (l : List Nat) (j : Nat) (h : l.length ≤ j) : dg l j = 0 := by unfold dg; rw [List.getD_eq_getElem?_getD, List.getElem?_eq_none h]; rfl
/-- digits so far, room behind them -/
def wR (out : List Nat) (n : Nat) : List AV := wL (out ++ List.replicate (n - out.length) 0)
theorem wR_len (out : List Nat) (n : Nat) (h : out.length ≤ n) : (wR out n).length = n := by simp [wR, wL_len]; omega
theorem wR_set (out : List Nat) (n d : Nat) (h : out.length < n) : (wR out n).take (out.length * 1) ++ [u3 d] ++ (wR out n).drop (out.length * 1 + 1) = wR (out ++ [d]) n := by
  rw [Nat.mul_one]
  unfold wR
  rw [wL_set _ _ _ (by simp; omega)]
  congr 1
  rw [show n - out.length = (n - (out ++ [d]).length) + 1 by simp; omega, List.replicate_succ, List.set_append_right _ _ (Nat.le_refl _)]
  simp
theorem wR_full (out : List Nat) : wR out out.length = wL out := by simp [wR]
theorem wR_nil (n : Nat) : List.replicate n (AV.v (.int .u32 0)) = wR [] n := by unfold wR wL; simp [u3]
/-- the row that is written -/
def rowU (q n ver : Nat) (cs : List AV) : Nat × AObj := (q, .row 33 1 n ver cs)
theorem tsz_dg {l : List Nat} (h : Wd l) : ((tsz l : Nat) : Int).toNat = (dgw (vw l)).length := by
  have e := take_tszW l h
  have := tsz_le l
  rw [← e, List.length_take]; omega
theorem cut_dg {l : List Nat} (h : Wd l) : (wL l).take (((tsz l : Nat) : Int).toNat * 1) = wL (dgw (vw l)) := by
  rw [← take_tszW l h, wL_take]; simp
/-! ### Add -/
def addS (a b : List Nat) : Nat → List Nat × Nat
  | 0 => ([], 0)
  | i + 1 => ((addS a b i).1 ++ [(dg a i + dg b i + (addS a b i).2) % 4294967296], (dg a i + dg b i + (addS a b i).2) / 4294967296)
theorem addS_sum {a b : List Nat} (ha : Wd a) (hb : Wd b) : ∀ i, SumRW a b (addS a b i).1 i (addS a b i).2
  | 0 => SumRW.zero a b
  | i + 1 => (addS_sum ha hb i).succ ha hb
def invAdd (a b : List Nat) (i : {i : Nat // i ≤ a.length}) : AS := ⟨[(0, wA a), (1, wA b), (5, .row 19 0), (6, uz ((addS a b i.1).2 : Nat)), (21, iz (a.length : Nat)), (22, iz (i.1 : Nat))], [rowU 19 (a.length + 1) 0 (wR (addS a b i.1).1 (a.length + 1))], 61, []⟩
theorem add_loop {a b : List Nat} (ha : Wd a) (hb : Wd b) (hal : a.length ≤ 1000000) (hba : b.length ≤ a.length) (i) : LoopOk Try.prog (loopBody Try.f125 6) (invAdd a b i) (.exit 0) (invAdd a b ⟨a.length, Nat.le_refl _⟩) := by
  refine LoopOk.of hmo (invAdd a b) (fun i => a.length - i.1) (fun i => ?_) i
  obtain ⟨i, hi⟩ := i
  rcases Nat.lt_or_eq_of_le hi with hlt | rfl
  · obtain ⟨hl, hc, hd, _⟩ := addS_sum ha hb i
    have h1 := dg_ltW a i ha
    have h2 := dg_ltW b i hb
    have hs := wR_set (addS a b i).1 (a.length + 1) ((dg a i + dg b i + (addS a b i).2) % 4294967296) (by omega)
    rw [hl] at hs
    have e1 := u32n (dg a i + dg b i + (addS a b i).2)
    have e2 := shr32 (dg a i + dg b i + (addS a b i).2)
    have e3 := u64s (dg a i) (by omega)
    have e4 := u64s (dg b i) (by omega)
    have e5 := i64n (i + 1) (by omega)
    have e6 := u64s (dg a i + (addS a b i).2) (by omega)
    have e7 := u64s (dg a i + (addS a b i).2 + dg b i) (by omega)
    by_cases hb2 : i < b.length
    · refine Round.on [(23, .val (bz true)), (28, .val (u3 (dg a i))), (29, .val (uz (dg a i : Nat))), (31, .val (uz (dg a i + (addS a b i).2 : Nat))), (35, .val (bz true)), (40, .val (u3 (dg b i))), (41, .val (uz (dg b i : Nat))), (42, .val (uz (dg a i + dg b i + (addS a b i).2 : Nat))), (46, .val (u3 ((dg a i + dg b i + (addS a b i).2) % 4294967296))), (49, .val (uz ((dg a i + dg b i + (addS a b i).2) / 4294967296 : Nat))), (50, .val (iz (i + 1 : Nat)))] [] ⟨i + 1, hlt⟩ [a.length = a.length ∧ wL a = wL a, b.length = b.length ∧ wL b = wL b, (19 : Nat) = (19 : Nat) ∧ (0 : Nat) = (0 : Nat), (↑((dg a i + dg b i + (addS a b i).snd) / (4294967296 : Nat)) : Int) = (↑(addS a b (i + (1 : Nat))).snd : Int), (↑a.length : Int) = (↑a.length : Int), (↑(i + (1 : Nat)) : Int) = (↑(i + (1 : Nat)) : Int), a.length + (1 : Nat) = a.length + (1 : Nat) ∧ (0 : Nat) = (0 : Nat) ∧ List.take ((↑i : Int).toNat * (1 : Nat)) (wR (addS a b i).fst (a.length + (1 : Nat))) ++ [AV.v (Value.int IntKind.u32 (↑((dg a i + dg b i + (addS a b i).snd) % (4294967296 : Nat)) : Int))] ++ List.drop ((↑i : Int).toNat * (1 : Nat) + [AV.v (Value.int IntKind.u32 (↑((dg a i + dg b i + (addS a b i).snd) % (4294967296 : Nat)) : Int))].length) (wR (addS a b i).fst (a.length + (1 : Nat))) = wR (addS a b (i + (1 : Nat))).fst (a.length + (1 : Nat)), decide ((↑i : Int) < (↑a.length : Int)) = true, (0 : Int) ≤ (↑i : Int) ∧ (↑i : Int) < (↑a.length : Int), rd1 false (1 : Nat) (wL a) ((↑i : Int).toNat * (1 : Nat)) = some (AV.v (Value.int IntKind.u32 (↑(dg a i) : Int))), IntKind.u64.wrap (↑(dg a i) : Int) = (↑(dg a i) : Int), IntKind.u64.wrap ((↑(dg a i) : Int) + (↑(addS a b i).snd : Int)) = (↑(dg a i + (addS a b i).snd) : Int), decide ((↑i : Int) < (↑b.length : Int)) = true, (0 : Int) ≤ (↑i : Int) ∧ (↑i : Int) < (↑b.length : Int), rd1 false (1 : Nat) (wL b) ((↑i : Int).toNat * (1 : Nat)) = some (AV.v (Value.int IntKind.u32 (↑(dg b i) : Int))), IntKind.u64.wrap (↑(dg b i) : Int) = (↑(dg b i) : Int), IntKind.u64.wrap ((↑(dg a i + (addS a b i).snd) : Int) + (↑(dg b i) : Int)) = (↑(dg a i + dg b i + (addS a b i).snd) : Int), IntKind.u32.wrap (↑(dg a i + dg b i + (addS a b i).snd) : Int) = (↑((dg a i + dg b i + (addS a b i).snd) % (4294967296 : Nat)) : Int), (0 : Int) ≤ (↑i : Int) ∧ (↑i : Int) < (↑(a.length + (1 : Nat)) : Int), (↑i : Int).toNat * (1 : Nat) + [AV.v (Value.int IntKind.u32 (↑((dg a i + dg b i + (addS a b i).snd) % (4294967296 : Nat)) : Int))].length ≤ (wR (addS a b i).fst (a.length + (1 : Nat))).length, (↑(dg a i + dg b i + (addS a b i).snd) : Int).fdiv ((2 : Int) ^ (32 : Nat)) = (↑((dg a i + dg b i + (addS a b i).snd) / (4294967296 : Nat)) : Int), (0 : Int) ≤ (32 : Int), IntKind.i64.wrap ((↑i : Int) + (1 : Int)) = (↑(i + (1 : Nat)) : Int)] (by kernel_rfl) (by show a.length - (i + 1) < a.length - i; omega) ?_
      ((repeat' refine And.intro ?_ ?_); (iterate 6 (with_reducible rfl)); (exact tdivN _ _); (iterate 4 (with_reducible rfl)); ((show (_ : List AV) = _; assumption)); ((with_reducible refine Dt ?_; omega)); (iterate 2 (omega)); rotate_left 1; (with_reducible assumption); ((rw [IntKind.wrap_u64]; omega)); ((with_reducible refine Dt ?_; omega)); (iterate 2 (omega)); rotate_left 1; (with_reducible assumption); ((rw [IntKind.wrap_u64]; omega)); (with_reducible assumption); (iterate 2 (omega)); rotate_left 1; (with_reducible assumption); (omega); (exact Wi _ (by omega)); (exact True.intro))
      all_goals first | exact rd_wL _ _ hlt | exact rd_wL _ _ hb2 | exact hs | exact e1 | exact e2 | (rw [wR_len _ _ (by omega)]; simp; omega)
    · have hz := dgl b i (by omega)
      refine Round.on [(23, .val (bz true)), (28, .val (u3 (dg a i))), (29, .val (uz (dg a i : Nat))), (31, .val (uz (dg a i + dg b i + (addS a b i).2 : Nat))), (35, .val (bz false)), (46, .val (u3 ((dg a i + dg b i + (addS a b i).2) % 4294967296))), (49, .val (uz ((dg a i + dg b i + (addS a b i).2) / 4294967296 : Nat))), (50, .val (iz (i + 1 : Nat)))] [] ⟨i + 1, hlt⟩ [a.length = a.length ∧ wL a = wL a, b.length = b.length ∧ wL b = wL b, (19 : Nat) = (19 : Nat) ∧ (0 : Nat) = (0 : Nat), (↑((dg a i + dg b i + (addS a b i).snd) / (4294967296 : Nat)) : Int) = (↑(addS a b (i + (1 : Nat))).snd : Int), (↑a.length : Int) = (↑a.length : Int), (↑(i + (1 : Nat)) : Int) = (↑(i + (1 : Nat)) : Int), a.length + (1 : Nat) = a.length + (1 : Nat) ∧ (0 : Nat) = (0 : Nat) ∧ List.take ((↑i : Int).toNat * (1 : Nat)) (wR (addS a b i).fst (a.length + (1 : Nat))) ++ [AV.v (Value.int IntKind.u32 (↑((dg a i + dg b i + (addS a b i).snd) % (4294967296 : Nat)) : Int))] ++ List.drop ((↑i : Int).toNat * (1 : Nat) + [AV.v (Value.int IntKind.u32 (↑((dg a i + dg b i + (addS a b i).snd) % (4294967296 : Nat)) : Int))].length) (wR (addS a b i).fst (a.length + (1 : Nat))) = wR (addS a b (i + (1 : Nat))).fst (a.length + (1 : Nat)), decide ((↑i : Int) < (↑a.length : Int)) = true, (0 : Int) ≤ (↑i : Int) ∧ (↑i : Int) < (↑a.length : Int), rd1 false (1 : Nat) (wL a) ((↑i : Int).toNat * (1 : Nat)) = some (AV.v (Value.int IntKind.u32 (↑(dg a i) : Int))), IntKind.u64.wrap (↑(dg a i) : Int) = (↑(dg a i) : Int), IntKind.u64.wrap ((↑(dg a i) : Int) + (↑(addS a b i).snd : Int)) = (↑(dg a i + dg b i + (addS a b i).snd) : Int), decide ((↑i : Int) < (↑b.length : Int)) = false, IntKind.u32.wrap (↑(dg a i + dg b i + (addS a b i).snd) : Int) = (↑((dg a i + dg b i + (addS a b i).snd) % (4294967296 : Nat)) : Int), (0 : Int) ≤ (↑i : Int) ∧ (↑i : Int) < (↑(a.length + (1 : Nat)) : Int), (↑i : Int).toNat * (1 : Nat) + [AV.v (Value.int IntKind.u32 (↑((dg a i + dg b i + (addS a b i).snd) % (4294967296 : Nat)) : Int))].length ≤ (wR (addS a b i).fst (a.length + (1 : Nat))).length, (↑(dg a i + dg b i + (addS a b i).snd) : Int).fdiv ((2 : Int) ^ (32 : Nat)) = (↑((dg a i + dg b i + (addS a b i).snd) / (4294967296 : Nat)) : Int), (0 : Int) ≤ (32 : Int), IntKind.i64.wrap ((↑i : Int) + (1 : Int)) = (↑(i + (1 : Nat)) : Int)] (by kernel_rfl) (by show a.length - (i + 1) < a.length - i; omega) ?_
      ((repeat' refine And.intro ?_ ?_); (iterate 6 (with_reducible rfl)); (exact tdivN _ _); (iterate 4 (with_reducible rfl)); ((show (_ : List AV) = _; assumption)); ((with_reducible refine Dt ?_; omega)); (iterate 2 (omega)); rotate_left 1; (with_reducible assumption); ((rw [IntKind.wrap_u64]; omega)); ((with_reducible refine Df ?_; omega)); (with_reducible assumption); (iterate 2 (omega)); rotate_left 1; (with_reducible assumption); (omega); (exact Wi _ (by omega)); (exact True.intro))
      all_goals first | exact rd_wL _ _ hlt | exact rd_wL _ _ hb2 | exact hs | exact e1 | exact e2 | (rw [wR_len _ _ (by omega)]; simp; omega)
  · refine Round.out [(23, .val (bz false))] [] [a.length = a.length ∧ wL a = wL a, b.length = b.length ∧ wL b = wL b, (19 : Nat) = (19 : Nat) ∧ (0 : Nat) = (0 : Nat), (↑(addS a b a.length).snd : Int) = (↑(addS a b a.length).snd : Int), (↑a.length : Int) = (↑a.length : Int), (↑a.length : Int) = (↑a.length : Int), a.length + (1 : Nat) = a.length + (1 : Nat) ∧ (0 : Nat) = (0 : Nat) ∧ wR (addS a b a.length).fst (a.length + (1 : Nat)) = wR (addS a b a.length).fst (a.length + (1 : Nat)), decide ((↑a.length : Int) < (↑a.length : Int)) = false] (by kernel_rfl) ?_
    ((repeat' refine And.intro ?_ ?_); (iterate 12 (with_reducible rfl)); ((with_reducible refine Df ?_; omega)); (exact True.intro))
theorem add_ge {a b : List Nat} (ha : Wd a) (hb : Wd b) (hal : a.length ≤ 1000000) (hba : b.length ≤ a.length) : ∃ out : List Nat, out.length = a.length + 1 ∧ Wd out ∧ vw out = vw a + vw b ∧ wR ((addS a b a.length).1 ++ [(addS a b a.length).2]) (a.length + 1) = wL out ∧ (addS a b a.length).2 ≤ 1 ∧ (addS a b a.length).1.length = a.length := by
  have h := addS_sum ha hb a.length
  have h2 := h.end_ (Nat.le_refl _) hba
  obtain ⟨hl, hc, hd, _⟩ := h
  refine ⟨_, ?_, h2.2, h2.1, ?_, hc, hl⟩
  · simp [hl]
  · rw [← wR_full]; simp [hl]
theorem add_ok {a b : List Nat} (ha : Wd a) (hb : Wd b) (hal : a.length ≤ 1000000) (hbl : b.length ≤ 1000000) : FnOk Try.prog 125 ⟨[wA a, wA b], [], wA (dgw (vw a + vw b)), []⟩ := by
  by_cases hba : b.length ≤ a.length
  · obtain ⟨out, h1, h2, h3, h4, h5, h6⟩ := add_ge ha hb hal hba
    have hz := size_ok out (by omega)
    have hs := wR_set (addS a b a.length).1 (a.length + 1) (addS a b a.length).2 (by omega)
    rw [h6, h4] at hs
    rw [← h3]
    have hc := cut_dg h2
    rw [← hs] at hc
    have e1 := u32s (addS a b a.length).2 (by omega)
    have e2 := tsz_dg h2
    have hl := add_loop ha hb hal hba ⟨0, Nat.zero_le _⟩
    refine fn_go hmo Try.func125 (by kernel_rfl) [(13, .val (bz false)), (18, .val (iz (a.length + 1 : Nat))), (55, .val (u3 (addS a b a.length).2)), (59, .call ⟨[wA out], [], iz (tsz out : Nat), []⟩)] [(6, ⟨.exit 0, invAdd a b ⟨0, Nat.zero_le _⟩, invAdd a b ⟨a.length, Nat.le_refl _⟩⟩)] [(↑(tsz out) : Int).toNat = (dgw (vw out)).length ∧ List.take ((↑(tsz out) : Int).toNat * (1 : Nat)) (List.take ((↑a.length : Int).toNat * (1 : Nat)) (wR (addS a b a.length).fst (a.length + (1 : Nat))) ++ [AV.v (Value.int IntKind.u32 (↑(addS a b a.length).snd : Int))] ++ List.drop ((↑a.length : Int).toNat * (1 : Nat) + [AV.v (Value.int IntKind.u32 (↑(addS a b a.length).snd : Int))].length) (wR (addS a b a.length).fst (a.length + (1 : Nat)))) = wL (dgw (vw out)), decide ((↑a.length : Int) < (↑b.length : Int)) = false, IntKind.i64.wrap ((↑a.length : Int) + (1 : Int)) = (↑(a.length + (1 : Nat)) : Int), (↑(a.length + (1 : Nat)) : Int) = (↑(a.length + (1 : Nat)) : Int), (0 : Int) ≤ (↑(a.length + (1 : Nat)) : Int) ∧ (↑(a.length + (1 : Nat)) : Int) * (↑(4 : Nat) : Int) ≤ (140737488355328 : Int) ∧ (↑(a.length + (1 : Nat)) : Int) ≤ (140737488355328 : Int), LoopOk Try.prog (loopBody Try.f125 (6 : Nat)) (invAdd a b (Subtype.mk (0 : Nat) (Nat.zero_le a.length))) (Exit.exit (0 : Nat)) (invAdd a b (Subtype.mk a.length (Nat.le_refl a.length))), a.length = a.length ∧ wL a = wL a, b.length = b.length ∧ wL b = wL b, (19 : Nat) = (19 : Nat) ∧ (0 : Nat) = (0 : Nat), (0 : Int) = (↑(addS a b (0 : Nat)).snd : Int), (↑a.length : Int) = (↑a.length : Int), (0 : Int) = (↑(0 : Nat) : Int), (↑(a.length + (1 : Nat)) : Int).toNat = a.length + (1 : Nat) ∧ (0 : Nat) = (0 : Nat) ∧ repA (↑(a.length + (1 : Nat)) : Int).toNat [Value.int IntKind.u32 (0 : Int)] = wR (addS a b (0 : Nat)).fst (a.length + (1 : Nat)), IntKind.u32.wrap (↑(addS a b a.length).snd : Int) = (↑(addS a b a.length).snd : Int), (0 : Int) ≤ (↑a.length : Int) ∧ (↑a.length : Int) < (↑(a.length + (1 : Nat)) : Int), (↑a.length : Int).toNat * (1 : Nat) + [AV.v (Value.int IntKind.u32 (↑(addS a b a.length).snd : Int))].length ≤ (wR (addS a b a.length).fst (a.length + (1 : Nat))).length, (a.length + (1 : Nat) = out.length ∧ List.take ((↑a.length : Int).toNat * (1 : Nat)) (wR (addS a b a.length).fst (a.length + (1 : Nat))) ++ [AV.v (Value.int IntKind.u32 (↑(addS a b a.length).snd : Int))] ++ List.drop ((↑a.length : Int).toNat * (1 : Nat) + [AV.v (Value.int IntKind.u32 (↑(addS a b a.length).snd : Int))].length) (wR (addS a b a.length).fst (a.length + (1 : Nat))) = wL out) ∧ True, FnOk Try.prog (143 : Nat) (Inst.mk [AV.lst out.length (wL out)] [] (AV.v (Value.int IntKind.i64 (↑(tsz out) : Int))) []), (0 : Int) = (0 : Int) ∧ (0 : Int) ≤ (↑(tsz out) : Int) ∧ (↑(tsz out) : Int) ≤ (↑(a.length + (1 : Nat)) : Int)] (by kernel_rfl) ?_
    ((repeat' refine And.intro ?_ ?_); (with_reducible assumption); ((show (_ : List AV) = _; assumption)); ((with_reducible refine Df ?_; omega)); (exact Wi _ (by omega)); (with_reducible rfl); (iterate 3 (omega)); (with_reducible assumption); (iterate 6 (with_reducible rfl)); (exact rfl); (with_reducible rfl); (iterate 2 (omega)); (with_reducible rfl); rotate_left 1; (with_reducible assumption); (iterate 2 (omega)); rotate_left 1; (omega); ((show (_ : List AV) = _; assumption)); (exact True.intro); ((show FnOk _ _ _; assumption)); (with_reducible rfl); (omega); rotate_left 1; (exact True.intro))
    all_goals first | exact hz | exact e1 | exact e2 | exact hc | exact hs | exact hl | exact wR_nil _ | (rw [wR_len _ _ (by omega)]; simp) | (have := tsz_le out; omega)
  · obtain ⟨out, h1, h2, h3, h4, h5, h6⟩ := add_ge hb ha hbl (by omega)
    rw [Nat.add_comm (vw a) (vw b), ← h3]
    have hz := size_ok out (by omega)
    have hs := wR_set (addS b a b.length).1 (b.length + 1) (addS b a b.length).2 (by omega)
    have e1 := u32s (addS b a b.length).2 (by omega)
    have e2 := tsz_dg h2
    rw [h6, h4] at hs
    have hc := cut_dg h2
    rw [← hs] at hc
    have hl := add_loop hb ha hbl (by omega) ⟨0, Nat.zero_le _⟩
    refine fn_go hmo Try.func125 (by kernel_rfl) [(13, .val (bz true)), (18, .val (iz (b.length + 1 : Nat))), (55, .val (u3 (addS b a b.length).2)), (59, .call ⟨[wA out], [], iz (tsz out : Nat), []⟩)] [(6, ⟨.exit 0, invAdd b a ⟨0, Nat.zero_le _⟩, invAdd b a ⟨b.length, Nat.le_refl _⟩⟩)] [(↑(tsz out) : Int).toNat = (dgw (vw out)).length ∧ List.take ((↑(tsz out) : Int).toNat * (1 : Nat)) (List.take ((↑b.length : Int).toNat * (1 : Nat)) (wR (addS b a b.length).fst (b.length + (1 : Nat))) ++ [AV.v (Value.int IntKind.u32 (↑(addS b a b.length).snd : Int))] ++ List.drop ((↑b.length : Int).toNat * (1 : Nat) + [AV.v (Value.int IntKind.u32 (↑(addS b a b.length).snd : Int))].length) (wR (addS b a b.length).fst (b.length + (1 : Nat)))) = wL (dgw (vw out)), decide ((↑a.length : Int) < (↑b.length : Int)) = true, IntKind.i64.wrap ((↑b.length : Int) + (1 : Int)) = (↑(b.length + (1 : Nat)) : Int), (↑(b.length + (1 : Nat)) : Int) = (↑(b.length + (1 : Nat)) : Int), (0 : Int) ≤ (↑(b.length + (1 : Nat)) : Int) ∧ (↑(b.length + (1 : Nat)) : Int) * (↑(4 : Nat) : Int) ≤ (140737488355328 : Int) ∧ (↑(b.length + (1 : Nat)) : Int) ≤ (140737488355328 : Int), LoopOk Try.prog (loopBody Try.f125 (6 : Nat)) (invAdd b a (Subtype.mk (0 : Nat) (Nat.zero_le b.length))) (Exit.exit (0 : Nat)) (invAdd b a (Subtype.mk b.length (Nat.le_refl b.length))), b.length = b.length ∧ wL b = wL b, a.length = a.length ∧ wL a = wL a, (19 : Nat) = (19 : Nat) ∧ (0 : Nat) = (0 : Nat), (0 : Int) = (↑(addS b a (0 : Nat)).snd : Int), (↑b.length : Int) = (↑b.length : Int), (0 : Int) = (↑(0 : Nat) : Int), (↑(b.length + (1 : Nat)) : Int).toNat = b.length + (1 : Nat) ∧ (0 : Nat) = (0 : Nat) ∧ repA (↑(b.length + (1 : Nat)) : Int).toNat [Value.int IntKind.u32 (0 : Int)] = wR (addS b a (0 : Nat)).fst (b.length + (1 : Nat)), IntKind.u32.wrap (↑(addS b a b.length).snd : Int) = (↑(addS b a b.length).snd : Int), (0 : Int) ≤ (↑b.length : Int) ∧ (↑b.length : Int) < (↑(b.length + (1 : Nat)) : Int), (↑b.length : Int).toNat * (1 : Nat) + [AV.v (Value.int IntKind.u32 (↑(addS b a b.length).snd : Int))].length ≤ (wR (addS b a b.length).fst (b.length + (1 : Nat))).length, (b.length + (1 : Nat) = out.length ∧ List.take ((↑b.length : Int).toNat * (1 : Nat)) (wR (addS b a b.length).fst (b.length + (1 : Nat))) ++ [AV.v (Value.int IntKind.u32 (↑(addS b a b.length).snd : Int))] ++ List.drop ((↑b.length : Int).toNat * (1 : Nat) + [AV.v (Value.int IntKind.u32 (↑(addS b a b.length).snd : Int))].length) (wR (addS b a b.length).fst (b.length + (1 : Nat))) = wL out) ∧ True, FnOk Try.prog (143 : Nat) (Inst.mk [AV.lst out.length (wL out)] [] (AV.v (Value.int IntKind.i64 (↑(tsz out) : Int))) []), (0 : Int) = (0 : Int) ∧ (0 : Int) ≤ (↑(tsz out) : Int) ∧ (↑(tsz out) : Int) ≤ (↑(b.length + (1 : Nat)) : Int)] (by kernel_rfl) ?_
    ((repeat' refine And.intro ?_ ?_); (with_reducible assumption); ((show (_ : List AV) = _; assumption)); ((with_reducible refine Dt ?_; omega)); (exact Wi _ (by omega)); (with_reducible rfl); (iterate 3 (omega)); (with_reducible assumption); (iterate 6 (with_reducible rfl)); (exact rfl); (with_reducible rfl); (iterate 2 (omega)); (with_reducible rfl); rotate_left 1; (with_reducible assumption); (iterate 2 (omega)); rotate_left 1; (omega); ((show (_ : List AV) = _; assumption)); (exact True.intro); ((show FnOk _ _ _; assumption)); (with_reducible rfl); (omega); rotate_left 1; (exact True.intro))
    all_goals first | exact hz | exact e1 | exact e2 | exact hc | exact hs | exact hl | exact wR_nil _ | (rw [wR_len _ _ (by omega)]; simp) | (have := tsz_le out; omega)
/-! ### Sub -/
def subX (a b : List Nat) (i c : Nat) : Int := (dg a i : Int) - dg b i - c
def subS (a b : List Nat) : Nat → List Nat × Nat
  | 0 => ([], 0)
  | i + 1 => ((subS a b i).1 ++ [(subX a b i (subS a b i).2 % 4294967296).toNat], if subX a b i (subS a b i).2 < 0 then 1 else 0)
theorem subX_lt {a b : List Nat} (ha : Wd a) (hb : Wd b) (i c : Nat) (hc : c ≤ 1) : -4294967296 ≤ subX a b i c ∧ subX a b i c < 4294967296 := by
  have h1 := dg_ltW a i ha
  have h2 := dg_ltW b i hb
  unfold subX; omega
theorem subS_rest {a b : List Nat} (ha : Wd a) (hb : Wd b) : ∀ i, RestRW a b (subS a b i).1 i (subS a b i).2
  | 0 => RestRW.zero a b
  | i + 1 => by
    have h := subS_rest ha hb i
    have hx := subX_lt ha hb i (subS a b i).2 h.2.1
    refine h.step (by omega) (by show (if _ then 1 else 0) ≤ 1; split <;> omega) ?_
    show subX a b i (subS a b i).2 = _ - _ * ((if subX a b i (subS a b i).2 < 0 then 1 else 0 : Nat) : Int)
    split <;> omega
def invSub (a d b : List Nat) (i : {i : Nat // i ≤ d.length}) : AS := ⟨[(0, wA a), (1, wA b), (6, .row 16 0), (7, uz ((subS d b i.1).2 : Nat)), (18, iz (d.length : Nat)), (19, iz (i.1 : Nat))], [rowU 16 d.length 0 (wR (subS d b i.1).1 d.length)], 52, []⟩
theorem sub_loop {a d b : List Nat} (hd : Wd d) (hb : Wd b) (hdl : d.length ≤ 1000000) (hda : d = a.take d.length) (i) : LoopOk Try.prog (loopBody Try.f173 6) (invSub a d b i) (.exit 0) (invSub a d b ⟨d.length, Nat.le_refl _⟩) := by
  refine LoopOk.of hmo (invSub a d b) (fun i => d.length - i.1) (fun i => ?_) i
  obtain ⟨i, hi⟩ := i
  rcases Nat.lt_or_eq_of_le hi with hlt | rfl
  · obtain ⟨hl, hc, hw, _⟩ := subS_rest hd hb i
    have h1 := dg_ltW d i hd
    have h2 := dg_ltW b i hb
    have hx := subX_lt hd hb i _ hc
    have hla : i < a.length := by have := congrArg List.length hda; rw [List.length_take] at this; omega
    have hda2 : dg a i = dg d i := by rw [hda, dg, dg, List.getD_eq_getElem?_getD, List.getD_eq_getElem?_getD, List.getElem?_take_of_lt hlt]
    have hr := rd_wL a i hla
    rw [hda2] at hr
    have hs := wR_set (subS d b i).1 d.length (subX d b i (subS d b i).2 % 4294967296).toNat (by omega)
    rw [hl] at hs
    have e1 : IntKind.u32.wrap (subX d b i (subS d b i).2 % 18446744073709551616) = ((subX d b i (subS d b i).2 % 4294967296).toNat : Nat) := by rw [IntKind.wrap_u32]; omega
    have e2 : (subX d b i (subS d b i).2 % 18446744073709551616).fdiv ((2 : Int) ^ 63) = ((if subX d b i (subS d b i).2 < 0 then 1 else 0 : Nat) : Nat) := by
      rw [show ((2 : Int) ^ 63) = 9223372036854775808 by decide, Int.fdiv_eq_ediv_of_nonneg _ (by omega)]; split <;> omega
    have e5 := i64n (i + 1) (by omega)
    by_cases hb2 : i < b.length
    · have e3 : IntKind.u64.wrap (((dg d i : Int) - (subS d b i).2) % 18446744073709551616 - dg b i) = subX d b i (subS d b i).2 % 18446744073709551616 := by rw [IntKind.wrap_u64]; unfold subX; omega
      refine Round.on [(20, .val (bz true)), (25, .val (u3 (dg d i))), (26, .val (uz (dg d i : Nat))), (28, .val (uz (((dg d i : Int) - (subS d b i).2) % 18446744073709551616))), (32, .val (bz true)), (37, .val (u3 (dg b i))), (38, .val (uz (dg b i : Nat))), (39, .val (uz (subX d b i (subS d b i).2 % 18446744073709551616))), (43, .val (u3 (subX d b i (subS d b i).2 % 4294967296).toNat)), (46, .val (uz ((if subX d b i (subS d b i).2 < 0 then 1 else 0 : Nat) : Nat))), (47, .val (iz (i + 1 : Nat)))] [] ⟨i + 1, hlt⟩ [a.length = a.length ∧ wL a = wL a, b.length = b.length ∧ wL b = wL b, (16 : Nat) = (16 : Nat) ∧ (0 : Nat) = (0 : Nat), (↑(if subX d b i (subS d b i).snd < (0 : Int) then (1 : Nat) else (0 : Nat)) : Int) = (↑(subS d b (i + (1 : Nat))).snd : Int), (↑d.length : Int) = (↑d.length : Int), (↑(i + (1 : Nat)) : Int) = (↑(i + (1 : Nat)) : Int), d.length = d.length ∧ (0 : Nat) = (0 : Nat) ∧ List.take ((↑i : Int).toNat * (1 : Nat)) (wR (subS d b i).fst d.length) ++ [AV.v (Value.int IntKind.u32 (↑(subX d b i (subS d b i).snd % (4294967296 : Int)).toNat : Int))] ++ List.drop ((↑i : Int).toNat * (1 : Nat) + [AV.v (Value.int IntKind.u32 (↑(subX d b i (subS d b i).snd % (4294967296 : Int)).toNat : Int))].length) (wR (subS d b i).fst d.length) = wR (subS d b (i + (1 : Nat))).fst d.length, decide ((↑i : Int) < (↑d.length : Int)) = true, (0 : Int) ≤ (↑i : Int) ∧ (↑i : Int) < (↑a.length : Int), rd1 false (1 : Nat) (wL a) ((↑i : Int).toNat * (1 : Nat)) = some (AV.v (Value.int IntKind.u32 (↑(dg d i) : Int))), IntKind.u64.wrap (↑(dg d i) : Int) = (↑(dg d i) : Int), IntKind.u64.wrap ((↑(dg d i) : Int) - (↑(subS d b i).snd : Int)) = ((↑(dg d i) : Int) - (↑(subS d b i).snd : Int)) % (18446744073709551616 : Int), decide ((↑i : Int) < (↑b.length : Int)) = true, (0 : Int) ≤ (↑i : Int) ∧ (↑i : Int) < (↑b.length : Int), rd1 false (1 : Nat) (wL b) ((↑i : Int).toNat * (1 : Nat)) = some (AV.v (Value.int IntKind.u32 (↑(dg b i) : Int))), IntKind.u64.wrap (↑(dg b i) : Int) = (↑(dg b i) : Int), IntKind.u64.wrap (((↑(dg d i) : Int) - (↑(subS d b i).snd : Int)) % (18446744073709551616 : Int) - (↑(dg b i) : Int)) = subX d b i (subS d b i).snd % (18446744073709551616 : Int), IntKind.u32.wrap (subX d b i (subS d b i).snd % (18446744073709551616 : Int)) = (↑(subX d b i (subS d b i).snd % (4294967296 : Int)).toNat : Int), (0 : Int) ≤ (↑i : Int) ∧ (↑i : Int) < (↑d.length : Int), (↑i : Int).toNat * (1 : Nat) + [AV.v (Value.int IntKind.u32 (↑(subX d b i (subS d b i).snd % (4294967296 : Int)).toNat : Int))].length ≤ (wR (subS d b i).fst d.length).length, (subX d b i (subS d b i).snd % (18446744073709551616 : Int)).fdiv ((2 : Int) ^ (63 : Nat)) = (↑(if subX d b i (subS d b i).snd < (0 : Int) then (1 : Nat) else (0 : Nat)) : Int), (0 : Int) ≤ (63 : Int), IntKind.i64.wrap ((↑i : Int) + (1 : Int)) = (↑(i + (1 : Nat)) : Int)] (by kernel_rfl) (by show d.length - (i + 1) < d.length - i; omega) ?_
      ((repeat' refine And.intro ?_ ?_); (iterate 6 (with_reducible rfl)); (exact rfl); (iterate 4 (with_reducible rfl)); ((show (_ : List AV) = _; assumption)); ((with_reducible refine Dt ?_; omega)); (iterate 2 (omega)); ((show rd1 _ _ _ _ = _; assumption)); ((rw [IntKind.wrap_u64]; omega)); (exact rfl); ((with_reducible refine Dt ?_; omega)); (iterate 2 (omega)); rotate_left 1; ((rw [IntKind.wrap_u64]; omega)); (iterate 2 (with_reducible assumption)); (iterate 2 (omega)); rotate_left 1; (with_reducible assumption); (omega); (exact Wi _ (by omega)); (exact True.intro))
      all_goals first | exact hr | exact rd_wL _ _ hb2 | exact hs | exact e1 | exact e2 | exact e3 | (rw [IntKind.wrap_u64]) | (rw [wR_len _ _ (by omega)]; simp; omega)
    · have hz := dgl b i (by omega)
      have e3 : IntKind.u64.wrap ((dg d i : Int) - (subS d b i).2) = subX d b i (subS d b i).2 % 18446744073709551616 := by rw [IntKind.wrap_u64]; unfold subX; omega
      refine Round.on [(20, .val (bz true)), (25, .val (u3 (dg d i))), (26, .val (uz (dg d i : Nat))), (28, .val (uz (subX d b i (subS d b i).2 % 18446744073709551616))), (32, .val (bz false)), (43, .val (u3 (subX d b i (subS d b i).2 % 4294967296).toNat)), (46, .val (uz ((if subX d b i (subS d b i).2 < 0 then 1 else 0 : Nat) : Nat))), (47, .val (iz (i + 1 : Nat)))] [] ⟨i + 1, hlt⟩ [a.length = a.length ∧ wL a = wL a, b.length = b.length ∧ wL b = wL b, (16 : Nat) = (16 : Nat) ∧ (0 : Nat) = (0 : Nat), (↑(if subX d b i (subS d b i).snd < (0 : Int) then (1 : Nat) else (0 : Nat)) : Int) = (↑(subS d b (i + (1 : Nat))).snd : Int), (↑d.length : Int) = (↑d.length : Int), (↑(i + (1 : Nat)) : Int) = (↑(i + (1 : Nat)) : Int), d.length = d.length ∧ (0 : Nat) = (0 : Nat) ∧ List.take ((↑i : Int).toNat * (1 : Nat)) (wR (subS d b i).fst d.length) ++ [AV.v (Value.int IntKind.u32 (↑(subX d b i (subS d b i).snd % (4294967296 : Int)).toNat : Int))] ++ List.drop ((↑i : Int).toNat * (1 : Nat) + [AV.v (Value.int IntKind.u32 (↑(subX d b i (subS d b i).snd % (4294967296 : Int)).toNat : Int))].length) (wR (subS d b i).fst d.length) = wR (subS d b (i + (1 : Nat))).fst d.length, decide ((↑i : Int) < (↑d.length : Int)) = true, (0 : Int) ≤ (↑i : Int) ∧ (↑i : Int) < (↑a.length : Int), rd1 false (1 : Nat) (wL a) ((↑i : Int).toNat * (1 : Nat)) = some (AV.v (Value.int IntKind.u32 (↑(dg d i) : Int))), IntKind.u64.wrap (↑(dg d i) : Int) = (↑(dg d i) : Int), IntKind.u64.wrap ((↑(dg d i) : Int) - (↑(subS d b i).snd : Int)) = subX d b i (subS d b i).snd % (18446744073709551616 : Int), decide ((↑i : Int) < (↑b.length : Int)) = false, IntKind.u32.wrap (subX d b i (subS d b i).snd % (18446744073709551616 : Int)) = (↑(subX d b i (subS d b i).snd % (4294967296 : Int)).toNat : Int), (0 : Int) ≤ (↑i : Int) ∧ (↑i : Int) < (↑d.length : Int), (↑i : Int).toNat * (1 : Nat) + [AV.v (Value.int IntKind.u32 (↑(subX d b i (subS d b i).snd % (4294967296 : Int)).toNat : Int))].length ≤ (wR (subS d b i).fst d.length).length, (subX d b i (subS d b i).snd % (18446744073709551616 : Int)).fdiv ((2 : Int) ^ (63 : Nat)) = (↑(if subX d b i (subS d b i).snd < (0 : Int) then (1 : Nat) else (0 : Nat)) : Int), (0 : Int) ≤ (63 : Int), IntKind.i64.wrap ((↑i : Int) + (1 : Int)) = (↑(i + (1 : Nat)) : Int)] (by kernel_rfl) (by show d.length - (i + 1) < d.length - i; omega) ?_
      ((repeat' refine And.intro ?_ ?_); (iterate 6 (with_reducible rfl)); (exact rfl); (iterate 4 (with_reducible rfl)); ((show (_ : List AV) = _; assumption)); ((with_reducible refine Dt ?_; omega)); (iterate 2 (omega)); ((show rd1 _ _ _ _ = _; assumption)); ((rw [IntKind.wrap_u64]; omega)); (with_reducible assumption); ((with_reducible refine Df ?_; omega)); (with_reducible assumption); (iterate 2 (omega)); rotate_left 1; (with_reducible assumption); (omega); (exact Wi _ (by omega)); (exact True.intro))
      all_goals first | exact hr | exact rd_wL _ _ hb2 | exact hs | exact e1 | exact e2 | exact e3 | (rw [IntKind.wrap_u64]) | (rw [wR_len _ _ (by omega)]; simp; omega)
  · refine Round.out [(20, .val (bz false))] [] [a.length = a.length ∧ wL a = wL a, b.length = b.length ∧ wL b = wL b, (16 : Nat) = (16 : Nat) ∧ (0 : Nat) = (0 : Nat), (↑(subS d b d.length).snd : Int) = (↑(subS d b d.length).snd : Int), (↑d.length : Int) = (↑d.length : Int), (↑d.length : Int) = (↑d.length : Int), d.length = d.length ∧ (0 : Nat) = (0 : Nat) ∧ wR (subS d b d.length).fst d.length = wR (subS d b d.length).fst d.length, decide ((↑d.length : Int) < (↑d.length : Int)) = false] (by kernel_rfl) ?_
    ((repeat' refine And.intro ?_ ?_); (iterate 12 (with_reducible rfl)); ((with_reducible refine Df ?_; omega)); (exact True.intro))
theorem sub_ok {a b : List Nat} (ha : Wd a) (hb : Wd b) (hal : a.length ≤ 1000000) (hbl : b.length ≤ 1000000) (hle : vw b ≤ vw a) : FnOk Try.prog 173 ⟨[wA a, wA b], [], .tup [wA (dgw (vw a - vw b)), bz true], []⟩ := by
  have hcm := cmp_ok ha hb hal hbl
  have hz := size_ok a (by omega)
  obtain ⟨d, hd⟩ : ∃ d, dgw (vw a) = d := ⟨_, rfl⟩
  have hdt : a.take (tsz a) = d := by rw [← hd]; exact take_tszW a ha
  have hta := tsz_le a
  have hdl : d.length = tsz a := by rw [← hdt, List.length_take]; omega
  have hdw : Wd d := by rw [← hd]; exact dig_ltW _
  have hl := sub_loop hdw hb (by omega) (by rw [hdl, hdt]) ⟨0, Nat.zero_le _⟩
  have hr := subS_rest hdw hb d.length
  have hv : vw d = vw a := by rw [← hd, vd_digW]
  have he := RestRW.end_ ⟨_, hr⟩ (by rw [hv]; exact hle)
  rw [hv] at he
  have hlo := hr.1
  have hz2 := size_ok (subS d b d.length).1 (by omega)
  have e2 := tsz_dg he.2
  have hc := cut_dg he.2
  rw [he.1] at e2 hc
  have hcc : decide (cmpW a b < 0) = false := decide_eq_false (by unfold cmpW; split <;> (try split) <;> omega)
  have hfull : wR (subS d b d.length).1 d.length = wL (subS d b d.length).1 := by rw [← wR_full, hlo]
  rw [← hfull] at hc
  rw [← hdl] at hz
  refine fn_go hmo Try.func173 (by kernel_rfl) [(12, .call ⟨[wA a, wA b], [], iz (cmpW a b), []⟩), (13, .val (bz false)), (15, .call ⟨[wA a], [], iz (d.length : Nat), []⟩), (50, .call ⟨[wA (subS d b d.length).1], [], iz (tsz (subS d b d.length).1 : Nat), []⟩)] [(6, ⟨.exit 0, invSub a d b ⟨0, Nat.zero_le _⟩, invSub a d b ⟨d.length, Nat.le_refl _⟩⟩)] [((↑(tsz (subS d b d.length).fst) : Int).toNat = (dgw (vw a - vw b)).length ∧ List.take ((↑(tsz (subS d b d.length).fst) : Int).toNat * (1 : Nat)) (wR (subS d b d.length).fst d.length) = wL (dgw (vw a - vw b))) ∧ true = true ∧ True, (a.length = a.length ∧ wL a = wL a) ∧ (b.length = b.length ∧ wL b = wL b) ∧ True, FnOk Try.prog (183 : Nat) (Inst.mk [AV.lst a.length (wL a), AV.lst b.length (wL b)] [] (AV.v (Value.int IntKind.i64 (cmpW a b))) []), decide (cmpW a b < (0 : Int)) = false, (a.length = a.length ∧ wL a = wL a) ∧ True, FnOk Try.prog (143 : Nat) (Inst.mk [AV.lst a.length (wL a)] [] (AV.v (Value.int IntKind.i64 (↑d.length : Int))) []), (↑d.length : Int) = (↑d.length : Int), (0 : Int) ≤ (↑d.length : Int) ∧ (↑d.length : Int) * (↑(4 : Nat) : Int) ≤ (140737488355328 : Int) ∧ (↑d.length : Int) ≤ (140737488355328 : Int), LoopOk Try.prog (loopBody Try.f173 (6 : Nat)) (invSub a d b (Subtype.mk (0 : Nat) (Nat.zero_le d.length))) (Exit.exit (0 : Nat)) (invSub a d b (Subtype.mk d.length (Nat.le_refl d.length))), a.length = a.length ∧ wL a = wL a, b.length = b.length ∧ wL b = wL b, (16 : Nat) = (16 : Nat) ∧ (0 : Nat) = (0 : Nat), (0 : Int) = (↑(subS d b (0 : Nat)).snd : Int), (↑(↑d.length : Int).toNat : Int) = (↑d.length : Int), (0 : Int) = (↑(0 : Nat) : Int), (↑d.length : Int).toNat = d.length ∧ (0 : Nat) = (0 : Nat) ∧ repA (↑d.length : Int).toNat [Value.int IntKind.u32 (0 : Int)] = wR (subS d b (0 : Nat)).fst d.length, (d.length = (subS d b d.length).fst.length ∧ wR (subS d b d.length).fst d.length = wL (subS d b d.length).fst) ∧ True, FnOk Try.prog (143 : Nat) (Inst.mk [AV.lst (subS d b d.length).fst.length (wL (subS d b d.length).fst)] [] (AV.v (Value.int IntKind.i64 (↑(tsz (subS d b d.length).fst) : Int))) []), (0 : Int) = (0 : Int) ∧ (0 : Int) ≤ (↑(tsz (subS d b d.length).fst) : Int) ∧ (↑(tsz (subS d b d.length).fst) : Int) ≤ (↑d.length : Int)] (by kernel_rfl) ?_
  ((repeat' refine And.intro ?_ ?_); (iterate 2 (with_reducible assumption)); (with_reducible rfl); (exact True.intro); (iterate 4 (with_reducible rfl)); (exact True.intro); ((show FnOk _ _ _; assumption)); (with_reducible assumption); (iterate 2 (with_reducible rfl)); (exact True.intro); ((show FnOk _ _ _; assumption)); (with_reducible rfl); (iterate 3 (omega)); (with_reducible assumption); (iterate 6 (with_reducible rfl)); (exact rfl); (iterate 3 (omega)); (with_reducible rfl); rotate_left 1; (omega); (with_reducible assumption); (exact True.intro); ((show FnOk _ _ _; assumption)); (with_reducible rfl); (omega); rotate_left 1; (exact True.intro))
  all_goals first | exact hz | exact hcm | exact hz2 | exact e2 | exact hc | exact hl | exact wR_nil _ | exact hcc | exact hfull | (have := tsz_le (subS d b d.length).1; omega)
theorem sub_no {a b : List Nat} (ha : Wd a) (hb : Wd b) (hal : a.length ≤ 1000000) (hbl : b.length ≤ 1000000) (hlt : vw a < vw b) : FnOk Try.prog 173 ⟨[wA a, wA b], [], .tup [wA [], bz false], []⟩ := by
  have hcm := cmp_ok ha hb hal hbl
  have hcc : decide (cmpW a b < 0) = true := decide_eq_true (by unfold cmpW; rw [if_pos hlt]; decide)
  refine fn_go hmo Try.func173 (by kernel_rfl) [(12, .call ⟨[wA a, wA b], [], iz (cmpW a b), []⟩), (13, .val (bz true))] [] [((0 : Nat) = (0 : Nat) ∧ ([] : List AV) = []) ∧ false = false ∧ True, (a.length = a.length ∧ wL a = wL a) ∧ (b.length = b.length ∧ wL b = wL b) ∧ True, FnOk Try.prog (183 : Nat) (Inst.mk [AV.lst a.length (wL a), AV.lst b.length (wL b)] [] (AV.v (Value.int IntKind.i64 (cmpW a b))) []), decide (cmpW a b < (0 : Int)) = true] (by kernel_rfl) ?_
  ((repeat' refine And.intro ?_ ?_); (iterate 3 (with_reducible rfl)); (exact True.intro); (iterate 4 (with_reducible rfl)); (exact True.intro); ((show FnOk _ _ _; assumption)); (with_reducible assumption); (exact True.intro))
  all_goals first | exact hcm | exact hcc
end Go.Proofs.Ytfhmaincnlaapaa.Sy
