/-
  whole.Add, Abs; bushelref05's flags, Join.
  nat.size, Trim, Of, Cmp.
-/
import Derived.Test.YtfhmaincnlaapaaAoWordMath
namespace Go.Proofs.Ytfhmaincnlaapaa.Sy
open Go.ChangeShapes Go.WideShapes Go.ChangeAt Go.RowKit
set_option linter.unusedVariables false
set_option linter.unusedSimpArgs false
def wL (l : List Nat) : List AV := l.map u3
def wA (l : List Nat) : AV := .lst l.length (wL l)
def Wd (l : List Nat) : Prop := ∀ d ∈ l, d < 4294967296
theorem wL_len (l : List Nat) : (wL l).length = l.length := by simp [wL]
theorem wL_app (l m : List Nat) : wL (l ++ m) = wL l ++ wL m := by simp [wL]
theorem wL_take (l : List Nat) (k : Nat) : (wL l).take k = wL (l.take k) := by simp [wL, List.map_take]
theorem wL_drop (l : List Nat) (k : Nat) : (wL l).drop k = wL (l.drop k) := by simp [wL, List.map_drop]
theorem wL_set (l : List Nat) (k x : Nat) (h : k < l.length) : (wL l).take k ++ [u3 x] ++ (wL l).drop (k + 1) = wL (l.set k x) := by
  rw [wL_take, wL_drop, show [u3 x] = wL [x] from rfl, ← wL_app, ← wL_app]
  congr 1
  rw [List.set_eq_take_append_cons_drop, if_pos h, List.append_assoc]; rfl
theorem rd_wL (l : List Nat) (k : Nat) (h : k < l.length) : rd1 false 1 (wL l) ((k : Int).toNat * 1) = some (u3 (dg l k)) := by
  unfold rd1 wL
  simp [dg, List.getD, h]
theorem i64i (n : Int) (h : -9223372036854775808 ≤ n ∧ n < 9223372036854775808) : IntKind.i64.wrap n = n := IntWalk.i64_in _ (by omega)
theorem u64n (n : Int) (h : 0 ≤ n ∧ n < 18446744073709551616) : IntKind.u64.wrap n = n := by rw [IntKind.wrap_u64]; omega
theorem tsz_take (l : List Nat) (n : Nat) (h : n < l.length) : tsz (l.take (n + 1)) = if dg l n = 0 then tsz (l.take n) else n + 1 := by
  rw [List.take_succ_eq_append_getElem h, tsz_last, dg_get l n h, List.length_take, Nat.min_eq_left (by omega)]
/-! ### size -/
def invSize (l : List Nat) (n : {n : Nat // n ≤ l.length ∧ tsz (l.take n) = tsz l}) : AS := ⟨[(0, wA l), (3, iz (n.1 : Nat))], [], 19, []⟩
theorem size_loop (l : List Nat) (hl : l.length < 9223372036854775808) (i) : LoopOk Try.prog (loopBody Try.f143 2) (invSize l i) (.exit 0) ⟨[(3, iz (tsz l : Nat))], [], 19, []⟩ := by
  refine LoopOk.of hmo (invSize l) (fun n => n.1) (fun i => ?_) i
  obtain ⟨n, hn, hs⟩ := i
  cases n with
  | zero =>
    refine Round.out [(7, .val (bz false))] [] [(↑(0 : Nat) : Int) = (↑(tsz l) : Int), false = false] (by kernel_rfl) ?_
    exact ⟨by rw [← hs]; rfl, rfl, trivial⟩
  | succ n =>
    have hc : IntKind.i64.wrap (((n + 1 : Nat) : Int) - 1) = (n : Int) := by rw [i64i _ (by omega)]; omega
    have h0 : decide ((0 : Int) < ((n + 1 : Nat) : Int)) = true := decide_eq_true (by omega)
    rw [tsz_take l n (by omega)] at hs
    by_cases hd : dg l n = 0
    · rw [if_pos hd] at hs
      refine Round.on [(7, .val (bz true)), (11, .val (iz (n : Nat))), (13, .val (u3 (dg l n))), (14, .val (bz true)), (17, .val (iz (n : Nat)))] [] ⟨n, by omega, hs⟩ [l.length = l.length ∧ wL l = wL l, (↑n : Int) = (↑n : Int), decide ((0 : Int) < (↑(n + (1 : Nat)) : Int)) = true, IntKind.i64.wrap ((↑(n + (1 : Nat)) : Int) - (1 : Int)) = (↑n : Int), (0 : Int) ≤ (↑n : Int) ∧ (↑n : Int) < (↑l.length : Int), rd1 false (1 : Nat) (wL l) ((↑n : Int).toNat * (1 : Nat)) = some (AV.v (Value.int IntKind.u32 (↑(dg l n) : Int))), ((↑(dg l n) : Int) == (0 : Int)) = true, IntKind.i64.wrap ((↑(n + (1 : Nat)) : Int) - (1 : Int)) = (↑n : Int)] (by kernel_rfl) (Nat.lt_succ_self _) ?_
      exact ⟨⟨rfl, rfl⟩, rfl, h0, hc, by omega, rd_wL l n (by omega), by rw [hd]; rfl, hc, trivial⟩
    · rw [if_neg hd] at hs
      refine Round.out [(7, .val (bz true)), (11, .val (iz (n : Nat))), (13, .val (u3 (dg l n))), (14, .val (bz false))] [] [(↑(n + (1 : Nat)) : Int) = (↑(tsz l) : Int), decide ((0 : Int) < (↑(n + (1 : Nat)) : Int)) = true, IntKind.i64.wrap ((↑(n + (1 : Nat)) : Int) - (1 : Int)) = (↑n : Int), (0 : Int) ≤ (↑n : Int) ∧ (↑n : Int) < (↑l.length : Int), rd1 false (1 : Nat) (wL l) ((↑n : Int).toNat * (1 : Nat)) = some (AV.v (Value.int IntKind.u32 (↑(dg l n) : Int))), ((↑(dg l n) : Int) == (0 : Int)) = false] (by kernel_rfl) ?_
      exact ⟨by rw [← hs], h0, hc, by omega, rd_wL l n (by omega), by rw [beq_eq_false_iff_ne]; omega, trivial⟩
def size0 (l : List Nat) : {n : Nat // n ≤ l.length ∧ tsz (l.take n) = tsz l} := ⟨l.length, Nat.le_refl _, by rw [List.take_length]⟩
theorem size_ok (l : List Nat) (hl : l.length < 9223372036854775808) : FnOk Try.prog 143 ⟨[wA l], [], iz (tsz l : Nat), []⟩ := by
  refine fn_go hmo Try.func143 (by kernel_rfl) [] [(2, ⟨.exit 0, invSize l (size0 l), ⟨[(3, iz (tsz l : Nat))], [], 19, []⟩⟩)] [(↑(tsz l) : Int) = (↑(tsz l) : Int), LoopOk Try.prog (loopBody Try.f143 (2 : Nat)) (invSize l (size0 l)) (Exit.exit (0 : Nat)) (AS.mk [((3 : Nat), AV.v (Value.int IntKind.i64 (↑(tsz l) : Int)))] [] (19 : Nat) []), l.length = l.length ∧ wL l = wL l, (↑l.length : Int) = (↑l.length : Int)] (by kernel_rfl) ?_
  exact ⟨rfl, size_loop l hl (size0 l), ⟨rfl, rfl⟩, rfl, trivial⟩
/-! ### Trim -/
/-! ### Cmp -/
def cmpW (a b : List Nat) : Int := if vw a < vw b then -1 else if vw b < vw a then 1 else 0
theorem tsz_lt {a b : List Nat} (ha : Wd a) (hb : Wd b) (h : tsz a < tsz b) : vw a < vw b := by
  refine Nat.lt_of_not_le fun hle => ?_
  have e1 := take_tszW a ha
  have e2 := take_tszW b hb
  have h1 := dig_monoW hle
  rw [← e1, ← e2, List.length_take, List.length_take] at h1
  have := tsz_le a; have := tsz_le b
  omega
/-- how far down they are the same -/
def CI (a b : List Nat) : Type := {n : Nat // n ≤ a.length ∧ n ≤ b.length ∧ vw (a.drop n) = vw (b.drop n)}
def CI.x {a b : List Nat} (i : CI a b) : Int := (i.1 : Int) - 1
def invCmp (a b : List Nat) (i : CI a b) : AS := ⟨[(0, wA a), (1, wA b), (7, iz i.x)], [], 42, []⟩
theorem cmp_on {a b : List Nat} (ha : Wd a) (hb : Wd b) (hal : a.length ≤ 1000000) (e : Exit) (σ' : AS) (m : Nat) (hn) (he : dg a m = dg b m) : Round Try.prog (loopBody Try.f183 7) (invCmp a b) (·.1) e σ' ⟨m + 1, hn⟩ := by
  have hm : m < a.length ∧ m < b.length := ⟨hn.1, hn.2.1⟩
  have hd := vd_dropW a m
  have hd2 := vd_dropW b m
  have hj : m ≤ a.length ∧ m ≤ b.length ∧ vw (a.drop m) = vw (b.drop m) := ⟨by omega, by omega, by rw [hd, hd2, he, hn.2.2]⟩
  have hx : CI.x (a := a) (b := b) ⟨m + 1, hn⟩ = (m : Int) := by show ((m + 1 : Nat) : Int) - 1 = m; omega
  refine Round.on [(20, .val (iz (m : Nat))), (21, .val (bz true)), (25, .val (iz (m : Nat))), (27, .val (u3 (dg a m))), (29, .val (iz (m : Nat))), (31, .val (u3 (dg b m))), (32, .val (bz false)), (34, .val (iz (m : Nat))), (36, .val (u3 (dg a m))), (38, .val (iz (m : Nat))), (40, .val (u3 (dg b m))), (41, .val (bz false)), (22, .val (iz (m : Nat))), (23, .val (iz (CI.x (a := a) (b := b) ⟨m, hj⟩)))] [] ⟨m, hj⟩ [a.length = a.length ∧ wL a = wL a, b.length = b.length ∧ wL b = wL b, CI.x (Subtype.mk m hj) = CI.x (Subtype.mk m hj), CI.x (Subtype.mk (m + (1 : Nat)) hn) = (↑m : Int), true = true, CI.x (Subtype.mk (m + (1 : Nat)) hn) = (↑m : Int), (0 : Int) ≤ (↑m : Int) ∧ (↑m : Int) < (↑a.length : Int), rd1 false (1 : Nat) (wL a) ((↑m : Int).toNat * (1 : Nat)) = some (AV.v (Value.int IntKind.u32 (↑(dg a m) : Int))), CI.x (Subtype.mk (m + (1 : Nat)) hn) = (↑m : Int), (0 : Int) ≤ (↑m : Int) ∧ (↑m : Int) < (↑b.length : Int), rd1 false (1 : Nat) (wL b) ((↑m : Int).toNat * (1 : Nat)) = some (AV.v (Value.int IntKind.u32 (↑(dg b m) : Int))), decide ((↑(dg a m) : Int) < (↑(dg b m) : Int)) = false, CI.x (Subtype.mk (m + (1 : Nat)) hn) = (↑m : Int), (0 : Int) ≤ (↑m : Int) ∧ (↑m : Int) < (↑a.length : Int), rd1 false (1 : Nat) (wL a) ((↑m : Int).toNat * (1 : Nat)) = some (AV.v (Value.int IntKind.u32 (↑(dg a m) : Int))), CI.x (Subtype.mk (m + (1 : Nat)) hn) = (↑m : Int), (0 : Int) ≤ (↑m : Int) ∧ (↑m : Int) < (↑b.length : Int), rd1 false (1 : Nat) (wL b) ((↑m : Int).toNat * (1 : Nat)) = some (AV.v (Value.int IntKind.u32 (↑(dg b m) : Int))), decide ((↑(dg b m) : Int) < (↑(dg a m) : Int)) = false, CI.x (Subtype.mk (m + (1 : Nat)) hn) = (↑m : Int), IntKind.i64.wrap ((↑m : Int) - (1 : Int)) = CI.x (Subtype.mk m hj)] (by kernel_rfl) (Nat.lt_succ_self m) ?_
  have hw : IntKind.i64.wrap ((m : Int) - 1) = CI.x (a := a) (b := b) ⟨m, hj⟩ := by rw [i64i _ (by omega)]; rfl
  ((repeat' refine And.intro ?_ ?_); (iterate 5 (with_reducible rfl)); (with_reducible assumption); (with_reducible rfl); (with_reducible assumption); (iterate 2 (omega)); rotate_left 1; (with_reducible assumption); (iterate 2 (omega)); rotate_left 1; ((with_reducible refine Df ?_; omega)); (with_reducible assumption); (iterate 2 (omega)); rotate_left 1; (with_reducible assumption); (iterate 2 (omega)); rotate_left 1; ((with_reducible refine Df ?_; omega)); (iterate 2 (with_reducible assumption)); (exact True.intro))
  all_goals first | exact rd_wL a m hm.1 | exact rd_wL b m hm.2 | exact hw | (rw [he]; exact decide_eq_false (Int.lt_irrefl _)) | (exact he ▸ rd_wL a m hm.1) | (exact he ▸ rd_wL b m hm.2)
theorem cmp_loop_eq {a b : List Nat} (ha : Wd a) (hb : Wd b) (hal : a.length ≤ 1000000) (h : vw a = vw b) (i : CI a b) : LoopOk Try.prog (loopBody Try.f183 7) (invCmp a b i) (.exit 0) ⟨[], [], 42, []⟩ := by
  refine LoopOk.of hmo (invCmp a b) (·.1) (fun i => ?_) i
  obtain ⟨n, hn⟩ := i
  cases n with
  | zero =>
    refine Round.out [(20, .val (iz (-1))), (21, .val (bz false))] [] [CI.x (Subtype.mk (0 : Nat) hn) = (-1 : Int), false = false] (by kernel_rfl) ?_
    ((repeat' refine And.intro ?_ ?_); (exact rfl); (with_reducible rfl); (exact True.intro))
    all_goals rfl
  | succ m =>
    refine cmp_on ha hb hal _ _ m hn ?_
    rcases Nat.lt_trichotomy (dg a m) (dg b m) with h1 | h1 | h1
    · have := vd_lessW ha hb hn.2.2 h1; omega
    · exact h1
    · have := vd_lessW hb ha hn.2.2.symm h1; omega
theorem cmp_loop_lt {a b : List Nat} (ha : Wd a) (hb : Wd b) (hal : a.length ≤ 1000000) (h : vw a < vw b) (i : CI a b) : LoopOk Try.prog (loopBody Try.f183 7) (invCmp a b i) .ret ⟨[(4, iz (-1))], [], 42, []⟩ := by
  refine LoopOk.of hmo (invCmp a b) (·.1) (fun i => ?_) i
  obtain ⟨n, hn⟩ := i
  cases n with
  | zero => have := hn.2.2; simp only [List.drop_zero] at this; omega
  | succ m =>
    rcases Nat.lt_trichotomy (dg a m) (dg b m) with h1 | h1 | h1
    · have hm : m < a.length ∧ m < b.length := ⟨hn.1, hn.2.1⟩
      have hx : CI.x (a := a) (b := b) ⟨m + 1, hn⟩ = (m : Int) := by show ((m + 1 : Nat) : Int) - 1 = m; omega
      refine Round.out [(20, .val (iz (m : Nat))), (21, .val (bz true)), (25, .val (iz (m : Nat))), (27, .val (u3 (dg a m))), (29, .val (iz (m : Nat))), (31, .val (u3 (dg b m))), (32, .val (bz true))] [] [(-1 : Int) = (-1 : Int), CI.x (Subtype.mk (m + (1 : Nat)) hn) = (↑m : Int), true = true, CI.x (Subtype.mk (m + (1 : Nat)) hn) = (↑m : Int), (0 : Int) ≤ (↑m : Int) ∧ (↑m : Int) < (↑a.length : Int), rd1 false (1 : Nat) (wL a) ((↑m : Int).toNat * (1 : Nat)) = some (AV.v (Value.int IntKind.u32 (↑(dg a m) : Int))), CI.x (Subtype.mk (m + (1 : Nat)) hn) = (↑m : Int), (0 : Int) ≤ (↑m : Int) ∧ (↑m : Int) < (↑b.length : Int), rd1 false (1 : Nat) (wL b) ((↑m : Int).toNat * (1 : Nat)) = some (AV.v (Value.int IntKind.u32 (↑(dg b m) : Int))), decide ((↑(dg a m) : Int) < (↑(dg b m) : Int)) = true] (by kernel_rfl) ?_
      ((repeat' refine And.intro ?_ ?_); (with_reducible rfl); (with_reducible assumption); (with_reducible rfl); (with_reducible assumption); (iterate 2 (omega)); rotate_left 1; (with_reducible assumption); (iterate 2 (omega)); rotate_left 1; ((with_reducible refine Dt ?_; omega)); (exact True.intro))
      all_goals first | exact rd_wL a m hm.1 | exact rd_wL b m hm.2
    · exact cmp_on ha hb hal _ _ m hn h1
    · have := vd_lessW hb ha hn.2.2.symm h1; omega
theorem cmp_loop_gt {a b : List Nat} (ha : Wd a) (hb : Wd b) (hal : a.length ≤ 1000000) (h : vw b < vw a) (i : CI a b) : LoopOk Try.prog (loopBody Try.f183 7) (invCmp a b i) .ret ⟨[(4, iz 1)], [], 42, []⟩ := by
  refine LoopOk.of hmo (invCmp a b) (·.1) (fun i => ?_) i
  obtain ⟨n, hn⟩ := i
  cases n with
  | zero => have := hn.2.2; simp only [List.drop_zero] at this; omega
  | succ m =>
    rcases Nat.lt_trichotomy (dg a m) (dg b m) with h1 | h1 | h1
    · have := vd_lessW ha hb hn.2.2 h1; omega
    · exact cmp_on ha hb hal _ _ m hn h1
    · have hm : m < a.length ∧ m < b.length := ⟨hn.1, hn.2.1⟩
      have hx : CI.x (a := a) (b := b) ⟨m + 1, hn⟩ = (m : Int) := by show ((m + 1 : Nat) : Int) - 1 = m; omega
      refine Round.out [(20, .val (iz (m : Nat))), (21, .val (bz true)), (25, .val (iz (m : Nat))), (27, .val (u3 (dg a m))), (29, .val (iz (m : Nat))), (31, .val (u3 (dg b m))), (32, .val (bz false)), (34, .val (iz (m : Nat))), (36, .val (u3 (dg a m))), (38, .val (iz (m : Nat))), (40, .val (u3 (dg b m))), (41, .val (bz true))] [] [(1 : Int) = (1 : Int), CI.x (Subtype.mk (m + (1 : Nat)) hn) = (↑m : Int), true = true, CI.x (Subtype.mk (m + (1 : Nat)) hn) = (↑m : Int), (0 : Int) ≤ (↑m : Int) ∧ (↑m : Int) < (↑a.length : Int), rd1 false (1 : Nat) (wL a) ((↑m : Int).toNat * (1 : Nat)) = some (AV.v (Value.int IntKind.u32 (↑(dg a m) : Int))), CI.x (Subtype.mk (m + (1 : Nat)) hn) = (↑m : Int), (0 : Int) ≤ (↑m : Int) ∧ (↑m : Int) < (↑b.length : Int), rd1 false (1 : Nat) (wL b) ((↑m : Int).toNat * (1 : Nat)) = some (AV.v (Value.int IntKind.u32 (↑(dg b m) : Int))), decide ((↑(dg a m) : Int) < (↑(dg b m) : Int)) = false, CI.x (Subtype.mk (m + (1 : Nat)) hn) = (↑m : Int), (0 : Int) ≤ (↑m : Int) ∧ (↑m : Int) < (↑a.length : Int), rd1 false (1 : Nat) (wL a) ((↑m : Int).toNat * (1 : Nat)) = some (AV.v (Value.int IntKind.u32 (↑(dg a m) : Int))), CI.x (Subtype.mk (m + (1 : Nat)) hn) = (↑m : Int), (0 : Int) ≤ (↑m : Int) ∧ (↑m : Int) < (↑b.length : Int), rd1 false (1 : Nat) (wL b) ((↑m : Int).toNat * (1 : Nat)) = some (AV.v (Value.int IntKind.u32 (↑(dg b m) : Int))), decide ((↑(dg b m) : Int) < (↑(dg a m) : Int)) = true] (by kernel_rfl) ?_
      ((repeat' refine And.intro ?_ ?_); (with_reducible rfl); (with_reducible assumption); (with_reducible rfl); (with_reducible assumption); (iterate 2 (omega)); rotate_left 1; (with_reducible assumption); (iterate 2 (omega)); rotate_left 1; ((with_reducible refine Df ?_; omega)); (with_reducible assumption); (iterate 2 (omega)); rotate_left 1; (with_reducible assumption); (iterate 2 (omega)); rotate_left 1; ((with_reducible refine Dt ?_; omega)); (exact True.intro))
      all_goals first | exact rd_wL a m hm.1 | exact rd_wL b m hm.2
theorem drop_tsz {l : List Nat} (h : Wd l) : vw (l.drop (tsz l)) = 0 := by
  have e := vd_partsW l (tsz l)
  rw [take_tszW l h, vd_digW, Nat.min_eq_left (tsz_le l)] at e
  have := p_posW (tsz l)
  rcases Nat.eq_zero_or_pos (vw (l.drop (tsz l))) with h0 | h0
  · exact h0
  · have := Nat.mul_pos this h0; omega
def cmp0 {a b : List Nat} (h : tsz a = tsz b) (ha : Wd a) (hb : Wd b) : CI a b := ⟨tsz a, tsz_le a, h ▸ tsz_le b, by rw [drop_tsz ha, h, drop_tsz hb]⟩
theorem cmp_ok {a b : List Nat} (ha : Wd a) (hb : Wd b) (hal : a.length ≤ 1000000) (hbl : b.length ≤ 1000000) : FnOk Try.prog 183 ⟨[wA a, wA b], [], iz (cmpW a b), []⟩ := by
  have h1 := size_ok a (by omega)
  have h2 := size_ok b (by omega)
  have hta := tsz_le a
  have htb := tsz_le b
  rcases Nat.lt_trichotomy (tsz a) (tsz b) with h | h | h
  · have hc : cmpW a b = -1 := by unfold cmpW; rw [if_pos (tsz_lt ha hb h)]
    rw [hc]
    refine fn_go hmo Try.func183 (by kernel_rfl) [(9, .call ⟨[wA a], [], iz (tsz a : Nat), []⟩), (11, .call ⟨[wA b], [], iz (tsz b : Nat), []⟩), (14, .val (bz true)), (17, .val (bz true))] [] [(-1 : Int) = (-1 : Int), (a.length = a.length ∧ wL a = wL a) ∧ True, FnOk Try.prog (143 : Nat) (Inst.mk [AV.lst a.length (wL a)] [] (AV.v (Value.int IntKind.i64 (↑(tsz a) : Int))) []), (b.length = b.length ∧ wL b = wL b) ∧ True, FnOk Try.prog (143 : Nat) (Inst.mk [AV.lst b.length (wL b)] [] (AV.v (Value.int IntKind.i64 (↑(tsz b) : Int))) []), ((↑(tsz a) : Int) != (↑(tsz b) : Int)) = true, decide ((↑(tsz a) : Int) < (↑(tsz b) : Int)) = true] (by kernel_rfl) ?_
    ((repeat' refine And.intro ?_ ?_); (iterate 3 (with_reducible rfl)); (exact True.intro); ((show FnOk _ _ _; assumption)); (iterate 2 (with_reducible rfl)); (exact True.intro); ((show FnOk _ _ _; assumption)); ((with_reducible refine Ne ?_; omega)); ((with_reducible refine Dt ?_; omega)); (exact True.intro))
    all_goals first | exact h1 | exact h2 | (simp; omega)
  · have hw : IntKind.i64.wrap ((tsz a : Int) - 1) = (cmp0 h ha hb).x := by rw [i64i _ (by omega)]; rfl
    rcases Nat.lt_trichotomy (vw a) (vw b) with hl | hl | hl
    · have hc : cmpW a b = -1 := by unfold cmpW; rw [if_pos hl]
      have h3 := cmp_loop_lt ha hb hal hl (cmp0 h ha hb)
      rw [hc]
      refine fn_go hmo Try.func183 (by kernel_rfl) [(9, .call ⟨[wA a], [], iz (tsz a : Nat), []⟩), (11, .call ⟨[wA b], [], iz (tsz b : Nat), []⟩), (14, .val (bz false)), (19, .val (iz (cmp0 h ha hb).x))] [(7, ⟨.ret, invCmp a b (cmp0 h ha hb), ⟨[(4, iz (-1))], [], 42, []⟩⟩)] [(-1 : Int) = (-1 : Int), (a.length = a.length ∧ wL a = wL a) ∧ True, FnOk Try.prog (143 : Nat) (Inst.mk [AV.lst a.length (wL a)] [] (AV.v (Value.int IntKind.i64 (↑(tsz a) : Int))) []), (b.length = b.length ∧ wL b = wL b) ∧ True, FnOk Try.prog (143 : Nat) (Inst.mk [AV.lst b.length (wL b)] [] (AV.v (Value.int IntKind.i64 (↑(tsz b) : Int))) []), ((↑(tsz a) : Int) != (↑(tsz b) : Int)) = false, IntKind.i64.wrap ((↑(tsz a) : Int) - (1 : Int)) = (cmp0 h ha hb).x, LoopOk Try.prog (loopBody Try.f183 (7 : Nat)) (invCmp a b (cmp0 h ha hb)) Exit.ret (AS.mk [((4 : Nat), AV.v (Value.int IntKind.i64 (-1 : Int)))] [] (42 : Nat) []), a.length = a.length ∧ wL a = wL a, b.length = b.length ∧ wL b = wL b, (cmp0 h ha hb).x = (cmp0 h ha hb).x] (by kernel_rfl) ?_
      ((repeat' refine And.intro ?_ ?_); (iterate 3 (with_reducible rfl)); (exact True.intro); ((show FnOk _ _ _; assumption)); (iterate 2 (with_reducible rfl)); (exact True.intro); ((show FnOk _ _ _; assumption)); ((with_reducible refine Nq ?_; omega)); (with_reducible assumption); ((show LoopOk _ _ _ _ _; assumption)); (iterate 5 (with_reducible rfl)); (exact True.intro))
      all_goals first | exact h1 | exact h2 | exact h3 | exact hw | (simp; omega)
    · have hc : cmpW a b = 0 := by unfold cmpW; rw [if_neg (by omega), if_neg (by omega)]
      have h3 := cmp_loop_eq ha hb hal hl (cmp0 h ha hb)
      rw [hc]
      refine fn_go hmo Try.func183 (by kernel_rfl) [(9, .call ⟨[wA a], [], iz (tsz a : Nat), []⟩), (11, .call ⟨[wA b], [], iz (tsz b : Nat), []⟩), (14, .val (bz false)), (19, .val (iz (cmp0 h ha hb).x))] [(7, ⟨.exit 0, invCmp a b (cmp0 h ha hb), ⟨[], [], 42, []⟩⟩)] [(0 : Int) = (0 : Int), (a.length = a.length ∧ wL a = wL a) ∧ True, FnOk Try.prog (143 : Nat) (Inst.mk [AV.lst a.length (wL a)] [] (AV.v (Value.int IntKind.i64 (↑(tsz a) : Int))) []), (b.length = b.length ∧ wL b = wL b) ∧ True, FnOk Try.prog (143 : Nat) (Inst.mk [AV.lst b.length (wL b)] [] (AV.v (Value.int IntKind.i64 (↑(tsz b) : Int))) []), ((↑(tsz a) : Int) != (↑(tsz b) : Int)) = false, IntKind.i64.wrap ((↑(tsz a) : Int) - (1 : Int)) = (cmp0 h ha hb).x, LoopOk Try.prog (loopBody Try.f183 (7 : Nat)) (invCmp a b (cmp0 h ha hb)) (Exit.exit (0 : Nat)) (AS.mk [] [] (42 : Nat) []), a.length = a.length ∧ wL a = wL a, b.length = b.length ∧ wL b = wL b, (cmp0 h ha hb).x = (cmp0 h ha hb).x] (by kernel_rfl) ?_
      ((repeat' refine And.intro ?_ ?_); (iterate 3 (with_reducible rfl)); (exact True.intro); ((show FnOk _ _ _; assumption)); (iterate 2 (with_reducible rfl)); (exact True.intro); ((show FnOk _ _ _; assumption)); ((with_reducible refine Nq ?_; omega)); (iterate 2 (with_reducible assumption)); (iterate 5 (with_reducible rfl)); (exact True.intro))
      all_goals first | exact h1 | exact h2 | exact h3 | exact hw | (simp; omega)
    · have hc : cmpW a b = 1 := by unfold cmpW; rw [if_neg (by omega), if_pos hl]
      have h3 := cmp_loop_gt ha hb hal hl (cmp0 h ha hb)
      rw [hc]
      refine fn_go hmo Try.func183 (by kernel_rfl) [(9, .call ⟨[wA a], [], iz (tsz a : Nat), []⟩), (11, .call ⟨[wA b], [], iz (tsz b : Nat), []⟩), (14, .val (bz false)), (19, .val (iz (cmp0 h ha hb).x))] [(7, ⟨.ret, invCmp a b (cmp0 h ha hb), ⟨[(4, iz 1)], [], 42, []⟩⟩)] [(1 : Int) = (1 : Int), (a.length = a.length ∧ wL a = wL a) ∧ True, FnOk Try.prog (143 : Nat) (Inst.mk [AV.lst a.length (wL a)] [] (AV.v (Value.int IntKind.i64 (↑(tsz a) : Int))) []), (b.length = b.length ∧ wL b = wL b) ∧ True, FnOk Try.prog (143 : Nat) (Inst.mk [AV.lst b.length (wL b)] [] (AV.v (Value.int IntKind.i64 (↑(tsz b) : Int))) []), ((↑(tsz a) : Int) != (↑(tsz b) : Int)) = false, IntKind.i64.wrap ((↑(tsz a) : Int) - (1 : Int)) = (cmp0 h ha hb).x, LoopOk Try.prog (loopBody Try.f183 (7 : Nat)) (invCmp a b (cmp0 h ha hb)) Exit.ret (AS.mk [((4 : Nat), AV.v (Value.int IntKind.i64 (1 : Int)))] [] (42 : Nat) []), a.length = a.length ∧ wL a = wL a, b.length = b.length ∧ wL b = wL b, (cmp0 h ha hb).x = (cmp0 h ha hb).x] (by kernel_rfl) ?_
      ((repeat' refine And.intro ?_ ?_); (iterate 3 (with_reducible rfl)); (exact True.intro); ((show FnOk _ _ _; assumption)); (iterate 2 (with_reducible rfl)); (exact True.intro); ((show FnOk _ _ _; assumption)); ((with_reducible refine Nq ?_; omega)); (with_reducible assumption); ((show LoopOk _ _ _ _ _; assumption)); (iterate 5 (with_reducible rfl)); (exact True.intro))
      all_goals first | exact h1 | exact h2 | exact h3 | exact hw | (simp; omega)
  · have hl := tsz_lt hb ha h
    have hc : cmpW a b = 1 := by unfold cmpW; rw [if_neg (by omega), if_pos hl]
    rw [hc]
    refine fn_go hmo Try.func183 (by kernel_rfl) [(9, .call ⟨[wA a], [], iz (tsz a : Nat), []⟩), (11, .call ⟨[wA b], [], iz (tsz b : Nat), []⟩), (14, .val (bz true)), (17, .val (bz false))] [] [(1 : Int) = (1 : Int), (a.length = a.length ∧ wL a = wL a) ∧ True, FnOk Try.prog (143 : Nat) (Inst.mk [AV.lst a.length (wL a)] [] (AV.v (Value.int IntKind.i64 (↑(tsz a) : Int))) []), (b.length = b.length ∧ wL b = wL b) ∧ True, FnOk Try.prog (143 : Nat) (Inst.mk [AV.lst b.length (wL b)] [] (AV.v (Value.int IntKind.i64 (↑(tsz b) : Int))) []), ((↑(tsz a) : Int) != (↑(tsz b) : Int)) = true, decide ((↑(tsz a) : Int) < (↑(tsz b) : Int)) = false] (by kernel_rfl) ?_
    ((repeat' refine And.intro ?_ ?_); (iterate 3 (with_reducible rfl)); (exact True.intro); ((show FnOk _ _ _; assumption)); (iterate 2 (with_reducible rfl)); (exact True.intro); ((show FnOk _ _ _; assumption)); ((with_reducible refine Ne ?_; omega)); ((with_reducible refine Df ?_; omega)); (exact True.intro))
    all_goals first | exact h1 | exact h2 | (simp; omega)
end Go.Proofs.Ytfhmaincnlaapaa.Sy
namespace Go.Proofs.Ytfhmaincnlaapaa.Sy
open Go.ChangeShapes Go.WideShapes Go.ChangeAt Go.RowKit
set_option linter.unusedVariables false
set_option linter.unusedSimpArgs false
def I64 (z : Int) : Prop := -9223372036854775808 ≤ z ∧ z ≤ 9223372036854775807
def addW (a b : Int) : Int × Bool := if -9223372036854775808 ≤ a + b ∧ a + b ≤ 9223372036854775807 then (a + b, true) else (0, false)
theorem wrapI (z : Int) : IntKind.i64.wrap z = (z + 9223372036854775808) % 18446744073709551616 - 9223372036854775808 := by
  unfold IntKind.wrap; simp [IntKind.bits, IntKind.signed]; split <;> omega
theorem wadd_ok {a b : Int} (ha : I64 a) (hb : I64 b) : FnOk Try.prog 66 ⟨[iz a, iz b], [], .tup [iz (addW a b).1, bz (addW a b).2], []⟩ := by
  unfold I64 at ha hb
  by_cases h : -9223372036854775808 ≤ a + b ∧ a + b ≤ 9223372036854775807
  · have e : addW a b = (a + b, true) := if_pos h
    rw [e]
    refine fn_go hmo Try.func66 (by kernel_rfl) [(9, Hint.val (AV.v (Value.int IntKind.i64 (a + b)))), (16, Hint.gd), (17, Hint.gd), (18, Hint.gd), (19, Hint.gd), (20, Hint.gd), (21, Hint.gdv (AV.v (Value.bool false)))] [] [a + b = a + b ∧ true = true ∧ True, IntKind.i64.wrap (a + b) = a + b, ((decide (a < (0 : Int)) == decide (b < (0 : Int))) == true) = true → true = true, ((decide (a < (0 : Int)) == decide (b < (0 : Int))) == true) = true → ((decide (a < (0 : Int)) == decide (b < (0 : Int))) == true, AV.v (Value.int IntKind.i64 (a + b))).fst = true, ((decide (a < (0 : Int)) == decide (b < (0 : Int))) == true) = true → true = true, ((decide (a < (0 : Int)) == decide (b < (0 : Int))) == true) = true → ((decide (a < (0 : Int)) == decide (b < (0 : Int))) == true, AV.v (Value.int IntKind.i64 a)).fst = true, ((decide (a < (0 : Int)) == decide (b < (0 : Int))) == true) = true → ((decide (a < (0 : Int)) == decide (b < (0 : Int))) == true, AV.v (Value.bool (decide (a + b < (0 : Int))))).fst = true, ((decide (a < (0 : Int)) == decide (b < (0 : Int))) == true) = true → ((decide (a < (0 : Int)) == decide (b < (0 : Int))) == true, AV.v (Value.bool (decide (a < (0 : Int))))).fst = true, (bif decide (a < (0 : Int)) == decide (b < (0 : Int)) then !decide (a + b < (0 : Int)) == decide (a < (0 : Int)) else false) = false, true = true → true = true ∧ ((decide (a < (0 : Int)) == decide (b < (0 : Int))) = true → ((decide (a < (0 : Int)) == decide (b < (0 : Int))) == true, AV.v (Value.bool !decide (a + b < (0 : Int)) == decide (a < (0 : Int)))).fst = true) ∧ ((decide (a < (0 : Int)) == decide (b < (0 : Int))) = false → true = true)] (by kernel_rfl) ?_
    ((repeat' refine And.intro ?_ ?_); (iterate 2 (with_reducible rfl)); (exact True.intro); (exact Wi _ (by omega)); (exact (fun (_ : (_ : Bool) = true) => rfl)); (exact (fun (h : (_ : Bool) = true) => h)); (exact (fun (_ : (_ : Bool) = true) => rfl)); (iterate 3 (exact (fun (h : (_ : Bool) = true) => h))); (iterate 2 ((simp only [Bool.or_eq_true, Bool.and_eq_true, Bool.or_eq_false_iff, Bool.and_eq_false_iff, Bool.not_eq_true', Bool.not_eq_false', decide_eq_true_eq, decide_eq_false_iff_not, beq_iff_eq, beq_eq_false_iff_ne, bne_iff_ne, bne_eq_false_iff_eq, ne_eq, ← decide_not, decide_eq_decide, Bool.cond_true_left, Bool.cond_false_right, reduceCtorEq, or_false, false_or, and_true, true_and, implies_true, Bool.false_or, Bool.or_false, Bool.true_or, Bool.or_true, Bool.and_false, Bool.false_and, Bool.and_true, Bool.true_and]; omega))); (exact True.intro))
  · have e : addW a b = (0, false) := if_neg h
    rw [e]
    by_cases h2 : 0 ≤ a
    · refine fn_go hmo Try.func66 (by kernel_rfl) [(9, Hint.val (iz (a + b - (18446744073709551616 : Int)))), (11, Hint.val (AV.v (Value.bool false))), (13, Hint.val (AV.v (Value.bool false))), (17, Hint.val (AV.v (Value.bool true))), (19, Hint.val (AV.v (Value.bool false)))] [] [(0 : Int) = (0 : Int) ∧ false = false ∧ True, IntKind.i64.wrap (a + b) = a + b - (18446744073709551616 : Int), decide (a < (0 : Int)) = false, decide (b < (0 : Int)) = false, decide (a + b - (18446744073709551616 : Int) < (0 : Int)) = true, decide (a < (0 : Int)) = false] (by kernel_rfl) ?_
      ((repeat' refine And.intro ?_ ?_); (iterate 2 (with_reducible rfl)); (exact True.intro); rotate_left 1; (iterate 2 ((with_reducible refine Df ?_; omega))); ((with_reducible refine Dt ?_; omega)); ((with_reducible refine Df ?_; omega)); (exact True.intro))
      all_goals (rw [wrapI]; omega)
    · refine fn_go hmo Try.func66 (by kernel_rfl) [(9, Hint.val (iz (a + b + (18446744073709551616 : Int)))), (11, Hint.val (AV.v (Value.bool true))), (13, Hint.val (AV.v (Value.bool true))), (17, Hint.val (AV.v (Value.bool false))), (19, Hint.val (AV.v (Value.bool true)))] [] [(0 : Int) = (0 : Int) ∧ false = false ∧ True, IntKind.i64.wrap (a + b) = a + b + (18446744073709551616 : Int), decide (a < (0 : Int)) = true, decide (b < (0 : Int)) = true, decide (a + b + (18446744073709551616 : Int) < (0 : Int)) = false, decide (a < (0 : Int)) = true] (by kernel_rfl) ?_
      ((repeat' refine And.intro ?_ ?_); (iterate 2 (with_reducible rfl)); (exact True.intro); rotate_left 1; (iterate 2 ((with_reducible refine Dt ?_; omega))); ((with_reducible refine Df ?_; omega)); ((with_reducible refine Dt ?_; omega)); (exact True.intro))
      all_goals (rw [wrapI]; omega)
/-! ### bushelref05 -/
structure SumS where
  none : Bool
  up : Bool
  down : Bool
  minus : Bool
  plus : Bool
  all : Int
def roomK : Nat := 32 * 70
theorem p2_mul (a b : Nat) : p2 (a * b) = (2 ^ a) ^ b := Nat.pow_mul ..
def roomN : Nat := p2 roomK
def joinS (s o : SumS) : SumS × Bool := if (s.all + o.all).natAbs < roomN then (⟨s.none || o.none, s.up || o.up, s.down || o.down, s.minus || o.minus, s.plus || o.plus, s.all + o.all⟩, true) else (s, false)
end Go.Proofs.Ytfhmaincnlaapaa.Sy
