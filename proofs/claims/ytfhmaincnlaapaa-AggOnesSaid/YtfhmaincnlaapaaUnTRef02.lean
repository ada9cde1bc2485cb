/-
  bushelref02 on trees: Num, Of.
  nat.size, Trim, Of, Cmp.
-/
import Derived.Test.YtfhmaincnlaapaaUnRefRead
import Derived.Test.YtfhmaincnlaapaaUnWordMath
namespace Go.Proofs.Ytfhmaincnlaapaa.Sy
open Go.ChangeShapes Go.WideShapes Go.ChangeAt Go.RowKit
set_option linter.unusedVariables false
set_option linter.unusedSimpArgs false
def wL (l : List Nat) : List AV := l.map u3
def wA (l : List Nat) : AV := .lst l.length (wL l)
def Wd (l : List Nat) : Prop := ∀ d ∈ l, d < 4294967296
theorem wL_len (l : List Nat) : (wL l).length = l.length := by simp [wL]
theorem wL_app (l m : List Nat) : wL (l ++ m) = wL l ++ wL m := by simp [wL]
theorem wL_take (l : List Nat) (k : Nat) : (wL l).take k = wL (l.take k) := by simp [wL, List.map_take]
theorem wL_drop (l : List Nat) (k : Nat) : (wL l).drop k = wL (l.drop k) := by simp [wL, List.map_drop]
theorem wL_set (l : List Nat) (k x : Nat) (h : k < l.length) : (wL l).take k ++ [u3 x] ++ (wL l).drop (k + 1) = wL (l.set k x) := by
  rw [wL_take, wL_drop, show [u3 x] = wL [x] from rfl, ← wL_app, ← wL_app]
  congr 1
  rw [List.set_eq_take_append_cons_drop, if_pos h, List.append_assoc]; rfl
theorem rd_wL (l : List Nat) (k : Nat) (h : k < l.length) : rd1 false 1 (wL l) ((k : Int).toNat * 1) = some (u3 (dg l k)) := by
  unfold rd1 wL
  simp [dg, List.getD, h]
theorem i64n (n : Nat) (h : n < 9223372036854775808) : IntKind.i64.wrap (n : Int) = (n : Int) := IntWalk.i64_in _ (by omega)
theorem i64i (n : Int) (h : -9223372036854775808 ≤ n ∧ n < 9223372036854775808) : IntKind.i64.wrap n = n := IntWalk.i64_in _ (by omega)
theorem u64n (n : Int) (h : 0 ≤ n ∧ n < 18446744073709551616) : IntKind.u64.wrap n = n := by rw [IntKind.wrap_u64]; omega
theorem tsz_take (l : List Nat) (n : Nat) (h : n < l.length) : tsz (l.take (n + 1)) = if dg l n = 0 then tsz (l.take n) else n + 1 := by
  rw [List.take_succ_eq_append_getElem h, tsz_last, dg_get l n h, List.length_take, Nat.min_eq_left (by omega)]
/-! ### size -/
def invSize (l : List Nat) (n : {n : Nat // n ≤ l.length ∧ tsz (l.take n) = tsz l}) : AS := ⟨[(0, wA l), (3, iz (n.1 : Nat))], [], 19, []⟩
theorem size_loop (l : List Nat) (hl : l.length < 9223372036854775808) (i) : LoopOk Try.prog (loopBody Try.f143 2) (invSize l i) (.exit 0) ⟨[(3, iz (tsz l : Nat))], [], 19, []⟩ := by
  refine LoopOk.of hmo (invSize l) (fun n => n.1) (fun i => ?_) i
  obtain ⟨n, hn, hs⟩ := i
  cases n with
  | zero =>
    refine Round.out [(7, .val (bz false))] [] [(↑(0 : Nat) : Int) = (↑(tsz l) : Int), false = false] (by kernel_rfl) ?_
    exact ⟨by rw [← hs]; rfl, rfl, trivial⟩
  | succ n =>
    have hc : IntKind.i64.wrap (((n + 1 : Nat) : Int) - 1) = (n : Int) := by rw [i64i _ (by omega)]; omega
    have h0 : decide ((0 : Int) < ((n + 1 : Nat) : Int)) = true := decide_eq_true (by omega)
    rw [tsz_take l n (by omega)] at hs
    by_cases hd : dg l n = 0
    · rw [if_pos hd] at hs
      refine Round.on [(7, .val (bz true)), (11, .val (iz (n : Nat))), (13, .val (u3 (dg l n))), (14, .val (bz true)), (17, .val (iz (n : Nat)))] [] ⟨n, by omega, hs⟩ [l.length = l.length ∧ wL l = wL l, (↑n : Int) = (↑n : Int), decide ((0 : Int) < (↑(n + (1 : Nat)) : Int)) = true, IntKind.i64.wrap ((↑(n + (1 : Nat)) : Int) - (1 : Int)) = (↑n : Int), (0 : Int) ≤ (↑n : Int) ∧ (↑n : Int) < (↑l.length : Int), rd1 false (1 : Nat) (wL l) ((↑n : Int).toNat * (1 : Nat)) = some (AV.v (Value.int IntKind.u32 (↑(dg l n) : Int))), ((↑(dg l n) : Int) == (0 : Int)) = true, IntKind.i64.wrap ((↑(n + (1 : Nat)) : Int) - (1 : Int)) = (↑n : Int)] (by kernel_rfl) (Nat.lt_succ_self _) ?_
      exact ⟨⟨rfl, rfl⟩, rfl, h0, hc, by omega, rd_wL l n (by omega), by rw [hd]; rfl, hc, trivial⟩
    · rw [if_neg hd] at hs
      refine Round.out [(7, .val (bz true)), (11, .val (iz (n : Nat))), (13, .val (u3 (dg l n))), (14, .val (bz false))] [] [(↑(n + (1 : Nat)) : Int) = (↑(tsz l) : Int), decide ((0 : Int) < (↑(n + (1 : Nat)) : Int)) = true, IntKind.i64.wrap ((↑(n + (1 : Nat)) : Int) - (1 : Int)) = (↑n : Int), (0 : Int) ≤ (↑n : Int) ∧ (↑n : Int) < (↑l.length : Int), rd1 false (1 : Nat) (wL l) ((↑n : Int).toNat * (1 : Nat)) = some (AV.v (Value.int IntKind.u32 (↑(dg l n) : Int))), ((↑(dg l n) : Int) == (0 : Int)) = false] (by kernel_rfl) ?_
      exact ⟨by rw [← hs], h0, hc, by omega, rd_wL l n (by omega), by rw [beq_eq_false_iff_ne]; omega, trivial⟩
def size0 (l : List Nat) : {n : Nat // n ≤ l.length ∧ tsz (l.take n) = tsz l} := ⟨l.length, Nat.le_refl _, by rw [List.take_length]⟩
theorem size_ok (l : List Nat) (hl : l.length < 9223372036854775808) : FnOk Try.prog 143 ⟨[wA l], [], iz (tsz l : Nat), []⟩ := by
  refine fn_go hmo Try.func143 (by kernel_rfl) [] [(2, ⟨.exit 0, invSize l (size0 l), ⟨[(3, iz (tsz l : Nat))], [], 19, []⟩⟩)] [(↑(tsz l) : Int) = (↑(tsz l) : Int), LoopOk Try.prog (loopBody Try.f143 (2 : Nat)) (invSize l (size0 l)) (Exit.exit (0 : Nat)) (AS.mk [((3 : Nat), AV.v (Value.int IntKind.i64 (↑(tsz l) : Int)))] [] (19 : Nat) []), l.length = l.length ∧ wL l = wL l, (↑l.length : Int) = (↑l.length : Int)] (by kernel_rfl) ?_
  exact ⟨rfl, size_loop l hl (size0 l), ⟨rfl, rfl⟩, rfl, trivial⟩
/-! ### Trim -/
theorem trim_ok (l : List Nat) (hl : l.length ≤ 1000000) (hw : Wd l) : FnOk Try.prog 95 ⟨[wA l], [], wA (dgw (vw l)), []⟩ := by
  have ht := tsz_le l
  have e := take_tszW l hw
  have hlen : (dgw (vw l)).length = tsz l := by rw [← e, List.length_take]; omega
  refine fn_go hmo Try.func95 (by kernel_rfl) [(5, .call ⟨[wA l], [], iz (tsz l : Nat), []⟩)] [] [(↑(tsz l) : Int).toNat - (0 : Nat) = (dgw (vw l)).length ∧ List.take (((↑(tsz l) : Int).toNat - (0 : Nat)) * (1 : Nat)) (List.drop (0 : Nat) (wL l)) = wL (dgw (vw l)), (l.length = l.length ∧ wL l = wL l) ∧ True, FnOk Try.prog (143 : Nat) (Inst.mk [AV.lst l.length (wL l)] [] (AV.v (Value.int IntKind.i64 (↑(tsz l) : Int))) []), (0 : Int) ≤ (0 : Int) ∧ (0 : Int) ≤ (↑(tsz l) : Int) ∧ (↑(tsz l) : Int) ≤ (↑l.length : Int), (List.take (((↑(tsz l) : Int).toNat - (0 : Nat)) * (1 : Nat)) (List.drop (0 : Nat) (wL l))).length = ((↑(tsz l) : Int).toNat - (0 : Nat)) * (1 : Nat), ((↑(tsz l) : Int).toNat - (0 : Nat)) * (4 : Nat) ≤ (140737488355328 : Nat) ∧ (↑(tsz l) : Int).toNat - (0 : Nat) ≤ (140737488355328 : Nat)] (by kernel_rfl) ?_
  exact ⟨⟨by rw [hlen]; simp, by rw [← e]; simp [wL, List.map_take]⟩, ⟨⟨rfl, rfl⟩, trivial⟩, size_ok l (by omega), by omega, by simp [wL_len]; omega, by omega, trivial⟩
theorem of_ok (x : Nat) (hx : x < 18446744073709551616) : FnOk Try.prog 81 ⟨[uz (x : Nat)], [], wA (dgw x), []⟩ := by
  have ev : vw [x % 4294967296, x / 4294967296] = x := by rw [vd_consW, vd_consW, vd_nilW]; omega
  have et := trim_ok [x % 4294967296, x / 4294967296] (by simp) (fun d hd => by rcases List.mem_cons.1 hd with rfl | hd; omega; rcases List.mem_cons.1 hd with rfl | hd; omega; cases hd)
  rw [ev] at et
  refine fn_go hmo Try.func81 (by kernel_rfl) [(4, .val (u3 (x % 4294967296))), (7, .val (u3 (x / 4294967296))), (9, .call ⟨[wA [x % 4294967296, x / 4294967296]], [], wA (dgw x), []⟩)] [] [(dgw x).length = (dgw x).length ∧ wL (dgw x) = wL (dgw x), IntKind.u32.wrap (↑x : Int) = (↑(x % (4294967296 : Nat)) : Int), (0 : Int) ≤ (32 : Int), IntKind.u32.wrap ((↑x : Int).fdiv ((2 : Int) ^ (32 : Nat))) = (↑(x / (4294967296 : Nat)) : Int), ((2 : Nat) = [x % (4294967296 : Nat), x / (4294967296 : Nat)].length ∧ [AV.v (Value.int IntKind.u32 (↑(x % (4294967296 : Nat)) : Int)), AV.v (Value.int IntKind.u32 (↑(x / (4294967296 : Nat)) : Int))] = [AV.v (Value.int IntKind.u32 (↑(x % (4294967296 : Nat)) : Int)), AV.v (Value.int IntKind.u32 (↑(x / (4294967296 : Nat)) : Int))]) ∧ True, FnOk Try.prog (95 : Nat) (Inst.mk [AV.lst [x % (4294967296 : Nat), x / (4294967296 : Nat)].length [AV.v (Value.int IntKind.u32 (↑(x % (4294967296 : Nat)) : Int)), AV.v (Value.int IntKind.u32 (↑(x / (4294967296 : Nat)) : Int))]] [] (AV.lst (dgw x).length (wL (dgw x))) [])] (by kernel_rfl) ?_
  ((repeat' refine And.intro ?_ ?_); (iterate 2 (with_reducible rfl)); (exact tmodN _ _); (omega); rotate_left 1; (exact rfl); (with_reducible rfl); (exact True.intro); ((show FnOk _ _ _; assumption)); (exact True.intro))
  all_goals first | exact et | rfl | (rw [show ((2 : Int) ^ 32) = ((4294967296 : Nat) : Int) by decide, Int.fdiv_eq_ediv_of_nonneg _ (by omega), IntKind.wrap_u32]; omega)
/-! ### Cmp -/
def cmpW (a b : List Nat) : Int := if vw a < vw b then -1 else if vw b < vw a then 1 else 0
theorem tsz_lt {a b : List Nat} (ha : Wd a) (hb : Wd b) (h : tsz a < tsz b) : vw a < vw b := by
  refine Nat.lt_of_not_le fun hle => ?_
  have e1 := take_tszW a ha
  have e2 := take_tszW b hb
  have h1 := dig_monoW hle
  rw [← e1, ← e2, List.length_take, List.length_take] at h1
  have := tsz_le a; have := tsz_le b
  omega
/-- how far down they are the same -/
def CI (a b : List Nat) : Type := {n : Nat // n ≤ a.length ∧ n ≤ b.length ∧ vw (a.drop n) = vw (b.drop n)}
def CI.x {a b : List Nat} (i : CI a b) : Int := (i.1 : Int) - 1
def invCmp (a b : List Nat) (i : CI a b) : AS := ⟨[(0, wA a), (1, wA b), (7, iz i.x)], [], 42, []⟩
theorem cmp_on {a b : List Nat} (ha : Wd a) (hb : Wd b) (hal : a.length ≤ 1000000) (e : Exit) (σ' : AS) (m : Nat) (hn) (he : dg a m = dg b m) : Round Try.prog (loopBody Try.f183 7) (invCmp a b) (·.1) e σ' ⟨m + 1, hn⟩ := by
  have hm : m < a.length ∧ m < b.length := ⟨hn.1, hn.2.1⟩
  have hd := vd_dropW a m
  have hd2 := vd_dropW b m
  have hj : m ≤ a.length ∧ m ≤ b.length ∧ vw (a.drop m) = vw (b.drop m) := ⟨by omega, by omega, by rw [hd, hd2, he, hn.2.2]⟩
  have hx : CI.x (a := a) (b := b) ⟨m + 1, hn⟩ = (m : Int) := by show ((m + 1 : Nat) : Int) - 1 = m; omega
  refine Round.on [(20, .val (iz (m : Nat))), (21, .val (bz true)), (25, .val (iz (m : Nat))), (27, .val (u3 (dg a m))), (29, .val (iz (m : Nat))), (31, .val (u3 (dg b m))), (32, .val (bz false)), (34, .val (iz (m : Nat))), (36, .val (u3 (dg a m))), (38, .val (iz (m : Nat))), (40, .val (u3 (dg b m))), (41, .val (bz false)), (22, .val (iz (m : Nat))), (23, .val (iz (CI.x (a := a) (b := b) ⟨m, hj⟩)))] [] ⟨m, hj⟩ [a.length = a.length ∧ wL a = wL a, b.length = b.length ∧ wL b = wL b, CI.x (Subtype.mk m hj) = CI.x (Subtype.mk m hj), CI.x (Subtype.mk (m + (1 : Nat)) hn) = (↑m : Int), true = true, CI.x (Subtype.mk (m + (1 : Nat)) hn) = (↑m : Int), (0 : Int) ≤ (↑m : Int) ∧ (↑m : Int) < (↑a.length : Int), rd1 false (1 : Nat) (wL a) ((↑m : Int).toNat * (1 : Nat)) = some (AV.v (Value.int IntKind.u32 (↑(dg a m) : Int))), CI.x (Subtype.mk (m + (1 : Nat)) hn) = (↑m : Int), (0 : Int) ≤ (↑m : Int) ∧ (↑m : Int) < (↑b.length : Int), rd1 false (1 : Nat) (wL b) ((↑m : Int).toNat * (1 : Nat)) = some (AV.v (Value.int IntKind.u32 (↑(dg b m) : Int))), decide ((↑(dg a m) : Int) < (↑(dg b m) : Int)) = false, CI.x (Subtype.mk (m + (1 : Nat)) hn) = (↑m : Int), (0 : Int) ≤ (↑m : Int) ∧ (↑m : Int) < (↑a.length : Int), rd1 false (1 : Nat) (wL a) ((↑m : Int).toNat * (1 : Nat)) = some (AV.v (Value.int IntKind.u32 (↑(dg a m) : Int))), CI.x (Subtype.mk (m + (1 : Nat)) hn) = (↑m : Int), (0 : Int) ≤ (↑m : Int) ∧ (↑m : Int) < (↑b.length : Int), rd1 false (1 : Nat) (wL b) ((↑m : Int).toNat * (1 : Nat)) = some (AV.v (Value.int IntKind.u32 (↑(dg b m) : Int))), decide ((↑(dg b m) : Int) < (↑(dg a m) : Int)) = false, CI.x (Subtype.mk (m + (1 : Nat)) hn) = (↑m : Int), IntKind.i64.wrap ((↑m : Int) - (1 : Int)) = CI.x (Subtype.mk m hj)] (by kernel_rfl) (Nat.lt_succ_self m) ?_
  have hw : IntKind.i64.wrap ((m : Int) - 1) = CI.x (a := a) (b := b) ⟨m, hj⟩ := by rw [i64i _ (by omega)]; rfl
  ((repeat' refine And.intro ?_ ?_); (iterate 5 (with_reducible rfl)); (with_reducible assumption); (with_reducible rfl); (with_reducible assumption); (iterate 2 (omega)); rotate_left 1; (with_reducible assumption); (iterate 2 (omega)); rotate_left 1; ((with_reducible refine Df ?_; omega)); (with_reducible assumption); (iterate 2 (omega)); rotate_left 1; (with_reducible assumption); (iterate 2 (omega)); rotate_left 1; ((with_reducible refine Df ?_; omega)); (iterate 2 (with_reducible assumption)); (exact True.intro))
  all_goals first | exact rd_wL a m hm.1 | exact rd_wL b m hm.2 | exact hw | (rw [he]; exact decide_eq_false (Int.lt_irrefl _)) | (exact he ▸ rd_wL a m hm.1) | (exact he ▸ rd_wL b m hm.2)
theorem cmp_loop_eq {a b : List Nat} (ha : Wd a) (hb : Wd b) (hal : a.length ≤ 1000000) (h : vw a = vw b) (i : CI a b) : LoopOk Try.prog (loopBody Try.f183 7) (invCmp a b i) (.exit 0) ⟨[], [], 42, []⟩ := by
  refine LoopOk.of hmo (invCmp a b) (·.1) (fun i => ?_) i
  obtain ⟨n, hn⟩ := i
  cases n with
  | zero =>
    refine Round.out [(20, .val (iz (-1))), (21, .val (bz false))] [] [CI.x (Subtype.mk (0 : Nat) hn) = (-1 : Int), false = false] (by kernel_rfl) ?_
    ((repeat' refine And.intro ?_ ?_); (exact rfl); (with_reducible rfl); (exact True.intro))
    all_goals rfl
  | succ m =>
    refine cmp_on ha hb hal _ _ m hn ?_
    rcases Nat.lt_trichotomy (dg a m) (dg b m) with h1 | h1 | h1
    · have := vd_lessW ha hb hn.2.2 h1; omega
    · exact h1
    · have := vd_lessW hb ha hn.2.2.symm h1; omega
theorem cmp_loop_lt {a b : List Nat} (ha : Wd a) (hb : Wd b) (hal : a.length ≤ 1000000) (h : vw a < vw b) (i : CI a b) : LoopOk Try.prog (loopBody Try.f183 7) (invCmp a b i) .ret ⟨[(4, iz (-1))], [], 42, []⟩ := by
  refine LoopOk.of hmo (invCmp a b) (·.1) (fun i => ?_) i
  obtain ⟨n, hn⟩ := i
  cases n with
  | zero => have := hn.2.2; simp only [List.drop_zero] at this; omega
  | succ m =>
    rcases Nat.lt_trichotomy (dg a m) (dg b m) with h1 | h1 | h1
    · have hm : m < a.length ∧ m < b.length := ⟨hn.1, hn.2.1⟩
      have hx : CI.x (a := a) (b := b) ⟨m + 1, hn⟩ = (m : Int) := by show ((m + 1 : Nat) : Int) - 1 = m; omega
      refine Round.out [(20, .val (iz (m : Nat))), (21, .val (bz true)), (25, .val (iz (m : Nat))), (27, .val (u3 (dg a m))), (29, .val (iz (m : Nat))), (31, .val (u3 (dg b m))), (32, .val (bz true))] [] [(-1 : Int) = (-1 : Int), CI.x (Subtype.mk (m + (1 : Nat)) hn) = (↑m : Int), true = true, CI.x (Subtype.mk (m + (1 : Nat)) hn) = (↑m : Int), (0 : Int) ≤ (↑m : Int) ∧ (↑m : Int) < (↑a.length : Int), rd1 false (1 : Nat) (wL a) ((↑m : Int).toNat * (1 : Nat)) = some (AV.v (Value.int IntKind.u32 (↑(dg a m) : Int))), CI.x (Subtype.mk (m + (1 : Nat)) hn) = (↑m : Int), (0 : Int) ≤ (↑m : Int) ∧ (↑m : Int) < (↑b.length : Int), rd1 false (1 : Nat) (wL b) ((↑m : Int).toNat * (1 : Nat)) = some (AV.v (Value.int IntKind.u32 (↑(dg b m) : Int))), decide ((↑(dg a m) : Int) < (↑(dg b m) : Int)) = true] (by kernel_rfl) ?_
      ((repeat' refine And.intro ?_ ?_); (with_reducible rfl); (with_reducible assumption); (with_reducible rfl); (with_reducible assumption); (iterate 2 (omega)); rotate_left 1; (with_reducible assumption); (iterate 2 (omega)); rotate_left 1; ((with_reducible refine Dt ?_; omega)); (exact True.intro))
      all_goals first | exact rd_wL a m hm.1 | exact rd_wL b m hm.2
    · exact cmp_on ha hb hal _ _ m hn h1
    · have := vd_lessW hb ha hn.2.2.symm h1; omega
theorem cmp_loop_gt {a b : List Nat} (ha : Wd a) (hb : Wd b) (hal : a.length ≤ 1000000) (h : vw b < vw a) (i : CI a b) : LoopOk Try.prog (loopBody Try.f183 7) (invCmp a b i) .ret ⟨[(4, iz 1)], [], 42, []⟩ := by
  refine LoopOk.of hmo (invCmp a b) (·.1) (fun i => ?_) i
  obtain ⟨n, hn⟩ := i
  cases n with
  | zero => have := hn.2.2; simp only [List.drop_zero] at this; omega
  | succ m =>
    rcases Nat.lt_trichotomy (dg a m) (dg b m) with h1 | h1 | h1
    · have := vd_lessW ha hb hn.2.2 h1; omega
    · exact cmp_on ha hb hal _ _ m hn h1
    · have hm : m < a.length ∧ m < b.length := ⟨hn.1, hn.2.1⟩
      have hx : CI.x (a := a) (b := b) ⟨m + 1, hn⟩ = (m : Int) := by show ((m + 1 : Nat) : Int) - 1 = m; omega
      refine Round.out [(20, .val (iz (m : Nat))), (21, .val (bz true)), (25, .val (iz (m : Nat))), (27, .val (u3 (dg a m))), (29, .val (iz (m : Nat))), (31, .val (u3 (dg b m))), (32, .val (bz false)), (34, .val (iz (m : Nat))), (36, .val (u3 (dg a m))), (38, .val (iz (m : Nat))), (40, .val (u3 (dg b m))), (41, .val (bz true))] [] [(1 : Int) = (1 : Int), CI.x (Subtype.mk (m + (1 : Nat)) hn) = (↑m : Int), true = true, CI.x (Subtype.mk (m + (1 : Nat)) hn) = (↑m : Int), (0 : Int) ≤ (↑m : Int) ∧ (↑m : Int) < (↑a.length : Int), rd1 false (1 : Nat) (wL a) ((↑m : Int).toNat * (1 : Nat)) = some (AV.v (Value.int IntKind.u32 (↑(dg a m) : Int))), CI.x (Subtype.mk (m + (1 : Nat)) hn) = (↑m : Int), (0 : Int) ≤ (↑m : Int) ∧ (↑m : Int) < (↑b.length : Int), rd1 false (1 : Nat) (wL b) ((↑m : Int).toNat * (1 : Nat)) = some (AV.v (Value.int IntKind.u32 (↑(dg b m) : Int))), decide ((↑(dg a m) : Int) < (↑(dg b m) : Int)) = false, CI.x (Subtype.mk (m + (1 : Nat)) hn) = (↑m : Int), (0 : Int) ≤ (↑m : Int) ∧ (↑m : Int) < (↑a.length : Int), rd1 false (1 : Nat) (wL a) ((↑m : Int).toNat * (1 : Nat)) = some (AV.v (Value.int IntKind.u32 (↑(dg a m) : Int))), CI.x (Subtype.mk (m + (1 : Nat)) hn) = (↑m : Int), (0 : Int) ≤ (↑m : Int) ∧ (↑m : Int) < (↑b.length : Int), rd1 false (1 : Nat) (wL b) ((↑m : Int).toNat * (1 : Nat)) = some (AV.v (Value.int IntKind.u32 (↑(dg b m) : Int))), decide ((↑(dg b m) : Int) < (↑(dg a m) : Int)) = true] (by kernel_rfl) ?_
      ((repeat' refine And.intro ?_ ?_); (with_reducible rfl); (with_reducible assumption); (with_reducible rfl); (with_reducible assumption); (iterate 2 (omega)); rotate_left 1; (with_reducible assumption); (iterate 2 (omega)); rotate_left 1; ((with_reducible refine Df ?_; omega)); (with_reducible assumption); (iterate 2 (omega)); rotate_left 1; (with_reducible assumption); (iterate 2 (omega)); rotate_left 1; ((with_reducible refine Dt ?_; omega)); (exact True.intro))
      all_goals first | exact rd_wL a m hm.1 | exact rd_wL b m hm.2
theorem drop_tsz {l : List Nat} (h : Wd l) : vw (l.drop (tsz l)) = 0 := by
  have e := vd_partsW l (tsz l)
  rw [take_tszW l h, vd_digW, Nat.min_eq_left (tsz_le l)] at e
  have := p_posW (tsz l)
  rcases Nat.eq_zero_or_pos (vw (l.drop (tsz l))) with h0 | h0
  · exact h0
  · have := Nat.mul_pos this h0; omega
def cmp0 {a b : List Nat} (h : tsz a = tsz b) (ha : Wd a) (hb : Wd b) : CI a b := ⟨tsz a, tsz_le a, h ▸ tsz_le b, by rw [drop_tsz ha, h, drop_tsz hb]⟩
theorem cmp_ok {a b : List Nat} (ha : Wd a) (hb : Wd b) (hal : a.length ≤ 1000000) (hbl : b.length ≤ 1000000) : FnOk Try.prog 183 ⟨[wA a, wA b], [], iz (cmpW a b), []⟩ := by
  have h1 := size_ok a (by omega)
  have h2 := size_ok b (by omega)
  have hta := tsz_le a
  have htb := tsz_le b
  rcases Nat.lt_trichotomy (tsz a) (tsz b) with h | h | h
  · have hc : cmpW a b = -1 := by unfold cmpW; rw [if_pos (tsz_lt ha hb h)]
    rw [hc]
    refine fn_go hmo Try.func183 (by kernel_rfl) [(9, .call ⟨[wA a], [], iz (tsz a : Nat), []⟩), (11, .call ⟨[wA b], [], iz (tsz b : Nat), []⟩), (14, .val (bz true)), (17, .val (bz true))] [] [(-1 : Int) = (-1 : Int), (a.length = a.length ∧ wL a = wL a) ∧ True, FnOk Try.prog (143 : Nat) (Inst.mk [AV.lst a.length (wL a)] [] (AV.v (Value.int IntKind.i64 (↑(tsz a) : Int))) []), (b.length = b.length ∧ wL b = wL b) ∧ True, FnOk Try.prog (143 : Nat) (Inst.mk [AV.lst b.length (wL b)] [] (AV.v (Value.int IntKind.i64 (↑(tsz b) : Int))) []), ((↑(tsz a) : Int) != (↑(tsz b) : Int)) = true, decide ((↑(tsz a) : Int) < (↑(tsz b) : Int)) = true] (by kernel_rfl) ?_
    ((repeat' refine And.intro ?_ ?_); (iterate 3 (with_reducible rfl)); (exact True.intro); ((show FnOk _ _ _; assumption)); (iterate 2 (with_reducible rfl)); (exact True.intro); ((show FnOk _ _ _; assumption)); ((with_reducible refine Ne ?_; omega)); ((with_reducible refine Dt ?_; omega)); (exact True.intro))
    all_goals first | exact h1 | exact h2 | (simp; omega)
  · have hw : IntKind.i64.wrap ((tsz a : Int) - 1) = (cmp0 h ha hb).x := by rw [i64i _ (by omega)]; rfl
    rcases Nat.lt_trichotomy (vw a) (vw b) with hl | hl | hl
    · have hc : cmpW a b = -1 := by unfold cmpW; rw [if_pos hl]
      have h3 := cmp_loop_lt ha hb hal hl (cmp0 h ha hb)
      rw [hc]
      refine fn_go hmo Try.func183 (by kernel_rfl) [(9, .call ⟨[wA a], [], iz (tsz a : Nat), []⟩), (11, .call ⟨[wA b], [], iz (tsz b : Nat), []⟩), (14, .val (bz false)), (19, .val (iz (cmp0 h ha hb).x))] [(7, ⟨.ret, invCmp a b (cmp0 h ha hb), ⟨[(4, iz (-1))], [], 42, []⟩⟩)] [(-1 : Int) = (-1 : Int), (a.length = a.length ∧ wL a = wL a) ∧ True, FnOk Try.prog (143 : Nat) (Inst.mk [AV.lst a.length (wL a)] [] (AV.v (Value.int IntKind.i64 (↑(tsz a) : Int))) []), (b.length = b.length ∧ wL b = wL b) ∧ True, FnOk Try.prog (143 : Nat) (Inst.mk [AV.lst b.length (wL b)] [] (AV.v (Value.int IntKind.i64 (↑(tsz b) : Int))) []), ((↑(tsz a) : Int) != (↑(tsz b) : Int)) = false, IntKind.i64.wrap ((↑(tsz a) : Int) - (1 : Int)) = (cmp0 h ha hb).x, LoopOk Try.prog (loopBody Try.f183 (7 : Nat)) (invCmp a b (cmp0 h ha hb)) Exit.ret (AS.mk [((4 : Nat), AV.v (Value.int IntKind.i64 (-1 : Int)))] [] (42 : Nat) []), a.length = a.length ∧ wL a = wL a, b.length = b.length ∧ wL b = wL b, (cmp0 h ha hb).x = (cmp0 h ha hb).x] (by kernel_rfl) ?_
      ((repeat' refine And.intro ?_ ?_); (iterate 3 (with_reducible rfl)); (exact True.intro); ((show FnOk _ _ _; assumption)); (iterate 2 (with_reducible rfl)); (exact True.intro); ((show FnOk _ _ _; assumption)); ((with_reducible refine Nq ?_; omega)); (with_reducible assumption); ((show LoopOk _ _ _ _ _; assumption)); (iterate 5 (with_reducible rfl)); (exact True.intro))
      all_goals first | exact h1 | exact h2 | exact h3 | exact hw | (simp; omega)
    · have hc : cmpW a b = 0 := by unfold cmpW; rw [if_neg (by omega), if_neg (by omega)]
      have h3 := cmp_loop_eq ha hb hal hl (cmp0 h ha hb)
      rw [hc]
      refine fn_go hmo Try.func183 (by kernel_rfl) [(9, .call ⟨[wA a], [], iz (tsz a : Nat), []⟩), (11, .call ⟨[wA b], [], iz (tsz b : Nat), []⟩), (14, .val (bz false)), (19, .val (iz (cmp0 h ha hb).x))] [(7, ⟨.exit 0, invCmp a b (cmp0 h ha hb), ⟨[], [], 42, []⟩⟩)] [(0 : Int) = (0 : Int), (a.length = a.length ∧ wL a = wL a) ∧ True, FnOk Try.prog (143 : Nat) (Inst.mk [AV.lst a.length (wL a)] [] (AV.v (Value.int IntKind.i64 (↑(tsz a) : Int))) []), (b.length = b.length ∧ wL b = wL b) ∧ True, FnOk Try.prog (143 : Nat) (Inst.mk [AV.lst b.length (wL b)] [] (AV.v (Value.int IntKind.i64 (↑(tsz b) : Int))) []), ((↑(tsz a) : Int) != (↑(tsz b) : Int)) = false, IntKind.i64.wrap ((↑(tsz a) : Int) - (1 : Int)) = (cmp0 h ha hb).x, LoopOk Try.prog (loopBody Try.f183 (7 : Nat)) (invCmp a b (cmp0 h ha hb)) (Exit.exit (0 : Nat)) (AS.mk [] [] (42 : Nat) []), a.length = a.length ∧ wL a = wL a, b.length = b.length ∧ wL b = wL b, (cmp0 h ha hb).x = (cmp0 h ha hb).x] (by kernel_rfl) ?_
      ((repeat' refine And.intro ?_ ?_); (iterate 3 (with_reducible rfl)); (exact True.intro); ((show FnOk _ _ _; assumption)); (iterate 2 (with_reducible rfl)); (exact True.intro); ((show FnOk _ _ _; assumption)); ((with_reducible refine Nq ?_; omega)); (iterate 2 (with_reducible assumption)); (iterate 5 (with_reducible rfl)); (exact True.intro))
      all_goals first | exact h1 | exact h2 | exact h3 | exact hw | (simp; omega)
    · have hc : cmpW a b = 1 := by unfold cmpW; rw [if_neg (by omega), if_pos hl]
      have h3 := cmp_loop_gt ha hb hal hl (cmp0 h ha hb)
      rw [hc]
      refine fn_go hmo Try.func183 (by kernel_rfl) [(9, .call ⟨[wA a], [], iz (tsz a : Nat), []⟩), (11, .call ⟨[wA b], [], iz (tsz b : Nat), []⟩), (14, .val (bz false)), (19, .val (iz (cmp0 h ha hb).x))] [(7, ⟨.ret, invCmp a b (cmp0 h ha hb), ⟨[(4, iz 1)], [], 42, []⟩⟩)] [(1 : Int) = (1 : Int), (a.length = a.length ∧ wL a = wL a) ∧ True, FnOk Try.prog (143 : Nat) (Inst.mk [AV.lst a.length (wL a)] [] (AV.v (Value.int IntKind.i64 (↑(tsz a) : Int))) []), (b.length = b.length ∧ wL b = wL b) ∧ True, FnOk Try.prog (143 : Nat) (Inst.mk [AV.lst b.length (wL b)] [] (AV.v (Value.int IntKind.i64 (↑(tsz b) : Int))) []), ((↑(tsz a) : Int) != (↑(tsz b) : Int)) = false, IntKind.i64.wrap ((↑(tsz a) : Int) - (1 : Int)) = (cmp0 h ha hb).x, LoopOk Try.prog (loopBody Try.f183 (7 : Nat)) (invCmp a b (cmp0 h ha hb)) Exit.ret (AS.mk [((4 : Nat), AV.v (Value.int IntKind.i64 (1 : Int)))] [] (42 : Nat) []), a.length = a.length ∧ wL a = wL a, b.length = b.length ∧ wL b = wL b, (cmp0 h ha hb).x = (cmp0 h ha hb).x] (by kernel_rfl) ?_
      ((repeat' refine And.intro ?_ ?_); (iterate 3 (with_reducible rfl)); (exact True.intro); ((show FnOk _ _ _; assumption)); (iterate 2 (with_reducible rfl)); (exact True.intro); ((show FnOk _ _ _; assumption)); ((with_reducible refine Nq ?_; omega)); (with_reducible assumption); ((show LoopOk _ _ _ _ _; assumption)); (iterate 5 (with_reducible rfl)); (exact True.intro))
      all_goals first | exact h1 | exact h2 | exact h3 | exact hw | (simp; omega)
  · have hl := tsz_lt hb ha h
    have hc : cmpW a b = 1 := by unfold cmpW; rw [if_neg (by omega), if_pos hl]
    rw [hc]
    refine fn_go hmo Try.func183 (by kernel_rfl) [(9, .call ⟨[wA a], [], iz (tsz a : Nat), []⟩), (11, .call ⟨[wA b], [], iz (tsz b : Nat), []⟩), (14, .val (bz true)), (17, .val (bz false))] [] [(1 : Int) = (1 : Int), (a.length = a.length ∧ wL a = wL a) ∧ True, FnOk Try.prog (143 : Nat) (Inst.mk [AV.lst a.length (wL a)] [] (AV.v (Value.int IntKind.i64 (↑(tsz a) : Int))) []), (b.length = b.length ∧ wL b = wL b) ∧ True, FnOk Try.prog (143 : Nat) (Inst.mk [AV.lst b.length (wL b)] [] (AV.v (Value.int IntKind.i64 (↑(tsz b) : Int))) []), ((↑(tsz a) : Int) != (↑(tsz b) : Int)) = true, decide ((↑(tsz a) : Int) < (↑(tsz b) : Int)) = false] (by kernel_rfl) ?_
    ((repeat' refine And.intro ?_ ?_); (iterate 3 (with_reducible rfl)); (exact True.intro); ((show FnOk _ _ _; assumption)); (iterate 2 (with_reducible rfl)); (exact True.intro); ((show FnOk _ _ _; assumption)); ((with_reducible refine Ne ?_; omega)); ((with_reducible refine Df ?_; omega)); (exact True.intro))
    all_goals first | exact h1 | exact h2 | (simp; omega)
end Go.Proofs.Ytfhmaincnlaapaa.Sy
namespace Go.Proofs.Ytfhmaincnlaapaa.Sy
open Go.ChangeShapes Go.WideShapes Go.ChangeAt Go.RowKit
set_option linter.unusedVariables false
set_option linter.unusedSimpArgs false
theorem vw_nd {l : List Nat} (h : Wd l) : nd ((vw l : Nat) : Int) ≤ 4 * l.length := by
  unfold nd; rw [Int.natAbs_natCast]
  refine dig_len (Nat.lt_of_lt_of_le (vd_ltW l h) ?_)
  rw [Nat.pow_mul]
  exact Nat.pow_le_pow_left (by decide) _
/-! ### Of -/
def dv : List Nat → List Nat × Nat
  | [] => ([], 0)
  | d :: l => (((dv l).2 * 1000 + d) / 4294967296 :: (dv l).1, ((dv l).2 * 1000 + d) % 4294967296)
theorem dv_ok : ∀ {l : List Nat}, Td l → (dv l).1.length = l.length ∧ Td (dv l).1 ∧ vd (dv l).1 = vd l / 4294967296 ∧ (dv l).2 = vd l % 4294967296
  | [], _ => ⟨rfl, (fun x (hx : x ∈ []) => by cases hx), rfl, rfl⟩
  | d :: l, h => by
    obtain ⟨h1, h2, h3, h4⟩ := dv_ok (l := l) fun x hx => h x (by simp [hx])
    have hd := h d (by simp)
    have hr : (dv l).2 < 4294967296 := by omega
    have hv := vd_cons d l
    refine ⟨by simp [dv, h1], fun x hx => ?_, ?_, ?_⟩
    · rcases List.mem_cons.1 hx with rfl | hx
      · omega
      · exact h2 x hx
    · show ((dv l).2 * 1000 + d) / 4294967296 + 1000 * vd (dv l).1 = _
      omega
    · show ((dv l).2 * 1000 + d) % 4294967296 = _
      omega
theorem wL_snoc (l : List Nat) (d : Nat) : wL l ++ [u3 d] = wL (l ++ [d]) := by simp [wL]
def rowW (q n : Nat) (cs : List AV) : Nat × AObj := (q, .row 33 1 n 0 cs)
def dvL (l : List Nat) (i : Nat) : List Nat := l.take i ++ (dv (l.drop i)).1
def ofInv1 (l out : List Nat) (i : Nat) : AS := ⟨[(3, .row 7 0), (4, .row 39 0), (5, iz ((dv (l.drop i)).2 : Nat)), (6, iz ((i : Int) - 1))], [rowI 7 l.length (dL (dvL l i)), rowW 39 out.length (wL out)], 58, []⟩
theorem of_loop1 {l : List Nat} (out : List Nat) (hl : l.length ≤ 100000) (hd : Td l) (i : {i : Nat // i ≤ l.length}) : LoopOk Try.prog (loopBody Try.f72 6) (ofInv1 l out i.1) (.exit 2) (ofInv1 l out 0) := by
  refine LoopOk.of hmo (fun i : {i : Nat // i ≤ l.length} => ofInv1 l out i.1) (fun i => i.1) (fun i => ?_) i
  obtain ⟨i, hi⟩ := i
  cases i with
  | zero =>
    refine Round.out [(17, Hint.val (AV.v (Value.int IntKind.i64 ((0 : Int) - (1 : Int)))))] [] [(7 : Nat) = (7 : Nat) ∧ (0 : Nat) = (0 : Nat), (39 : Nat) = (39 : Nat) ∧ (0 : Nat) = (0 : Nat), (↑(dv (List.drop (0 : Nat) l)).snd : Int) = (↑(dv (List.drop (0 : Nat) l)).snd : Int), (↑(0 : Nat) : Int) - (1 : Int) = (↑(0 : Nat) : Int) - (1 : Int), l.length = l.length ∧ (0 : Nat) = (0 : Nat) ∧ dL (dvL l (0 : Nat)) = dL (dvL l (0 : Nat)), out.length = out.length ∧ (0 : Nat) = (0 : Nat) ∧ wL out = wL out, (↑(0 : Nat) : Int) - (1 : Int) = (0 : Int) - (1 : Int)] (by kernel_rfl) ?_
    ((repeat' refine And.intro ?_ ?_); (iterate 12 (with_reducible rfl)); (omega); (exact True.intro))
  | succ m =>
    have hdrop : l.drop m = dg l m :: l.drop (m + 1) := by rw [← dg_get l m (by omega)]; exact List.drop_eq_getElem_cons (by omega)
    have hq : dv (l.drop m) = (((dv (l.drop (m + 1))).2 * 1000 + dg l m) / 4294967296 :: (dv (l.drop (m + 1))).1, ((dv (l.drop (m + 1))).2 * 1000 + dg l m) % 4294967296) := by rw [hdrop]; rfl
    have h2 := dg_lt l m hd
    obtain ⟨d1, d2, d3, d4⟩ := dv_ok (l := l.drop (m + 1)) fun x hx => hd x (List.mem_of_mem_drop hx)
    rw [List.length_drop] at d1
    have hlen : (dvL l (m + 1)).length = l.length := by unfold dvL; rw [List.length_append, List.length_take, d1]; omega
    have hr := rd_dL (dvL l (m + 1)) m (by omega)
    have hg : dg (dvL l (m + 1)) m = dg l m := by
      unfold dvL dg
      rw [List.getD_eq_getElem?_getD, List.getD_eq_getElem?_getD, List.getElem?_append_left (by rw [List.length_take]; omega), List.getElem?_take_of_lt (by omega)]
    rw [hg] at hr
    have hlt : (dv (l.drop (m + 1))).2 < 4294967296 := by omega
    have hz := dL_len (dvL l (m + 1))
    have hset : (dvL l (m + 1)).set m (((dv (l.drop (m + 1))).2 * 1000 + dg l m) / 4294967296) = dvL l m := by
      unfold dvL
      rw [hq]
      simp only
      rw [List.set_append_left _ _ (by rw [List.length_take]; omega), List.take_succ_eq_append_getElem (by omega), List.set_append_right _ _ (by rw [List.length_take]; omega)]
      simp [List.length_take, Nat.min_eq_left (show m ≤ l.length by omega)]
    refine Round.on [(17, Hint.val (AV.v (Value.int IntKind.i64 (↑m : Int)))), (22, Hint.val (AV.v (Value.int IntKind.i64 (↑((dv (List.drop (m + (1 : Nat)) l)).snd * (1000 : Nat)) : Int)))), (24, Hint.val (AV.v (Value.int IntKind.i64 (↑m : Int)))), (26, Hint.val (iz (↑(dg l m) : Int))), (27, Hint.val (AV.v (Value.int IntKind.i64 (↑((dv (List.drop (m + (1 : Nat)) l)).snd * (1000 : Nat) + dg l m) : Int)))), (29, Hint.val (AV.v (Value.int IntKind.i64 (↑m : Int)))), (31, Hint.val (AV.v (Value.int IntKind.i64 (↑(((dv (List.drop (m + (1 : Nat)) l)).snd * (1000 : Nat) + dg l m) / (4294967296 : Nat)) : Int)))), (34, Hint.val (AV.v (Value.int IntKind.i64 (↑(((dv (List.drop (m + (1 : Nat)) l)).snd * (1000 : Nat) + dg l m) % (4294967296 : Nat)) : Int)))), (19, Hint.val (AV.v (Value.int IntKind.i64 (↑m : Int)))), (20, Hint.val (AV.v (Value.int IntKind.i64 ((↑m : Int) - (1 : Int)))))] [] ⟨m, by omega⟩ [(7 : Nat) = (7 : Nat) ∧ (0 : Nat) = (0 : Nat), (39 : Nat) = (39 : Nat) ∧ (0 : Nat) = (0 : Nat), (↑(((dv (List.drop (m + (1 : Nat)) l)).snd * (1000 : Nat) + dg l m) % (4294967296 : Nat)) : Int) = (↑(dv (List.drop m l)).snd : Int), (↑m : Int) - (1 : Int) = (↑m : Int) - (1 : Int), l.length = l.length ∧ (0 : Nat) = (0 : Nat) ∧ List.take ((↑m : Int).toNat * (1 : Nat)) (dL (dvL l (m + (1 : Nat)))) ++ [AV.v (Value.int IntKind.i64 (↑(((dv (List.drop (m + (1 : Nat)) l)).snd * (1000 : Nat) + dg l m) / (4294967296 : Nat)) : Int))] ++ List.drop ((↑m : Int).toNat * (1 : Nat) + [AV.v (Value.int IntKind.i64 (↑(((dv (List.drop (m + (1 : Nat)) l)).snd * (1000 : Nat) + dg l m) / (4294967296 : Nat)) : Int))].length) (dL (dvL l (m + (1 : Nat)))) = dL (dvL l m), out.length = out.length ∧ (0 : Nat) = (0 : Nat) ∧ wL out = wL out, (↑(m + (1 : Nat)) : Int) - (1 : Int) = (↑m : Int), IntKind.i64.wrap ((↑(dv (List.drop (m + (1 : Nat)) l)).snd : Int) * (1000 : Int)) = (↑((dv (List.drop (m + (1 : Nat)) l)).snd * (1000 : Nat)) : Int), (↑(m + (1 : Nat)) : Int) - (1 : Int) = (↑m : Int), (0 : Int) ≤ (↑m : Int) ∧ (↑m : Int) < (↑l.length : Int), rd1 false (1 : Nat) (dL (dvL l (m + (1 : Nat)))) ((↑m : Int).toNat * (1 : Nat)) = some (AV.v (Value.int IntKind.i64 (↑(dg l m) : Int))), IntKind.i64.wrap ((↑((dv (List.drop (m + (1 : Nat)) l)).snd * (1000 : Nat)) : Int) + (↑(dg l m) : Int)) = (↑((dv (List.drop (m + (1 : Nat)) l)).snd * (1000 : Nat) + dg l m) : Int), (↑(m + (1 : Nat)) : Int) - (1 : Int) = (↑m : Int), IntKind.i64.wrap ((↑((dv (List.drop (m + (1 : Nat)) l)).snd * (1000 : Nat) + dg l m) : Int).tdiv (4294967296 : Int)) = (↑(((dv (List.drop (m + (1 : Nat)) l)).snd * (1000 : Nat) + dg l m) / (4294967296 : Nat)) : Int), (4294967296 : Int) ≠ (0 : Int), (0 : Int) ≤ (↑m : Int) ∧ (↑m : Int) < (↑l.length : Int), (↑m : Int).toNat * (1 : Nat) + [AV.v (Value.int IntKind.i64 (↑(((dv (List.drop (m + (1 : Nat)) l)).snd * (1000 : Nat) + dg l m) / (4294967296 : Nat)) : Int))].length ≤ (dL (dvL l (m + (1 : Nat)))).length, (↑((dv (List.drop (m + (1 : Nat)) l)).snd * (1000 : Nat) + dg l m) : Int).tmod (4294967296 : Int) = (↑(((dv (List.drop (m + (1 : Nat)) l)).snd * (1000 : Nat) + dg l m) % (4294967296 : Nat)) : Int), (4294967296 : Int) ≠ (0 : Int), (↑(m + (1 : Nat)) : Int) - (1 : Int) = (↑m : Int), IntKind.i64.wrap ((↑m : Int) - (1 : Int)) = (↑m : Int) - (1 : Int)] (by kernel_rfl) (Nat.lt_succ_self m) ?_
    ((repeat' refine And.intro ?_ ?_); (iterate 4 (with_reducible rfl)); rotate_left 1; (iterate 3 (with_reducible rfl)); rotate_left 1; (iterate 3 (with_reducible rfl)); (omega); (exact Wi _ (by omega)); (iterate 3 (omega)); ((show rd1 _ _ _ _ = _; assumption)); (exact Wi _ (by omega)); (omega); (exact tdivI _ _ _ (by rfl) (by omega)); (iterate 3 (omega)); ((simp only [List.length_cons, List.length_nil]; omega)); (exact tmodN _ _); (iterate 2 (omega)); (exact Wi _ (by omega)); (exact True.intro))
    all_goals first | (rw [hq]; done) | (rw [hq]) | (rw [← hset]; exact dL_set _ _ _ (by omega))
def ofInv2 (m out : List Nat) (k : Nat) : AS := ⟨[(3, .row 7 0), (4, .row 39 0)], [rowI 7 k (dL (m.take k)), rowW 39 out.length (wL out)], 58, []⟩
theorem of_loop2 {m : List Nat} (out : List Nat) (hl : m.length ≤ 100000) (i : {k : Nat // k ≤ m.length ∧ tsz (m.take k) = tsz m}) : LoopOk Try.prog (loopBody Try.f72 12) (ofInv2 m out i.1) (.exit 4) (ofInv2 m out (tsz m)) := by
  refine LoopOk.of hmo (fun i : {k : Nat // k ≤ m.length ∧ tsz (m.take k) = tsz m} => ofInv2 m out i.1) (fun i => i.1) (fun i => ?_) i
  obtain ⟨k, hk, hs⟩ := i
  have hz := dL_len (m.take k)
  rw [List.length_take] at hz
  cases k with
  | zero =>
    have e : tsz m = 0 := by rw [← hs]; rfl
    refine Round.out [(41, Hint.val (AV.v (Value.int IntKind.i64 (0 : Int))))] [] [(7 : Nat) = (7 : Nat) ∧ (0 : Nat) = (0 : Nat), (39 : Nat) = (39 : Nat) ∧ (0 : Nat) = (0 : Nat), (0 : Nat) = tsz m ∧ (0 : Nat) = (0 : Nat) ∧ [] = dL (List.take (tsz m) m), out.length = out.length ∧ (0 : Nat) = (0 : Nat) ∧ wL out = wL out, (↑(0 : Nat) : Int) = (0 : Int)] (by kernel_rfl) ?_
    ((repeat' refine And.intro ?_ ?_); (iterate 4 (with_reducible rfl)); (omega); (with_reducible rfl); rotate_left 1; (iterate 3 (with_reducible rfl)); (omega); (exact True.intro))
    all_goals (rw [e]; rfl)
  | succ k =>
    rw [tsz_takeD m k (by omega)] at hs
    have hr := rd_dL (m.take (k + 1)) k (by rw [List.length_take]; omega)
    have hg : dg (m.take (k + 1)) k = dg m k := by unfold dg; rw [List.getD_eq_getElem?_getD, List.getD_eq_getElem?_getD, List.getElem?_take_of_lt (by omega)]
    rw [hg] at hr
    by_cases hd : dg m k = 0
    · rw [if_pos hd] at hs
      refine Round.on [(42, Hint.val (AV.v (Value.bool true))), (47, Hint.val (AV.v (Value.int IntKind.i64 (↑k : Int)))), (49, Hint.val (iz (↑(dg m k) : Int))), (50, Hint.val (AV.v (Value.bool true))), (55, Hint.val (AV.v (Value.int IntKind.i64 (↑k : Int))))] [] ⟨k, by omega, hs⟩ [(7 : Nat) = (7 : Nat) ∧ (0 : Nat) = (0 : Nat), (39 : Nat) = (39 : Nat) ∧ (0 : Nat) = (0 : Nat), (↑k : Int).toNat = k ∧ (0 : Nat) = (0 : Nat) ∧ List.take ((↑k : Int).toNat * (1 : Nat)) (dL (List.take (k + (1 : Nat)) m)) = dL (List.take k m), out.length = out.length ∧ (0 : Nat) = (0 : Nat) ∧ wL out = wL out, decide ((0 : Int) < (↑(k + (1 : Nat)) : Int)) = true, IntKind.i64.wrap ((↑(k + (1 : Nat)) : Int) - (1 : Int)) = (↑k : Int), (0 : Int) ≤ (↑k : Int) ∧ (↑k : Int) < (↑(k + (1 : Nat)) : Int), rd1 false (1 : Nat) (dL (List.take (k + (1 : Nat)) m)) ((↑k : Int).toNat * (1 : Nat)) = some (AV.v (Value.int IntKind.i64 (↑(dg m k) : Int))), ((↑(dg m k) : Int) == (0 : Int)) = true, IntKind.i64.wrap ((↑(k + (1 : Nat)) : Int) - (1 : Int)) = (↑k : Int), (0 : Int) = (0 : Int) ∧ (0 : Int) ≤ (↑k : Int) ∧ (↑k : Int) ≤ (↑(k + (1 : Nat)) : Int)] (by kernel_rfl) (Nat.lt_succ_self _) ?_
      ((repeat' refine And.intro ?_ ?_); (iterate 4 (with_reducible rfl)); (omega); (with_reducible rfl); rotate_left 1; (iterate 3 (with_reducible rfl)); ((with_reducible refine Dt ?_; omega)); ((rw [Wi _ (by omega)]; omega)); (iterate 2 (omega)); ((show rd1 _ _ _ _ = _; assumption)); ((with_reducible refine Be ?_; omega)); ((rw [Wi _ (by omega)]; omega)); (with_reducible rfl); (iterate 2 (omega)); (exact True.intro))
      all_goals (rw [dL_take, List.take_take]; simp)
    · rw [if_neg hd] at hs
      refine Round.out [(42, Hint.val (AV.v (Value.bool true))), (47, Hint.val (AV.v (Value.int IntKind.i64 (↑k : Int)))), (49, Hint.val (iz (↑(dg m k) : Int))), (50, Hint.val (AV.v (Value.bool false)))] [] [(7 : Nat) = (7 : Nat) ∧ (0 : Nat) = (0 : Nat), (39 : Nat) = (39 : Nat) ∧ (0 : Nat) = (0 : Nat), k + (1 : Nat) = tsz m ∧ (0 : Nat) = (0 : Nat) ∧ dL (List.take (k + (1 : Nat)) m) = dL (List.take (tsz m) m), out.length = out.length ∧ (0 : Nat) = (0 : Nat) ∧ wL out = wL out, decide ((0 : Int) < (↑(k + (1 : Nat)) : Int)) = true, IntKind.i64.wrap ((↑(k + (1 : Nat)) : Int) - (1 : Int)) = (↑k : Int), (0 : Int) ≤ (↑k : Int) ∧ (↑k : Int) < (↑(k + (1 : Nat)) : Int), rd1 false (1 : Nat) (dL (List.take (k + (1 : Nat)) m)) ((↑k : Int).toNat * (1 : Nat)) = some (AV.v (Value.int IntKind.i64 (↑(dg m k) : Int))), ((↑(dg m k) : Int) == (0 : Int)) = false] (by kernel_rfl) ?_
      ((repeat' refine And.intro ?_ ?_); (iterate 4 (with_reducible rfl)); (with_reducible assumption); (with_reducible rfl); rotate_left 1; (iterate 3 (with_reducible rfl)); ((with_reducible refine Dt ?_; omega)); ((rw [Wi _ (by omega)]; omega)); (iterate 2 (omega)); ((show rd1 _ _ _ _ = _; assumption)); ((with_reducible refine Bn ?_; omega)); (exact True.intro))
      all_goals (rw [hs])
/-! the words of a number, one by one -/
def wS (x : Nat) : Nat → List Nat × Nat
  | 0 => ([], x)
  | i + 1 => ((wS x i).1 ++ [(wS x i).2 % 4294967296], (wS x i).2 / 4294967296)
theorem wS_len (x : Nat) : ∀ i, (wS x i).1.length = i
  | 0 => rfl
  | i + 1 => by simp [wS, wS_len x i]
theorem wS_le (x : Nat) : ∀ i, (wS x i).2 ≤ x
  | 0 => Nat.le_refl _
  | i + 1 => Nat.le_trans (Nat.div_le_self _ _) (wS_le x i)
theorem wS_dig (x i : Nat) (h : ∀ j, j < i → (wS x j).2 ≠ 0) : (wS x i).1 ++ dgw (wS x i).2 = dgw x := by
  induction i with
  | zero => rfl
  | succ i ih =>
    have h1 := h i (Nat.lt_succ_self _)
    rw [← ih fun j hj => h j (by omega)]
    show ((wS x i).1 ++ [(wS x i).2 % 4294967296]) ++ dgw ((wS x i).2 / 4294967296) = _
    rw [dig_posW h1]; simp
def ofInv (x : Nat) (i : Nat) : AS := ⟨[(3, .row 7 0), (4, .row 39 0)], [rowI 7 (dig (wS x i).2).length (dL (dig (wS x i).2)), rowW 39 i (wL (wS x i).1)], 58, []⟩
theorem of_loop (x : Nat) (hx : (dig x).length ≤ 100000) (i : {i : Nat // ∀ j, j < i → (wS x j).2 ≠ 0}) : LoopOk Try.prog (loopBody Try.f72 3) (ofInv x i.1) (.exit 0) (ofInv x (dgw x).length) := by
  refine LoopOk.of hmo (fun i : {i : Nat // ∀ j, j < i → (wS x j).2 ≠ 0} => ofInv x i.1) (fun i => (wS x i.1).2) (fun i => ?_) i
  obtain ⟨i, hi⟩ := i
  have hd := wS_dig x i hi
  have hlen := wS_len x i
  have hle := wS_le x i
  have hnd : (dig (wS x i).2).length ≤ 100000 := Nat.le_trans (dig_mono hle) hx
  have hil : i ≤ 100000 := by
    have h1 := congrArg List.length hd
    rw [List.length_append, hlen] at h1
    have h2 : (dgw x).length ≤ (dig x).length := dig_lenW (Nat.lt_of_lt_of_le (by have := vd_lt (dig x) (dig_lt x); rw [vd_dig] at this; exact this) (Nat.pow_le_pow_left (by decide) _))
    omega
  have hz := wL_len (wS x i).1
  by_cases h : (wS x i).2 = 0
  · have e : ofInv x (dgw x).length = ofInv x i := by
      rw [h, dig_zeroW, List.append_nil] at hd
      rw [← hd, hlen]
    have e2 : (dig (wS x i).2).length = 0 := by rw [h, dig_zero]; rfl
    rw [e]
    refine Round.out [(13, Hint.val (AV.v (Value.bool false)))] [] [(7 : Nat) = (7 : Nat) ∧ (0 : Nat) = (0 : Nat), (39 : Nat) = (39 : Nat) ∧ (0 : Nat) = (0 : Nat), (dig (wS x i).snd).length = (dig (wS x i).snd).length ∧ (0 : Nat) = (0 : Nat) ∧ dL (dig (wS x i).snd) = dL (dig (wS x i).snd), i = i ∧ (0 : Nat) = (0 : Nat) ∧ wL (wS x i).fst = wL (wS x i).fst, decide ((0 : Int) < (↑(dig (wS x i).snd).length : Int)) = false] (by kernel_rfl) ?_
    ((repeat' refine And.intro ?_ ?_); (iterate 10 (with_reducible rfl)); ((with_reducible refine Df ?_; omega)); (exact True.intro))
  · have hj : ∀ j, j < i + 1 → (wS x j).2 ≠ 0 := fun j hj => by
      rcases Nat.lt_succ_iff_lt_or_eq.1 hj with h1 | rfl
      · exact hi j h1
      · exact h
    obtain ⟨r, hr⟩ : ∃ r, (wS x i).2 = r := ⟨_, rfl⟩
    obtain ⟨l, hl⟩ : ∃ l, dig r = l := ⟨_, rfl⟩
    have hpos : 0 < l.length := by rw [← hl, dig_pos (by omega)]; simp
    rw [hr, hl] at hnd
    have tl : Td l := hl ▸ Td_dig r
    have hvl : vd l = r := by rw [← hl, vd_dig]
    obtain ⟨d1, d2, d3, d4⟩ := dv_ok tl
    rw [hvl] at d3 d4
    have l1 := of_loop1 (l := l) (wS x i).1 hnd tl ⟨l.length, Nat.le_refl _⟩
    have l2 := of_loop2 (m := (dv l).1) ((wS x i).1 ++ [(dv l).2]) (by omega) ⟨(dv l).1.length, Nat.le_refl _, by rw [List.take_length]⟩
    have ht := take_tsz (dv l).1 d2
    rw [d3] at ht
    have htl : (dig (r / 4294967296)).length = tsz (dv l).1 := by rw [← ht, List.length_take, Nat.min_eq_left (tsz_le _)]
    have e1 : (wS x (i + 1)).2 = r / 4294967296 := by rw [← hr]; rfl
    have e2 : (wS x (i + 1)).1 = (wS x i).1 ++ [(dv l).2] := by rw [d4, ← hr]; rfl
    have f0 : (dv (l.drop l.length)).2 = 0 := by rw [List.drop_length]; rfl
    have f1 : dvL l l.length = l := by unfold dvL; rw [List.take_length, List.drop_length]; exact List.append_nil l
    have f2 : dvL l 0 = (dv l).1 := by unfold dvL; rw [List.drop_zero]; rfl
    have f3 : (dv (l.drop 0)).2 = (dv l).2 := by rw [List.drop_zero]
    have hi1 : ofInv x i = ⟨[(3, .row 7 0), (4, .row 39 0)], [rowI 7 l.length (dL l), rowW 39 i (wL (wS x i).1)], 58, []⟩ := by unfold ofInv; rw [hr, hl]
    have hi2 : ofInv x (i + 1) = ⟨[(3, .row 7 0), (4, .row 39 0)], [rowI 7 (tsz (dv l).1) (dL ((dv l).1.take (tsz (dv l).1))), rowW 39 (i + 1) (wL ((wS x i).1 ++ [(dv l).2]))], 58, []⟩ := by unfold ofInv; rw [e1, e2, htl, ht]
    have hlt : (dv l).2 < 4294967296 := by omega
    have hg : List.take (dv l).1.length (dv l).1 = (dv l).1 := List.take_length
    have hb : 0 < (dig (wS x i).2).length := by rw [hr, hl]; exact hpos
    have hb2 : (dig (wS x i).2).length = l.length := by rw [hr, hl]
    have hol : ((wS x i).1 ++ [(dv l).2]).length = i + 1 := by rw [List.length_append, hlen]; rfl
    refine Round.on [(13, Hint.val (AV.v (Value.bool true))), (16, Hint.val (AV.v (Value.int IntKind.i64 (↑((dig (wS x i).snd).length - (1 : Nat)) : Int)))), (37, Hint.val (AV.v (Value.int IntKind.u32 (↑(dv (List.drop (0 : Nat) l)).snd : Int))))] [(6, ⟨.exit 2, ofInv1 l (wS x i).1 l.length, ofInv1 l (wS x i).1 0⟩), (12, ⟨.exit 4, ofInv2 (dv l).1 ((wS x i).1 ++ [(dv l).2]) (dv l).1.length, ofInv2 (dv l).1 ((wS x i).1 ++ [(dv l).2]) (tsz (dv l).1)⟩)] ⟨i + 1, hj⟩ [(7 : Nat) = (7 : Nat) ∧ (0 : Nat) = (0 : Nat), (39 : Nat) = (39 : Nat) ∧ (0 : Nat) = (0 : Nat), tsz (dv l).fst = (dig (wS x (i + (1 : Nat))).snd).length ∧ (0 : Nat) = (0 : Nat) ∧ dL (List.take (tsz (dv l).fst) (dv l).fst) = dL (dig (wS x (i + (1 : Nat))).snd), ((wS x i).fst ++ [(dv l).snd]).length = i + (1 : Nat) ∧ (0 : Nat) = (0 : Nat) ∧ wL ((wS x i).fst ++ [(dv l).snd]) = wL (wS x (i + (1 : Nat))).fst, decide ((0 : Int) < (↑(dig (wS x i).snd).length : Int)) = true, IntKind.i64.wrap ((↑(dig (wS x i).snd).length : Int) - (1 : Int)) = (↑((dig (wS x i).snd).length - (1 : Nat)) : Int), LoopOk Try.prog (loopBody Try.f72 (6 : Nat)) (ofInv1 l (wS x i).fst l.length) (Exit.exit (2 : Nat)) (ofInv1 l (wS x i).fst (0 : Nat)), (7 : Nat) = (7 : Nat) ∧ (0 : Nat) = (0 : Nat), (39 : Nat) = (39 : Nat) ∧ (0 : Nat) = (0 : Nat), (0 : Int) = (↑(dv (List.drop l.length l)).snd : Int), (↑((dig (wS x i).snd).length - (1 : Nat)) : Int) = (↑l.length : Int) - (1 : Int), (dig (wS x i).snd).length = l.length ∧ (0 : Nat) = (0 : Nat) ∧ dL (dig (wS x i).snd) = dL (dvL l l.length), i = (wS x i).fst.length ∧ (0 : Nat) = (0 : Nat) ∧ wL (wS x i).fst = wL (wS x i).fst, IntKind.u32.wrap (↑(dv (List.drop (0 : Nat) l)).snd : Int) = (↑(dv (List.drop (0 : Nat) l)).snd : Int), [AV.v (Value.int IntKind.u32 (↑(dv (List.drop (0 : Nat) l)).snd : Int))].length = (1 : Nat), ((wS x i).fst.length + (1 : Nat)) * (4 : Nat) ≤ (140737488355328 : Nat) ∧ (wS x i).fst.length + (1 : Nat) ≤ (140737488355328 : Nat), LoopOk Try.prog (loopBody Try.f72 (12 : Nat)) (ofInv2 (dv l).fst ((wS x i).fst ++ [(dv l).snd]) (dv l).fst.length) (Exit.exit (4 : Nat)) (ofInv2 (dv l).fst ((wS x i).fst ++ [(dv l).snd]) (tsz (dv l).fst)), (7 : Nat) = (7 : Nat) ∧ (0 : Nat) = (0 : Nat), (39 : Nat) = (39 : Nat) ∧ (0 : Nat) = (0 : Nat), l.length = (dv l).fst.length ∧ (0 : Nat) = (0 : Nat) ∧ dL (dvL l (0 : Nat)) = dL (List.take (dv l).fst.length (dv l).fst), (wS x i).fst.length + (1 : Nat) = ((wS x i).fst ++ [(dv l).snd]).length ∧ (0 : Nat) = (0 : Nat) ∧ wL (wS x i).fst ++ [AV.v (Value.int IntKind.u32 (↑(dv (List.drop (0 : Nat) l)).snd : Int))] = wL ((wS x i).fst ++ [(dv l).snd])] (by kernel_rfl) (Nat.div_lt_self (by omega) (by decide)) ?_
    ((repeat' refine And.intro ?_ ?_); (iterate 4 (with_reducible rfl)); rotate_left 1; (with_reducible rfl); rotate_left 1; (with_reducible assumption); (with_reducible rfl); rotate_left 1; ((with_reducible refine Dt ?_; omega)); ((rw [Wi _ (by omega)]; omega)); (with_reducible assumption); (iterate 4 (with_reducible rfl)); (iterate 2 (omega)); (with_reducible assumption); (with_reducible rfl); rotate_left 1; (omega); (iterate 2 (with_reducible rfl)); ((rw [IntKind.wrap_u32]; omega)); (exact List.length_singleton); (iterate 2 (omega)); (with_reducible assumption); (iterate 4 (with_reducible rfl)); (omega); (with_reducible rfl); rotate_left 1; (omega); (with_reducible rfl); rotate_left 1; (exact True.intro))
    all_goals first | (rw [e1, htl]; done) | (rw [e1, ht]; done) | (rw [e2]; done) | (rw [hr, hl, f1]; done) | (rw [f2, hg]; done) | (rw [f3]; exact wL_snoc _ _) | (rw [f2]; omega) | skip
theorem wS_all (x : Nat) : (wS x (dgw x).length).1 = dgw x ∧ (wS x (dgw x).length).2 = 0 := by
  have : ∀ n i x, (dgw (wS x i).2).length = n → (wS x (i + n)).1 = (wS x i).1 ++ dgw (wS x i).2 ∧ (wS x (i + n)).2 = 0 := by
    intro n
    induction n with
    | zero =>
      intro i x h
      have h0 : (wS x i).2 = 0 := Decidable.byContradiction fun h1 => by rw [dig_posW h1] at h; simp at h
      exact ⟨by rw [List.eq_nil_of_length_eq_zero h, List.append_nil]; rfl, h0⟩
    | succ n ih =>
      intro i x h
      by_cases h0 : (wS x i).2 = 0
      · rw [h0, dig_zeroW] at h; simp at h
      · have h1 := dig_posW h0
        rw [h1] at h ⊢
        rw [← Nat.add_assoc, Nat.add_right_comm]
        obtain ⟨h2, h3⟩ := ih (i + 1) x (by simpa [wS] using h)
        exact ⟨by rw [h2]; simp [wS], h3⟩
  have h := this (dgw x).length 0 x rfl
  simpa [wS] using h
theorem of02_ok (x : Nat) (hx : (dig x).length ≤ 100000) : FnOk Try.prog 72 ⟨[numA (x : Nat)], [], wA (dgw x), []⟩ := by
  have hl := of_loop x hx ⟨0, fun j hj => by omega⟩
  have h1 := (wS_all x).1
  have e0 : dig (x : Int).natAbs = dig x := by rw [Int.natAbs_natCast]
  have hz := dL_len (dig x)
  have h0 : (wS x 0).2 = x := rfl
  unfold numA numT
  rw [e0, decide_eq_false (by omega)]
  refine fn_go hmo Try.func72 (by kernel_rfl) [] [(3, ⟨.exit 0, ofInv x 0, ofInv x (dgw x).length⟩)] [(dgw x).length = (dgw x).length ∧ wL (wS x (dgw x).length).fst = wL (dgw x), (dL (dig x)).length = (dig x).length * (1 : Nat), ((0 : Nat) + (dig x).length) * (8 : Nat) ≤ (140737488355328 : Nat) ∧ (0 : Nat) + (dig x).length ≤ (140737488355328 : Nat), LoopOk Try.prog (loopBody Try.f72 (3 : Nat)) (ofInv x (0 : Nat)) (Exit.exit (0 : Nat)) (ofInv x (dgw x).length), (7 : Nat) = (7 : Nat) ∧ (0 : Nat) = (0 : Nat), (39 : Nat) = (39 : Nat) ∧ (0 : Nat) = (0 : Nat), (0 : Nat) + (dig x).length = (dig (wS x (0 : Nat)).snd).length ∧ (0 : Nat) = (0 : Nat) ∧ [] ++ dL (dig x) = dL (dig (wS x (0 : Nat)).snd), (0 : Nat) = (0 : Nat) ∧ (0 : Nat) = (0 : Nat) ∧ ([] : List AV) = []] (by kernel_rfl) ?_
  ((repeat' refine And.intro ?_ ?_); (with_reducible rfl); rotate_left 1; (iterate 3 (omega)); (with_reducible assumption); (iterate 4 (with_reducible rfl)); rotate_left 1; (with_reducible rfl); (exact rfl); (iterate 3 (with_reducible rfl)); (exact True.intro))
  all_goals first | (rw [h1]; done) | exact Nat.zero_add _
end Go.Proofs.Ytfhmaincnlaapaa.Sy
