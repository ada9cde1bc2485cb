/-
  nat.Bits, nat.Noughts; exact's is, put, Join.
-/
import Derived.Test.YtfhmaincnlaapaaAoWordMath
import Derived.Test.YtfhmaincnlaapaaAoTWhole
import Derived.Test.YtfhmaincnlaapaaAoTNat2
namespace Go.Proofs.Ytfhmaincnlaapaa.Sy
open Go.ChangeShapes Go.WideShapes Go.ChangeAt Go.RowKit
set_option linter.unusedVariables false
set_option linter.unusedSimpArgs false
/-! ### how many bits -/
def blen (n : Nat) : Nat := if h : n = 0 then 0 else blen (n / 2) + 1
termination_by n
decreasing_by omega
theorem blen_zero : blen 0 = 0 := by rw [blen]; simp
theorem blen_pos {n : Nat} (h : n ≠ 0) : blen n = blen (n / 2) + 1 := by rw [blen]; simp [h]
theorem blen_lt : ∀ (k n : Nat), n < 2 ^ k ↔ blen n ≤ k := by
  intro k
  induction k with
  | zero =>
    intro n
    by_cases h : n = 0
    · subst h; rw [blen_zero]; simp
    · rw [blen_pos h]; simp; omega
  | succ k ih =>
    intro n
    by_cases h : n = 0
    · subst h; rw [blen_zero]; simp; exact Nat.pow_pos (by decide)
    · rw [blen_pos h, Nat.add_le_add_iff_right, ← ih, Nat.pow_succ]; omega
theorem blen_shift (k : Nat) : ∀ {lo top : Nat}, lo < 2 ^ k → 0 < top → blen (lo + 2 ^ k * top) = k + blen top := by
  induction k with
  | zero => intro lo top h h2; simp at h; subst h; simp
  | succ k ih =>
    intro lo top h h2
    have hp : 0 < 2 ^ k * top := Nat.mul_pos (Nat.pow_pos (by decide)) h2
    have e : lo + 2 ^ (k + 1) * top = lo + 2 * (2 ^ k * top) := by rw [Nat.pow_succ]; congr 1; rw [Nat.mul_comm (2 ^ k) 2, Nat.mul_assoc]
    have hlt : lo / 2 < 2 ^ k := by rw [Nat.pow_succ] at h; omega
    rw [e, blen_pos (by omega), show (lo + 2 * (2 ^ k * top)) / 2 = lo / 2 + 2 ^ k * top by omega, ih hlt h2]; omega
def bitInv (v k : Nat) : AS := ⟨[(4, iz (k : Nat)), (5, u3 v)], [], 25, []⟩
theorem bits_loop (t : Nat) (ht : t ≤ 100000000) (i : {p : Nat × Nat // p.1 < 4294967296 ∧ p.2 + blen p.1 = t}) : LoopOk Try.prog (loopBody Try.f172 6) (bitInv i.1.1 i.1.2) (.exit 0) (bitInv 0 t) := by
  refine LoopOk.of hmo (fun i : {p : Nat × Nat // p.1 < 4294967296 ∧ p.2 + blen p.1 = t} => bitInv i.1.1 i.1.2) (fun i => i.1.1) (fun i => ?_) i
  obtain ⟨⟨v, k⟩, hv, hk⟩ := i
  simp only at hv hk
  by_cases h : v = 0
  · subst h
    rw [blen_zero] at hk
    refine Round.out [(18, Hint.val (AV.v (Value.int IntKind.u32 (0 : Int))))] [] [(↑((0 : Nat), k).snd : Int) = (↑t : Int), (↑((0 : Nat), k).fst : Int) = (↑(0 : Nat) : Int), (↑((0 : Nat), k).fst : Int) = (0 : Int)] (by kernel_rfl) ?_
    ((repeat' refine And.intro ?_ ?_); (omega); (with_reducible rfl); (omega); (exact True.intro))
  · rw [blen_pos h] at hk
    refine Round.on [(19, Hint.val (AV.v (Value.bool true))), (23, Hint.val (AV.v (Value.int IntKind.i64 (↑(k + (1 : Nat)) : Int)))), (21, Hint.val (AV.v (Value.int IntKind.u32 (↑(v / (2 : Nat)) : Int))))] [] ⟨(v / 2, k + 1), by show v / 2 < 4294967296; omega, by show k + 1 + blen (v / 2) = t; omega⟩ [(↑(k + (1 : Nat)) : Int) = (↑(v / (2 : Nat), k + (1 : Nat)).snd : Int), (↑(v / (2 : Nat)) : Int) = (↑(v / (2 : Nat), k + (1 : Nat)).fst : Int), decide ((0 : Int) < (↑(v, k).fst : Int)) = true, IntKind.i64.wrap ((↑(v, k).snd : Int) + (1 : Int)) = (↑(k + (1 : Nat)) : Int), (↑(v, k).fst : Int).fdiv ((2 : Int) ^ (1 : Nat)) = (↑(v / (2 : Nat)) : Int), (0 : Int) ≤ (1 : Int)] (by kernel_rfl) (by show v / 2 < v; omega) ?_
    ((repeat' refine And.intro ?_ ?_); (iterate 2 (with_reducible rfl)); ((with_reducible refine Dt ?_; omega)); (exact Wi _ (by omega)); (exact fdivN _ _ _ (by decide)); (omega); (exact True.intro))
theorem bits_ok {l : List Nat} (hl : l.length ≤ 1000000) (hd : Wd l) : FnOk Try.prog 172 ⟨[wA l], [], iz (blen (vw l) : Nat), []⟩ := by
  have h1 := size_ok l (by omega)
  have ht := take_tszW l hd
  have hle := tsz_le l
  by_cases h0 : tsz l = 0
  · have hz := (tsz_zeroW l).1 h0
    rw [hz, blen_zero]
    refine fn_go hmo Try.func172 (by kernel_rfl) [(7, Hint.call (Inst.mk [wA l] [] (iz (↑(tsz l) : Int)) [])), (9, Hint.val (AV.v (Value.bool true)))] [] [(0 : Int) = (↑(0 : Nat) : Int), (l.length = l.length ∧ wL l = wL l) ∧ True, FnOk Try.prog (143 : Nat) (Inst.mk [AV.lst l.length (wL l)] [] (AV.v (Value.int IntKind.i64 (↑(tsz l) : Int))) []), ((↑(tsz l) : Int) == (0 : Int)) = true] (by kernel_rfl) ?_
    ((repeat' refine And.intro ?_ ?_); (omega); (iterate 2 (with_reducible rfl)); (exact True.intro); ((show FnOk _ _ _; assumption)); ((with_reducible refine Be ?_; omega)); (exact True.intro))
  · obtain ⟨m, hm⟩ : ∃ m, tsz l = m + 1 := ⟨tsz l - 1, by omega⟩
    have hr := rd_wL l m (by omega)
    have hdl := dg_ltW l m hd
    have hv0 : vw l = vw (l.take m) + 4294967296 ^ m * dg l m := by
      have e := vd_partsW l (m + 1)
      have e2 : vw (l.drop (m + 1)) = 0 := by rw [← hm]; exact drop_tsz hd
      rw [e2, Nat.mul_zero, Nat.add_zero, vd_take_succW l m (by omega)] at e
      exact e
    have hlow : vw (l.take m) < 4294967296 ^ m := by
      have := vd_ltW (l.take m) fun d h => hd d (List.mem_of_mem_take h)
      rw [List.length_take, Nat.min_eq_left (by omega)] at this
      exact this
    have htop : 0 < dg l m := by
      rcases Nat.eq_zero_or_pos (dg l m) with hz | hz
      · exfalso
        rw [hz, Nat.mul_zero, Nat.add_zero] at hv0
        have e3 := dig_lenW (n := vw l) (k := m) (by rw [hv0]; exact hlow)
        rw [← ht, List.length_take] at e3
        omega
      · exact hz
    have hv : vw l = vw (l.take m) + 2 ^ (32 * m) * dg l m := by rw [hv0, Nat.pow_mul]
    have hb : blen (vw l) = 32 * m + blen (dg l m) := by
      rw [hv]
      refine blen_shift _ ?_ htop
      rw [Nat.pow_mul]; exact hlow
    have hbl : blen (dg l m) ≤ 32 := (blen_lt 32 _).1 (by omega)
    rw [hb]
    have h2 := bits_loop (32 * m + blen (dg l m)) (by omega) ⟨(dg l m, 32 * m), hdl, rfl⟩
    rw [hm] at h1
    refine fn_go hmo Try.func172 (by kernel_rfl) [(7, Hint.call (Inst.mk [wA l] [] (iz (↑(m + (1 : Nat)) : Int)) [])), (11, Hint.val (AV.v (Value.int IntKind.i64 (↑m : Int)))), (12, Hint.val (AV.v (Value.int IntKind.i64 (↑((32 : Nat) * m) : Int)))), (15, Hint.val (AV.v (Value.int IntKind.i64 (↑m : Int)))), (17, Hint.val (u3 (dg l m)))] [(6, ⟨.exit 0, bitInv (dg l m) (32 * m), bitInv 0 (32 * m + blen (dg l m))⟩)] [(↑((32 : Nat) * m + blen (dg l m)) : Int) = (↑((32 : Nat) * m + blen (dg l m)) : Int), (l.length = l.length ∧ wL l = wL l) ∧ True, FnOk Try.prog (143 : Nat) (Inst.mk [AV.lst l.length (wL l)] [] (AV.v (Value.int IntKind.i64 (↑(m + (1 : Nat)) : Int))) []), IntKind.i64.wrap ((↑(m + (1 : Nat)) : Int) - (1 : Int)) = (↑m : Int), IntKind.i64.wrap ((32 : Int) * (↑m : Int)) = (↑((32 : Nat) * m) : Int), IntKind.i64.wrap ((↑(m + (1 : Nat)) : Int) - (1 : Int)) = (↑m : Int), (0 : Int) ≤ (↑m : Int) ∧ (↑m : Int) < (↑l.length : Int), rd1 false (1 : Nat) (wL l) ((↑m : Int).toNat * (1 : Nat)) = some (AV.v (Value.int IntKind.u32 (↑(dg l m) : Int))), LoopOk Try.prog (loopBody Try.f172 (6 : Nat)) (bitInv (dg l m) ((32 : Nat) * m)) (Exit.exit (0 : Nat)) (bitInv (0 : Nat) ((32 : Nat) * m + blen (dg l m))), (↑((32 : Nat) * m) : Int) = (↑((32 : Nat) * m) : Int), (↑(dg l m) : Int) = (↑(dg l m) : Int)] (by kernel_rfl) ?_
    ((repeat' refine And.intro ?_ ?_); (iterate 3 (with_reducible rfl)); (exact True.intro); ((show FnOk _ _ _; assumption)); ((rw [Wi _ (by omega)]; omega)); (exact Wi _ (by omega)); ((rw [Wi _ (by omega)]; omega)); (iterate 2 (omega)); ((show rd1 _ _ _ _ = _; assumption)); (with_reducible assumption); (iterate 2 (with_reducible rfl)); (exact True.intro))
/-! ### how often a number can be halved -/
def tz (n : Nat) : Nat := if h : n % 2 = 1 ∨ n = 0 then 0 else tz (n / 2) + 1
termination_by n
decreasing_by omega
theorem tz_odd {n : Nat} (h : n % 2 = 1) : tz n = 0 := by rw [tz]; simp [h]
theorem tz_even {n : Nat} (h : n % 2 = 0) (h0 : n ≠ 0) : tz n = tz (n / 2) + 1 := by rw [tz]; simp [h, h0]
theorem tz_lt : ∀ (k n : Nat), n < 2 ^ (k + 1) → 0 < n → tz n ≤ k := by
  intro k
  induction k with
  | zero => intro n h h0; have : n = 1 := by simp at h; omega
            subst this; rw [tz_odd rfl]; exact Nat.le_refl 0
  | succ k ih =>
    intro n h h0
    by_cases ho : n % 2 = 1
    · rw [tz_odd ho]; omega
    · rw [tz_even (by omega) (by omega)]
      have := ih (n / 2) (by rw [Nat.pow_succ] at h; omega) (by omega)
      omega
def ntInv1 (l : List Nat) (i v k : Nat) : AS := ⟨[(4, u3 v), (5, iz (k : Nat))], [], 26, []⟩
theorem nt_loop1 (l : List Nat) (j t : Nat) (ht : t ≤ 100000000) (i : {p : Nat × Nat // 0 < p.1 ∧ p.1 < 4294967296 ∧ p.2 + tz p.1 = t}) : LoopOk Try.prog (loopBody Try.f149 6) (ntInv1 l j i.1.1 i.1.2) (.exit 2) ⟨[(5, iz (t : Nat))], [], 26, []⟩ := by
  refine LoopOk.of hmo (fun i : {p : Nat × Nat // 0 < p.1 ∧ p.1 < 4294967296 ∧ p.2 + tz p.1 = t} => ntInv1 l j i.1.1 i.1.2) (fun i => i.1.1) (fun i => ?_) i
  obtain ⟨⟨v, k⟩, h0, hv, hk⟩ := i
  simp only at hv hk h0
  by_cases h : v % 2 = 1
  · rw [tz_odd h] at hk
    refine Round.out [(18, Hint.val (AV.v (Value.int IntKind.u32 (↑(v % (2 : Nat)) : Int)))), (19, Hint.val (AV.v (Value.bool false)))] [] [(↑(v, k).snd : Int) = (↑t : Int), (↑(v, k).fst : Int).tmod (2 : Int) = (↑(v % (2 : Nat)) : Int), (2 : Int) ≠ (0 : Int), ((↑(v % (2 : Nat)) : Int) == (0 : Int)) = false] (by kernel_rfl) ?_
    ((repeat' refine And.intro ?_ ?_); (omega); (exact tmodN _ _); (omega); ((with_reducible refine Bn ?_; omega)); (exact True.intro))
  · rw [tz_even (by omega) (by omega)] at hk
    refine Round.on [(18, Hint.val (AV.v (Value.int IntKind.u32 (↑(v % (2 : Nat)) : Int)))), (19, Hint.val (AV.v (Value.bool true))), (21, Hint.val (AV.v (Value.int IntKind.u32 (↑(v / (2 : Nat)) : Int)))), (23, Hint.val (AV.v (Value.int IntKind.i64 (↑(k + (1 : Nat)) : Int))))] [] ⟨(v / 2, k + 1), by show 0 < v / 2; omega, by show v / 2 < 4294967296; omega, by show k + 1 + tz (v / 2) = t; omega⟩ [(↑(v / (2 : Nat)) : Int) = (↑(v / (2 : Nat), k + (1 : Nat)).fst : Int), (↑(k + (1 : Nat)) : Int) = (↑(v / (2 : Nat), k + (1 : Nat)).snd : Int), (↑(v, k).fst : Int).tmod (2 : Int) = (↑(v % (2 : Nat)) : Int), (2 : Int) ≠ (0 : Int), ((↑(v % (2 : Nat)) : Int) == (0 : Int)) = true, (↑(v, k).fst : Int).fdiv ((2 : Int) ^ (1 : Nat)) = (↑(v / (2 : Nat)) : Int), (0 : Int) ≤ (1 : Int), IntKind.i64.wrap ((↑(v, k).snd : Int) + (1 : Int)) = (↑(k + (1 : Nat)) : Int)] (by kernel_rfl) (by show v / 2 < v; omega) ?_
    ((repeat' refine And.intro ?_ ?_); (iterate 2 (with_reducible rfl)); (exact tmodN _ _); (omega); ((with_reducible refine Be ?_; omega)); (exact fdivN _ _ _ (by decide)); (omega); (exact Wi _ (by omega)); (exact True.intro))
/-- how many words at the low end are nought -/
def lz : List Nat → Nat
  | [] => 0
  | d :: l => if d = 0 then lz l + 1 else 0
theorem lz_at : ∀ {l : List Nat}, lz l < l.length → dg l (lz l) ≠ 0
  | [], h => absurd h (by simp)
  | d :: l, h => by
    by_cases hd : d = 0
    · have e : lz (d :: l) = lz l + 1 := by simp [lz, hd]
      rw [e] at h ⊢
      exact lz_at (l := l) (by simpa using h)
    · have e : lz (d :: l) = 0 := by simp [lz, hd]
      rw [e]; exact hd
theorem lz_low : ∀ {l : List Nat} {i : Nat}, i < lz l → dg l i = 0
  | [], i, h => absurd h (by simp [lz])
  | d :: l, i, h => by
    by_cases hd : d = 0
    · have e : lz (d :: l) = lz l + 1 := by simp [lz, hd]
      rw [e] at h
      cases i with
      | zero => exact hd
      | succ i => exact lz_low (l := l) (by omega)
    · have e : lz (d :: l) = 0 := by simp [lz, hd]
      omega
theorem lz_le : ∀ (l : List Nat), lz l ≤ l.length
  | [] => Nat.le_refl _
  | d :: l => by have := lz_le l; unfold lz; split <;> simp; omega
def ntInv (l : List Nat) (i : Nat) : AS := ⟨[(0, wA l), (6, wA l), (7, iz (l.length : Nat)), (8, iz (i : Nat))], [], 26, []⟩
theorem nt_loop {l : List Nat} (hl : l.length ≤ 1000000) (hd : Wd l) (hz : lz l < l.length) (i : {i : Nat // i ≤ lz l}) : LoopOk Try.prog (loopBody Try.f149 2) (ntInv l i.1) .ret ⟨[(2, iz (32 * lz l + tz (dg l (lz l)) : Nat))], [], 26, []⟩ := by
  refine LoopOk.of hmo (fun i : {i : Nat // i ≤ lz l} => ntInv l i.1) (fun i => l.length - i.1) (fun i => ?_) i
  obtain ⟨i, hi⟩ := i
  have hr := rd_wL l i (by omega)
  have hdl := dg_ltW l i hd
  rcases Nat.lt_or_eq_of_le hi with hlt | rfl
  · have h0 := lz_low hlt
    refine Round.on [(9, Hint.val (AV.v (Value.bool true))), (12, Hint.val (u3 (dg l i))), (14, Hint.val (AV.v (Value.bool true))), (25, Hint.val (AV.v (Value.int IntKind.i64 (↑(i + (1 : Nat)) : Int))))] [] ⟨i + 1, hlt⟩ [l.length = l.length ∧ wL l = wL l, l.length = l.length ∧ wL l = wL l, (↑l.length : Int) = (↑l.length : Int), (↑(i + (1 : Nat)) : Int) = (↑(i + (1 : Nat)) : Int), decide ((↑i : Int) < (↑l.length : Int)) = true, (0 : Int) ≤ (↑i : Int) ∧ (↑i : Int) < (↑l.length : Int), rd1 false (1 : Nat) (wL l) ((↑i : Int).toNat * (1 : Nat)) = some (AV.v (Value.int IntKind.u32 (↑(dg l i) : Int))), ((↑(dg l i) : Int) == (0 : Int)) = true, IntKind.i64.wrap ((↑i : Int) + (1 : Int)) = (↑(i + (1 : Nat)) : Int)] (by kernel_rfl) (by show l.length - (i + 1) < l.length - i; omega) ?_
    ((repeat' refine And.intro ?_ ?_); (iterate 6 (with_reducible rfl)); ((with_reducible refine Dt ?_; omega)); (iterate 2 (omega)); ((show rd1 _ _ _ _ = _; assumption)); ((with_reducible refine Be ?_; omega)); (exact Wi _ (by omega)); (exact True.intro))
  · have h0 := lz_at hz
    have htz := tz_lt 31 (dg l (lz l)) (by omega) (by omega)
    have h1 := nt_loop1 l (lz l) (32 * lz l + tz (dg l (lz l))) (by omega) ⟨(dg l (lz l), 32 * lz l), by show 0 < _; omega, hdl, rfl⟩
    refine Round.out [(9, Hint.val (AV.v (Value.bool true))), (12, Hint.val (u3 (dg l (lz l)))), (14, Hint.val (AV.v (Value.bool false))), (16, Hint.val (AV.v (Value.int IntKind.i64 (↑((32 : Nat) * lz l) : Int))))] [(6, ⟨.exit 2, ntInv1 l (lz l) (dg l (lz l)) (32 * lz l), ⟨[(5, iz (32 * lz l + tz (dg l (lz l)) : Nat))], [], 26, []⟩⟩)] [(↑((32 : Nat) * lz l + tz (dg l (lz l))) : Int) = (↑((32 : Nat) * lz l + tz (dg l (lz l))) : Int), decide ((↑(lz l) : Int) < (↑l.length : Int)) = true, (0 : Int) ≤ (↑(lz l) : Int) ∧ (↑(lz l) : Int) < (↑l.length : Int), rd1 false (1 : Nat) (wL l) ((↑(lz l) : Int).toNat * (1 : Nat)) = some (AV.v (Value.int IntKind.u32 (↑(dg l (lz l)) : Int))), ((↑(dg l (lz l)) : Int) == (0 : Int)) = false, IntKind.i64.wrap ((32 : Int) * (↑(lz l) : Int)) = (↑((32 : Nat) * lz l) : Int), LoopOk Try.prog (loopBody Try.f149 (6 : Nat)) (ntInv1 l (lz l) (dg l (lz l)) ((32 : Nat) * lz l)) (Exit.exit (2 : Nat)) (AS.mk [((5 : Nat), AV.v (Value.int IntKind.i64 (↑((32 : Nat) * lz l + tz (dg l (lz l))) : Int)))] [] (26 : Nat) []), (↑(dg l (lz l)) : Int) = (↑(dg l (lz l)) : Int), (↑((32 : Nat) * lz l) : Int) = (↑((32 : Nat) * lz l) : Int)] (by kernel_rfl) ?_
    ((repeat' refine And.intro ?_ ?_); (with_reducible rfl); ((with_reducible refine Dt ?_; omega)); (iterate 2 (omega)); ((show rd1 _ _ _ _ = _; assumption)); ((with_reducible refine Bn ?_; omega)); (exact Wi _ (by omega)); ((show LoopOk _ _ _ _ _; assumption)); (iterate 2 (with_reducible rfl)); (exact True.intro))
theorem noughts_ok {l : List Nat} (hl : l.length ≤ 1000000) (hd : Wd l) (hz : l = [] ∨ lz l < l.length) : ∃ n : Nat, n / 32 = lz l ∧ n ≤ 100000000 ∧ FnOk Try.prog 149 ⟨[wA l], [], iz (n : Nat), []⟩ := by
  rcases hz with rfl | hz
  · refine ⟨0, rfl, by decide, ?_⟩
    have h1 : LoopOk Try.prog (loopBody Try.f149 2) (ntInv [] 0) (.exit 0) ⟨[], [], 26, []⟩ := by
      refine LoopOk.of hmo (fun i : Unit => ntInv [] 0) (fun i => 0) (fun i => ?_) ()
      refine Round.out [] [] [] (by kernel_rfl) ?_
      ((repeat' refine And.intro ?_ ?_); (exact True.intro))
    refine fn_go hmo Try.func149 (by kernel_rfl) [(7, Hint.val (AV.v (Value.int IntKind.i64 (0 : Int))))] [(2, ⟨.exit 0, ntInv [] 0, ⟨[], [], 26, []⟩⟩)] [(0 : Int) = (↑(0 : Nat) : Int), (↑(0 : Nat) : Int) = (0 : Int), LoopOk Try.prog (loopBody Try.f149 (2 : Nat)) (ntInv [] (0 : Nat)) (Exit.exit (0 : Nat)) (AS.mk [] [] (26 : Nat) []), (0 : Nat) = (0 : Nat) ∧ ([] : List AV) = [], (0 : Nat) = (0 : Nat) ∧ ([] : List AV) = [], (0 : Int) = (↑(0 : Nat) : Int), (0 : Int) = (↑(0 : Nat) : Int)] (by kernel_rfl) ?_
    ((repeat' refine And.intro ?_ ?_); (iterate 2 (omega)); (with_reducible assumption); (iterate 4 (with_reducible rfl)); (iterate 2 (omega)); (exact True.intro))
  · have h1 := nt_loop hl hd hz ⟨0, Nat.zero_le _⟩
    have h0 := lz_at hz
    have hdl := dg_ltW l (lz l) hd
    have htz := tz_lt 31 (dg l (lz l)) (by omega) (by omega)
    refine ⟨32 * lz l + tz (dg l (lz l)), by omega, by omega, ?_⟩
    refine fn_go hmo Try.func149 (by kernel_rfl) [] [(2, ⟨.ret, ntInv l 0, ⟨[(2, iz (32 * lz l + tz (dg l (lz l)) : Nat))], [], 26, []⟩⟩)] [(↑((32 : Nat) * lz l + tz (dg l (lz l))) : Int) = (↑((32 : Nat) * lz l + tz (dg l (lz l))) : Int), LoopOk Try.prog (loopBody Try.f149 (2 : Nat)) (ntInv l (0 : Nat)) Exit.ret (AS.mk [((2 : Nat), AV.v (Value.int IntKind.i64 (↑((32 : Nat) * lz l + tz (dg l (lz l))) : Int)))] [] (26 : Nat) []), l.length = l.length ∧ wL l = wL l, l.length = l.length ∧ wL l = wL l, (↑l.length : Int) = (↑l.length : Int), (0 : Int) = (↑(0 : Nat) : Int)] (by kernel_rfl) ?_
    ((repeat' refine And.intro ?_ ?_); (with_reducible rfl); ((show LoopOk _ _ _ _ _; assumption)); (iterate 5 (with_reducible rfl)); (omega); (exact True.intro))
/-! ### exact.Sum -/
def exO (q : Nat) (came : Int) (x : Int) : Nat × AObj := (q, .cells 196 [bz true, .v (.int .u8 came), bz (decide (x < 0)), wA (dgw x.natAbs)])
theorem is_ok (c : Int) (x : Int) (q : Nat) (hq : q = 1000 ∨ q = 1001) : FnOk Try.prog 144 ⟨[.ptr q 0], [exO q c x], bz true, [exO q c x]⟩ := by
  rcases hq with rfl | rfl
  · refine fn_go hmo Try.func144 (by kernel_rfl) [] [] [true = true, [AV.v (Value.bool true), AV.v (Value.int IntKind.u8 c), AV.v (Value.bool (decide (x < (0 : Int)))), AV.lst (dgw x.natAbs).length (wL (dgw x.natAbs))] = [AV.v (Value.bool true), AV.v (Value.int IntKind.u8 c), AV.v (Value.bool (decide (x < (0 : Int)))), AV.lst (dgw x.natAbs).length (wL (dgw x.natAbs))]] (by kernel_rfl) ?_
    ((repeat' refine And.intro ?_ ?_); (iterate 2 (with_reducible rfl)); (exact True.intro))
  · refine fn_go hmo Try.func144 (by kernel_rfl) [] [] [true = true, [AV.v (Value.bool true), AV.v (Value.int IntKind.u8 c), AV.v (Value.bool (decide (x < (0 : Int)))), AV.lst (dgw x.natAbs).length (wL (dgw x.natAbs))] = [AV.v (Value.bool true), AV.v (Value.int IntKind.u8 c), AV.v (Value.bool (decide (x < (0 : Int)))), AV.lst (dgw x.natAbs).length (wL (dgw x.natAbs))]] (by kernel_rfl) ?_
    ((repeat' refine And.intro ?_ ?_); (iterate 2 (with_reducible rfl)); (exact True.intro))
theorem Wd_dg (n : Nat) : Wd (dgw n) := dig_ltW n
theorem dgw_small {n : Nat} (h : n < roomN) : (dgw n).length ≤ 70 := dig_lenW (by
  have e : roomN = 4294967296 ^ 70 := by unfold roomN roomK; rw [p2_mul, show (2 : Nat) ^ 32 = 4294967296 from rfl]
  rw [← e]; exact h)
theorem room_bits (n : Nat) : n < roomN ↔ blen n ≤ 2240 := blen_lt roomK n
theorem dgw_len0 {n : Nat} : (dgw n).length = 0 ↔ n = 0 := by
  constructor
  · intro h
    exact Decidable.byContradiction fun h0 => by rw [dig_posW h0] at h; simp at h
  · intro h; subst h; rw [dig_zeroW]; rfl
/-- what comes to a sum: y -/
theorem put_ok (c : Int) (x y : Int) (hx : x.natAbs < roomN) (hy : y.natAbs < roomN) : FnOk Try.prog 148 ⟨[.ptr 1000 0, bz (decide (y < 0)), wA (dgw y.natAbs)], [exO 1000 c x], bz (decide ((x + y).natAbs < roomN)), [exO 1000 c (if (x + y).natAbs < roomN then x + y else x)]⟩ := by
  have wx := Wd_dg x.natAbs
  have wy := Wd_dg y.natAbs
  have lx := dgw_small hx
  have ly := dgw_small hy
  have vx := vd_digW x.natAbs
  have vy := vd_digW y.natAbs
  by_cases hs : decide (y < 0) = decide (x < 0)
  · have hb : (decide (y < 0) == decide (x < 0)) = true := beq_iff_eq.2 hs
    have e1 := add_ok wx wy (by omega) (by omega)
    rw [vx, vy] at e1
    have hab : x.natAbs + y.natAbs = (x + y).natAbs := by
      have := decide_eq_decide.1 hs
      omega
    rw [hab] at e1
    have hlen : (dgw (x + y).natAbs).length ≤ 1000000 := by
      have : (x + y).natAbs < 4294967296 ^ 71 := by
        have h1 := vd_ltW (dgw x.natAbs) wx
        have h2 := vd_ltW (dgw y.natAbs) wy
        have h3 : 4294967296 ^ (dgw x.natAbs).length ≤ 4294967296 ^ 70 := Nat.pow_le_pow_right (by decide) lx
        have h4 : 4294967296 ^ (dgw y.natAbs).length ≤ 4294967296 ^ 70 := Nat.pow_le_pow_right (by decide) ly
        rw [vx] at h1; rw [vy] at h2
        rw [← hab, show (4294967296 : Nat) ^ 71 = 4294967296 ^ 70 * 4294967296 from Nat.pow_succ ..]
        generalize (4294967296 : Nat) ^ 70 = W at *
        omega
      have := dig_lenW this
      omega
    have e2 := bits_ok hlen (Wd_dg (x + y).natAbs)
    rw [vd_digW] at e2
    have hroom := room_bits (x + y).natAbs
    have hsg : decide (x < 0) = decide (x + y < 0) ∨ x + y = 0 := by
      have := decide_eq_decide.1 hs
      by_cases h0 : x + y = 0
      · exact .inr h0
      · left; rw [decide_eq_decide]; omega
    have hsg : decide (x < 0) = decide (x + y < 0) := by
      have := decide_eq_decide.1 hs
      rw [decide_eq_decide]; omega
    by_cases hr : (x + y).natAbs < roomN
    · have hb2 := hroom.1 hr
      rw [if_pos hr, decide_eq_true hr]
      refine fn_go hmo Try.func148 (by kernel_rfl) [(15, Hint.val (AV.v (Value.bool true))), (21, Hint.call (Inst.mk [wA (dgw x.natAbs), wA (dgw y.natAbs)] [] (wA (dgw (x + y).natAbs)) [])), (23, Hint.call (Inst.mk [wA (dgw (x + y).natAbs)] [] (iz (↑(blen (x + y).natAbs) : Int)) [])), (24, Hint.val (AV.v (Value.bool false)))] [] [true = true, [AV.v (Value.bool true), AV.v (Value.int IntKind.u8 c), AV.v (Value.bool (decide (x < (0 : Int)))), AV.lst (dgw (x + y).natAbs).length (wL (dgw (x + y).natAbs))] = [AV.v (Value.bool true), AV.v (Value.int IntKind.u8 c), AV.v (Value.bool (decide (x + y < (0 : Int)))), AV.lst (dgw (x + y).natAbs).length (wL (dgw (x + y).natAbs))], (decide (y < (0 : Int)) == decide (x < (0 : Int))) = true, ((dgw x.natAbs).length = (dgw x.natAbs).length ∧ wL (dgw x.natAbs) = wL (dgw x.natAbs)) ∧ ((dgw y.natAbs).length = (dgw y.natAbs).length ∧ wL (dgw y.natAbs) = wL (dgw y.natAbs)) ∧ True, FnOk Try.prog (125 : Nat) (Inst.mk [AV.lst (dgw x.natAbs).length (wL (dgw x.natAbs)), AV.lst (dgw y.natAbs).length (wL (dgw y.natAbs))] [] (AV.lst (dgw (x + y).natAbs).length (wL (dgw (x + y).natAbs))) []), ((dgw (x + y).natAbs).length = (dgw (x + y).natAbs).length ∧ wL (dgw (x + y).natAbs) = wL (dgw (x + y).natAbs)) ∧ True, FnOk Try.prog (172 : Nat) (Inst.mk [AV.lst (dgw (x + y).natAbs).length (wL (dgw (x + y).natAbs))] [] (AV.v (Value.int IntKind.i64 (↑(blen (x + y).natAbs) : Int))) []), decide ((2240 : Int) < (↑(blen (x + y).natAbs) : Int)) = false] (by kernel_rfl) ?_
      ((repeat' refine And.intro ?_ ?_); (with_reducible rfl); rotate_left 1; (with_reducible assumption); (iterate 4 (with_reducible rfl)); (exact True.intro); ((show FnOk _ _ _; assumption)); (iterate 2 (with_reducible rfl)); (exact True.intro); ((show FnOk _ _ _; assumption)); ((with_reducible refine Df ?_; omega)); (exact True.intro))
      all_goals (rw [hsg])
    · have hb2 : 2240 < blen (x + y).natAbs := Nat.lt_of_not_le fun h => hr (hroom.2 h)
      rw [if_neg hr, decide_eq_false hr]
      refine fn_go hmo Try.func148 (by kernel_rfl) [(15, Hint.val (AV.v (Value.bool true))), (21, Hint.call (Inst.mk [wA (dgw x.natAbs), wA (dgw y.natAbs)] [] (wA (dgw (x + y).natAbs)) [])), (23, Hint.call (Inst.mk [wA (dgw (x + y).natAbs)] [] (iz (↑(blen (x + y).natAbs) : Int)) [])), (24, Hint.val (AV.v (Value.bool true)))] [] [false = false, [AV.v (Value.bool true), AV.v (Value.int IntKind.u8 c), AV.v (Value.bool (decide (x < (0 : Int)))), AV.lst (dgw x.natAbs).length (wL (dgw x.natAbs))] = [AV.v (Value.bool true), AV.v (Value.int IntKind.u8 c), AV.v (Value.bool (decide (x < (0 : Int)))), AV.lst (dgw x.natAbs).length (wL (dgw x.natAbs))], (decide (y < (0 : Int)) == decide (x < (0 : Int))) = true, ((dgw x.natAbs).length = (dgw x.natAbs).length ∧ wL (dgw x.natAbs) = wL (dgw x.natAbs)) ∧ ((dgw y.natAbs).length = (dgw y.natAbs).length ∧ wL (dgw y.natAbs) = wL (dgw y.natAbs)) ∧ True, FnOk Try.prog (125 : Nat) (Inst.mk [AV.lst (dgw x.natAbs).length (wL (dgw x.natAbs)), AV.lst (dgw y.natAbs).length (wL (dgw y.natAbs))] [] (AV.lst (dgw (x + y).natAbs).length (wL (dgw (x + y).natAbs))) []), ((dgw (x + y).natAbs).length = (dgw (x + y).natAbs).length ∧ wL (dgw (x + y).natAbs) = wL (dgw (x + y).natAbs)) ∧ True, FnOk Try.prog (172 : Nat) (Inst.mk [AV.lst (dgw (x + y).natAbs).length (wL (dgw (x + y).natAbs))] [] (AV.v (Value.int IntKind.i64 (↑(blen (x + y).natAbs) : Int))) []), decide ((2240 : Int) < (↑(blen (x + y).natAbs) : Int)) = true] (by kernel_rfl) ?_
      ((repeat' refine And.intro ?_ ?_); (iterate 2 (with_reducible rfl)); (with_reducible assumption); (iterate 4 (with_reducible rfl)); (exact True.intro); ((show FnOk _ _ _; assumption)); (iterate 2 (with_reducible rfl)); (exact True.intro); ((show FnOk _ _ _; assumption)); ((with_reducible refine Dt ?_; omega)); (exact True.intro))
  · have hb : (decide (y < 0) == decide (x < 0)) = false := beq_eq_false_iff_ne.2 hs
    have hs' : ¬ (y < 0 ↔ x < 0) := fun h => hs (decide_eq_decide.2 h)
    have hr : (x + y).natAbs < roomN := by omega
    rw [if_pos hr, decide_eq_true hr]
    by_cases hle : y.natAbs ≤ x.natAbs
    · have e1 := sub_ok wx wy (by omega) (by omega) (by rw [vx, vy]; exact hle)
      have hab : x.natAbs - y.natAbs = (x + y).natAbs := by omega
      rw [vx, vy, hab] at e1
      by_cases h0 : x + y = 0
      · have hz : (dgw (x + y).natAbs).length = 0 := by rw [h0]; exact dgw_len0.2 rfl
        have hneg : decide (x + y < 0) = false := decide_eq_false (by omega)
        refine fn_go hmo Try.func148 (by kernel_rfl) [(15, Hint.val (AV.v (Value.bool false))), (35, Hint.call (Inst.mk [wA (dgw x.natAbs), wA (dgw y.natAbs)] [] (AV.tup [wA (dgw (x + y).natAbs), bz true]) [])), (64, Hint.val (AV.v (Value.bool true)))] [] [true = true, [AV.v (Value.bool true), AV.v (Value.int IntKind.u8 c), AV.v (Value.bool false), AV.lst (dgw (x + y).natAbs).length (wL (dgw (x + y).natAbs))] = [AV.v (Value.bool true), AV.v (Value.int IntKind.u8 c), AV.v (Value.bool (decide (x + y < (0 : Int)))), AV.lst (dgw (x + y).natAbs).length (wL (dgw (x + y).natAbs))], (decide (y < (0 : Int)) == decide (x < (0 : Int))) = false, ((dgw x.natAbs).length = (dgw x.natAbs).length ∧ wL (dgw x.natAbs) = wL (dgw x.natAbs)) ∧ ((dgw y.natAbs).length = (dgw y.natAbs).length ∧ wL (dgw y.natAbs) = wL (dgw y.natAbs)) ∧ True, FnOk Try.prog (173 : Nat) (Inst.mk [AV.lst (dgw x.natAbs).length (wL (dgw x.natAbs)), AV.lst (dgw y.natAbs).length (wL (dgw y.natAbs))] [] (AV.tup [AV.lst (dgw (x + y).natAbs).length (wL (dgw (x + y).natAbs)), AV.v (Value.bool true)]) []), ((↑(dgw (x + y).natAbs).length : Int) == (0 : Int)) = true] (by kernel_rfl) ?_
        ((repeat' refine And.intro ?_ ?_); (with_reducible rfl); rotate_left 1; (with_reducible assumption); (iterate 4 (with_reducible rfl)); (exact True.intro); ((show FnOk _ _ _; assumption)); ((with_reducible refine Be ?_; omega)); (exact True.intro))
        all_goals (rw [hneg])
      · have hz : (dgw (x + y).natAbs).length ≠ 0 := fun h => h0 (by have := dgw_len0.1 h; omega)
        have hsg : decide (x < 0) = decide (x + y < 0) := by rw [decide_eq_decide]; omega
        refine fn_go hmo Try.func148 (by kernel_rfl) [(15, Hint.val (AV.v (Value.bool false))), (35, Hint.call (Inst.mk [wA (dgw x.natAbs), wA (dgw y.natAbs)] [] (AV.tup [wA (dgw (x + y).natAbs), bz true]) [])), (64, Hint.val (AV.v (Value.bool false)))] [] [true = true, [AV.v (Value.bool true), AV.v (Value.int IntKind.u8 c), AV.v (Value.bool (decide (x < (0 : Int)))), AV.lst (dgw (x + y).natAbs).length (wL (dgw (x + y).natAbs))] = [AV.v (Value.bool true), AV.v (Value.int IntKind.u8 c), AV.v (Value.bool (decide (x + y < (0 : Int)))), AV.lst (dgw (x + y).natAbs).length (wL (dgw (x + y).natAbs))], (decide (y < (0 : Int)) == decide (x < (0 : Int))) = false, ((dgw x.natAbs).length = (dgw x.natAbs).length ∧ wL (dgw x.natAbs) = wL (dgw x.natAbs)) ∧ ((dgw y.natAbs).length = (dgw y.natAbs).length ∧ wL (dgw y.natAbs) = wL (dgw y.natAbs)) ∧ True, FnOk Try.prog (173 : Nat) (Inst.mk [AV.lst (dgw x.natAbs).length (wL (dgw x.natAbs)), AV.lst (dgw y.natAbs).length (wL (dgw y.natAbs))] [] (AV.tup [AV.lst (dgw (x + y).natAbs).length (wL (dgw (x + y).natAbs)), AV.v (Value.bool true)]) []), ((↑(dgw (x + y).natAbs).length : Int) == (0 : Int)) = false] (by kernel_rfl) ?_
        ((repeat' refine And.intro ?_ ?_); (with_reducible rfl); rotate_left 1; (with_reducible assumption); (iterate 4 (with_reducible rfl)); (exact True.intro); ((show FnOk _ _ _; assumption)); ((with_reducible refine Bn ?_; omega)); (exact True.intro))
        all_goals (rw [hsg])
    · have e0 := sub_no wx wy (by omega) (by omega) (by rw [vx, vy]; omega)
      have e1 := sub_ok wy wx (by omega) (by omega) (by rw [vx, vy]; omega)
      have hab : y.natAbs - x.natAbs = (x + y).natAbs := by omega
      rw [vx, vy, hab] at e1
      have hz : (dgw (x + y).natAbs).length ≠ 0 := fun h => by have := dgw_len0.1 h; omega
      have hsg : decide (y < 0) = decide (x + y < 0) := by rw [decide_eq_decide]; omega
      refine fn_go hmo Try.func148 (by kernel_rfl) [(15, Hint.val (AV.v (Value.bool false))), (35, Hint.call (Inst.mk [wA (dgw x.natAbs), wA (dgw y.natAbs)] [] (AV.tup [wA [], bz false]) [])), (50, Hint.call (Inst.mk [wA (dgw y.natAbs), wA (dgw x.natAbs)] [] (AV.tup [wA (dgw (x + y).natAbs), bz true]) [])), (64, Hint.val (AV.v (Value.bool false)))] [] [true = true, [AV.v (Value.bool true), AV.v (Value.int IntKind.u8 c), AV.v (Value.bool (decide (y < (0 : Int)))), AV.lst (dgw (x + y).natAbs).length (wL (dgw (x + y).natAbs))] = [AV.v (Value.bool true), AV.v (Value.int IntKind.u8 c), AV.v (Value.bool (decide (x + y < (0 : Int)))), AV.lst (dgw (x + y).natAbs).length (wL (dgw (x + y).natAbs))], (decide (y < (0 : Int)) == decide (x < (0 : Int))) = false, ((dgw x.natAbs).length = (dgw x.natAbs).length ∧ wL (dgw x.natAbs) = wL (dgw x.natAbs)) ∧ ((dgw y.natAbs).length = (dgw y.natAbs).length ∧ wL (dgw y.natAbs) = wL (dgw y.natAbs)) ∧ True, FnOk Try.prog (173 : Nat) (Inst.mk [AV.lst (dgw x.natAbs).length (wL (dgw x.natAbs)), AV.lst (dgw y.natAbs).length (wL (dgw y.natAbs))] [] (AV.tup [AV.lst (0 : Nat) [], AV.v (Value.bool false)]) []), ((dgw y.natAbs).length = (dgw y.natAbs).length ∧ wL (dgw y.natAbs) = wL (dgw y.natAbs)) ∧ ((dgw x.natAbs).length = (dgw x.natAbs).length ∧ wL (dgw x.natAbs) = wL (dgw x.natAbs)) ∧ True, FnOk Try.prog (173 : Nat) (Inst.mk [AV.lst (dgw y.natAbs).length (wL (dgw y.natAbs)), AV.lst (dgw x.natAbs).length (wL (dgw x.natAbs))] [] (AV.tup [AV.lst (dgw (x + y).natAbs).length (wL (dgw (x + y).natAbs)), AV.v (Value.bool true)]) []), ((↑(dgw (x + y).natAbs).length : Int) == (0 : Int)) = false] (by kernel_rfl) ?_
      ((repeat' refine And.intro ?_ ?_); (with_reducible rfl); rotate_left 1; (with_reducible assumption); (iterate 4 (with_reducible rfl)); (exact True.intro); ((show FnOk _ _ _; assumption)); (iterate 4 (with_reducible rfl)); (exact True.intro); ((show FnOk _ _ _; assumption)); ((with_reducible refine Bn ?_; omega)); (exact True.intro))
      all_goals (rw [hsg])
/-! ### Join -/
def orU8 (c d : Int) : Int := ((BitVec.ofInt 8 c ||| BitVec.ofInt 8 d).toNat : Int)
theorem exJoin_ok (c d : Int) (x y : Int) (hx : x.natAbs < roomN) (hy : y.natAbs < roomN) : FnOk Try.prog 126 ⟨[.ptr 1000 0, .ptr 1001 0], [exO 1000 c x, exO 1001 d y], bz (decide ((x + y).natAbs < roomN)), [if (x + y).natAbs < roomN then exO 1000 (orU8 c d) (x + y) else exO 1000 c x, exO 1001 d y]⟩ := by
  have e1 := is_ok c x 1000 (.inl rfl)
  have e2 := is_ok d y 1001 (.inr rfl)
  have e3 := put_ok c x y hx hy
  by_cases h : (x + y).natAbs < roomN
  · rw [if_pos h, decide_eq_true h] at e3
    rw [if_pos h, decide_eq_true h]
    refine fn_go hmo Try.func126 (by kernel_rfl) [(6, Hint.call (Inst.mk [AV.ptr (1000 : Nat) (0 : Nat)] [exO (1000 : Nat) c x] (bz true) [exO (1000 : Nat) c x])), (10, Hint.call (Inst.mk [AV.ptr (1001 : Nat) (0 : Nat)] [exO (1001 : Nat) d y] (bz true) [exO (1001 : Nat) d y])), (23, Hint.call (Inst.mk [AV.ptr (1000 : Nat) (0 : Nat), bz (decide (y < (0 : Int))), wA (dgw y.natAbs)] [exO (1000 : Nat) c x] (bz true) [exO (1000 : Nat) c (x + y)])), (34, Hint.val (AV.v (Value.int IntKind.u8 (↑(BitVec.ofInt (8 : Nat) c ||| BitVec.ofInt (8 : Nat) d).toNat : Int))))] [] [true = true, [AV.v (Value.bool true), AV.v (Value.int IntKind.u8 (↑(BitVec.ofInt (8 : Nat) c ||| BitVec.ofInt (8 : Nat) d).toNat : Int)), AV.v (Value.bool (decide (x + y < (0 : Int)))), AV.lst (dgw (x + y).natAbs).length (wL (dgw (x + y).natAbs))] = [AV.v (Value.bool true), AV.v (Value.int IntKind.u8 (orU8 c d)), AV.v (Value.bool (decide (x + y < (0 : Int)))), AV.lst (dgw (x + y).natAbs).length (wL (dgw (x + y).natAbs))], [AV.v (Value.bool true), AV.v (Value.int IntKind.u8 d), AV.v (Value.bool (decide (y < (0 : Int)))), AV.lst (dgw y.natAbs).length (wL (dgw y.natAbs))] = [AV.v (Value.bool true), AV.v (Value.int IntKind.u8 d), AV.v (Value.bool (decide (y < (0 : Int)))), AV.lst (dgw y.natAbs).length (wL (dgw y.natAbs))], ((1000 : Nat) = (1000 : Nat) ∧ (0 : Nat) = (0 : Nat)) ∧ True, FnOk Try.prog (144 : Nat) (Inst.mk [AV.ptr (1000 : Nat) (0 : Nat)] [((1000 : Nat), AObj.cells (196 : TypeId) [AV.v (Value.bool true), AV.v (Value.int IntKind.u8 c), AV.v (Value.bool (decide (x < (0 : Int)))), AV.lst (dgw x.natAbs).length (wL (dgw x.natAbs))])] (AV.v (Value.bool true)) [((1000 : Nat), AObj.cells (196 : TypeId) [AV.v (Value.bool true), AV.v (Value.int IntKind.u8 c), AV.v (Value.bool (decide (x < (0 : Int)))), AV.lst (dgw x.natAbs).length (wL (dgw x.natAbs))])]), [AV.v (Value.bool true), AV.v (Value.int IntKind.u8 c), AV.v (Value.bool (decide (x < (0 : Int)))), AV.lst (dgw x.natAbs).length (wL (dgw x.natAbs))] = [AV.v (Value.bool true), AV.v (Value.int IntKind.u8 c), AV.v (Value.bool (decide (x < (0 : Int)))), AV.lst (dgw x.natAbs).length (wL (dgw x.natAbs))], ((1001 : Nat) = (1001 : Nat) ∧ (0 : Nat) = (0 : Nat)) ∧ True, FnOk Try.prog (144 : Nat) (Inst.mk [AV.ptr (1001 : Nat) (0 : Nat)] [((1001 : Nat), AObj.cells (196 : TypeId) [AV.v (Value.bool true), AV.v (Value.int IntKind.u8 d), AV.v (Value.bool (decide (y < (0 : Int)))), AV.lst (dgw y.natAbs).length (wL (dgw y.natAbs))])] (AV.v (Value.bool true)) [((1001 : Nat), AObj.cells (196 : TypeId) [AV.v (Value.bool true), AV.v (Value.int IntKind.u8 d), AV.v (Value.bool (decide (y < (0 : Int)))), AV.lst (dgw y.natAbs).length (wL (dgw y.natAbs))])]), [AV.v (Value.bool true), AV.v (Value.int IntKind.u8 d), AV.v (Value.bool (decide (y < (0 : Int)))), AV.lst (dgw y.natAbs).length (wL (dgw y.natAbs))] = [AV.v (Value.bool true), AV.v (Value.int IntKind.u8 d), AV.v (Value.bool (decide (y < (0 : Int)))), AV.lst (dgw y.natAbs).length (wL (dgw y.natAbs))], ((1000 : Nat) = (1000 : Nat) ∧ (0 : Nat) = (0 : Nat)) ∧ decide (y < (0 : Int)) = decide (y < (0 : Int)) ∧ ((dgw y.natAbs).length = (dgw y.natAbs).length ∧ wL (dgw y.natAbs) = wL (dgw y.natAbs)) ∧ True, FnOk Try.prog (148 : Nat) (Inst.mk [AV.ptr (1000 : Nat) (0 : Nat), AV.v (Value.bool (decide (y < (0 : Int)))), AV.lst (dgw y.natAbs).length (wL (dgw y.natAbs))] [((1000 : Nat), AObj.cells (196 : TypeId) [AV.v (Value.bool true), AV.v (Value.int IntKind.u8 c), AV.v (Value.bool (decide (x < (0 : Int)))), AV.lst (dgw x.natAbs).length (wL (dgw x.natAbs))])] (AV.v (Value.bool true)) [((1000 : Nat), AObj.cells (196 : TypeId) [AV.v (Value.bool true), AV.v (Value.int IntKind.u8 c), AV.v (Value.bool (decide (x + y < (0 : Int)))), AV.lst (dgw (x + y).natAbs).length (wL (dgw (x + y).natAbs))])]), [AV.v (Value.bool true), AV.v (Value.int IntKind.u8 c), AV.v (Value.bool (decide (x < (0 : Int)))), AV.lst (dgw x.natAbs).length (wL (dgw x.natAbs))] = [AV.v (Value.bool true), AV.v (Value.int IntKind.u8 c), AV.v (Value.bool (decide (x < (0 : Int)))), AV.lst (dgw x.natAbs).length (wL (dgw x.natAbs))], IntKind.u8.wrap (↑(BitVec.ofInt (8 : Nat) c ||| BitVec.ofInt (8 : Nat) d).toNat : Int) = (↑(BitVec.ofInt (8 : Nat) c ||| BitVec.ofInt (8 : Nat) d).toNat : Int)] (by kernel_rfl) ?_
    ((repeat' refine And.intro ?_ ?_); (with_reducible rfl); (exact rfl); (iterate 3 (with_reducible rfl)); (exact True.intro); ((show FnOk _ _ _; assumption)); (iterate 3 (with_reducible rfl)); (exact True.intro); ((show FnOk _ _ _; assumption)); (iterate 6 (with_reducible rfl)); (exact True.intro); ((show FnOk _ _ _; assumption)); (with_reducible rfl); ((rw [IntKind.wrap_u8]; omega)); (exact True.intro))
    all_goals rfl
  · rw [if_neg h, decide_eq_false h] at e3
    rw [if_neg h, decide_eq_false h]
    refine fn_go hmo Try.func126 (by kernel_rfl) [(6, Hint.call (Inst.mk [AV.ptr (1000 : Nat) (0 : Nat)] [exO (1000 : Nat) c x] (bz true) [exO (1000 : Nat) c x])), (10, Hint.call (Inst.mk [AV.ptr (1001 : Nat) (0 : Nat)] [exO (1001 : Nat) d y] (bz true) [exO (1001 : Nat) d y])), (23, Hint.call (Inst.mk [AV.ptr (1000 : Nat) (0 : Nat), bz (decide (y < (0 : Int))), wA (dgw y.natAbs)] [exO (1000 : Nat) c x] (bz false) [exO (1000 : Nat) c x]))] [] [false = false, [AV.v (Value.bool true), AV.v (Value.int IntKind.u8 c), AV.v (Value.bool (decide (x < (0 : Int)))), AV.lst (dgw x.natAbs).length (wL (dgw x.natAbs))] = [AV.v (Value.bool true), AV.v (Value.int IntKind.u8 c), AV.v (Value.bool (decide (x < (0 : Int)))), AV.lst (dgw x.natAbs).length (wL (dgw x.natAbs))], [AV.v (Value.bool true), AV.v (Value.int IntKind.u8 d), AV.v (Value.bool (decide (y < (0 : Int)))), AV.lst (dgw y.natAbs).length (wL (dgw y.natAbs))] = [AV.v (Value.bool true), AV.v (Value.int IntKind.u8 d), AV.v (Value.bool (decide (y < (0 : Int)))), AV.lst (dgw y.natAbs).length (wL (dgw y.natAbs))], ((1000 : Nat) = (1000 : Nat) ∧ (0 : Nat) = (0 : Nat)) ∧ True, FnOk Try.prog (144 : Nat) (Inst.mk [AV.ptr (1000 : Nat) (0 : Nat)] [((1000 : Nat), AObj.cells (196 : TypeId) [AV.v (Value.bool true), AV.v (Value.int IntKind.u8 c), AV.v (Value.bool (decide (x < (0 : Int)))), AV.lst (dgw x.natAbs).length (wL (dgw x.natAbs))])] (AV.v (Value.bool true)) [((1000 : Nat), AObj.cells (196 : TypeId) [AV.v (Value.bool true), AV.v (Value.int IntKind.u8 c), AV.v (Value.bool (decide (x < (0 : Int)))), AV.lst (dgw x.natAbs).length (wL (dgw x.natAbs))])]), [AV.v (Value.bool true), AV.v (Value.int IntKind.u8 c), AV.v (Value.bool (decide (x < (0 : Int)))), AV.lst (dgw x.natAbs).length (wL (dgw x.natAbs))] = [AV.v (Value.bool true), AV.v (Value.int IntKind.u8 c), AV.v (Value.bool (decide (x < (0 : Int)))), AV.lst (dgw x.natAbs).length (wL (dgw x.natAbs))], ((1001 : Nat) = (1001 : Nat) ∧ (0 : Nat) = (0 : Nat)) ∧ True, FnOk Try.prog (144 : Nat) (Inst.mk [AV.ptr (1001 : Nat) (0 : Nat)] [((1001 : Nat), AObj.cells (196 : TypeId) [AV.v (Value.bool true), AV.v (Value.int IntKind.u8 d), AV.v (Value.bool (decide (y < (0 : Int)))), AV.lst (dgw y.natAbs).length (wL (dgw y.natAbs))])] (AV.v (Value.bool true)) [((1001 : Nat), AObj.cells (196 : TypeId) [AV.v (Value.bool true), AV.v (Value.int IntKind.u8 d), AV.v (Value.bool (decide (y < (0 : Int)))), AV.lst (dgw y.natAbs).length (wL (dgw y.natAbs))])]), [AV.v (Value.bool true), AV.v (Value.int IntKind.u8 d), AV.v (Value.bool (decide (y < (0 : Int)))), AV.lst (dgw y.natAbs).length (wL (dgw y.natAbs))] = [AV.v (Value.bool true), AV.v (Value.int IntKind.u8 d), AV.v (Value.bool (decide (y < (0 : Int)))), AV.lst (dgw y.natAbs).length (wL (dgw y.natAbs))], ((1000 : Nat) = (1000 : Nat) ∧ (0 : Nat) = (0 : Nat)) ∧ decide (y < (0 : Int)) = decide (y < (0 : Int)) ∧ ((dgw y.natAbs).length = (dgw y.natAbs).length ∧ wL (dgw y.natAbs) = wL (dgw y.natAbs)) ∧ True, FnOk Try.prog (148 : Nat) (Inst.mk [AV.ptr (1000 : Nat) (0 : Nat), AV.v (Value.bool (decide (y < (0 : Int)))), AV.lst (dgw y.natAbs).length (wL (dgw y.natAbs))] [((1000 : Nat), AObj.cells (196 : TypeId) [AV.v (Value.bool true), AV.v (Value.int IntKind.u8 c), AV.v (Value.bool (decide (x < (0 : Int)))), AV.lst (dgw x.natAbs).length (wL (dgw x.natAbs))])] (AV.v (Value.bool false)) [((1000 : Nat), AObj.cells (196 : TypeId) [AV.v (Value.bool true), AV.v (Value.int IntKind.u8 c), AV.v (Value.bool (decide (x < (0 : Int)))), AV.lst (dgw x.natAbs).length (wL (dgw x.natAbs))])]), [AV.v (Value.bool true), AV.v (Value.int IntKind.u8 c), AV.v (Value.bool (decide (x < (0 : Int)))), AV.lst (dgw x.natAbs).length (wL (dgw x.natAbs))] = [AV.v (Value.bool true), AV.v (Value.int IntKind.u8 c), AV.v (Value.bool (decide (x < (0 : Int)))), AV.lst (dgw x.natAbs).length (wL (dgw x.natAbs))]] (by kernel_rfl) ?_
    ((repeat' refine And.intro ?_ ?_); (iterate 5 (with_reducible rfl)); (exact True.intro); ((show FnOk _ _ _; assumption)); (iterate 3 (with_reducible rfl)); (exact True.intro); ((show FnOk _ _ _; assumption)); (iterate 6 (with_reducible rfl)); (exact True.intro); ((show FnOk _ _ _; assumption)); (with_reducible rfl); (exact True.intro))
end Go.Proofs.Ytfhmaincnlaapaa.Sy
