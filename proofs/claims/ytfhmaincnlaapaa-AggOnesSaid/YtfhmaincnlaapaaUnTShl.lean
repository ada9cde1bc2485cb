/-
  whole.Abs, nat.move, nat.Shl on trees.
  nat.Bits, nat.Noughts; exact's is, put, Join.
-/
import Derived.Test.YtfhmaincnlaapaaUnRefRead
import Derived.Test.YtfhmaincnlaapaaUnTNat2
namespace Go.Proofs.Ytfhmaincnlaapaa.Sy
open Go.ChangeShapes Go.WideShapes Go.ChangeAt Go.RowKit
set_option linter.unusedVariables false
set_option linter.unusedSimpArgs false
/-! ### how many bits -/
def blen (n : Nat) : Nat := if h : n = 0 then 0 else blen (n / 2) + 1
termination_by n
decreasing_by omega
theorem blen_zero : blen 0 = 0 := by rw [blen]; simp
theorem blen_pos {n : Nat} (h : n ≠ 0) : blen n = blen (n / 2) + 1 := by rw [blen]; simp [h]
theorem blen_lt : ∀ (k n : Nat), n < 2 ^ k ↔ blen n ≤ k := by
  intro k
  induction k with
  | zero =>
    intro n
    by_cases h : n = 0
    · subst h; rw [blen_zero]; simp
    · rw [blen_pos h]; simp; omega
  | succ k ih =>
    intro n
    by_cases h : n = 0
    · subst h; rw [blen_zero]; simp; exact Nat.pow_pos (by decide)
    · rw [blen_pos h, Nat.add_le_add_iff_right, ← ih, Nat.pow_succ]; omega
theorem blen_shift (k : Nat) : ∀ {lo top : Nat}, lo < 2 ^ k → 0 < top → blen (lo + 2 ^ k * top) = k + blen top := by
  induction k with
  | zero => intro lo top h h2; simp at h; subst h; simp
  | succ k ih =>
    intro lo top h h2
    have hp : 0 < 2 ^ k * top := Nat.mul_pos (Nat.pow_pos (by decide)) h2
    have e : lo + 2 ^ (k + 1) * top = lo + 2 * (2 ^ k * top) := by rw [Nat.pow_succ]; congr 1; rw [Nat.mul_comm (2 ^ k) 2, Nat.mul_assoc]
    have hlt : lo / 2 < 2 ^ k := by rw [Nat.pow_succ] at h; omega
    rw [e, blen_pos (by omega), show (lo + 2 * (2 ^ k * top)) / 2 = lo / 2 + 2 ^ k * top by omega, ih hlt h2]; omega
def bitInv (v k : Nat) : AS := ⟨[(4, iz (k : Nat)), (5, u3 v)], [], 25, []⟩
theorem bits_loop (t : Nat) (ht : t ≤ 100000000) (i : {p : Nat × Nat // p.1 < 4294967296 ∧ p.2 + blen p.1 = t}) : LoopOk Try.prog (loopBody Try.f172 6) (bitInv i.1.1 i.1.2) (.exit 0) (bitInv 0 t) := by
  refine LoopOk.of hmo (fun i : {p : Nat × Nat // p.1 < 4294967296 ∧ p.2 + blen p.1 = t} => bitInv i.1.1 i.1.2) (fun i => i.1.1) (fun i => ?_) i
  obtain ⟨⟨v, k⟩, hv, hk⟩ := i
  simp only at hv hk
  by_cases h : v = 0
  · subst h
    rw [blen_zero] at hk
    refine Round.out [(18, Hint.val (AV.v (Value.int IntKind.u32 (0 : Int))))] [] [(↑((0 : Nat), k).snd : Int) = (↑t : Int), (↑((0 : Nat), k).fst : Int) = (↑(0 : Nat) : Int), (↑((0 : Nat), k).fst : Int) = (0 : Int)] (by kernel_rfl) ?_
    ((repeat' refine And.intro ?_ ?_); (omega); (with_reducible rfl); (omega); (exact True.intro))
  · rw [blen_pos h] at hk
    refine Round.on [(19, Hint.val (AV.v (Value.bool true))), (23, Hint.val (AV.v (Value.int IntKind.i64 (↑(k + (1 : Nat)) : Int)))), (21, Hint.val (AV.v (Value.int IntKind.u32 (↑(v / (2 : Nat)) : Int))))] [] ⟨(v / 2, k + 1), by show v / 2 < 4294967296; omega, by show k + 1 + blen (v / 2) = t; omega⟩ [(↑(k + (1 : Nat)) : Int) = (↑(v / (2 : Nat), k + (1 : Nat)).snd : Int), (↑(v / (2 : Nat)) : Int) = (↑(v / (2 : Nat), k + (1 : Nat)).fst : Int), decide ((0 : Int) < (↑(v, k).fst : Int)) = true, IntKind.i64.wrap ((↑(v, k).snd : Int) + (1 : Int)) = (↑(k + (1 : Nat)) : Int), (↑(v, k).fst : Int).fdiv ((2 : Int) ^ (1 : Nat)) = (↑(v / (2 : Nat)) : Int), (0 : Int) ≤ (1 : Int)] (by kernel_rfl) (by show v / 2 < v; omega) ?_
    ((repeat' refine And.intro ?_ ?_); (iterate 2 (with_reducible rfl)); ((with_reducible refine Dt ?_; omega)); (exact Wi _ (by omega)); (exact fdivN _ _ _ (by decide)); (omega); (exact True.intro))
theorem bits_ok {l : List Nat} (hl : l.length ≤ 1000000) (hd : Wd l) : FnOk Try.prog 172 ⟨[wA l], [], iz (blen (vw l) : Nat), []⟩ := by
  have h1 := size_ok l (by omega)
  have ht := take_tszW l hd
  have hle := tsz_le l
  by_cases h0 : tsz l = 0
  · have hz := (tsz_zeroW l).1 h0
    rw [hz, blen_zero]
    refine fn_go hmo Try.func172 (by kernel_rfl) [(7, Hint.call (Inst.mk [wA l] [] (iz (↑(tsz l) : Int)) [])), (9, Hint.val (AV.v (Value.bool true)))] [] [(0 : Int) = (↑(0 : Nat) : Int), (l.length = l.length ∧ wL l = wL l) ∧ True, FnOk Try.prog (143 : Nat) (Inst.mk [AV.lst l.length (wL l)] [] (AV.v (Value.int IntKind.i64 (↑(tsz l) : Int))) []), ((↑(tsz l) : Int) == (0 : Int)) = true] (by kernel_rfl) ?_
    ((repeat' refine And.intro ?_ ?_); (omega); (iterate 2 (with_reducible rfl)); (exact True.intro); ((show FnOk _ _ _; assumption)); ((with_reducible refine Be ?_; omega)); (exact True.intro))
  · obtain ⟨m, hm⟩ : ∃ m, tsz l = m + 1 := ⟨tsz l - 1, by omega⟩
    have hr := rd_wL l m (by omega)
    have hdl := dg_ltW l m hd
    have hv0 : vw l = vw (l.take m) + 4294967296 ^ m * dg l m := by
      have e := vd_partsW l (m + 1)
      have e2 : vw (l.drop (m + 1)) = 0 := by rw [← hm]; exact drop_tsz hd
      rw [e2, Nat.mul_zero, Nat.add_zero, vd_take_succW l m (by omega)] at e
      exact e
    have hlow : vw (l.take m) < 4294967296 ^ m := by
      have := vd_ltW (l.take m) fun d h => hd d (List.mem_of_mem_take h)
      rw [List.length_take, Nat.min_eq_left (by omega)] at this
      exact this
    have htop : 0 < dg l m := by
      rcases Nat.eq_zero_or_pos (dg l m) with hz | hz
      · exfalso
        rw [hz, Nat.mul_zero, Nat.add_zero] at hv0
        have e3 := dig_lenW (n := vw l) (k := m) (by rw [hv0]; exact hlow)
        rw [← ht, List.length_take] at e3
        omega
      · exact hz
    have hv : vw l = vw (l.take m) + 2 ^ (32 * m) * dg l m := by rw [hv0, Nat.pow_mul]
    have hb : blen (vw l) = 32 * m + blen (dg l m) := by
      rw [hv]
      refine blen_shift _ ?_ htop
      rw [Nat.pow_mul]; exact hlow
    have hbl : blen (dg l m) ≤ 32 := (blen_lt 32 _).1 (by omega)
    rw [hb]
    have h2 := bits_loop (32 * m + blen (dg l m)) (by omega) ⟨(dg l m, 32 * m), hdl, rfl⟩
    rw [hm] at h1
    refine fn_go hmo Try.func172 (by kernel_rfl) [(7, Hint.call (Inst.mk [wA l] [] (iz (↑(m + (1 : Nat)) : Int)) [])), (11, Hint.val (AV.v (Value.int IntKind.i64 (↑m : Int)))), (12, Hint.val (AV.v (Value.int IntKind.i64 (↑((32 : Nat) * m) : Int)))), (15, Hint.val (AV.v (Value.int IntKind.i64 (↑m : Int)))), (17, Hint.val (u3 (dg l m)))] [(6, ⟨.exit 0, bitInv (dg l m) (32 * m), bitInv 0 (32 * m + blen (dg l m))⟩)] [(↑((32 : Nat) * m + blen (dg l m)) : Int) = (↑((32 : Nat) * m + blen (dg l m)) : Int), (l.length = l.length ∧ wL l = wL l) ∧ True, FnOk Try.prog (143 : Nat) (Inst.mk [AV.lst l.length (wL l)] [] (AV.v (Value.int IntKind.i64 (↑(m + (1 : Nat)) : Int))) []), IntKind.i64.wrap ((↑(m + (1 : Nat)) : Int) - (1 : Int)) = (↑m : Int), IntKind.i64.wrap ((32 : Int) * (↑m : Int)) = (↑((32 : Nat) * m) : Int), IntKind.i64.wrap ((↑(m + (1 : Nat)) : Int) - (1 : Int)) = (↑m : Int), (0 : Int) ≤ (↑m : Int) ∧ (↑m : Int) < (↑l.length : Int), rd1 false (1 : Nat) (wL l) ((↑m : Int).toNat * (1 : Nat)) = some (AV.v (Value.int IntKind.u32 (↑(dg l m) : Int))), LoopOk Try.prog (loopBody Try.f172 (6 : Nat)) (bitInv (dg l m) ((32 : Nat) * m)) (Exit.exit (0 : Nat)) (bitInv (0 : Nat) ((32 : Nat) * m + blen (dg l m))), (↑((32 : Nat) * m) : Int) = (↑((32 : Nat) * m) : Int), (↑(dg l m) : Int) = (↑(dg l m) : Int)] (by kernel_rfl) ?_
    ((repeat' refine And.intro ?_ ?_); (iterate 3 (with_reducible rfl)); (exact True.intro); ((show FnOk _ _ _; assumption)); ((rw [Wi _ (by omega)]; omega)); (exact Wi _ (by omega)); ((rw [Wi _ (by omega)]; omega)); (iterate 2 (omega)); ((show rd1 _ _ _ _ = _; assumption)); (with_reducible assumption); (iterate 2 (with_reducible rfl)); (exact True.intro))
/-! ### how often a number can be halved -/
def tz (n : Nat) : Nat := if h : n % 2 = 1 ∨ n = 0 then 0 else tz (n / 2) + 1
termination_by n
decreasing_by omega
theorem tz_odd {n : Nat} (h : n % 2 = 1) : tz n = 0 := by rw [tz]; simp [h]
theorem tz_even {n : Nat} (h : n % 2 = 0) (h0 : n ≠ 0) : tz n = tz (n / 2) + 1 := by rw [tz]; simp [h, h0]
theorem tz_lt : ∀ (k n : Nat), n < 2 ^ (k + 1) → 0 < n → tz n ≤ k := by
  intro k
  induction k with
  | zero => intro n h h0; have : n = 1 := by simp at h; omega
            subst this; rw [tz_odd rfl]; exact Nat.le_refl 0
  | succ k ih =>
    intro n h h0
    by_cases ho : n % 2 = 1
    · rw [tz_odd ho]; omega
    · rw [tz_even (by omega) (by omega)]
      have := ih (n / 2) (by rw [Nat.pow_succ] at h; omega) (by omega)
      omega
def ntInv1 (l : List Nat) (i v k : Nat) : AS := ⟨[(4, u3 v), (5, iz (k : Nat))], [], 26, []⟩
theorem nt_loop1 (l : List Nat) (j t : Nat) (ht : t ≤ 100000000) (i : {p : Nat × Nat // 0 < p.1 ∧ p.1 < 4294967296 ∧ p.2 + tz p.1 = t}) : LoopOk Try.prog (loopBody Try.f149 6) (ntInv1 l j i.1.1 i.1.2) (.exit 2) ⟨[(5, iz (t : Nat))], [], 26, []⟩ := by
  refine LoopOk.of hmo (fun i : {p : Nat × Nat // 0 < p.1 ∧ p.1 < 4294967296 ∧ p.2 + tz p.1 = t} => ntInv1 l j i.1.1 i.1.2) (fun i => i.1.1) (fun i => ?_) i
  obtain ⟨⟨v, k⟩, h0, hv, hk⟩ := i
  simp only at hv hk h0
  by_cases h : v % 2 = 1
  · rw [tz_odd h] at hk
    refine Round.out [(18, Hint.val (AV.v (Value.int IntKind.u32 (↑(v % (2 : Nat)) : Int)))), (19, Hint.val (AV.v (Value.bool false)))] [] [(↑(v, k).snd : Int) = (↑t : Int), (↑(v, k).fst : Int).tmod (2 : Int) = (↑(v % (2 : Nat)) : Int), (2 : Int) ≠ (0 : Int), ((↑(v % (2 : Nat)) : Int) == (0 : Int)) = false] (by kernel_rfl) ?_
    ((repeat' refine And.intro ?_ ?_); (omega); (exact tmodN _ _); (omega); ((with_reducible refine Bn ?_; omega)); (exact True.intro))
  · rw [tz_even (by omega) (by omega)] at hk
    refine Round.on [(18, Hint.val (AV.v (Value.int IntKind.u32 (↑(v % (2 : Nat)) : Int)))), (19, Hint.val (AV.v (Value.bool true))), (21, Hint.val (AV.v (Value.int IntKind.u32 (↑(v / (2 : Nat)) : Int)))), (23, Hint.val (AV.v (Value.int IntKind.i64 (↑(k + (1 : Nat)) : Int))))] [] ⟨(v / 2, k + 1), by show 0 < v / 2; omega, by show v / 2 < 4294967296; omega, by show k + 1 + tz (v / 2) = t; omega⟩ [(↑(v / (2 : Nat)) : Int) = (↑(v / (2 : Nat), k + (1 : Nat)).fst : Int), (↑(k + (1 : Nat)) : Int) = (↑(v / (2 : Nat), k + (1 : Nat)).snd : Int), (↑(v, k).fst : Int).tmod (2 : Int) = (↑(v % (2 : Nat)) : Int), (2 : Int) ≠ (0 : Int), ((↑(v % (2 : Nat)) : Int) == (0 : Int)) = true, (↑(v, k).fst : Int).fdiv ((2 : Int) ^ (1 : Nat)) = (↑(v / (2 : Nat)) : Int), (0 : Int) ≤ (1 : Int), IntKind.i64.wrap ((↑(v, k).snd : Int) + (1 : Int)) = (↑(k + (1 : Nat)) : Int)] (by kernel_rfl) (by show v / 2 < v; omega) ?_
    ((repeat' refine And.intro ?_ ?_); (iterate 2 (with_reducible rfl)); (exact tmodN _ _); (omega); ((with_reducible refine Be ?_; omega)); (exact fdivN _ _ _ (by decide)); (omega); (exact Wi _ (by omega)); (exact True.intro))
/-- how many words at the low end are nought -/
def lz : List Nat → Nat
  | [] => 0
  | d :: l => if d = 0 then lz l + 1 else 0
theorem lz_at : ∀ {l : List Nat}, lz l < l.length → dg l (lz l) ≠ 0
  | [], h => absurd h (by simp)
  | d :: l, h => by
    by_cases hd : d = 0
    · have e : lz (d :: l) = lz l + 1 := by simp [lz, hd]
      rw [e] at h ⊢
      exact lz_at (l := l) (by simpa using h)
    · have e : lz (d :: l) = 0 := by simp [lz, hd]
      rw [e]; exact hd
theorem lz_low : ∀ {l : List Nat} {i : Nat}, i < lz l → dg l i = 0
  | [], i, h => absurd h (by simp [lz])
  | d :: l, i, h => by
    by_cases hd : d = 0
    · have e : lz (d :: l) = lz l + 1 := by simp [lz, hd]
      rw [e] at h
      cases i with
      | zero => exact hd
      | succ i => exact lz_low (l := l) (by omega)
    · have e : lz (d :: l) = 0 := by simp [lz, hd]
      omega
theorem lz_le : ∀ (l : List Nat), lz l ≤ l.length
  | [] => Nat.le_refl _
  | d :: l => by have := lz_le l; unfold lz; split <;> simp; omega
def ntInv (l : List Nat) (i : Nat) : AS := ⟨[(0, wA l), (6, wA l), (7, iz (l.length : Nat)), (8, iz (i : Nat))], [], 26, []⟩
theorem nt_loop {l : List Nat} (hl : l.length ≤ 1000000) (hd : Wd l) (hz : lz l < l.length) (i : {i : Nat // i ≤ lz l}) : LoopOk Try.prog (loopBody Try.f149 2) (ntInv l i.1) .ret ⟨[(2, iz (32 * lz l + tz (dg l (lz l)) : Nat))], [], 26, []⟩ := by
  refine LoopOk.of hmo (fun i : {i : Nat // i ≤ lz l} => ntInv l i.1) (fun i => l.length - i.1) (fun i => ?_) i
  obtain ⟨i, hi⟩ := i
  have hr := rd_wL l i (by omega)
  have hdl := dg_ltW l i hd
  rcases Nat.lt_or_eq_of_le hi with hlt | rfl
  · have h0 := lz_low hlt
    refine Round.on [(9, Hint.val (AV.v (Value.bool true))), (12, Hint.val (u3 (dg l i))), (14, Hint.val (AV.v (Value.bool true))), (25, Hint.val (AV.v (Value.int IntKind.i64 (↑(i + (1 : Nat)) : Int))))] [] ⟨i + 1, hlt⟩ [l.length = l.length ∧ wL l = wL l, l.length = l.length ∧ wL l = wL l, (↑l.length : Int) = (↑l.length : Int), (↑(i + (1 : Nat)) : Int) = (↑(i + (1 : Nat)) : Int), decide ((↑i : Int) < (↑l.length : Int)) = true, (0 : Int) ≤ (↑i : Int) ∧ (↑i : Int) < (↑l.length : Int), rd1 false (1 : Nat) (wL l) ((↑i : Int).toNat * (1 : Nat)) = some (AV.v (Value.int IntKind.u32 (↑(dg l i) : Int))), ((↑(dg l i) : Int) == (0 : Int)) = true, IntKind.i64.wrap ((↑i : Int) + (1 : Int)) = (↑(i + (1 : Nat)) : Int)] (by kernel_rfl) (by show l.length - (i + 1) < l.length - i; omega) ?_
    ((repeat' refine And.intro ?_ ?_); (iterate 6 (with_reducible rfl)); ((with_reducible refine Dt ?_; omega)); (iterate 2 (omega)); ((show rd1 _ _ _ _ = _; assumption)); ((with_reducible refine Be ?_; omega)); (exact Wi _ (by omega)); (exact True.intro))
  · have h0 := lz_at hz
    have htz := tz_lt 31 (dg l (lz l)) (by omega) (by omega)
    have h1 := nt_loop1 l (lz l) (32 * lz l + tz (dg l (lz l))) (by omega) ⟨(dg l (lz l), 32 * lz l), by show 0 < _; omega, hdl, rfl⟩
    refine Round.out [(9, Hint.val (AV.v (Value.bool true))), (12, Hint.val (u3 (dg l (lz l)))), (14, Hint.val (AV.v (Value.bool false))), (16, Hint.val (AV.v (Value.int IntKind.i64 (↑((32 : Nat) * lz l) : Int))))] [(6, ⟨.exit 2, ntInv1 l (lz l) (dg l (lz l)) (32 * lz l), ⟨[(5, iz (32 * lz l + tz (dg l (lz l)) : Nat))], [], 26, []⟩⟩)] [(↑((32 : Nat) * lz l + tz (dg l (lz l))) : Int) = (↑((32 : Nat) * lz l + tz (dg l (lz l))) : Int), decide ((↑(lz l) : Int) < (↑l.length : Int)) = true, (0 : Int) ≤ (↑(lz l) : Int) ∧ (↑(lz l) : Int) < (↑l.length : Int), rd1 false (1 : Nat) (wL l) ((↑(lz l) : Int).toNat * (1 : Nat)) = some (AV.v (Value.int IntKind.u32 (↑(dg l (lz l)) : Int))), ((↑(dg l (lz l)) : Int) == (0 : Int)) = false, IntKind.i64.wrap ((32 : Int) * (↑(lz l) : Int)) = (↑((32 : Nat) * lz l) : Int), LoopOk Try.prog (loopBody Try.f149 (6 : Nat)) (ntInv1 l (lz l) (dg l (lz l)) ((32 : Nat) * lz l)) (Exit.exit (2 : Nat)) (AS.mk [((5 : Nat), AV.v (Value.int IntKind.i64 (↑((32 : Nat) * lz l + tz (dg l (lz l))) : Int)))] [] (26 : Nat) []), (↑(dg l (lz l)) : Int) = (↑(dg l (lz l)) : Int), (↑((32 : Nat) * lz l) : Int) = (↑((32 : Nat) * lz l) : Int)] (by kernel_rfl) ?_
    ((repeat' refine And.intro ?_ ?_); (with_reducible rfl); ((with_reducible refine Dt ?_; omega)); (iterate 2 (omega)); ((show rd1 _ _ _ _ = _; assumption)); ((with_reducible refine Bn ?_; omega)); (exact Wi _ (by omega)); ((show LoopOk _ _ _ _ _; assumption)); (iterate 2 (with_reducible rfl)); (exact True.intro))
theorem noughts_ok {l : List Nat} (hl : l.length ≤ 1000000) (hd : Wd l) (hz : l = [] ∨ lz l < l.length) : ∃ n : Nat, n / 32 = lz l ∧ n ≤ 100000000 ∧ FnOk Try.prog 149 ⟨[wA l], [], iz (n : Nat), []⟩ := by
  rcases hz with rfl | hz
  · refine ⟨0, rfl, by decide, ?_⟩
    have h1 : LoopOk Try.prog (loopBody Try.f149 2) (ntInv [] 0) (.exit 0) ⟨[], [], 26, []⟩ := by
      refine LoopOk.of hmo (fun i : Unit => ntInv [] 0) (fun i => 0) (fun i => ?_) ()
      refine Round.out [] [] [] (by kernel_rfl) ?_
      ((repeat' refine And.intro ?_ ?_); (exact True.intro))
    refine fn_go hmo Try.func149 (by kernel_rfl) [(7, Hint.val (AV.v (Value.int IntKind.i64 (0 : Int))))] [(2, ⟨.exit 0, ntInv [] 0, ⟨[], [], 26, []⟩⟩)] [(0 : Int) = (↑(0 : Nat) : Int), (↑(0 : Nat) : Int) = (0 : Int), LoopOk Try.prog (loopBody Try.f149 (2 : Nat)) (ntInv [] (0 : Nat)) (Exit.exit (0 : Nat)) (AS.mk [] [] (26 : Nat) []), (0 : Nat) = (0 : Nat) ∧ ([] : List AV) = [], (0 : Nat) = (0 : Nat) ∧ ([] : List AV) = [], (0 : Int) = (↑(0 : Nat) : Int), (0 : Int) = (↑(0 : Nat) : Int)] (by kernel_rfl) ?_
    ((repeat' refine And.intro ?_ ?_); (iterate 2 (omega)); (with_reducible assumption); (iterate 4 (with_reducible rfl)); (iterate 2 (omega)); (exact True.intro))
  · have h1 := nt_loop hl hd hz ⟨0, Nat.zero_le _⟩
    have h0 := lz_at hz
    have hdl := dg_ltW l (lz l) hd
    have htz := tz_lt 31 (dg l (lz l)) (by omega) (by omega)
    refine ⟨32 * lz l + tz (dg l (lz l)), by omega, by omega, ?_⟩
    refine fn_go hmo Try.func149 (by kernel_rfl) [] [(2, ⟨.ret, ntInv l 0, ⟨[(2, iz (32 * lz l + tz (dg l (lz l)) : Nat))], [], 26, []⟩⟩)] [(↑((32 : Nat) * lz l + tz (dg l (lz l))) : Int) = (↑((32 : Nat) * lz l + tz (dg l (lz l))) : Int), LoopOk Try.prog (loopBody Try.f149 (2 : Nat)) (ntInv l (0 : Nat)) Exit.ret (AS.mk [((2 : Nat), AV.v (Value.int IntKind.i64 (↑((32 : Nat) * lz l + tz (dg l (lz l))) : Int)))] [] (26 : Nat) []), l.length = l.length ∧ wL l = wL l, l.length = l.length ∧ wL l = wL l, (↑l.length : Int) = (↑l.length : Int), (0 : Int) = (↑(0 : Nat) : Int)] (by kernel_rfl) ?_
    ((repeat' refine And.intro ?_ ?_); (with_reducible rfl); ((show LoopOk _ _ _ _ _; assumption)); (iterate 5 (with_reducible rfl)); (omega); (exact True.intro))
/-! ### exact.Sum -/
def exO (q : Nat) (came : Int) (x : Int) : Nat × AObj := (q, .cells 196 [bz true, .v (.int .u8 came), bz (decide (x < 0)), wA (dgw x.natAbs)])
theorem is_ok (c : Int) (x : Int) (q : Nat) (hq : q = 1000 ∨ q = 1001) : FnOk Try.prog 144 ⟨[.ptr q 0], [exO q c x], bz true, [exO q c x]⟩ := by
  rcases hq with rfl | rfl
  · refine fn_go hmo Try.func144 (by kernel_rfl) [] [] [true = true, [AV.v (Value.bool true), AV.v (Value.int IntKind.u8 c), AV.v (Value.bool (decide (x < (0 : Int)))), AV.lst (dgw x.natAbs).length (wL (dgw x.natAbs))] = [AV.v (Value.bool true), AV.v (Value.int IntKind.u8 c), AV.v (Value.bool (decide (x < (0 : Int)))), AV.lst (dgw x.natAbs).length (wL (dgw x.natAbs))]] (by kernel_rfl) ?_
    ((repeat' refine And.intro ?_ ?_); (iterate 2 (with_reducible rfl)); (exact True.intro))
  · refine fn_go hmo Try.func144 (by kernel_rfl) [] [] [true = true, [AV.v (Value.bool true), AV.v (Value.int IntKind.u8 c), AV.v (Value.bool (decide (x < (0 : Int)))), AV.lst (dgw x.natAbs).length (wL (dgw x.natAbs))] = [AV.v (Value.bool true), AV.v (Value.int IntKind.u8 c), AV.v (Value.bool (decide (x < (0 : Int)))), AV.lst (dgw x.natAbs).length (wL (dgw x.natAbs))]] (by kernel_rfl) ?_
    ((repeat' refine And.intro ?_ ?_); (iterate 2 (with_reducible rfl)); (exact True.intro))
theorem Wd_dg (n : Nat) : Wd (dgw n) := dig_ltW n
theorem dgw_small {n : Nat} (h : n < roomN) : (dgw n).length ≤ 70 := dig_lenW (by
  have e : roomN = 4294967296 ^ 70 := by unfold roomN roomK; rw [p2_mul, show (2 : Nat) ^ 32 = 4294967296 from rfl]
  rw [← e]; exact h)
theorem room_bits (n : Nat) : n < roomN ↔ blen n ≤ 2240 := blen_lt roomK n
theorem dgw_len0 {n : Nat} : (dgw n).length = 0 ↔ n = 0 := by
  constructor
  · intro h
    exact Decidable.byContradiction fun h0 => by rw [dig_posW h0] at h; simp at h
  · intro h; subst h; rw [dig_zeroW]; rfl
/-! ### Join -/
end Go.Proofs.Ytfhmaincnlaapaa.Sy
namespace Go.Proofs.Ytfhmaincnlaapaa.Sy
open Go.ChangeShapes Go.WideShapes Go.ChangeAt Go.RowKit
set_option linter.unusedVariables false
set_option linter.unusedSimpArgs false
theorem abs_ok {a : Int} (ha : I64 a) : FnOk Try.prog 82 ⟨[iz a], [], uz (a.natAbs : Nat), []⟩ := by
  unfold I64 at ha
  by_cases h : a < 0
  · refine fn_go hmo Try.func82 (by kernel_rfl) [(4, Hint.val (AV.v (Value.bool true))), (6, Hint.val (AV.v (Value.int IntKind.i64 (a + (1 : Int))))), (7, Hint.val (AV.v (Value.int IntKind.i64 ((0 : Int) - (a + (1 : Int)))))), (8, Hint.val (AV.v (Value.int IntKind.u64 ((0 : Int) - (a + (1 : Int)))))), (9, Hint.val (AV.v (Value.int IntKind.u64 ((0 : Int) - (a + (1 : Int)) + (1 : Int)))))] [] [(0 : Int) - (a + (1 : Int)) + (1 : Int) = (↑a.natAbs : Int), decide (a < (0 : Int)) = true, IntKind.i64.wrap (a + (1 : Int)) = a + (1 : Int), IntKind.i64.wrap ((0 : Int) - (a + (1 : Int))) = (0 : Int) - (a + (1 : Int)), IntKind.u64.wrap ((0 : Int) - (a + (1 : Int))) = (0 : Int) - (a + (1 : Int)), IntKind.u64.wrap ((0 : Int) - (a + (1 : Int)) + (1 : Int)) = (0 : Int) - (a + (1 : Int)) + (1 : Int)] (by kernel_rfl) ?_
    ((repeat' refine And.intro ?_ ?_); (omega); ((with_reducible refine Dt ?_; omega)); (iterate 2 (exact Wi _ (by omega))); (iterate 2 ((rw [IntKind.wrap_u64]; omega))); (exact True.intro))
  · refine fn_go hmo Try.func82 (by kernel_rfl) [(4, Hint.val (AV.v (Value.bool false))), (11, Hint.val (AV.v (Value.int IntKind.u64 a)))] [] [a = (↑a.natAbs : Int), decide (a < (0 : Int)) = false, IntKind.u64.wrap a = a] (by kernel_rfl) ?_
    ((repeat' refine And.intro ?_ ?_); (omega); ((with_reducible refine Df ?_; omega)); ((rw [IntKind.wrap_u64]; omega)); (exact True.intro))
theorem wL_upd' (l : List Nat) (j x : Nat) (h : j < l.length) : (wL l).take ((j : Int).toNat * 1) ++ [u3 x] ++ (wL l).drop ((j : Int).toNat * 1 + 1) = wL (l.set j x) := by
  rw [Int.toNat_natCast, Nat.mul_one]; exact wL_set l j x h
/-! ### move -/
/-- the words behind i rounds -/
def mvS (l : List Nat) (s : Nat) : Nat → List Nat
  | 0 => List.replicate (l.length + 1) 0
  | i + 1 => ((mvS l s i).set i (dg (mvS l s i) i + dg l i * 2 ^ s % 4294967296)).set (i + 1) (dg l i * 2 ^ s / 4294967296)
structure MvR (l : List Nat) (s i : Nat) (out : List Nat) : Prop where
  len : out.length = l.length + 1
  wd : Wd out
  far : ∀ j, i < j → dg out j = 0
  cur : dg out i < 2 ^ s
  val : vw out = vw (l.take i) * 2 ^ s
theorem dg_repl (n j : Nat) : dg (List.replicate n 0) j = 0 := by
  unfold dg
  rw [List.getD_eq_getElem?_getD, List.getElem?_replicate]
  split <;> rfl
theorem pow_le32 {s : Nat} (hs : s < 32) : 2 ^ s ≤ 2147483648 := Nat.le_trans (Nat.pow_le_pow_right (by decide) (show s ≤ 31 by omega)) (by decide)
theorem low_mod {x s : Nat} (hs : s < 32) : x * 2 ^ s % 4294967296 + 2 ^ s ≤ 4294967296 := by
  have e : (4294967296 : Nat) = 2 ^ (32 - s) * 2 ^ s := by rw [← Nat.pow_add, show 32 - s + s = 32 by omega]
  have h : x * 2 ^ s % (2 ^ (32 - s) * 2 ^ s) = (x % 2 ^ (32 - s)) * 2 ^ s := Nat.mul_mod_mul_right ..
  have h2 : x % 2 ^ (32 - s) < 2 ^ (32 - s) := Nat.mod_lt _ (Nat.two_pow_pos _)
  have h3 : (x % 2 ^ (32 - s) + 1) * 2 ^ s ≤ 2 ^ (32 - s) * 2 ^ s := Nat.mul_le_mul_right _ h2
  rw [Nat.add_mul, Nat.one_mul] at h3
  rw [e, h]; exact h3
theorem mvS_ok {l : List Nat} {s : Nat} (hl : Wd l) (hs : s < 32) : ∀ {i : Nat}, i ≤ l.length → MvR l s i (mvS l s i)
  | 0, _ => ⟨by simp [mvS], (fun d hd => by have := List.eq_of_mem_replicate hd; omega), fun j _ => dg_repl _ j, by rw [mvS, dg_repl]; exact Nat.two_pow_pos s, by rw [mvS, vd_replW]; simp [vd_nilW]⟩
  | i + 1, h => by
    obtain ⟨r1, r2, r3, r4, r5⟩ := mvS_ok hl hs (i := i) (by omega)
    have hx := dg_ltW l i hl
    have hp := pow_le32 hs
    have hlow := low_mod (x := dg l i) hs
    have hd1 : dg l i * 2 ^ s / 4294967296 < 2 ^ s := by
      rw [Nat.div_lt_iff_lt_mul (by decide), Nat.mul_comm (2 ^ s)]
      exact Nat.mul_lt_mul_of_pos_right hx (Nat.two_pow_pos s)
    have hdiv := Nat.div_add_mod (dg l i * 2 ^ s) 4294967296
    have e1 := vd_setW (mvS l s i) i (dg (mvS l s i) i + dg l i * 2 ^ s % 4294967296) (by omega)
    have e2 := vd_setW ((mvS l s i).set i (dg (mvS l s i) i + dg l i * 2 ^ s % 4294967296)) (i + 1) (dg l i * 2 ^ s / 4294967296) (by rw [List.length_set]; omega)
    rw [dg_set_ne _ _ _ _ (by omega), r3 (i + 1) (by omega)] at e2
    have e3 := vd_take_succW l i (by omega)
    refine ⟨by rw [mvS, List.length_set, List.length_set]; exact r1, ?_, fun j hj => ?_, ?_, ?_⟩
    · intro d hd
      rw [mvS] at hd
      rcases List.mem_or_eq_of_mem_set hd with hd | rfl
      · rcases List.mem_or_eq_of_mem_set hd with hd | rfl
        · exact r2 d hd
        · omega
      · omega
    · rw [mvS, dg_set_ne _ _ _ _ (by omega), dg_set_ne _ _ _ _ (by omega)]; exact r3 j (by omega)
    · rw [mvS, dg_set_self _ _ _ (by rw [List.length_set]; omega)]; exact hd1
    · rw [mvS, e3, Nat.add_mul, ← r5, Nat.mul_assoc]
      generalize vw (((mvS l s i).set i (dg (mvS l s i) i + dg l i * 2 ^ s % 4294967296)).set (i + 1) (dg l i * 2 ^ s / 4294967296)) = A at *
      generalize vw ((mvS l s i).set i (dg (mvS l s i) i + dg l i * 2 ^ s % 4294967296)) = B at *
      generalize dg (mvS l s i) i = c at *
      generalize dg l i * 2 ^ s = x at *
      generalize vw (mvS l s i) = V at *
      rw [Nat.mul_zero, Nat.add_zero, Nat.pow_succ, Nat.mul_assoc] at e2
      rw [Nat.mul_add] at e1
      have e4 : 4294967296 ^ i * (4294967296 * (x / 4294967296)) + 4294967296 ^ i * (x % 4294967296) = 4294967296 ^ i * x := by rw [← Nat.mul_add, hdiv]
      generalize 4294967296 ^ i * (4294967296 * (x / 4294967296)) = u at *
      generalize 4294967296 ^ i * (x % 4294967296) = v at *
      generalize 4294967296 ^ i * c = z at *
      omega
def mvI (l : List Nat) (s : Nat) (c : List Nat) (i : Nat) : AS := ⟨[(0, wA l), (1, iz (s : Nat)), (6, .row 13 0), (14, iz (l.length : Nat)), (15, iz (i : Nat))], [rowU 13 (l.length + 1) 0 (wL c)], 42, []⟩
def mvE (c : List Nat) (n : Nat) : AS := ⟨[(6, .row 13 0)], [rowU 13 n 0 (wL c)], 42, []⟩
theorem orMv {c x s : Nat} (hs : s < 32) (hc : c < 2 ^ s) : bits .or .u32 ((c : Nat) : Int) ((x * 2 ^ s % 4294967296 : Nat) : Int) = ((c + x * 2 ^ s % 4294967296 : Nat) : Int) := by
  have hlow := low_mod (x := x) hs
  have hp := pow_le32 hs
  have e : (4294967296 : Nat) = 2 ^ (32 - s) * 2 ^ s := by rw [← Nat.pow_add, show 32 - s + s = 32 by omega]
  have h : x * 2 ^ s % 4294967296 = (x % 2 ^ (32 - s)) * 2 ^ s := by
    conv => lhs; rw [e]
    exact Nat.mul_mod_mul_right ..
  rw [u32_or_nat _ _ (by omega) (by omega), h]
  congr 1
  rw [Nat.or_comm, Nat.mul_comm, Nat.add_comm]
  exact (Nat.two_pow_add_eq_or_of_lt hc _).symm
section
variable {l : List Nat} {s : Nat} (hl : l.length ≤ 1000) (hd : Wd l) (hs : s < 32)
include hl hd hs
theorem mv_loop {c : List Nat} (hc : mvS l s l.length = c) : LoopOk Try.prog (loopBody Try.f171 4) (mvI l s (List.replicate (l.length + 1) 0) 0) (.exit 0) (mvE c (l.length + 1)) := by
  refine LoopOk.of hmo (fun x : {x : Nat × List Nat // x.1 ≤ l.length ∧ mvS l s x.1 = x.2} => mvI l s x.1.2 x.1.1) (fun x => l.length - x.1.1) (fun x => ?_) ⟨(0, List.replicate (l.length + 1) 0), Nat.zero_le _, rfl⟩
  obtain ⟨⟨i, w⟩, hi, hx⟩ := x
  simp only at hi hx
  have hr := mvS_ok hd hs hi
  rw [hx] at hr
  obtain ⟨r1, r2, r3, r4, r5⟩ := hr
  have hz := wL_len w
  rcases Nat.lt_or_eq_of_le hi with hlt | rfl
  · have hstep : mvS l s (i + 1) = (w.set i (dg w i + dg l i * 2 ^ s % 4294967296)).set (i + 1) (dg l i * 2 ^ s / 4294967296) := by rw [mvS, hx]
    have hrd := rd_wL l i hlt
    have hr2 := rd_wL w i (by omega)
    have hor := orMv (x := dg l i) hs r4
    have hxl := dg_ltW l i hd
    have hp := pow_le32 hs
    have hcl := dg_ltW w i r2
    have hmul : dg l i * 2 ^ s < 18446744073709551616 := by
      have := Nat.mul_lt_mul_of_lt_of_le hxl hp (by decide)
      omega
    have hlow := low_mod (x := dg l i) hs
    have u1 := wL_upd' w i (dg w i + dg l i * 2 ^ s % 4294967296) (by omega)
    have u2 := wL_upd' (w.set i (dg w i + dg l i * 2 ^ s % 4294967296)) (i + 1) (dg l i * 2 ^ s / 4294967296) (by rw [List.length_set]; omega)
    have hl1 : (wL (w.set i (dg w i + dg l i * 2 ^ s % 4294967296))).length = l.length + 1 := by rw [wL_len, List.length_set, r1]
    have hsh : IntKind.u64.wrap ((dg l i : Int) * 2 ^ min (s : Int).toNat 64) = ((dg l i * 2 ^ s : Nat) : Int) := by
      rw [Int.toNat_natCast, Nat.min_eq_left (by omega), show ((dg l i : Int) * 2 ^ s) = ((dg l i * 2 ^ s : Nat) : Int) by push_cast; rfl, u64s _ hmul]
    have e1 := u32n (dg l i * 2 ^ s)
    have e2 := shr32 (dg l i * 2 ^ s)
    clear r2 r3 r5
    generalize dg l i * 2 ^ s = x at *
    generalize dg w i = cw at *
    generalize dg l i = y at *
    have hx32 : x / 4294967296 < 4294967296 := by omega
    have u4 : List.take (((i + 1 : Nat) : Int).toNat * 1) (List.take ((i : Int).toNat * 1) (wL w) ++ [u3 (cw + x % 4294967296)] ++ List.drop ((i : Int).toNat * 1 + 1) (wL w)) ++ [u3 (x / 4294967296)] ++ List.drop (((i + 1 : Nat) : Int).toNat * 1 + 1) (List.take ((i : Int).toNat * 1) (wL w) ++ [u3 (cw + x % 4294967296)] ++ List.drop ((i : Int).toNat * 1 + 1) (wL w)) = wL ((w.set i (cw + x % 4294967296)).set (i + 1) (x / 4294967296)) := by rw [u1]; exact u2
    have u5 : ((i + 1 : Nat) : Int).toNat * 1 + 1 ≤ (List.take ((i : Int).toNat * 1) (wL w) ++ [u3 (cw + x % 4294967296)] ++ List.drop ((i : Int).toNat * 1 + 1) (wL w)).length := by rw [u1, hl1, Int.toNat_natCast]; omega
    refine Round.on [(16, Hint.val (AV.v (Value.bool true))), (21, Hint.val (u3 y)), (22, Hint.val (uz (↑y : Int))), (24, Hint.val (uz (↑x : Int))), (28, Hint.val (u3 cw)), (30, Hint.val (u3 (x % (4294967296 : Nat)))), (31, Hint.val (u3 (cw + x % (4294967296 : Nat)))), (35, Hint.val (AV.v (Value.int IntKind.i64 (↑(i + (1 : Nat)) : Int)))), (37, Hint.val (uz (↑(x / (4294967296 : Nat)) : Int))), (38, Hint.val (u3 (x / (4294967296 : Nat)))), (40, Hint.val (AV.v (Value.int IntKind.i64 (↑(i + (1 : Nat)) : Int))))] [] ⟨(i + 1, (w.set i (cw + x % 4294967296)).set (i + 1) (x / 4294967296)), hlt, hstep⟩ [l.length = l.length ∧ wL l = wL l, (↑s : Int) = (↑s : Int), (13 : Nat) = (13 : Nat) ∧ (0 : Nat) = (0 : Nat), (↑l.length : Int) = (↑l.length : Int), (↑(i + (1 : Nat)) : Int) = (↑(i + (1 : Nat), (w.set i (cw + x % (4294967296 : Nat))).set (i + (1 : Nat)) (x / (4294967296 : Nat))).fst : Int), l.length + (1 : Nat) = l.length + (1 : Nat) ∧ (0 : Nat) = (0 : Nat) ∧ List.take ((↑(i + (1 : Nat)) : Int).toNat * (1 : Nat)) (List.take ((↑(i, w).fst : Int).toNat * (1 : Nat)) (wL (i, w).snd) ++ [AV.v (Value.int IntKind.u32 (↑(cw + x % (4294967296 : Nat)) : Int))] ++ List.drop ((↑(i, w).fst : Int).toNat * (1 : Nat) + [AV.v (Value.int IntKind.u32 (↑(cw + x % (4294967296 : Nat)) : Int))].length) (wL (i, w).snd)) ++ [AV.v (Value.int IntKind.u32 (↑(x / (4294967296 : Nat)) : Int))] ++ List.drop ((↑(i + (1 : Nat)) : Int).toNat * (1 : Nat) + [AV.v (Value.int IntKind.u32 (↑(x / (4294967296 : Nat)) : Int))].length) (List.take ((↑(i, w).fst : Int).toNat * (1 : Nat)) (wL (i, w).snd) ++ [AV.v (Value.int IntKind.u32 (↑(cw + x % (4294967296 : Nat)) : Int))] ++ List.drop ((↑(i, w).fst : Int).toNat * (1 : Nat) + [AV.v (Value.int IntKind.u32 (↑(cw + x % (4294967296 : Nat)) : Int))].length) (wL (i, w).snd)) = wL (i + (1 : Nat), (w.set i (cw + x % (4294967296 : Nat))).set (i + (1 : Nat)) (x / (4294967296 : Nat))).snd, decide ((↑(i, w).fst : Int) < (↑l.length : Int)) = true, (0 : Int) ≤ (↑(i, w).fst : Int) ∧ (↑(i, w).fst : Int) < (↑l.length : Int), rd1 false (1 : Nat) (wL l) ((↑(i, w).fst : Int).toNat * (1 : Nat)) = some (AV.v (Value.int IntKind.u32 (↑y : Int))), IntKind.u64.wrap (↑y : Int) = (↑y : Int), IntKind.u64.wrap ((↑y : Int) * (2 : Int) ^ min (↑s : Int).toNat (64 : Nat)) = (↑x : Int), (0 : Int) ≤ (↑s : Int), (0 : Int) ≤ (↑(i, w).fst : Int) ∧ (↑(i, w).fst : Int) < (↑(l.length + (1 : Nat)) : Int), rd1 false (1 : Nat) (wL (i, w).snd) ((↑(i, w).fst : Int).toNat * (1 : Nat)) = some (AV.v (Value.int IntKind.u32 (↑cw : Int))), IntKind.u32.wrap (↑x : Int) = (↑(x % (4294967296 : Nat)) : Int), IntKind.u32.wrap (↑(BitVec.ofInt (32 : Nat) (↑cw : Int) ||| BitVec.ofInt (32 : Nat) (↑(x % (4294967296 : Nat)) : Int)).toNat : Int) = (↑(cw + x % (4294967296 : Nat)) : Int), (0 : Int) ≤ (↑(i, w).fst : Int) ∧ (↑(i, w).fst : Int) < (↑(l.length + (1 : Nat)) : Int), (↑(i, w).fst : Int).toNat * (1 : Nat) + [AV.v (Value.int IntKind.u32 (↑(cw + x % (4294967296 : Nat)) : Int))].length ≤ (wL (i, w).snd).length, IntKind.i64.wrap ((↑(i, w).fst : Int) + (1 : Int)) = (↑(i + (1 : Nat)) : Int), (↑x : Int).fdiv ((2 : Int) ^ (32 : Nat)) = (↑(x / (4294967296 : Nat)) : Int), (0 : Int) ≤ (32 : Int), IntKind.u32.wrap (↑(x / (4294967296 : Nat)) : Int) = (↑(x / (4294967296 : Nat)) : Int), (0 : Int) ≤ (↑(i + (1 : Nat)) : Int) ∧ (↑(i + (1 : Nat)) : Int) < (↑(l.length + (1 : Nat)) : Int), (↑(i + (1 : Nat)) : Int).toNat * (1 : Nat) + [AV.v (Value.int IntKind.u32 (↑(x / (4294967296 : Nat)) : Int))].length ≤ (List.take ((↑(i, w).fst : Int).toNat * (1 : Nat)) (wL (i, w).snd) ++ [AV.v (Value.int IntKind.u32 (↑(cw + x % (4294967296 : Nat)) : Int))] ++ List.drop ((↑(i, w).fst : Int).toNat * (1 : Nat) + [AV.v (Value.int IntKind.u32 (↑(cw + x % (4294967296 : Nat)) : Int))].length) (wL (i, w).snd)).length, IntKind.i64.wrap ((↑(i, w).fst : Int) + (1 : Int)) = (↑(i + (1 : Nat)) : Int)] (by kernel_rfl) (by show l.length - (i + 1) < l.length - i; omega) ?_
    ((repeat' refine And.intro ?_ ?_); (iterate 9 (with_reducible rfl)); ((show (_ : List AV) = _; assumption)); ((with_reducible refine Dt ?_; omega)); (iterate 2 (omega)); ((show rd1 _ _ _ _ = _; assumption)); ((rw [IntKind.wrap_u64]; omega)); (with_reducible assumption); (iterate 3 (omega)); ((show rd1 _ _ _ _ = _; assumption)); (with_reducible assumption); rotate_left 1; (iterate 2 (omega)); ((simp only [List.length_cons, List.length_nil]; omega)); (exact Wi _ (by omega)); (with_reducible assumption); (omega); ((rw [IntKind.wrap_u32]; omega)); (iterate 2 (omega)); rotate_left 1; (exact Wi _ (by omega)); (exact True.intro))
    all_goals first | exact u4 | exact hor | exact u5
  · obtain rfl := hx.symm.trans hc
    refine Round.out [(16, Hint.val (AV.v (Value.bool false)))] [] [(13 : Nat) = (13 : Nat) ∧ (0 : Nat) = (0 : Nat), l.length + (1 : Nat) = l.length + (1 : Nat) ∧ (0 : Nat) = (0 : Nat) ∧ wL (l.length, w).snd = wL w, decide ((↑(l.length, w).fst : Int) < (↑l.length : Int)) = false] (by kernel_rfl) ?_
    ((repeat' refine And.intro ?_ ?_); (iterate 5 (with_reducible rfl)); ((with_reducible refine Df ?_; omega)); (exact True.intro))
theorem move_ok (ht : tsz l = l.length) : FnOk Try.prog 171 ⟨[wA l, iz (s : Nat)], [], .lst (l.length + 1) (wL (mvS l s l.length)), []⟩ := by
  have h1 := size_ok l (by omega)
  have h2 := mv_loop hl hd hs rfl
  rw [ht] at h1
  have hz : List.replicate (l.length + 1) (AV.v (.int .u32 0)) = wL (List.replicate (l.length + 1) 0) := by unfold wL; rw [List.map_replicate]; rfl
  generalize mvS l s l.length = c at *
  refine fn_go hmo Try.func171 (by kernel_rfl) [(10, Hint.call (Inst.mk [wA l] [] (iz (↑l.length : Int)) [])), (12, Hint.val (AV.v (Value.int IntKind.i64 (↑(l.length + (1 : Nat)) : Int))))] [(4, ⟨.exit 0, mvI l s (List.replicate (l.length + 1) 0) 0, mvE c (l.length + 1)⟩)] [l.length + (1 : Nat) = l.length + (1 : Nat) ∧ wL c = wL c, (l.length = l.length ∧ wL l = wL l) ∧ True, FnOk Try.prog (143 : Nat) (Inst.mk [AV.lst l.length (wL l)] [] (AV.v (Value.int IntKind.i64 (↑l.length : Int))) []), IntKind.i64.wrap ((↑l.length : Int) + (1 : Int)) = (↑(l.length + (1 : Nat)) : Int), (↑(l.length + (1 : Nat)) : Int) = (↑(l.length + (1 : Nat)) : Int), (0 : Int) ≤ (↑(l.length + (1 : Nat)) : Int) ∧ (↑(l.length + (1 : Nat)) : Int) * (↑(4 : Nat) : Int) ≤ (140737488355328 : Int) ∧ (↑(l.length + (1 : Nat)) : Int) ≤ (140737488355328 : Int), LoopOk Try.prog (loopBody Try.f171 (4 : Nat)) (mvI l s (List.replicate (l.length + (1 : Nat)) (0 : Nat)) (0 : Nat)) (Exit.exit (0 : Nat)) (mvE c (l.length + (1 : Nat))), l.length = l.length ∧ wL l = wL l, (↑s : Int) = (↑s : Int), (13 : Nat) = (13 : Nat) ∧ (0 : Nat) = (0 : Nat), (↑l.length : Int) = (↑l.length : Int), (0 : Int) = (↑(0 : Nat) : Int), (↑(l.length + (1 : Nat)) : Int).toNat = l.length + (1 : Nat) ∧ (0 : Nat) = (0 : Nat) ∧ repA (↑(l.length + (1 : Nat)) : Int).toNat [Value.int IntKind.u32 (0 : Int)] = wL (List.replicate (l.length + (1 : Nat)) (0 : Nat))] (by kernel_rfl) ?_
  ((repeat' refine And.intro ?_ ?_); (iterate 4 (with_reducible rfl)); (exact True.intro); ((show FnOk _ _ _; assumption)); (exact Wi _ (by omega)); (with_reducible rfl); (iterate 3 (omega)); (with_reducible assumption); (iterate 6 (with_reducible rfl)); (iterate 2 (omega)); (with_reducible rfl); ((show repA _ _ = _; assumption)); (exact True.intro))
end
theorem tsz_dgw (n : Nat) : tsz (dgw n) = (dgw n).length := by
  have h := take_tszW (dgw n) (Wd_dg n)
  rw [vd_digW] at h
  have h1 := tsz_le (dgw n)
  have h2 := congrArg List.length h
  rw [List.length_take] at h2
  omega
theorem tsz_at : ∀ {l : List Nat}, tsz l = l.length → 0 < l.length → dg l (l.length - 1) ≠ 0
  | [], _, h => absurd h (by simp)
  | [d], h, _ => by
    intro h0
    have : d = 0 := h0
    subst this
    simp [tsz] at h
  | d :: e :: l, h, _ => by
    have h1 : tsz (e :: l) = (e :: l).length := by
      unfold tsz at h
      have := tsz_le (e :: l)
      split at h
      · split at h <;> simp at h
      · simpa using h
    have := tsz_at h1 (by simp)
    simpa [dg] using this
theorem shl_ok {m k : Nat} (hm : (dgw m).length ≤ 1000) (hk : k ≤ 8192) : FnOk Try.prog 147 ⟨[wA (dgw m), iz (k : Nat)], [], .tup [wA (dgw (m * 2 ^ k)), bz true], []⟩ := by
  have h1 := move_ok hm (Wd_dg m) (s := k % 32) (by omega) (tsz_dgw m)
  have hr := mvS_ok (Wd_dg m) (s := k % 32) (by omega) (Nat.le_refl (dgw m).length)
  obtain ⟨r1, r2, _, _, r5⟩ := hr
  rw [List.take_length, vd_digW] at r5
  generalize mvS (dgw m) (k % 32) (dgw m).length = c at *
  have hwd : Wd (List.replicate (k / 32) 0 ++ c) := fun d hd => by
    rcases List.mem_append.1 hd with h | h
    · have := List.eq_of_mem_replicate h; omega
    · exact r2 d h
  have hv : vw (List.replicate (k / 32) 0 ++ c) = m * 2 ^ k := by
    rw [vd_powW, r5, show (4294967296 : Nat) = 2 ^ 32 from rfl, ← Nat.pow_mul, Nat.mul_comm, Nat.mul_assoc, ← Nat.pow_add, show k % 32 + 32 * (k / 32) = k by omega]
  have hlen : (List.replicate (k / 32) 0 ++ c).length = k / 32 + ((dgw m).length + 1) := by simp [r1]
  have h2 := size_ok (List.replicate (k / 32) 0 ++ c) (by rw [hlen]; omega)
  have hcut := cut_dg hwd
  have hsz := tsz_dg hwd
  have hle := tsz_le (List.replicate (k / 32) 0 ++ c)
  rw [hv] at hcut hsz
  have hz : List.replicate (k / 32) (AV.v (.int .u32 0)) ++ wL c = wL (List.replicate (k / 32) 0 ++ c) := by rw [wL_app]; congr 1; unfold wL; rw [List.map_replicate]; rfl
  refine fn_go hmo Try.func147 (by kernel_rfl) [(12, Hint.val (AV.v (Value.bool false))), (16, Hint.val (AV.v (Value.int IntKind.i64 (↑(k % (32 : Nat)) : Int)))), (17, Hint.call (Inst.mk [wA (dgw m), iz (↑(k % (32 : Nat)) : Int)] [] (AV.lst ((dgw m).length + (1 : Nat)) (wL c)) [])), (19, Hint.val (AV.v (Value.int IntKind.i64 (↑(k / (32 : Nat)) : Int)))), (25, Hint.call (Inst.mk [wA (List.replicate (k / (32 : Nat)) (0 : Nat) ++ c)] [] (iz (↑(tsz (List.replicate (k / (32 : Nat)) (0 : Nat) ++ c)) : Int)) []))] [] [((↑(tsz (List.replicate (k / (32 : Nat)) (0 : Nat) ++ c)) : Int).toNat = (dgw (m * (2 : Nat) ^ k)).length ∧ List.take ((↑(tsz (List.replicate (k / (32 : Nat)) (0 : Nat) ++ c)) : Int).toNat * (1 : Nat)) (repA (↑(k / (32 : Nat)) : Int).toNat [Value.int IntKind.u32 (0 : Int)] ++ wL c) = wL (dgw (m * (2 : Nat) ^ k))) ∧ true = true ∧ True, decide ((8192 : Int) < (↑k : Int)) = false, (↑k : Int).tmod (32 : Int) = (↑(k % (32 : Nat)) : Int), (32 : Int) ≠ (0 : Int), ((dgw m).length = (dgw m).length ∧ wL (dgw m) = wL (dgw m)) ∧ (↑(k % (32 : Nat)) : Int) = (↑(k % (32 : Nat)) : Int) ∧ True, FnOk Try.prog (171 : Nat) (Inst.mk [AV.lst (dgw m).length (wL (dgw m)), AV.v (Value.int IntKind.i64 (↑(k % (32 : Nat)) : Int))] [] (AV.lst ((dgw m).length + (1 : Nat)) (wL c)) []), IntKind.i64.wrap ((↑k : Int).tdiv (32 : Int)) = (↑(k / (32 : Nat)) : Int), (32 : Int) ≠ (0 : Int), (↑(k / (32 : Nat)) : Int) = (↑(k / (32 : Nat)) : Int), (0 : Int) ≤ (↑(k / (32 : Nat)) : Int) ∧ (↑(k / (32 : Nat)) : Int) * (↑(4 : Nat) : Int) ≤ (140737488355328 : Int) ∧ (↑(k / (32 : Nat)) : Int) ≤ (140737488355328 : Int), (wL c).length = ((dgw m).length + (1 : Nat)) * (1 : Nat), ((↑(k / (32 : Nat)) : Int).toNat + ((dgw m).length + (1 : Nat))) * (4 : Nat) ≤ (140737488355328 : Nat) ∧ (↑(k / (32 : Nat)) : Int).toNat + ((dgw m).length + (1 : Nat)) ≤ (140737488355328 : Nat), ((↑(k / (32 : Nat)) : Int).toNat + ((dgw m).length + (1 : Nat)) = (List.replicate (k / (32 : Nat)) (0 : Nat) ++ c).length ∧ repA (↑(k / (32 : Nat)) : Int).toNat [Value.int IntKind.u32 (0 : Int)] ++ wL c = wL (List.replicate (k / (32 : Nat)) (0 : Nat) ++ c)) ∧ True, FnOk Try.prog (143 : Nat) (Inst.mk [AV.lst (List.replicate (k / (32 : Nat)) (0 : Nat) ++ c).length (wL (List.replicate (k / (32 : Nat)) (0 : Nat) ++ c))] [] (AV.v (Value.int IntKind.i64 (↑(tsz (List.replicate (k / (32 : Nat)) (0 : Nat) ++ c)) : Int))) []), (0 : Int) = (0 : Int) ∧ (0 : Int) ≤ (↑(tsz (List.replicate (k / (32 : Nat)) (0 : Nat) ++ c)) : Int) ∧ (↑(tsz (List.replicate (k / (32 : Nat)) (0 : Nat) ++ c)) : Int) ≤ (↑((↑(k / (32 : Nat)) : Int).toNat + ((dgw m).length + (1 : Nat))) : Int)] (by kernel_rfl) ?_
  ((repeat' refine And.intro ?_ ?_); (with_reducible assumption); rotate_left 1; (with_reducible rfl); (exact True.intro); ((with_reducible refine Df ?_; omega)); (exact tmodN _ _); (omega); (iterate 3 (with_reducible rfl)); (exact True.intro); ((show FnOk _ _ _; assumption)); (exact tdivI _ _ _ (by rfl) (by omega)); (omega); (with_reducible rfl); (iterate 3 (omega)); rotate_left 1; (iterate 3 (omega)); ((show (_ : List AV) = _; assumption)); (exact True.intro); ((show FnOk _ _ _; assumption)); (with_reducible rfl); (iterate 2 (omega)); (exact True.intro))
  all_goals first | (rw [show repA ((k / 32 : Nat) : Int).toNat [Value.int IntKind.u32 0] = List.replicate (k / 32) (AV.v (.int .u32 0)) by rw [Int.toNat_natCast]; rfl, hz]; exact hcut) | (rw [wL_len, r1]; omega) | skip
end Go.Proofs.Ytfhmaincnlaapaa.Sy
