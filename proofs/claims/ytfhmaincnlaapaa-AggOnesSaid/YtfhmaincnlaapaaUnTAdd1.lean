/-
  exact.New, Add to a new sum; bushelref05.Add, Of of one number.
-/
import Derived.Test.YtfhmaincnlaapaaUnRefRead
import Derived.Test.YtfhmaincnlaapaaUnRefNodesW
import Derived.Test.YtfhmaincnlaapaaUnTShl
import Derived.Test.YtfhmaincnlaapaaUnTBytes
import Derived.Test.YtfhmaincnlaapaaUnFloKind
namespace Go.Proofs.Ytfhmaincnlaapaa.Sy
open Go.ChangeShapes Go.WideShapes Go.ChangeAt Go.RowKit
set_option linter.unusedVariables false
set_option linter.unusedSimpArgs false
/-! ### Split's answer is one -/
theorem tz_mul {m : Nat} (hm : m % 2 = 1) : ∀ a, tz (m * 2 ^ a) = a
  | 0 => by rw [Nat.pow_zero, Nat.mul_one]; exact tz_odd hm
  | a + 1 => by
    have h0 : 0 < m * 2 ^ a := Nat.mul_pos (by omega) (Nat.two_pow_pos a)
    have e : m * 2 ^ (a + 1) = 2 * (m * 2 ^ a) := by rw [Nat.pow_succ, ← Nat.mul_assoc, Nat.mul_comm]
    rw [e, tz_even (by omega) (by omega), show 2 * (m * 2 ^ a) / 2 = m * 2 ^ a by omega, tz_mul hm a]
def spA (r : Nat) : Nat := tz (vl r)
def spM (r : Nat) : Nat := vl r / 2 ^ tz (vl r)
theorem sp_of {r m a : Nat} (hm : m % 2 = 1) (h : m * 2 ^ a = vl r) : m = spM r ∧ a = spA r := by
  have ha : spA r = a := by unfold spA; rw [← h, tz_mul hm]
  refine ⟨?_, ha.symm⟩
  unfold spM
  rw [show tz (vl r) = a from ha, ← h, Nat.mul_div_cancel _ (Nat.two_pow_pos a)]
def fB (n : Nat) : AV := .v (.float .f64 n)
section
variable {b : Nat} (hb : b < 18446744073709551616)
include hb
theorem floKind_fn : FnOk Try.prog 146 ⟨[fB b], [], iz (kindF b : Nat), []⟩ :=
  FnOk.of_calls rfl fun E vs hF hl hs => by
    obtain ⟨u, rfl⟩ : ∃ u, vs = [u] := List.length_eq_one_iff.1 hl
    obtain ⟨rfl, _⟩ : u = .float .f64 b ∧ _ := hs 0 _ u rfl rfl
    refine (floKind_any b E.w hb).mono ?_
    rintro y w' ⟨rfl, rfl⟩
    exact ⟨rfl, belR _⟩
theorem kind03_fn : FnOk Try.prog 140 ⟨[fB b], [], iz (kindF b : Nat), []⟩ :=
  FnOk.of_calls rfl fun E vs hF hl hs => by
    obtain ⟨u, rfl⟩ : ∃ u, vs = [u] := List.length_eq_one_iff.1 hl
    obtain ⟨rfl, _⟩ : u = .float .f64 b ∧ _ := hs 0 _ u rfl rfl
    refine (refKind_any b E.w hb).mono ?_
    rintro y w' ⟨rfl, n, rfl⟩
    exact ⟨rfl, below_drewN (belR _) n⟩
theorem floSplit_fn (h0 : 0 < rg b) (h : rg b < irg) : FnOk Try.prog 145 ⟨[fB b], [], .tup [bz (ng b), uz (spM (rg b) : Nat), iz ((spA (rg b) : Nat) - 1074)], []⟩ :=
  FnOk.of_new fun E vs hF hl hs => by
    obtain ⟨u, rfl⟩ : ∃ u, vs = [u] := List.length_eq_one_iff.1 hl
    obtain ⟨rfl, _⟩ : u = .float .f64 b ∧ _ := hs 0 _ u rfl rfl
    refine (floSplit_any b E.w hb h0 h).mono ?_
    rintro y w' ⟨m, a, hm, _, _, e, rfl, n, rfl⟩
    obtain ⟨rfl, rfl⟩ := sp_of hm e
    refine ⟨_, rfl, below_drewN (belR _) n, _, rfl, rfl, fun j y z hy hz => ?_⟩
    match j, hy, hz with
    | 0, hy, hz => injection hy with hy; injection hz with hz; subst hy; subst hz; exact ⟨rfl, rfl⟩
    | 1, hy, hz => injection hy with hy; injection hz with hz; subst hy; subst hz; exact ⟨rfl, rfl⟩
    | 2, hy, hz => injection hy with hy; injection hz with hz; subst hy; subst hz; exact ⟨rfl, rfl⟩
    | j + 3, hy, hz => simp at hy
theorem split03_fn (h0 : 0 < rg b) (h : rg b < irg) : FnOk Try.prog 174 ⟨[fB b], [], .tup [bz (ng b), uz (spM (rg b) : Nat), iz ((spA (rg b) : Nat) - 1074)], []⟩ :=
  FnOk.of_new fun E vs hF hl hs => by
    obtain ⟨u, rfl⟩ : ∃ u, vs = [u] := List.length_eq_one_iff.1 hl
    obtain ⟨rfl, _⟩ : u = .float .f64 b ∧ _ := hs 0 _ u rfl rfl
    refine (split_any b E.w hb h0 h).mono ?_
    rintro y w' ⟨m, a, hm, _, _, e, rfl, n, rfl⟩
    obtain ⟨rfl, rfl⟩ := sp_of hm e
    refine ⟨_, rfl, below_drewN (belR _) n, _, rfl, rfl, fun j y z hy hz => ?_⟩
    match j, hy, hz with
    | 0, hy, hz => injection hy with hy; injection hz with hz; subst hy; subst hz; exact ⟨rfl, rfl⟩
    | 1, hy, hz => injection hy with hy; injection hz with hz; subst hy; subst hz; exact ⟨rfl, rfl⟩
    | 2, hy, hz => injection hy with hy; injection hz with hz; subst hy; subst hz; exact ⟨rfl, rfl⟩
    | j + 3, hy, hz => simp at hy
theorem floSplitO_fn (h : kindF b ≠ 1) : FnOk Try.prog 145 ⟨[fB b], [], .tup [bz (decide (kindF b ≠ 3) && ng b), uz 0, iz 0], []⟩ :=
  FnOk.of_new fun E vs hF hl hs => by
    obtain ⟨u, rfl⟩ : ∃ u, vs = [u] := List.length_eq_one_iff.1 hl
    obtain ⟨rfl, _⟩ : u = .float .f64 b ∧ _ := hs 0 _ u rfl rfl
    refine (floSplit_oth b E.w hb h).mono ?_
    rintro y w' ⟨rfl, rfl⟩
    refine ⟨_, rfl, belR _, _, rfl, rfl, fun j y z hy hz => ?_⟩
    match j, hy, hz with
    | 0, hy, hz => injection hy with hy; injection hz with hz; subst hy; subst hz; exact ⟨rfl, rfl⟩
    | 1, hy, hz => injection hy with hy; injection hz with hz; subst hy; subst hz; exact ⟨rfl, rfl⟩
    | 2, hy, hz => injection hy with hy; injection hz with hz; subst hy; subst hz; exact ⟨rfl, rfl⟩
    | j + 3, hy, hz => simp at hy
theorem split03O_fn (h : kindF b ≠ 1) : FnOk Try.prog 174 ⟨[fB b], [], .tup [bz (decide (kindF b ≠ 3) && ng b), uz 0, iz 0], []⟩ :=
  FnOk.of_new fun E vs hF hl hs => by
    obtain ⟨u, rfl⟩ : ∃ u, vs = [u] := List.length_eq_one_iff.1 hl
    obtain ⟨rfl, _⟩ : u = .float .f64 b ∧ _ := hs 0 _ u rfl rfl
    refine (split_oth b E.w hb h).mono ?_
    rintro y w' ⟨rfl, n, rfl⟩
    refine ⟨_, rfl, below_drewN (belR _) n, _, rfl, rfl, fun j y z hy hz => ?_⟩
    match j, hy, hz with
    | 0, hy, hz => injection hy with hy; injection hz with hz; subst hy; subst hz; exact ⟨rfl, rfl⟩
    | 1, hy, hz => injection hy with hy; injection hz with hz; subst hy; subst hz; exact ⟨rfl, rfl⟩
    | 2, hy, hz => injection hy with hy; injection hz with hz; subst hy; subst hz; exact ⟨rfl, rfl⟩
    | j + 3, hy, hz => simp at hy
end
/-! ### exact: a new sum -/
def nilM : AV := .v (.slice none 0 0)
def exZ (q : Nat) (c : Int) : Nat × AObj := (q, .cells 196 [bz true, .v (.int .u8 c), bz false, nilM])
theorem new_fn : FnOk Try.prog 84 ⟨[], [], .ptr 2 0, [exZ 2 0]⟩ := by
  refine fn_go hmo Try.func84 (by kernel_rfl) [] [] [(2 : Nat) = (2 : Nat) ∧ (0 : Nat) = (0 : Nat), [AV.v (Value.bool true), AV.v (Value.int IntKind.u8 (0 : Int)), AV.v (Value.bool false), AV.v (Value.slice none (0 : Nat) (0 : Nat))] = [AV.v (Value.bool true), AV.v (Value.int IntKind.u8 (0 : Int)), AV.v (Value.bool false), AV.v (Value.slice none (0 : Nat) (0 : Nat))]] (by kernel_rfl) ?_
  ((repeat' refine And.intro ?_ ?_); (iterate 3 (with_reducible rfl)); (exact True.intro))
theorem isZ_fn (c : Int) : FnOk Try.prog 144 ⟨[.ptr 1000 0], [exZ 1000 c], bz true, [exZ 1000 c]⟩ := by
  refine fn_go hmo Try.func144 (by kernel_rfl) [] [] [true = true, [AV.v (Value.bool true), AV.v (Value.int IntKind.u8 c), AV.v (Value.bool false), AV.v (Value.slice none (0 : Nat) (0 : Nat))] = [AV.v (Value.bool true), AV.v (Value.int IntKind.u8 c), AV.v (Value.bool false), AV.v (Value.slice none (0 : Nat) (0 : Nat))]] (by kernel_rfl) ?_
  ((repeat' refine And.intro ?_ ?_); (iterate 2 (with_reducible rfl)); (exact True.intro))
/-- to a new sum: y -/
theorem putZ_fn (c : Int) (y : Int) (hy : y.natAbs < roomN) (h0 : y ≠ 0) : FnOk Try.prog 148 ⟨[.ptr 1000 0, bz (decide (y < 0)), wA (dgw y.natAbs)], [exZ 1000 c], bz true, [exO 1000 c y]⟩ := by
  have wy := Wd_dg y.natAbs
  have ly := dgw_small hy
  have hz : (dgw y.natAbs).length ≠ 0 := fun h => by have := dgw_len0.1 h; omega
  have w0 : Wd ([] : List Nat) := fun d hd => by cases hd
  have vy := vd_digW y.natAbs
  have v0 : vw [] = 0 := vd_nilW
  have hb := (room_bits y.natAbs).1 hy
  by_cases hs : y < 0
  · have e0 := sub_no w0 wy (by simp) (by omega) (by rw [v0, vy]; omega)
    have e1 := sub_ok wy w0 (by omega) (by simp) (by rw [v0]; omega)
    rw [v0, vy, Nat.sub_zero] at e1
    rw [decide_eq_true hs]
    have hneg : decide (y < 0) = true := decide_eq_true hs
    refine fn_go hmo Try.func148 (by kernel_rfl) [(35, Hint.call (Inst.mk [wA [], wA (dgw y.natAbs)] [] (AV.tup [wA [], bz false]) [])), (50, Hint.call (Inst.mk [wA (dgw y.natAbs), wA []] [] (AV.tup [wA (dgw y.natAbs), bz true]) [])), (64, Hint.val (AV.v (Value.bool false)))] [] [true = true, [AV.v (Value.bool true), AV.v (Value.int IntKind.u8 c), AV.v (Value.bool true), AV.lst (dgw y.natAbs).length (wL (dgw y.natAbs))] = [AV.v (Value.bool true), AV.v (Value.int IntKind.u8 c), AV.v (Value.bool (decide (y < (0 : Int)))), AV.lst (dgw y.natAbs).length (wL (dgw y.natAbs))], ((0 : Nat) = (0 : Nat) ∧ ([] : List AV) = []) ∧ ((dgw y.natAbs).length = (dgw y.natAbs).length ∧ wL (dgw y.natAbs) = wL (dgw y.natAbs)) ∧ True, FnOk Try.prog (173 : Nat) (Inst.mk [AV.lst (0 : Nat) [], AV.lst (dgw y.natAbs).length (wL (dgw y.natAbs))] [] (AV.tup [AV.lst (0 : Nat) [], AV.v (Value.bool false)]) []), ((dgw y.natAbs).length = (dgw y.natAbs).length ∧ wL (dgw y.natAbs) = wL (dgw y.natAbs)) ∧ ((0 : Nat) = (0 : Nat) ∧ ([] : List AV) = []) ∧ True, FnOk Try.prog (173 : Nat) (Inst.mk [AV.lst (dgw y.natAbs).length (wL (dgw y.natAbs)), AV.lst (0 : Nat) []] [] (AV.tup [AV.lst (dgw y.natAbs).length (wL (dgw y.natAbs)), AV.v (Value.bool true)]) []), ((↑(dgw y.natAbs).length : Int) == (0 : Int)) = false] (by kernel_rfl) ?_
    ((repeat' refine And.intro ?_ ?_); (with_reducible rfl); rotate_left 1; (iterate 4 (with_reducible rfl)); (exact True.intro); ((show FnOk _ _ _; assumption)); (iterate 4 (with_reducible rfl)); (exact True.intro); ((show FnOk _ _ _; assumption)); ((with_reducible refine Bn ?_; omega)); (exact True.intro))
    all_goals (rw [hneg])
  · have e1 := add_ok w0 wy (by simp) (by omega)
    rw [v0, vy, Nat.zero_add] at e1
    have e2 := bits_ok (l := dgw y.natAbs) (by omega) wy
    rw [vy] at e2
    rw [decide_eq_false hs]
    have hneg : decide (y < 0) = false := decide_eq_false hs
    refine fn_go hmo Try.func148 (by kernel_rfl) [(21, Hint.call (Inst.mk [wA [], wA (dgw y.natAbs)] [] (wA (dgw y.natAbs)) [])), (23, Hint.call (Inst.mk [wA (dgw y.natAbs)] [] (iz (↑(blen y.natAbs) : Int)) [])), (24, Hint.val (AV.v (Value.bool false)))] [] [true = true, [AV.v (Value.bool true), AV.v (Value.int IntKind.u8 c), AV.v (Value.bool false), AV.lst (dgw y.natAbs).length (wL (dgw y.natAbs))] = [AV.v (Value.bool true), AV.v (Value.int IntKind.u8 c), AV.v (Value.bool (decide (y < (0 : Int)))), AV.lst (dgw y.natAbs).length (wL (dgw y.natAbs))], ((0 : Nat) = (0 : Nat) ∧ ([] : List AV) = []) ∧ ((dgw y.natAbs).length = (dgw y.natAbs).length ∧ wL (dgw y.natAbs) = wL (dgw y.natAbs)) ∧ True, FnOk Try.prog (125 : Nat) (Inst.mk [AV.lst (0 : Nat) [], AV.lst (dgw y.natAbs).length (wL (dgw y.natAbs))] [] (AV.lst (dgw y.natAbs).length (wL (dgw y.natAbs))) []), ((dgw y.natAbs).length = (dgw y.natAbs).length ∧ wL (dgw y.natAbs) = wL (dgw y.natAbs)) ∧ True, FnOk Try.prog (172 : Nat) (Inst.mk [AV.lst (dgw y.natAbs).length (wL (dgw y.natAbs))] [] (AV.v (Value.int IntKind.i64 (↑(blen y.natAbs) : Int))) []), decide ((2240 : Int) < (↑(blen y.natAbs) : Int)) = false] (by kernel_rfl) ?_
    ((repeat' refine And.intro ?_ ?_); (with_reducible rfl); rotate_left 1; (iterate 4 (with_reducible rfl)); (exact True.intro); ((show FnOk _ _ _; assumption)); (iterate 2 (with_reducible rfl)); (exact True.intro); ((show FnOk _ _ _; assumption)); ((with_reducible refine Df ?_; omega)); (exact True.intro))
    all_goals (rw [hneg])
/-! ### exact: a number comes to a new sum -/
theorem lt_p2 {x a b : Nat} (h : x < 2 ^ a) (hab : a ≤ b) : x < p2 b := Nat.lt_of_lt_of_le h (Nat.pow_le_pow_right (Nat.succ_pos 1) hab)
theorem ff_room : FF ≤ roomK := by rw [FF_eq]; decide
theorem vl_room {r : Nat} (h : r < irg) : vl r < roomN := lt_p2 (vl_pow r h) ff_room
theorem sv_abs (b : Nat) : (sv b).natAbs = vl (rg b) := by unfold sv; split <;> omega
theorem sv_neg {b : Nat} (h0 : 0 < rg b) : decide (sv b < 0) = ng b := by
  have := vl_pos h0
  unfold sv
  cases ng b
  · rw [if_neg (by simp)]; exact decide_eq_false (by omega)
  · rw [if_pos rfl]; exact decide_eq_true (by omega)
theorem tz_split : ∀ {n : Nat}, 0 < n → n / 2 ^ tz n * 2 ^ tz n = n ∧ n / 2 ^ tz n % 2 = 1 := by
  intro n
  induction n using Nat.strongRecOn with
  | ind n ih =>
    intro h
    by_cases ho : n % 2 = 1
    · rw [tz_odd ho, Nat.pow_zero, Nat.div_one, Nat.mul_one]; exact ⟨rfl, ho⟩
    · obtain ⟨h1, h2⟩ := ih (n / 2) (by omega) (by omega)
      rw [tz_even (by omega) (by omega), Nat.pow_succ, Nat.mul_comm (2 ^ tz (n / 2)) 2, ← Nat.div_div_eq_div_mul]
      refine ⟨?_, h2⟩
      rw [Nat.mul_comm 2, ← Nat.mul_assoc, h1]; omega
theorem sp_eq {r : Nat} (h : 0 < r) : spM r * 2 ^ spA r = vl r ∧ spM r % 2 = 1 := tz_split (vl_pos h)
theorem spA_lt {r : Nat} (h0 : 0 < r) (h : r < irg) : spA r < 2098 ∧ spM r < 18446744073709551616 := by
  obtain ⟨h1, h2⟩ := sp_eq h0
  have hp := Nat.two_pow_pos (spA r)
  refine ⟨pow_le_vl (spM r) (spA r) r (by omega) h1 h, ?_⟩
  obtain ⟨b1, b2, b3, b4⟩ := mg_bound r h
  have hv : mg r * 2 ^ ex r = vl r := rfl
  rcases Nat.lt_or_ge (spM r) 18446744073709551616 with h3 | h3
  · exact h3
  · exfalso
    have h4 : ex r ≤ spA r := by
      rcases Nat.lt_or_ge (spA r) (ex r) with h5 | h5
      · have e : 2 ^ ex r = 2 ^ (ex r - spA r) * 2 ^ spA r := by rw [← Nat.pow_add, show ex r - spA r + spA r = ex r by omega]
        rw [e, ← Nat.mul_assoc] at hv
        have h6 := Nat.eq_of_mul_eq_mul_right hp (h1.trans hv.symm)
        have h7 : 2 ^ (ex r - spA r) = 2 * 2 ^ (ex r - spA r - 1) := by rw [← Nat.pow_succ', show (ex r - spA r - 1).succ = ex r - spA r by omega]
        rw [h7, Nat.mul_left_comm] at h6
        omega
      · exact h5
    have h8 : spM r ≤ mg r := by
      have h9 : 2 ^ ex r ≤ 2 ^ spA r := Nat.pow_le_pow_right (by decide) h4
      have h10 : spM r * 2 ^ ex r ≤ mg r * 2 ^ ex r := by rw [hv, ← h1]; exact Nat.mul_le_mul_left _ h9
      exact Nat.le_of_mul_le_mul_right h10 (Nat.two_pow_pos _)
    omega
section
variable {b : Nat} (hb : b < 18446744073709551616)
include hb
theorem addF_fn (h0 : 0 < rg b) (h : rg b < irg) : FnOk Try.prog 85 ⟨[.ptr 1000 0, fB b], [exZ 1000 0], bz true, [exO 1000 16 (sv b)]⟩ := by
  have e1 := isZ_fn 0
  have e2 := floSplit_fn hb h0 h
  have e3 := floKind_fn hb
  rw [kind_fin b h0 h] at e3
  obtain ⟨s1, s2⟩ := sp_eq h0
  obtain ⟨s3, s4⟩ := spA_lt h0 h
  have e4 := of_ok (spM (rg b)) s4
  have e5 := shl_ok (m := spM (rg b)) (k := spA (rg b)) (Nat.le_trans (dig_len2W (k := 64) (by simpa using s4)) (by decide)) (by omega)
  rw [s1] at e5
  have e6 := putZ_fn 0 (sv b) (by rw [sv_abs]; exact vl_room h) (by have := sv_abs b; have := vl_pos h0; omega)
  rw [sv_neg h0, sv_abs] at e6
  generalize ng b = g at *
  generalize spM (rg b) = m at *
  generalize spA (rg b) = a at *
  generalize dgw (vl (rg b)) = u at *
  generalize sv b = z at *
  refine fn_go hmo Try.func85 (by kernel_rfl) [(11, Hint.call (Inst.mk [AV.ptr (1000 : Nat) (0 : Nat)] [exZ (1000 : Nat) (0 : Int)] (bz true) [exZ (1000 : Nat) (0 : Int)])), (15, Hint.call (Inst.mk [fB b] [] (AV.tup [bz g, uz (↑m : Int), iz ((↑a : Int) - (1074 : Int))]) [])), (20, Hint.call (Inst.mk [fB b] [] (iz (↑(1 : Nat) : Int)) [])), (23, Hint.call (Inst.mk [uz (↑m : Int)] [] (wA (dgw m)) [])), (25, Hint.val (AV.v (Value.int IntKind.i64 ((↑a : Int) - (1074 : Int) - (-1074 : Int))))), (26, Hint.call (Inst.mk [wA (dgw m), iz (↑a : Int)] [] (AV.tup [wA u, bz true]) [])), (32, Hint.call (Inst.mk [AV.ptr (1000 : Nat) (0 : Nat), bz g, wA u] [exZ (1000 : Nat) (0 : Int)] (bz true) [exO (1000 : Nat) (0 : Int) z])), (38, Hint.val (AV.v (Value.int IntKind.u8 (16 : Int))))] [] [true = true, [AV.v (Value.bool true), AV.v (Value.int IntKind.u8 (16 : Int)), AV.v (Value.bool (decide (z < (0 : Int)))), AV.lst (dgw z.natAbs).length (wL (dgw z.natAbs))] = [AV.v (Value.bool true), AV.v (Value.int IntKind.u8 (16 : Int)), AV.v (Value.bool (decide (z < (0 : Int)))), AV.lst (dgw z.natAbs).length (wL (dgw z.natAbs))], ((1000 : Nat) = (1000 : Nat) ∧ (0 : Nat) = (0 : Nat)) ∧ True, FnOk Try.prog (144 : Nat) (Inst.mk [AV.ptr (1000 : Nat) (0 : Nat)] [((1000 : Nat), AObj.cells (196 : TypeId) [AV.v (Value.bool true), AV.v (Value.int IntKind.u8 (0 : Int)), AV.v (Value.bool false), AV.v (Value.slice none (0 : Nat) (0 : Nat))])] (AV.v (Value.bool true)) [((1000 : Nat), AObj.cells (196 : TypeId) [AV.v (Value.bool true), AV.v (Value.int IntKind.u8 (0 : Int)), AV.v (Value.bool false), AV.v (Value.slice none (0 : Nat) (0 : Nat))])]), [AV.v (Value.bool true), AV.v (Value.int IntKind.u8 (0 : Int)), AV.v (Value.bool false), AV.v (Value.slice none (0 : Nat) (0 : Nat))] = [AV.v (Value.bool true), AV.v (Value.int IntKind.u8 (0 : Int)), AV.v (Value.bool false), AV.v (Value.slice none (0 : Nat) (0 : Nat))], AV.v (Value.float FloatKind.f64 b) = AV.v (Value.float FloatKind.f64 b) ∧ True, FnOk Try.prog (145 : Nat) (Inst.mk [AV.v (Value.float FloatKind.f64 b)] [] (AV.tup [AV.v (Value.bool g), AV.v (Value.int IntKind.u64 (↑m : Int)), AV.v (Value.int IntKind.i64 ((↑a : Int) - (1074 : Int)))]) []), AV.v (Value.float FloatKind.f64 b) = AV.v (Value.float FloatKind.f64 b) ∧ True, FnOk Try.prog (146 : Nat) (Inst.mk [AV.v (Value.float FloatKind.f64 b)] [] (AV.v (Value.int IntKind.i64 (↑(1 : Nat) : Int))) []), (↑m : Int) = (↑m : Int) ∧ True, FnOk Try.prog (81 : Nat) (Inst.mk [AV.v (Value.int IntKind.u64 (↑m : Int))] [] (AV.lst (dgw m).length (wL (dgw m))) []), IntKind.i64.wrap ((↑a : Int) - (1074 : Int) - (-1074 : Int)) = (↑a : Int) - (1074 : Int) - (-1074 : Int), ((dgw m).length = (dgw m).length ∧ wL (dgw m) = wL (dgw m)) ∧ (↑a : Int) - (1074 : Int) - (-1074 : Int) = (↑a : Int) ∧ True, FnOk Try.prog (147 : Nat) (Inst.mk [AV.lst (dgw m).length (wL (dgw m)), AV.v (Value.int IntKind.i64 (↑a : Int))] [] (AV.tup [AV.lst u.length (wL u), AV.v (Value.bool true)]) []), ((1000 : Nat) = (1000 : Nat) ∧ (0 : Nat) = (0 : Nat)) ∧ g = g ∧ (u.length = u.length ∧ wL u = wL u) ∧ True, FnOk Try.prog (148 : Nat) (Inst.mk [AV.ptr (1000 : Nat) (0 : Nat), AV.v (Value.bool g), AV.lst u.length (wL u)] [((1000 : Nat), AObj.cells (196 : TypeId) [AV.v (Value.bool true), AV.v (Value.int IntKind.u8 (0 : Int)), AV.v (Value.bool false), AV.v (Value.slice none (0 : Nat) (0 : Nat))])] (AV.v (Value.bool true)) [((1000 : Nat), AObj.cells (196 : TypeId) [AV.v (Value.bool true), AV.v (Value.int IntKind.u8 (0 : Int)), AV.v (Value.bool (decide (z < (0 : Int)))), AV.lst (dgw z.natAbs).length (wL (dgw z.natAbs))])]), [AV.v (Value.bool true), AV.v (Value.int IntKind.u8 (0 : Int)), AV.v (Value.bool false), AV.v (Value.slice none (0 : Nat) (0 : Nat))] = [AV.v (Value.bool true), AV.v (Value.int IntKind.u8 (0 : Int)), AV.v (Value.bool false), AV.v (Value.slice none (0 : Nat) (0 : Nat))], IntKind.u8.wrap (↑(16 : Nat) : Int) = (16 : Int)] (by kernel_rfl) ?_
  ((repeat' refine And.intro ?_ ?_); (iterate 4 (with_reducible rfl)); (exact True.intro); ((show FnOk _ _ _; assumption)); (iterate 2 (with_reducible rfl)); (exact True.intro); ((show FnOk _ _ _; assumption)); (with_reducible rfl); (exact True.intro); ((show FnOk _ _ _; assumption)); (with_reducible rfl); (exact True.intro); ((show FnOk _ _ _; assumption)); (exact Wi _ (by omega)); (iterate 2 (with_reducible rfl)); (omega); (exact True.intro); ((show FnOk _ _ _; assumption)); (iterate 5 (with_reducible rfl)); (exact True.intro); ((show FnOk _ _ _; assumption)); (with_reducible rfl); (exact tmodN _ _); (exact True.intro))
/-- what came, where it is no finite number that counts -/
def camK (b : Nat) : Nat := if kindF b = 3 then 1 else if kindF b = 2 then (if ng b then 4 else 2) else (if ng b then 8 else 16)
theorem addN_fn (h : kindF b ≠ 1) : FnOk Try.prog 85 ⟨[.ptr 1000 0, fB b], [exZ 1000 0], bz true, [exZ 1000 (camK b : Nat)]⟩ := by
  have e1 := isZ_fn 0
  have e2 := floSplitO_fn hb h
  have e3 := floKind_fn hb
  have hkl := kind_le b
  unfold camK
  generalize ng b = g at *
  generalize kindF b = k at *
  by_cases h3 : k = 3
  · subst h3
    refine fn_go hmo Try.func85 (by kernel_rfl) [(11, Hint.call (Inst.mk [AV.ptr (1000 : Nat) (0 : Nat)] [exZ (1000 : Nat) (0 : Int)] (bz true) [exZ (1000 : Nat) (0 : Int)])), (15, Hint.call (Inst.mk [fB b] [] (AV.tup [bz (decide ((3 : Nat) ≠ (3 : Nat)) && g), uz (0 : Int), iz (0 : Int)]) [])), (20, Hint.call (Inst.mk [fB b] [] (iz (↑(3 : Nat) : Int)) [])), (47, Hint.val (AV.v (Value.int IntKind.u8 (1 : Int))))] [] [true = true, [AV.v (Value.bool true), AV.v (Value.int IntKind.u8 (1 : Int)), AV.v (Value.bool false), AV.v (Value.slice none (0 : Nat) (0 : Nat))] = [AV.v (Value.bool true), AV.v (Value.int IntKind.u8 (↑(if (3 : Nat) = (3 : Nat) then (1 : Nat) else if (3 : Nat) = (2 : Nat) then if g = true then (4 : Nat) else (2 : Nat) else if g = true then (8 : Nat) else (16 : Nat)) : Int)), AV.v (Value.bool false), AV.v (Value.slice none (0 : Nat) (0 : Nat))], ((1000 : Nat) = (1000 : Nat) ∧ (0 : Nat) = (0 : Nat)) ∧ True, FnOk Try.prog (144 : Nat) (Inst.mk [AV.ptr (1000 : Nat) (0 : Nat)] [((1000 : Nat), AObj.cells (196 : TypeId) [AV.v (Value.bool true), AV.v (Value.int IntKind.u8 (0 : Int)), AV.v (Value.bool false), AV.v (Value.slice none (0 : Nat) (0 : Nat))])] (AV.v (Value.bool true)) [((1000 : Nat), AObj.cells (196 : TypeId) [AV.v (Value.bool true), AV.v (Value.int IntKind.u8 (0 : Int)), AV.v (Value.bool false), AV.v (Value.slice none (0 : Nat) (0 : Nat))])]), [AV.v (Value.bool true), AV.v (Value.int IntKind.u8 (0 : Int)), AV.v (Value.bool false), AV.v (Value.slice none (0 : Nat) (0 : Nat))] = [AV.v (Value.bool true), AV.v (Value.int IntKind.u8 (0 : Int)), AV.v (Value.bool false), AV.v (Value.slice none (0 : Nat) (0 : Nat))], AV.v (Value.float FloatKind.f64 b) = AV.v (Value.float FloatKind.f64 b) ∧ True, FnOk Try.prog (145 : Nat) (Inst.mk [AV.v (Value.float FloatKind.f64 b)] [] (AV.tup [AV.v (Value.bool false), AV.v (Value.int IntKind.u64 (0 : Int)), AV.v (Value.int IntKind.i64 (0 : Int))]) []), AV.v (Value.float FloatKind.f64 b) = AV.v (Value.float FloatKind.f64 b) ∧ True, FnOk Try.prog (146 : Nat) (Inst.mk [AV.v (Value.float FloatKind.f64 b)] [] (AV.v (Value.int IntKind.i64 (↑(3 : Nat) : Int))) []), IntKind.u8.wrap (↑(1 : Nat) : Int) = (1 : Int)] (by kernel_rfl) ?_
    ((repeat' refine And.intro ?_ ?_); (with_reducible rfl); (exact rfl); (iterate 2 (with_reducible rfl)); (exact True.intro); ((show FnOk _ _ _; assumption)); (iterate 2 (with_reducible rfl)); (exact True.intro); ((show FnOk _ _ _; assumption)); (with_reducible rfl); (exact True.intro); ((show FnOk _ _ _; assumption)); (exact tmodN _ _); (exact True.intro))
  · rw [decide_eq_true h3, Bool.true_and] at e2
    by_cases h2 : k = 2
    · subst h2
      cases g
      · refine fn_go hmo Try.func85 (by kernel_rfl) [(11, Hint.call (Inst.mk [AV.ptr (1000 : Nat) (0 : Nat)] [exZ (1000 : Nat) (0 : Int)] (bz true) [exZ (1000 : Nat) (0 : Int)])), (15, Hint.call (Inst.mk [fB b] [] (AV.tup [bz false, uz (0 : Int), iz (0 : Int)]) [])), (20, Hint.call (Inst.mk [fB b] [] (iz (↑(2 : Nat) : Int)) [])), (64, Hint.val (AV.v (Value.int IntKind.u8 (2 : Int))))] [] [true = true, [AV.v (Value.bool true), AV.v (Value.int IntKind.u8 (2 : Int)), AV.v (Value.bool false), AV.v (Value.slice none (0 : Nat) (0 : Nat))] = [AV.v (Value.bool true), AV.v (Value.int IntKind.u8 (↑(2 : Nat) : Int)), AV.v (Value.bool false), AV.v (Value.slice none (0 : Nat) (0 : Nat))], ((1000 : Nat) = (1000 : Nat) ∧ (0 : Nat) = (0 : Nat)) ∧ True, FnOk Try.prog (144 : Nat) (Inst.mk [AV.ptr (1000 : Nat) (0 : Nat)] [((1000 : Nat), AObj.cells (196 : TypeId) [AV.v (Value.bool true), AV.v (Value.int IntKind.u8 (0 : Int)), AV.v (Value.bool false), AV.v (Value.slice none (0 : Nat) (0 : Nat))])] (AV.v (Value.bool true)) [((1000 : Nat), AObj.cells (196 : TypeId) [AV.v (Value.bool true), AV.v (Value.int IntKind.u8 (0 : Int)), AV.v (Value.bool false), AV.v (Value.slice none (0 : Nat) (0 : Nat))])]), [AV.v (Value.bool true), AV.v (Value.int IntKind.u8 (0 : Int)), AV.v (Value.bool false), AV.v (Value.slice none (0 : Nat) (0 : Nat))] = [AV.v (Value.bool true), AV.v (Value.int IntKind.u8 (0 : Int)), AV.v (Value.bool false), AV.v (Value.slice none (0 : Nat) (0 : Nat))], AV.v (Value.float FloatKind.f64 b) = AV.v (Value.float FloatKind.f64 b) ∧ True, FnOk Try.prog (145 : Nat) (Inst.mk [AV.v (Value.float FloatKind.f64 b)] [] (AV.tup [AV.v (Value.bool false), AV.v (Value.int IntKind.u64 (0 : Int)), AV.v (Value.int IntKind.i64 (0 : Int))]) []), AV.v (Value.float FloatKind.f64 b) = AV.v (Value.float FloatKind.f64 b) ∧ True, FnOk Try.prog (146 : Nat) (Inst.mk [AV.v (Value.float FloatKind.f64 b)] [] (AV.v (Value.int IntKind.i64 (↑(2 : Nat) : Int))) []), IntKind.u8.wrap (↑(2 : Nat) : Int) = (2 : Int)] (by kernel_rfl) ?_
        ((repeat' refine And.intro ?_ ?_); (with_reducible rfl); (exact rfl); (iterate 2 (with_reducible rfl)); (exact True.intro); ((show FnOk _ _ _; assumption)); (iterate 2 (with_reducible rfl)); (exact True.intro); ((show FnOk _ _ _; assumption)); (with_reducible rfl); (exact True.intro); ((show FnOk _ _ _; assumption)); (exact tmodN _ _); (exact True.intro))
      · refine fn_go hmo Try.func85 (by kernel_rfl) [(11, Hint.call (Inst.mk [AV.ptr (1000 : Nat) (0 : Nat)] [exZ (1000 : Nat) (0 : Int)] (bz true) [exZ (1000 : Nat) (0 : Int)])), (15, Hint.call (Inst.mk [fB b] [] (AV.tup [bz true, uz (0 : Int), iz (0 : Int)]) [])), (20, Hint.call (Inst.mk [fB b] [] (iz (↑(2 : Nat) : Int)) [])), (57, Hint.val (AV.v (Value.int IntKind.u8 (4 : Int))))] [] [true = true, [AV.v (Value.bool true), AV.v (Value.int IntKind.u8 (4 : Int)), AV.v (Value.bool false), AV.v (Value.slice none (0 : Nat) (0 : Nat))] = [AV.v (Value.bool true), AV.v (Value.int IntKind.u8 (↑(4 : Nat) : Int)), AV.v (Value.bool false), AV.v (Value.slice none (0 : Nat) (0 : Nat))], ((1000 : Nat) = (1000 : Nat) ∧ (0 : Nat) = (0 : Nat)) ∧ True, FnOk Try.prog (144 : Nat) (Inst.mk [AV.ptr (1000 : Nat) (0 : Nat)] [((1000 : Nat), AObj.cells (196 : TypeId) [AV.v (Value.bool true), AV.v (Value.int IntKind.u8 (0 : Int)), AV.v (Value.bool false), AV.v (Value.slice none (0 : Nat) (0 : Nat))])] (AV.v (Value.bool true)) [((1000 : Nat), AObj.cells (196 : TypeId) [AV.v (Value.bool true), AV.v (Value.int IntKind.u8 (0 : Int)), AV.v (Value.bool false), AV.v (Value.slice none (0 : Nat) (0 : Nat))])]), [AV.v (Value.bool true), AV.v (Value.int IntKind.u8 (0 : Int)), AV.v (Value.bool false), AV.v (Value.slice none (0 : Nat) (0 : Nat))] = [AV.v (Value.bool true), AV.v (Value.int IntKind.u8 (0 : Int)), AV.v (Value.bool false), AV.v (Value.slice none (0 : Nat) (0 : Nat))], AV.v (Value.float FloatKind.f64 b) = AV.v (Value.float FloatKind.f64 b) ∧ True, FnOk Try.prog (145 : Nat) (Inst.mk [AV.v (Value.float FloatKind.f64 b)] [] (AV.tup [AV.v (Value.bool true), AV.v (Value.int IntKind.u64 (0 : Int)), AV.v (Value.int IntKind.i64 (0 : Int))]) []), AV.v (Value.float FloatKind.f64 b) = AV.v (Value.float FloatKind.f64 b) ∧ True, FnOk Try.prog (146 : Nat) (Inst.mk [AV.v (Value.float FloatKind.f64 b)] [] (AV.v (Value.int IntKind.i64 (↑(2 : Nat) : Int))) []), IntKind.u8.wrap (↑(4 : Nat) : Int) = (4 : Int)] (by kernel_rfl) ?_
        ((repeat' refine And.intro ?_ ?_); (with_reducible rfl); (exact rfl); (iterate 2 (with_reducible rfl)); (exact True.intro); ((show FnOk _ _ _; assumption)); (iterate 2 (with_reducible rfl)); (exact True.intro); ((show FnOk _ _ _; assumption)); (with_reducible rfl); (exact True.intro); ((show FnOk _ _ _; assumption)); (exact tmodN _ _); (exact True.intro))
    · obtain rfl : k = 0 := by omega
      cases g
      · refine fn_go hmo Try.func85 (by kernel_rfl) [(11, Hint.call (Inst.mk [AV.ptr (1000 : Nat) (0 : Nat)] [exZ (1000 : Nat) (0 : Int)] (bz true) [exZ (1000 : Nat) (0 : Int)])), (15, Hint.call (Inst.mk [fB b] [] (AV.tup [bz false, uz (0 : Int), iz (0 : Int)]) [])), (20, Hint.call (Inst.mk [fB b] [] (iz (↑(0 : Nat) : Int)) [])), (81, Hint.val (AV.v (Value.int IntKind.u8 (16 : Int))))] [] [true = true, [AV.v (Value.bool true), AV.v (Value.int IntKind.u8 (16 : Int)), AV.v (Value.bool false), AV.v (Value.slice none (0 : Nat) (0 : Nat))] = [AV.v (Value.bool true), AV.v (Value.int IntKind.u8 (↑(16 : Nat) : Int)), AV.v (Value.bool false), AV.v (Value.slice none (0 : Nat) (0 : Nat))], ((1000 : Nat) = (1000 : Nat) ∧ (0 : Nat) = (0 : Nat)) ∧ True, FnOk Try.prog (144 : Nat) (Inst.mk [AV.ptr (1000 : Nat) (0 : Nat)] [((1000 : Nat), AObj.cells (196 : TypeId) [AV.v (Value.bool true), AV.v (Value.int IntKind.u8 (0 : Int)), AV.v (Value.bool false), AV.v (Value.slice none (0 : Nat) (0 : Nat))])] (AV.v (Value.bool true)) [((1000 : Nat), AObj.cells (196 : TypeId) [AV.v (Value.bool true), AV.v (Value.int IntKind.u8 (0 : Int)), AV.v (Value.bool false), AV.v (Value.slice none (0 : Nat) (0 : Nat))])]), [AV.v (Value.bool true), AV.v (Value.int IntKind.u8 (0 : Int)), AV.v (Value.bool false), AV.v (Value.slice none (0 : Nat) (0 : Nat))] = [AV.v (Value.bool true), AV.v (Value.int IntKind.u8 (0 : Int)), AV.v (Value.bool false), AV.v (Value.slice none (0 : Nat) (0 : Nat))], AV.v (Value.float FloatKind.f64 b) = AV.v (Value.float FloatKind.f64 b) ∧ True, FnOk Try.prog (145 : Nat) (Inst.mk [AV.v (Value.float FloatKind.f64 b)] [] (AV.tup [AV.v (Value.bool false), AV.v (Value.int IntKind.u64 (0 : Int)), AV.v (Value.int IntKind.i64 (0 : Int))]) []), AV.v (Value.float FloatKind.f64 b) = AV.v (Value.float FloatKind.f64 b) ∧ True, FnOk Try.prog (146 : Nat) (Inst.mk [AV.v (Value.float FloatKind.f64 b)] [] (AV.v (Value.int IntKind.i64 (↑(0 : Nat) : Int))) []), IntKind.u8.wrap (↑(16 : Nat) : Int) = (16 : Int)] (by kernel_rfl) ?_
        ((repeat' refine And.intro ?_ ?_); (with_reducible rfl); (exact rfl); (iterate 2 (with_reducible rfl)); (exact True.intro); ((show FnOk _ _ _; assumption)); (iterate 2 (with_reducible rfl)); (exact True.intro); ((show FnOk _ _ _; assumption)); (with_reducible rfl); (exact True.intro); ((show FnOk _ _ _; assumption)); (exact tmodN _ _); (exact True.intro))
      · refine fn_go hmo Try.func85 (by kernel_rfl) [(11, Hint.call (Inst.mk [AV.ptr (1000 : Nat) (0 : Nat)] [exZ (1000 : Nat) (0 : Int)] (bz true) [exZ (1000 : Nat) (0 : Int)])), (15, Hint.call (Inst.mk [fB b] [] (AV.tup [bz true, uz (0 : Int), iz (0 : Int)]) [])), (20, Hint.call (Inst.mk [fB b] [] (iz (↑(0 : Nat) : Int)) [])), (74, Hint.val (AV.v (Value.int IntKind.u8 (8 : Int))))] [] [true = true, [AV.v (Value.bool true), AV.v (Value.int IntKind.u8 (8 : Int)), AV.v (Value.bool false), AV.v (Value.slice none (0 : Nat) (0 : Nat))] = [AV.v (Value.bool true), AV.v (Value.int IntKind.u8 (↑(8 : Nat) : Int)), AV.v (Value.bool false), AV.v (Value.slice none (0 : Nat) (0 : Nat))], ((1000 : Nat) = (1000 : Nat) ∧ (0 : Nat) = (0 : Nat)) ∧ True, FnOk Try.prog (144 : Nat) (Inst.mk [AV.ptr (1000 : Nat) (0 : Nat)] [((1000 : Nat), AObj.cells (196 : TypeId) [AV.v (Value.bool true), AV.v (Value.int IntKind.u8 (0 : Int)), AV.v (Value.bool false), AV.v (Value.slice none (0 : Nat) (0 : Nat))])] (AV.v (Value.bool true)) [((1000 : Nat), AObj.cells (196 : TypeId) [AV.v (Value.bool true), AV.v (Value.int IntKind.u8 (0 : Int)), AV.v (Value.bool false), AV.v (Value.slice none (0 : Nat) (0 : Nat))])]), [AV.v (Value.bool true), AV.v (Value.int IntKind.u8 (0 : Int)), AV.v (Value.bool false), AV.v (Value.slice none (0 : Nat) (0 : Nat))] = [AV.v (Value.bool true), AV.v (Value.int IntKind.u8 (0 : Int)), AV.v (Value.bool false), AV.v (Value.slice none (0 : Nat) (0 : Nat))], AV.v (Value.float FloatKind.f64 b) = AV.v (Value.float FloatKind.f64 b) ∧ True, FnOk Try.prog (145 : Nat) (Inst.mk [AV.v (Value.float FloatKind.f64 b)] [] (AV.tup [AV.v (Value.bool true), AV.v (Value.int IntKind.u64 (0 : Int)), AV.v (Value.int IntKind.i64 (0 : Int))]) []), AV.v (Value.float FloatKind.f64 b) = AV.v (Value.float FloatKind.f64 b) ∧ True, FnOk Try.prog (146 : Nat) (Inst.mk [AV.v (Value.float FloatKind.f64 b)] [] (AV.v (Value.int IntKind.i64 (↑(0 : Nat) : Int))) []), IntKind.u8.wrap (↑(8 : Nat) : Int) = (8 : Int)] (by kernel_rfl) ?_
        ((repeat' refine And.intro ?_ ?_); (with_reducible rfl); (exact rfl); (iterate 2 (with_reducible rfl)); (exact True.intro); ((show FnOk _ _ _; assumption)); (iterate 2 (with_reducible rfl)); (exact True.intro); ((show FnOk _ _ _; assumption)); (with_reducible rfl); (exact True.intro); ((show FnOk _ _ _; assumption)); (exact tmodN _ _); (exact True.intro))
end
def ezInv (c : Int) (cs : List AV) : AS := ⟨[(0, .ptr 1000 0), (4, iz 0), (5, .row 38 0), (6, iz (-1))], [exZ 1000 c, rowB 38 3 cs], 72, [1000]⟩
theorem ez_loop (c : Int) (x : Nat) : LoopOk Try.prog (loopBody Try.f86 9) (ezInv c [.v (.int .u8 (x : Int)), .v (.int .u8 0), .v (.int .u8 0)]) (.exit 0) (ezInv c [.v (.int .u8 (x : Int)), .v (.int .u8 0), .v (.int .u8 0)]) := by
  refine LoopOk.of hmo (fun _ : Unit => ezInv c [.v (.int .u8 (x : Int)), .v (.int .u8 0), .v (.int .u8 0)]) (fun _ => 0) (fun _ => ?_) ()
  refine Round.out [] [] [(1000 : Nat) = (1000 : Nat) ∧ (0 : Nat) = (0 : Nat), (0 : Int) = (0 : Int), (38 : Nat) = (38 : Nat) ∧ (0 : Nat) = (0 : Nat), (-1 : Int) = (-1 : Int), [AV.v (Value.bool true), AV.v (Value.int IntKind.u8 c), AV.v (Value.bool false), AV.v (Value.slice none (0 : Nat) (0 : Nat))] = [AV.v (Value.bool true), AV.v (Value.int IntKind.u8 c), AV.v (Value.bool false), AV.v (Value.slice none (0 : Nat) (0 : Nat))], (3 : Nat) = (3 : Nat) ∧ (0 : Nat) = (0 : Nat) ∧ [AV.v (Value.int IntKind.u8 (↑x : Int)), AV.v (Value.int IntKind.u8 (0 : Int)), AV.v (Value.int IntKind.u8 (0 : Int))] = [AV.v (Value.int IntKind.u8 (↑x : Int)), AV.v (Value.int IntKind.u8 (0 : Int)), AV.v (Value.int IntKind.u8 (0 : Int))]] (by kernel_rfl) ?_
  ((repeat' refine And.intro ?_ ?_); (iterate 10 (with_reducible rfl)); (exact True.intro))
theorem bytesZ_fn {c : Nat} (hc : c ≤ 31) : FnOk Try.prog 86 ⟨[.ptr 1000 0], [exZ 1000 (c : Nat)], .lst 3 [.v (.int .u8 (c : Int)), .v (.int .u8 0), .v (.int .u8 0)], [exZ 1000 (c : Nat)]⟩ := by
  have h1 := isZ_fn (c : Nat)
  obtain ⟨n, hn, hn2, h2⟩ := noughts_ok (l := []) (by simp) (fun d hd => by cases hd) (.inl rfl)
  have hn' : n / 32 = 0 := hn
  have h3 := ez_loop (c : Nat) c
  refine fn_go hmo Try.func86 (by kernel_rfl) [(9, Hint.call (Inst.mk [AV.ptr (1000 : Nat) (0 : Nat)] [exZ (1000 : Nat) (↑c : Int)] (bz true) [exZ (1000 : Nat) (↑c : Int)])), (25, Hint.call (Inst.mk [wA []] [] (iz (↑n : Int)) [])), (26, Hint.val (AV.v (Value.int IntKind.i64 (↑(n / (32 : Nat)) : Int)))), (29, Hint.val (AV.v (Value.int IntKind.u8 (↑(n / (32 : Nat)) : Int)))), (34, Hint.val (AV.v (Value.int IntKind.i64 (0 : Int)))), (36, Hint.val (AV.v (Value.int IntKind.i64 (↑((0 : Nat) - n / (32 : Nat)) : Int)))), (37, Hint.val (AV.v (Value.int IntKind.u8 (↑((0 : Nat) - n / (32 : Nat)) : Int)))), (43, Hint.val (AV.v (Value.int IntKind.i64 (0 : Int)))), (44, Hint.val (AV.v (Value.int IntKind.i64 ((0 : Int) - (1 : Int)))))] [(9, ⟨.exit 0, ezInv (c : Nat) [.v (.int .u8 (c : Int)), .v (.int .u8 0), .v (.int .u8 0)], ezInv (c : Nat) [.v (.int .u8 (c : Int)), .v (.int .u8 0), .v (.int .u8 0)]⟩)] [(3 : Nat) = (3 : Nat) ∧ [AV.v (Value.int IntKind.u8 (↑c : Int)), AV.v (Value.int IntKind.u8 (0 : Int)), AV.v (Value.int IntKind.u8 (0 : Int))] = [AV.v (Value.int IntKind.u8 (↑c : Int)), AV.v (Value.int IntKind.u8 (0 : Int)), AV.v (Value.int IntKind.u8 (0 : Int))], [AV.v (Value.bool true), AV.v (Value.int IntKind.u8 (↑c : Int)), AV.v (Value.bool false), AV.v (Value.slice none (0 : Nat) (0 : Nat))] = [AV.v (Value.bool true), AV.v (Value.int IntKind.u8 (↑c : Int)), AV.v (Value.bool false), AV.v (Value.slice none (0 : Nat) (0 : Nat))], ((1000 : Nat) = (1000 : Nat) ∧ (0 : Nat) = (0 : Nat)) ∧ True, FnOk Try.prog (144 : Nat) (Inst.mk [AV.ptr (1000 : Nat) (0 : Nat)] [((1000 : Nat), AObj.cells (196 : TypeId) [AV.v (Value.bool true), AV.v (Value.int IntKind.u8 (↑c : Int)), AV.v (Value.bool false), AV.v (Value.slice none (0 : Nat) (0 : Nat))])] (AV.v (Value.bool true)) [((1000 : Nat), AObj.cells (196 : TypeId) [AV.v (Value.bool true), AV.v (Value.int IntKind.u8 (↑c : Int)), AV.v (Value.bool false), AV.v (Value.slice none (0 : Nat) (0 : Nat))])]), [AV.v (Value.bool true), AV.v (Value.int IntKind.u8 (↑c : Int)), AV.v (Value.bool false), AV.v (Value.slice none (0 : Nat) (0 : Nat))] = [AV.v (Value.bool true), AV.v (Value.int IntKind.u8 (↑c : Int)), AV.v (Value.bool false), AV.v (Value.slice none (0 : Nat) (0 : Nat))], ((0 : Nat) = (0 : Nat) ∧ ([] : List AV) = []) ∧ True, FnOk Try.prog (149 : Nat) (Inst.mk [AV.lst (0 : Nat) []] [] (AV.v (Value.int IntKind.i64 (↑n : Int))) []), IntKind.i64.wrap ((↑n : Int).tdiv (32 : Int)) = (↑(n / (32 : Nat)) : Int), (32 : Int) ≠ (0 : Int), IntKind.u8.wrap (↑(n / (32 : Nat)) : Int) = (↑(n / (32 : Nat)) : Int), (↑(0 : Nat) : Int) = (0 : Int), IntKind.i64.wrap ((0 : Int) - (↑(n / (32 : Nat)) : Int)) = (↑((0 : Nat) - n / (32 : Nat)) : Int), IntKind.u8.wrap (↑((0 : Nat) - n / (32 : Nat)) : Int) = (↑((0 : Nat) - n / (32 : Nat)) : Int), (↑(0 : Nat) : Int) = (0 : Int), IntKind.i64.wrap ((0 : Int) - (1 : Int)) = (0 : Int) - (1 : Int), LoopOk Try.prog (loopBody Try.f86 (9 : Nat)) (ezInv (↑c : Int) [AV.v (Value.int IntKind.u8 (↑c : Int)), AV.v (Value.int IntKind.u8 (0 : Int)), AV.v (Value.int IntKind.u8 (0 : Int))]) (Exit.exit (0 : Nat)) (ezInv (↑c : Int) [AV.v (Value.int IntKind.u8 (↑c : Int)), AV.v (Value.int IntKind.u8 (0 : Int)), AV.v (Value.int IntKind.u8 (0 : Int))]), (1000 : Nat) = (1000 : Nat) ∧ (0 : Nat) = (0 : Nat), (↑(n / (32 : Nat)) : Int) = (0 : Int), (38 : Nat) = (38 : Nat) ∧ (0 : Nat) = (0 : Nat), (0 : Int) - (1 : Int) = (-1 : Int), [AV.v (Value.bool true), AV.v (Value.int IntKind.u8 (↑c : Int)), AV.v (Value.bool false), AV.v (Value.slice none (0 : Nat) (0 : Nat))] = [AV.v (Value.bool true), AV.v (Value.int IntKind.u8 (↑c : Int)), AV.v (Value.bool false), AV.v (Value.slice none (0 : Nat) (0 : Nat))], (3 : Nat) = (3 : Nat) ∧ (0 : Nat) = (0 : Nat) ∧ [AV.v (Value.int IntKind.u8 (↑c : Int)), AV.v (Value.int IntKind.u8 (↑(n / (32 : Nat)) : Int)), AV.v (Value.int IntKind.u8 (↑((0 : Nat) - n / (32 : Nat)) : Int))] = [AV.v (Value.int IntKind.u8 (↑c : Int)), AV.v (Value.int IntKind.u8 (0 : Int)), AV.v (Value.int IntKind.u8 (0 : Int))]] (by kernel_rfl) ?_
  ((repeat' refine And.intro ?_ ?_); (iterate 5 (with_reducible rfl)); (exact True.intro); ((show FnOk _ _ _; assumption)); (iterate 3 (with_reducible rfl)); (exact True.intro); ((show FnOk _ _ _; assumption)); (exact tdivI _ _ _ (by rfl) (by omega)); (omega); ((rw [IntKind.wrap_u8]; omega)); (omega); ((rw [Wi _ (by omega)]; omega)); ((rw [IntKind.wrap_u8]; omega)); (omega); (exact Wi _ (by omega)); (with_reducible assumption); (iterate 2 (with_reducible rfl)); (omega); (iterate 2 (with_reducible rfl)); (omega); (iterate 3 (with_reducible rfl)); rotate_left 1; (exact True.intro))
  all_goals (rw [hn']; rfl)
end Go.Proofs.Ytfhmaincnlaapaa.Sy
