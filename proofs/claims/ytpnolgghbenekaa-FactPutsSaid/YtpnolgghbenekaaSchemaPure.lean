/-
  Layer 11: which schema is right (plain).
  bushelref11: Two, In, Sub.
-/
import Derived.Test.YtpnolgghbenekaaBlk
import Derived.IntWalk
import Derived.Test.YtpnolgghbenekaaRefLight
import Derived.Test.YtpnolgghbenekaaRefTwice
namespace Go.Proofs.Ytpnolgghbenekaa
open Go.ChangeShapes Go.WideShapes Go.ChangeAt Go.RowKit
set_option linter.unusedVariables false

/-- two to the n, kept shut -/
def p2 (n : Nat) : Nat := 2 ^ n
theorem p2_succ (n : Nat) : p2 (n + 1) = 2 * p2 n := by unfold p2; rw [Nat.pow_succ]; omega
theorem p2_pos (n : Nat) : 0 < p2 n := Nat.two_pow_pos n
theorem p2_le (n m : Nat) (h : n ≤ m) : p2 n ≤ p2 m := Nat.pow_le_pow_right (by decide) h
theorem p2_31 : p2 31 = 2147483648 := by decide
set_option maxRecDepth 20000 in
theorem two_any (w : World) (n : Nat) (hn : n ≤ 31) : Calls Try.prog 63 #[.int .i64 (n : Int)] w fun y w' => y = .returned (.int .u32 (p2 n : Int)) ∧ w = w' := by
  go_enter Try.func63, Try.ntmps63
  go_wp2
  go_loop [3, 4] (fun v3 v4 => ∃ k p : Nat, k ≤ n ∧ v4 = .int .i64 (k : Int) ∧ v3 = .int .u32 (p : Int) ∧ Hid (p = p2 k)) (fun _ v4 => n - (intOf v4).toNat)
  case atStart => exact ⟨0, 1, by omega, rfl, rfl, rfl⟩
  case round =>
    obtain ⟨k, p, hk, rfl, rfl, HP⟩ := hrel
    by_cases hlt : k < n
    · have hs := p2_succ k
      rw [← HP.out] at hs
      have hb : 2 * p ≤ 2147483648 := by
        rw [← hs, ← p2_31]; exact p2_le _ _ (by omega)
      have HS := Lib.hid hs; clear hs
      have q2 : (k : Int) < (n : Int) := by omega
      have hwr : IntKind.u32.wrap (2 * (p : Int)) = ((2 * p : Nat) : Int) := by rw [IntKind.wrap_u32]; omega
      go_wp2
      go_round
      case rel => exact ⟨k + 1, 2 * p, by omega, by go_num, by congr 1, HS.out.symm⟩
      case measure => simp [intOf]; omega
    · obtain rfl : k = n := by omega
      go_wp2
      go_ret
      exact ⟨by rw [← HP.out]; rfl, rfl⟩
/-- is dimension i in a set? -/
def inB (m i : Nat) : Bool := decide (m / p2 i % 2 = 1)
set_option maxRecDepth 20000 in
theorem in_any (w : World) (m i : Nat) (hi : i ≤ 31) (hm : m < 4294967296) : Calls Try.prog 101 #[.int .u32 (m : Int), .int .i64 (i : Int)] w fun y w' => y = .returned (.bool (inB m i)) ∧ w = w' := by
  have ht := two_any w i hi
  have hp := p2_pos i
  unfold inB
  generalize p2 i = p at *
  have hq : ((m : Int)).tdiv (p : Int) = ((m / p : Nat) : Int) := by rw [Int.tdiv_eq_ediv_of_nonneg (by omega)]; rfl
  have hle : m / p ≤ m := Nat.div_le_self _ _
  generalize m / p = q at *
  have hr : ((q : Int)).tmod 2 = ((q % 2 : Nat) : Int) := by rw [Int.tmod_eq_emod_of_nonneg (by omega)]; rfl
  have hq2 : q % 2 < 2 := Nat.mod_lt _ (by decide)
  generalize q % 2 = r at *
  have hz : ((p : Int) == 0) = false := by rw [beq_eq_false_iff_ne]; omega
  have hw1 : IntKind.u32.wrap (q : Int) = (q : Int) := by rw [IntKind.wrap_u32]; omega
  have HT := Lib.hid ht; clear ht
  have hr2 : r = 0 ∨ r = 1 := by omega
  rcases hr2 with rfl | rfl
  all_goals
    go_enter Try.func101, Try.ntmps101
    go_wp2_with (go_at_call 63; (with_reducible refine HT.out.mono ?_); rintro y w1 ⟨rfl, rfl⟩)
    go_ret
    exact ⟨rfl, rfl⟩
/-- is a set in another one? -/
def subTo (a b k : Nat) : Bool := (List.range k).all fun i => !inB a i || inB b i
def subB (a b : Nat) : Bool := subTo a b 32
theorem subTo_succ (a b k : Nat) : subTo a b (k + 1) = (subTo a b k && (!inB a k || inB b k)) := by
  unfold subTo
  rw [List.range_succ, List.all_append]; simp
theorem subTo_no (a b k : Nat) (hk : k < 32) (h : (!inB a k || inB b k) = false) : subB a b = false := by
  unfold subB subTo
  rw [List.all_eq_false]
  exact ⟨k, List.mem_range.2 hk, by rw [h]; decide⟩
set_option maxRecDepth 20000 in
theorem sub_any (w : World) (a b : Nat) (ha : a < 4294967296) (hb : b < 4294967296) : Calls Try.prog 64 #[.int .u32 (a : Int), .int .u32 (b : Int)] w fun y w' => y = .returned (.bool (subB a b)) ∧ w = w' := by
  have HA := Lib.hid (fun W i hi => in_any W a i hi ha)
  have HB := Lib.hid (fun W i hi => in_any W b i hi hb)
  go_enter Try.func64, Try.ntmps64
  go_wp2
  go_loop [5] (fun v5 => ∃ k : Nat, k ≤ 32 ∧ v5 = .int .i64 (k : Int) ∧ Hid (subTo a b k = true)) (fun v5 => 32 - (intOf v5).toNat)
  case atStart => exact ⟨0, by omega, rfl, rfl⟩
  case round =>
    obtain ⟨k, hk, rfl, HS⟩ := hrel
    by_cases hlt : k < 32
    · have q2 : (k : Int) < 32 := by omega
      have hst := subTo_succ a b k
      rw [HS.out, Bool.true_and] at hst
      have hno := subTo_no a b k hlt
      have hca := HA.out w k (by omega)
      have hcb := HB.out w k (by omega)
      generalize inB a k = x at *
      generalize inB b k = z at *
      have HST := Lib.hid hst; have HNO := Lib.hid hno; have HCA := Lib.hid hca; have HCB := Lib.hid hcb; clear hst hno hca hcb
      cases x <;> cases z
      case true.false =>
        have hn := HNO.out rfl
        have HN := Lib.hid hn; clear hn
        go_wp2_with (first
          | (go_at_call 101; (with_reducible refine HCA.out.mono ?_); rintro y w1 ⟨rfl, rfl⟩)
          | (go_at_call 101; (with_reducible refine HCB.out.mono ?_); rintro y w1 ⟨rfl, rfl⟩))
        go_ret
        exact ⟨by rw [HN.out]; rfl, rfl⟩
      all_goals
        have hy := HST.out
        have HY := Lib.hid hy; clear hy
        go_wp2_with (first
          | (go_at_call 101; (with_reducible refine HCA.out.mono ?_); rintro y w1 ⟨rfl, rfl⟩)
          | (go_at_call 101; (with_reducible refine HCB.out.mono ?_); rintro y w1 ⟨rfl, rfl⟩))
        go_round
        case rel => exact ⟨k + 1, by omega, by go_num, HY⟩
        case measure => simp [intOf]; omega
    · obtain rfl : k = 32 := by omega
      have HS2 : Hid (subB a b = true) := HS
      go_wp2
      go_ret
      exact ⟨by rw [HS2.out]; rfl, rfl⟩
end Go.Proofs.Ytpnolgghbenekaa
namespace Go.Proofs.Ytpnolgghbenekaa
open Go.ChangeShapes Go.WideShapes Go.ChangeAt Go.RowKit
set_option linter.unusedVariables false

/-- dimension k's size -/
def szAt (S : Sch) (k : Nat) : Int := (S.dims.getD k (⟨#[]⟩, 0)).2
def keyStep (p : Nat) (d : Int) : Option Nat := if 1 ≤ d ∧ d ≤ 4096 ∧ p * d.toNat ≤ 1099511627776 then some (p * d.toNat) else none
/-- the sizes of the first k dimensions, multiplied -/
def keysTo (S : Sch) : Nat → Option Nat
  | 0 => some 1
  | k + 1 => match keysTo S k with
    | none => none
    | some p => keyStep p (szAt S k)
theorem keysTo_succ (S : Sch) (k p : Nat) (h : keysTo S k = some p) : keysTo S (k + 1) = keyStep p (szAt S k) := by
  simp only [keysTo, h]
theorem keyStep_le {p : Nat} {d : Int} {q : Nat} (hp : 1 ≤ p) (h : keyStep p d = some q) : 1 ≤ q ∧ q ≤ 1099511627776 := by
  unfold keyStep at h
  split at h
  · rename_i hh
    injection h with h
    obtain ⟨h1, _, h3⟩ := hh
    have : 1 ≤ d.toNat := by omega
    have := Nat.mul_le_mul hp this
    omega
  · cases h
theorem keysTo_le (S : Sch) : ∀ k p, keysTo S k = some p → 1 ≤ p ∧ p ≤ 1099511627776
  | 0, p, h => by injection h with h; omega
  | k + 1, p, h => by
    cases hk : keysTo S k with
    | none => simp only [keysTo, hk] at h; cases h
    | some q =>
      rw [keysTo_succ S k q hk] at h
      exact keyStep_le (keysTo_le S k q hk).1 h
theorem keysTo_none (S : Sch) (k : Nat) (h : keysTo S k = none) : ∀ m, k ≤ m → keysTo S m = none
  | m, hm => by
    obtain ⟨d, rfl⟩ : ∃ d, m = k + d := ⟨m - k, by omega⟩
    induction d with
    | zero => exact h
    | succ d ih =>
      have := ih (by omega)
      rw [← Nat.add_assoc]
      simp only [keysTo, this]
theorem keyStep_no {p : Nat} {d : Int} (h : ¬ (1 ≤ d ∧ d ≤ 4096 ∧ p * d.toNat ≤ 1099511627776)) : keyStep p d = none := if_neg h
theorem keyStep_yes {p n : Nat} {d : Int} (h1 : 1 ≤ n) (h2 : n ≤ 4096) (h : d = (n : Int)) (h3 : p * n ≤ 1099511627776) : keyStep p d = some (p * n) := by
  subst h
  exact if_pos ⟨by omega, by omega, by simpa using h3⟩

/-- view k, and whether it may stand there -/
def viewAt (S : Sch) (k : Nat) : Nat := (S.views.getD k 0).toNat
def fullN (S : Sch) : Nat := p2 S.dims.length - 1
def viewOk (S : Sch) (k : Nat) : Bool := decide (viewAt S k < fullN S) && (decide (k = 0) || decide (viewAt S (k - 1) < viewAt S k))
def viewsTo (S : Sch) (k : Nat) : Bool := (List.range k).all (viewOk S)
theorem viewsTo_succ (S : Sch) (k : Nat) : viewsTo S (k + 1) = (viewsTo S k && viewOk S k) := by
  unfold viewsTo
  rw [List.range_succ, List.all_append]; simp
theorem viewsTo_no (S : Sch) (k : Nat) (hk : k < S.views.length) (h : viewOk S k = false) : viewsTo S S.views.length = false := by
  unfold viewsTo
  rw [List.all_eq_false]
  exact ⟨k, List.mem_range.2 hk, by rw [h]; decide⟩
theorem viewOk_zero (S : Sch) : viewOk S 0 = decide (viewAt S 0 < fullN S) := by
  unfold viewOk; rw [decide_eq_true (show (0 : Nat) = 0 from rfl), Bool.true_or, Bool.and_true]
theorem viewOk_pos (S : Sch) (k : Nat) (hk : 0 < k) : viewOk S k = (decide (viewAt S k < fullN S) && decide (viewAt S (k - 1) < viewAt S k)) := by
  unfold viewOk; rw [decide_eq_false (show ¬ k = 0 by omega), Bool.false_or]

def manyOk (S : Sch) : Prop := 1 ≤ S.dims.length ∧ S.dims.length ≤ 6 ∧ S.ints.length ≤ 3 ∧ S.nums.length ≤ 2 ∧ S.views.length ≤ 15
instance (S : Sch) : Decidable (manyOk S) := by unfold manyOk; infer_instance
/-- why a schema isn't right; 0: it is -/
def checkN (S : Sch) : Nat :=
  if manyOk S then
    if (namesL S).all isB = true then
      if dupB (namesL S) = true then 9
      else if keysTo S S.dims.length = none then 2
      else if viewsTo S S.views.length = true then 0 else 6
    else 8
  else 3
theorem checkN_many {S : Sch} (h : ¬ manyOk S) : checkN S = 3 := if_neg h
theorem checkN_name {S : Sch} (h : manyOk S) (h1 : (namesL S).all isB = false) : checkN S = 8 := by
  unfold checkN; rw [if_pos h, if_neg (by rw [h1]; decide)]
theorem checkN_dup {S : Sch} (h : manyOk S) (h1 : (namesL S).all isB = true) (h2 : dupB (namesL S) = true) : checkN S = 9 := by
  unfold checkN; rw [if_pos h, if_pos h1, if_pos h2]
theorem checkN_keys {S : Sch} (h : manyOk S) (h1 : (namesL S).all isB = true) (h2 : dupB (namesL S) = false) (k : Nat) (hk : k ≤ S.dims.length) (h3 : keysTo S k = none) : checkN S = 2 := by
  unfold checkN; rw [if_pos h, if_pos h1, if_neg (by rw [h2]; decide), if_pos (keysTo_none S k h3 _ hk)]
theorem checkN_views {S : Sch} (h : manyOk S) (h1 : (namesL S).all isB = true) (h2 : dupB (namesL S) = false) (p : Nat) (h3 : keysTo S S.dims.length = some p) (h4 : viewsTo S S.views.length = false) : checkN S = 6 := by
  unfold checkN; rw [if_pos h, if_pos h1, if_neg (by rw [h2]; decide), if_neg (by rw [h3]; intro e; cases e), if_neg (by rw [h4]; decide)]
theorem checkN_ok {S : Sch} (h : manyOk S) (h1 : (namesL S).all isB = true) (h2 : dupB (namesL S) = false) (p : Nat) (h3 : keysTo S S.dims.length = some p) (h4 : viewsTo S S.views.length = true) : checkN S = 0 := by
  unfold checkN; rw [if_pos h, if_pos h1, if_neg (by rw [h2]; decide), if_neg (by rw [h3]; intro e; cases e), if_pos h4]
/-- a right schema's limits -/
theorem checkN_zero {S : Sch} (h : checkN S = 0) : manyOk S ∧ ∃ p, keysTo S S.dims.length = some p := by
  unfold checkN at h
  split at h
  · rename_i hm
    split at h
    · split at h
      · cases h
      · split at h
        · cases h
        · rename_i hk
          refine ⟨hm, ?_⟩
          cases hq : keysTo S S.dims.length with
          | none => exact absurd hq hk
          | some p => exact ⟨p, rfl⟩
    · cases h
  · cases h
theorem keysTo_some (S : Sch) (m : Nat) (p : Nat) (h : keysTo S m = some p) : ∀ k, k < m → 1 ≤ szAt S k ∧ szAt S k ≤ 4096 := fun k hk => by
  cases hq : keysTo S (k + 1) with
  | none => rw [keysTo_none S (k + 1) hq m (by omega)] at h; cases h
  | some q =>
    cases hr : keysTo S k with
    | none => rw [keysTo_none S k hr (k + 1) (by omega)] at hq; cases hq
    | some r =>
      rw [keysTo_succ S k r hr] at hq
      unfold keyStep at hq
      split at hq
      · rename_i hh; exact ⟨hh.1, hh.2.1⟩
      · cases hq

theorem inB_bit (m i : Nat) : inB m i = m.testBit i := by
  unfold inB p2
  rw [Nat.testBit_eq_decide_div_mod_eq]
/-- in the set of all n dimensions are the numbers up to it -/
theorem sub_full (a n : Nat) (hn : n ≤ 31) (ha : a < 4294967296) : subB a (p2 n - 1) = decide (a < p2 n) := by
  have hb : ∀ i, inB (p2 n - 1) i = decide (i < n) := fun i => by
    rw [inB_bit]; unfold p2; rw [Nat.testBit_two_pow_sub_one]
  by_cases h : a < p2 n
  · rw [decide_eq_true h]
    unfold subB subTo
    rw [List.all_eq_true]
    intro i hi
    rw [hb, inB_bit]
    by_cases hin : i < n
    · rw [decide_eq_true hin]; simp
    · rw [Nat.testBit_lt_two_pow (Nat.lt_of_lt_of_le h (p2_le n i (by omega)))]; rfl
  · rw [decide_eq_false h]
    cases hs : subB a (p2 n - 1) with
    | false => rfl
    | true =>
      exfalso
      apply h
      unfold p2
      apply Nat.lt_pow_two_of_testBit
      intro i hi
      by_cases h32 : i < 32
      · unfold subB subTo at hs
        rw [List.all_eq_true] at hs
        have := hs i (List.mem_range.2 h32)
        rw [hb, inB_bit, decide_eq_false (by omega), Bool.or_false] at this
        simpa using this
      · exact Nat.testBit_lt_two_pow (Nat.lt_of_lt_of_le ha (by
          have := p2_le 32 i (by omega)
          unfold p2 at this
          omega))
end Go.Proofs.Ytpnolgghbenekaa
