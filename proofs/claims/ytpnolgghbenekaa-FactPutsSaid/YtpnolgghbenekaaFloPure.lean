/-
  PLAIN LEAN: real numbers as words of 64 bits: what a word's rung is worth, and that the order of numbers is the order of keys.
-/
import Derived.Test.YtpnolgghbenekaaCodePure
import Derived.Laws.FloatArith
namespace Go.Proofs.Ytpnolgghbenekaa
set_option linter.unusedVariables false
open Ieee

/-- the bits below the sign -/
def rg (b : Nat) : Nat := b % 9223372036854775808
def ng (b : Nat) : Bool := b / 9223372036854775808 % 2 == 1
/-- infinity's rung -/
def irg : Nat := 9218868437227405312
def nanB (b : Nat) : Bool := decide (irg < rg b)
def mg (r : Nat) : Nat := if r < 4503599627370496 then r else 4503599627370496 + r % 4503599627370496
def ex (r : Nat) : Nat := if r < 4503599627370496 then 0 else r / 4503599627370496 - 1
/-- what a rung is worth, in units of 2^-1074 -/
def vl (r : Nat) : Nat := mg r * 2 ^ ex r
def sv (b : Nat) : Int := if ng b then -(vl (rg b) : Int) else (vl (rg b) : Int)
/-- the key -/
def keyB (b : Nat) : Nat := if nanB b then 18446744073709551615 else if ng b then 9223372036854775807 - rg b else 9223372036854775808 + rg b

theorem fmt_eq : FloatKind.f64.format = double := rfl
theorem sw_eq : double.signWeight = 9223372036854775808 := by decide
theorem bi_eq : double.binade = 4503599627370496 := by decide
theorem ir_eq : double.infRung = 9218868437227405312 := by decide
theorem lp_eq : double.leastPlace = -1074 := by decide

theorem read_num (b : Nat) (h : rg b < irg) : double.read b = .number (ng b) (mg (rg b)) (-1074 + (ex (rg b) : Nat)) := by
  unfold Format.read
  simp only [sw_eq, bi_eq, ir_eq, lp_eq]
  unfold rg irg at *
  unfold mg ex ng
  split
  · simp
  · rfl
theorem read_inf (b : Nat) (h : rg b = irg) : double.read b = .infinity (ng b) := by
  unfold Format.read
  simp only [sw_eq, bi_eq, ir_eq, lp_eq]
  unfold rg irg at *
  unfold ng
  rw [if_neg (by omega), if_neg (by omega), if_pos h]
theorem read_nan (b : Nat) (h : irg < rg b) : double.read b = .nan (ng b) (rg b - irg) := by
  unfold Format.read
  simp only [sw_eq, bi_eq, ir_eq, lp_eq]
  unfold rg irg at *
  unfold ng
  rw [if_neg (by omega), if_neg (by omega), if_neg (by omega)]

theorem vl_lt {r s : Nat} (h : r < s) : vl r < vl s := by
  unfold vl mg ex
  by_cases hr : r < 4503599627370496
  · by_cases hs : s < 4503599627370496
    · simp [hr, hs]; exact h
    · rw [if_pos hr, if_pos hr, if_neg hs, if_neg hs]
      have : 1 ≤ 2 ^ (s / 4503599627370496 - 1) := Nat.one_le_two_pow
      calc r * 2 ^ 0 = r := by simp
        _ < (4503599627370496 + s % 4503599627370496) * 1 := by omega
        _ ≤ _ := Nat.mul_le_mul_left _ this
  · have hs : ¬ s < 4503599627370496 := by omega
    rw [if_neg hr, if_neg hr, if_neg hs, if_neg hs]
    obtain ⟨q, hq⟩ : ∃ q, r / 4503599627370496 = q + 1 := ⟨r / 4503599627370496 - 1, by omega⟩
    obtain ⟨p, hp⟩ : ∃ p, s / 4503599627370496 = p + 1 := ⟨s / 4503599627370496 - 1, by omega⟩
    rw [hq, hp, Nat.add_sub_cancel, Nat.add_sub_cancel]
    by_cases e : q = p
    · subst e
      exact Nat.mul_lt_mul_of_pos_right (by omega) (Nat.two_pow_pos _)
    · have hlt : q + 1 ≤ p := by omega
      have h2 : 2 ^ (q + 1) ≤ 2 ^ p := Nat.pow_le_pow_right (by decide) hlt
      calc (4503599627370496 + r % 4503599627370496) * 2 ^ q < (2 * 4503599627370496) * 2 ^ q := Nat.mul_lt_mul_of_pos_right (by omega) (Nat.two_pow_pos _)
        _ = 4503599627370496 * 2 ^ (q + 1) := by rw [Nat.pow_succ]; omega
        _ ≤ 4503599627370496 * 2 ^ p := Nat.mul_le_mul_left _ h2
        _ ≤ _ := Nat.mul_le_mul_right _ (by omega)
theorem vl_inj {r s : Nat} (h : vl r = vl s) : r = s := by
  rcases Nat.lt_trichotomy r s with h1 | h1 | h1
  · have := vl_lt h1; omega
  · exact h1
  · have := vl_lt h1; omega
theorem vl_zero : vl 0 = 0 := rfl
theorem vl_pos {r : Nat} (h : 0 < r) : 0 < vl r := by have := vl_lt h; rw [vl_zero] at this; exact this

theorem icmp_lt {x y : Int} (h : x < y) : compare x y = .lt := by simp [compare, compareOfLessAndEq, h]
theorem icmp_gt {x y : Int} (h : y < x) : compare x y = .gt := by
  have h1 : ¬ x < y := by omega
  have h2 : x ≠ y := by omega
  simp [compare, compareOfLessAndEq, h1, h2]
theorem compare_mul (x y : Int) (c : Nat) (hc : 0 < c) : compare (x * (c : Int)) (y * (c : Int)) = compare x y := by
  have hc' : (0 : Int) < c := by omega
  rcases Int.lt_trichotomy x y with h | h | h
  · rw [icmp_lt h, icmp_lt (Int.mul_lt_mul_of_pos_right h hc')]
  · subst h; simp
  · rw [icmp_gt h, icmp_gt (Int.mul_lt_mul_of_pos_right h hc')]
theorem signed_mul (s : Bool) (m k c : Nat) : signed s m k * ((2 ^ c : Nat) : Int) = if s then -((m * 2 ^ (k + c) : Nat) : Int) else ((m * 2 ^ (k + c) : Nat) : Int) := by
  unfold signed
  rw [Nat.shiftLeft_eq, Nat.pow_add, ← Nat.mul_assoc]
  split <;> simp [Int.neg_mul]
/-- numbers stand to one another as what they are worth -/
theorem order_num (a b : Nat) (ha : rg a < irg) (hb : rg b < irg) : double.order a b = some (compare (sv a) (sv b)) := by
  unfold Format.order
  rw [read_num a ha, read_num b hb]
  simp only [Datum.order]
  congr 1
  generalize hi : ex (rg a) = i
  generalize hj : ex (rg b) = j
  have e1 : ((-1074 + (i : Int)) - min (-1074 + (i : Int)) (-1074 + (j : Int))).toNat + min i j = i := by omega
  have e2 : ((-1074 + (j : Int)) - min (-1074 + (i : Int)) (-1074 + (j : Int))).toNat + min i j = j := by omega
  rw [← compare_mul _ _ (2 ^ min i j) (Nat.two_pow_pos _), signed_mul, signed_mul, e1, e2]
  unfold sv vl
  rw [hi, hj]
theorem vl_irg (r : Nat) (h : r < irg) : vl r < vl irg := vl_lt h
theorem order_any (a b : Nat) (ha : rg a ≤ irg) (hb : rg b ≤ irg) : double.order a b = some (compare (sv a) (sv b)) := by
  by_cases h1 : rg a = irg
  · by_cases h2 : rg b = irg
    · unfold Format.order
      rw [read_inf a h1, read_inf b h2]
      simp only [Datum.order, sv, h1, h2]
      have hp := vl_pos (show 0 < irg by decide)
      generalize vl irg = x at *
      congr 1
      cases ng a <;> cases ng b <;> simp <;> (first | rfl | (symm; first | (exact icmp_lt (by omega)) | (exact icmp_gt (by omega))))
    · unfold Format.order
      rw [read_inf a h1, read_num b (by omega)]
      simp only [Datum.order, sv, h1]
      have hv := vl_irg (rg b) (by omega)
      congr 1
      cases ng a <;> cases ng b <;> simp <;> (symm; first | (exact icmp_lt (by omega)) | (exact icmp_gt (by omega)))
  · by_cases h2 : rg b = irg
    · unfold Format.order
      rw [read_num a (by omega), read_inf b h2]
      simp only [Datum.order, sv, h2]
      have hv := vl_irg (rg a) (by omega)
      congr 1
      cases ng a <;> cases ng b <;> simp <;> (symm; first | (exact icmp_lt (by omega)) | (exact icmp_gt (by omega)))
    · exact order_num a b (by omega) (by omega)
theorem order_nan (a b : Nat) (h : irg < rg a ∨ irg < rg b) : double.order a b = none := by
  unfold Format.order
  by_cases ha : irg < rg a
  · rw [read_nan a ha]; cases double.read b <;> rfl
  · rw [read_nan b (by omega)]; cases double.read a <;> rfl
theorem order_self (b : Nat) : (double.order b b != some .eq) = nanB b := by
  unfold nanB
  by_cases h : irg < rg b
  · rw [order_nan b b (.inl h), decide_eq_true h]; rfl
  · rw [order_any b b (by omega) (by omega), decide_eq_false h]; simp
theorem rg_lt (b : Nat) : rg b < 9223372036854775808 := Nat.mod_lt _ (by decide)
theorem keyB_lt (b : Nat) : keyB b < 18446744073709551616 := by
  unfold keyB; have := rg_lt b; split; omega; split <;> omega
theorem ng_iff (b : Nat) (hb : b < 18446744073709551616) : ng b = decide (9223372036854775808 ≤ b) := by
  unfold ng; rw [Bool.eq_iff_iff]; simp; omega
/-- THE KEYS STAND IN THE ORDER OF THE NUMBERS, NaN last, -0 ahead of 0 -/
theorem key_lt (a b : Nat) (ha : nanB a = false) (hb : nanB b = false) : decide (keyB a < keyB b) = (decide (sv a < sv b) || (decide (sv a = sv b) && (ng a && !ng b))) := by
  have h1 : rg a ≤ irg := by unfold nanB at ha; simpa using ha
  have h2 : rg b ≤ irg := by unfold nanB at hb; simpa using hb
  unfold irg at h1 h2
  simp only [keyB, ha, hb]
  unfold sv
  have t := Nat.lt_trichotomy (rg a) (rg b)
  have hl : rg a < rg b → vl (rg a) < vl (rg b) := vl_lt
  have hg : rg b < rg a → vl (rg b) < vl (rg a) := vl_lt
  have z1 : 0 < rg a → 0 < vl (rg a) := vl_pos
  have z2 : 0 < rg b → 0 < vl (rg b) := vl_pos
  have z3 : rg a = 0 → vl (rg a) = 0 := fun h => by rw [h]; rfl
  have z4 : rg b = 0 → vl (rg b) = 0 := fun h => by rw [h]; rfl
  have e3 : rg a = rg b → vl (rg a) = vl (rg b) := fun h => by rw [h]
  generalize vl (rg a) = x at *
  generalize vl (rg b) = y at *
  generalize rg a = r at *
  generalize rg b = s at *
  rw [Bool.eq_iff_iff]
  cases ng a <;> cases ng b <;> simp <;> omega
end Go.Proofs.Ytpnolgghbenekaa
