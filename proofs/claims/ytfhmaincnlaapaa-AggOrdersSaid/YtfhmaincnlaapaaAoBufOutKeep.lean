/-
  THE WRITER's lay, U, I, F, T, B once more: what blocks of other types they keep.
  THE WRITER's I, F, T, B.
  An argument of cells: what its cells read as.
  An argument of facts: what its cells read as.
  An argument of asks: a slice of structs of six fields.
  An argument that is a schema: what its cells read as.
  READING DATA WITH DEPTH: how a thing is read out of cells; slices and structs of such things; what a law's argument reads as.
  bushellaw08.small, awake; bushelref08.Read and bushellaw08.read of any thing.
  bushellaw08.read: a thing is asked for, and is what must be.
  THE READER's B.
  THE READER's I, F, T.
  bushelref08.Read of a number with a sign; of bytes.
  bushelref08.Read of things of every kind.
  bushelref07.GetT: the document's text of any bytes is the same.
  bushelref07.GetI: the document's number with a sign of any bytes is the same.
  bushelref03.Less and Same: they stand to one another as the keys do.
  flo.Key and code.F, bushelref03's Kind, Below, Less: what they give at any real number's bits.
  PLAIN LEAN: real numbers as words of 64 bits: what a word's rung is worth, and that the order of numbers is the order of keys.
-/
import Derived.Laws.FloatArith
import Derived.Deep.DeepCutAuto
import Derived.Laws.BitsAllLaws
import Derived.Deep.LoopGhost
import Derived.Deep.RegionHeld
import Derived.Deep.Slices
import Derived.Deep.Fields
import Derived.ChangeArms
import Derived.Test.YtfhmaincnlaapaaAoSy3
import Derived.Test.YtfhmaincnlaapaaAoRefRead
namespace Go.Proofs.Ytfhmaincnlaapaa
set_option linter.unusedVariables false
open Ieee

/-- the bits below the sign -/
def rg (b : Nat) : Nat := b % 9223372036854775808
def ng (b : Nat) : Bool := b / 9223372036854775808 % 2 == 1
/-- infinity's rung -/
def irg : Nat := 9218868437227405312
def nanB (b : Nat) : Bool := decide (irg < rg b)
def mg (r : Nat) : Nat := if r < 4503599627370496 then r else 4503599627370496 + r % 4503599627370496
def ex (r : Nat) : Nat := if r < 4503599627370496 then 0 else r / 4503599627370496 - 1
/-- what a rung is worth, in units of 2^-1074 -/
def vl (r : Nat) : Nat := mg r * 2 ^ ex r
def sv (b : Nat) : Int := if ng b then -(vl (rg b) : Int) else (vl (rg b) : Int)
/-- the key -/
def keyB (b : Nat) : Nat := if nanB b then 18446744073709551615 else if ng b then 9223372036854775807 - rg b else 9223372036854775808 + rg b

theorem sw_eq : double.signWeight = 9223372036854775808 := by decide
theorem bi_eq : double.binade = 4503599627370496 := by decide
theorem ir_eq : double.infRung = 9218868437227405312 := by decide
theorem lp_eq : double.leastPlace = -1074 := by decide

theorem read_num (b : Nat) (h : rg b < irg) : double.read b = .number (ng b) (mg (rg b)) (-1074 + (ex (rg b) : Nat)) := by
  unfold Format.read
  simp only [sw_eq, bi_eq, ir_eq, lp_eq]
  unfold rg irg at *
  unfold mg ex ng
  split
  · simp
  · rfl
theorem read_inf (b : Nat) (h : rg b = irg) : double.read b = .infinity (ng b) := by
  unfold Format.read
  simp only [sw_eq, bi_eq, ir_eq, lp_eq]
  unfold rg irg at *
  unfold ng
  rw [if_neg (by omega), if_neg (by omega), if_pos h]
theorem read_nan (b : Nat) (h : irg < rg b) : double.read b = .nan (ng b) (rg b - irg) := by
  unfold Format.read
  simp only [sw_eq, bi_eq, ir_eq, lp_eq]
  unfold rg irg at *
  unfold ng
  rw [if_neg (by omega), if_neg (by omega), if_neg (by omega)]

theorem vl_lt {r s : Nat} (h : r < s) : vl r < vl s := by
  unfold vl mg ex
  by_cases hr : r < 4503599627370496
  · by_cases hs : s < 4503599627370496
    · simp [hr, hs]; exact h
    · rw [if_pos hr, if_pos hr, if_neg hs, if_neg hs]
      have : 1 ≤ 2 ^ (s / 4503599627370496 - 1) := Nat.one_le_two_pow
      calc r * 2 ^ 0 = r := by simp
        _ < (4503599627370496 + s % 4503599627370496) * 1 := by omega
        _ ≤ _ := Nat.mul_le_mul_left _ this
  · have hs : ¬ s < 4503599627370496 := by omega
    rw [if_neg hr, if_neg hr, if_neg hs, if_neg hs]
    obtain ⟨q, hq⟩ : ∃ q, r / 4503599627370496 = q + 1 := ⟨r / 4503599627370496 - 1, by omega⟩
    obtain ⟨p, hp⟩ : ∃ p, s / 4503599627370496 = p + 1 := ⟨s / 4503599627370496 - 1, by omega⟩
    rw [hq, hp, Nat.add_sub_cancel, Nat.add_sub_cancel]
    by_cases e : q = p
    · subst e
      exact Nat.mul_lt_mul_of_pos_right (by omega) (Nat.two_pow_pos _)
    · have hlt : q + 1 ≤ p := by omega
      have h2 : 2 ^ (q + 1) ≤ 2 ^ p := Nat.pow_le_pow_right (by decide) hlt
      calc (4503599627370496 + r % 4503599627370496) * 2 ^ q < (2 * 4503599627370496) * 2 ^ q := Nat.mul_lt_mul_of_pos_right (by omega) (Nat.two_pow_pos _)
        _ = 4503599627370496 * 2 ^ (q + 1) := by rw [Nat.pow_succ]; omega
        _ ≤ 4503599627370496 * 2 ^ p := Nat.mul_le_mul_left _ h2
        _ ≤ _ := Nat.mul_le_mul_right _ (by omega)
theorem vl_inj {r s : Nat} (h : vl r = vl s) : r = s := by
  rcases Nat.lt_trichotomy r s with h1 | h1 | h1
  · have := vl_lt h1; omega
  · exact h1
  · have := vl_lt h1; omega
theorem vl_zero : vl 0 = 0 := rfl
theorem vl_pos {r : Nat} (h : 0 < r) : 0 < vl r := by have := vl_lt h; rw [vl_zero] at this; exact this

theorem icmp_lt {x y : Int} (h : x < y) : compare x y = .lt := by simp [compare, compareOfLessAndEq, h]
theorem icmp_gt {x y : Int} (h : y < x) : compare x y = .gt := by
  have h1 : ¬ x < y := by omega
  have h2 : x ≠ y := by omega
  simp [compare, compareOfLessAndEq, h1, h2]
theorem compare_mul (x y : Int) (c : Nat) (hc : 0 < c) : compare (x * (c : Int)) (y * (c : Int)) = compare x y := by
  have hc' : (0 : Int) < c := by omega
  rcases Int.lt_trichotomy x y with h | h | h
  · rw [icmp_lt h, icmp_lt (Int.mul_lt_mul_of_pos_right h hc')]
  · subst h; simp
  · rw [icmp_gt h, icmp_gt (Int.mul_lt_mul_of_pos_right h hc')]
theorem signed_mul (s : Bool) (m k c : Nat) : signed s m k * ((2 ^ c : Nat) : Int) = if s then -((m * 2 ^ (k + c) : Nat) : Int) else ((m * 2 ^ (k + c) : Nat) : Int) := by
  unfold signed
  rw [Nat.shiftLeft_eq, Nat.pow_add, ← Nat.mul_assoc]
  split <;> simp [Int.neg_mul]
/-- numbers stand to one another as what they are worth -/
theorem order_num (a b : Nat) (ha : rg a < irg) (hb : rg b < irg) : double.order a b = some (compare (sv a) (sv b)) := by
  unfold Format.order
  rw [read_num a ha, read_num b hb]
  simp only [Datum.order]
  congr 1
  generalize hi : ex (rg a) = i
  generalize hj : ex (rg b) = j
  have e1 : ((-1074 + (i : Int)) - min (-1074 + (i : Int)) (-1074 + (j : Int))).toNat + min i j = i := by omega
  have e2 : ((-1074 + (j : Int)) - min (-1074 + (i : Int)) (-1074 + (j : Int))).toNat + min i j = j := by omega
  rw [← compare_mul _ _ (2 ^ min i j) (Nat.two_pow_pos _), signed_mul, signed_mul, e1, e2]
  unfold sv vl
  rw [hi, hj]
theorem vl_irg (r : Nat) (h : r < irg) : vl r < vl irg := vl_lt h
theorem order_any (a b : Nat) (ha : rg a ≤ irg) (hb : rg b ≤ irg) : double.order a b = some (compare (sv a) (sv b)) := by
  by_cases h1 : rg a = irg
  · by_cases h2 : rg b = irg
    · unfold Format.order
      rw [read_inf a h1, read_inf b h2]
      simp only [Datum.order, sv, h1, h2]
      have hp := vl_pos (show 0 < irg by decide)
      generalize vl irg = x at *
      congr 1
      cases ng a <;> cases ng b <;> simp <;> (first | rfl | (symm; first | (exact icmp_lt (by omega)) | (exact icmp_gt (by omega))))
    · unfold Format.order
      rw [read_inf a h1, read_num b (by omega)]
      simp only [Datum.order, sv, h1]
      have hv := vl_irg (rg b) (by omega)
      congr 1
      cases ng a <;> cases ng b <;> simp <;> (symm; first | (exact icmp_lt (by omega)) | (exact icmp_gt (by omega)))
  · by_cases h2 : rg b = irg
    · unfold Format.order
      rw [read_num a (by omega), read_inf b h2]
      simp only [Datum.order, sv, h2]
      have hv := vl_irg (rg a) (by omega)
      congr 1
      cases ng a <;> cases ng b <;> simp <;> (symm; first | (exact icmp_lt (by omega)) | (exact icmp_gt (by omega)))
    · exact order_num a b (by omega) (by omega)
theorem order_nan (a b : Nat) (h : irg < rg a ∨ irg < rg b) : double.order a b = none := by
  unfold Format.order
  by_cases ha : irg < rg a
  · rw [read_nan a ha]; cases double.read b <;> rfl
  · rw [read_nan b (by omega)]; cases double.read a <;> rfl
theorem order_self (b : Nat) : (double.order b b != some .eq) = nanB b := by
  unfold nanB
  by_cases h : irg < rg b
  · rw [order_nan b b (.inl h), decide_eq_true h]; rfl
  · rw [order_any b b (by omega) (by omega), decide_eq_false h]; simp
theorem rg_lt (b : Nat) : rg b < 9223372036854775808 := Nat.mod_lt _ (by decide)
theorem ng_iff (b : Nat) (hb : b < 18446744073709551616) : ng b = decide (9223372036854775808 ≤ b) := by
  unfold ng; rw [Bool.eq_iff_iff]; simp; omega
end Go.Proofs.Ytfhmaincnlaapaa
namespace Go.Proofs.Ytfhmaincnlaapaa
open Go.ChangeShapes Go.WideShapes Go.ChangeAt Go.RowKit
set_option linter.unusedVariables false
theorem f64bits (b : Nat) (w : World) : (callFunc 169 #[.float .f64 b]).run Try.prog w = .ok (.value (.int .u64 (b : Int))) w := by kernel_rfl

theorem and63 (b : Nat) (h : b < 18446744073709551616) : bits .and .u64 (b : Int) 9223372036854775807 = ((rg b : Nat) : Int) := by
  have e : (9223372036854775807 : Int) = ((9223372036854775807 : Nat) : Int) := rfl
  rw [e, u64_and_nat _ _ h (by omega)]
  congr 1
  exact Nat.and_two_pow_sub_one_eq_mod b 63

theorem order_selfF (b : Nat) : (FloatKind.f64.format.order b b != some .eq) = nanB b := order_self b
theorem key_any (b : Nat) (w : World) (hb : b < 18446744073709551616) :
    Calls Try.prog 154 #[.float .f64 b] w fun e w' => e = .returned (.int .u64 (keyB b : Nat)) ∧ w = w' := by
  have hf := f64bits b
  have hn := order_selfF b
  have hd := and63 b hb
  have hr := rg_lt b
  unfold keyB
  have hni := ng_iff b hb
  have hrb : rg b = b - if 9223372036854775808 ≤ b then 9223372036854775808 else 0 := by unfold rg; split <;> omega
  cases h : nanB b
  · rw [h] at hn
    by_cases hg : 9223372036854775808 ≤ b
    · rw [if_pos hg] at hrb
      rw [hni, decide_eq_true hg]
      have t2 : (((b : Int) / 9223372036854775808) == 1) = true := by rw [beq_iff_eq]; omega
      have HR := Lib.hid hrb; have HN := Lib.hid hni; clear hrb hni
      go_enter Try.func154, Try.ntmps154
      go_wp2
      go_ret
      exact ⟨by simp; omega, rfl⟩
    · rw [if_neg hg] at hrb
      rw [hni, decide_eq_false hg]
      have t2 : (((b : Int) / 9223372036854775808) == 1) = false := by rw [beq_eq_false_iff_ne]; omega
      have HR := Lib.hid hrb; have HN := Lib.hid hni; clear hrb hni
      go_enter Try.func154, Try.ntmps154
      go_wp2
      go_ret
      exact ⟨by have := HR.out; simp; omega, rfl⟩
  · rw [h] at hn
    have HR := Lib.hid hrb; have HN := Lib.hid hni; clear hrb hni
    go_enter Try.func154, Try.ntmps154
    go_wp2
    go_ret
    exact ⟨rfl, rfl⟩
/-! bushelref03 -/
theorem run_sub_bad {P : Program} (t : TypeId) (w : World) (x y : Nat) (h : FloatKind.f64.format.sub x y = none) : ∃ q, nanB q = true ∧ q < 18446744073709551616 ∧ (binOp .sub t (.float .f64 x) (.float .f64 y)).run P w = .ok (.float .f64 q) w.drew := by
  refine ⟨Question.cut (.nanBits .f64 x y) (w.tape w.drawn (.nanBits .f64 x y)), ?_, ?_, ?_⟩
  · generalize w.tape w.drawn (.nanBits .f64 x y) = t
    have h1 := Nat.mod_lt (t / 2) (show 0 < 4503599627370495 by decide)
    refine decide_eq_true ?_
    show 9218868437227405312 < (t % 2 * 9223372036854775808 + 9218868437227405312 + 1 + t / 2 % 4503599627370495) % 9223372036854775808
    generalize t / 2 % 4503599627370495 = y at *
    omega
  · generalize w.tape w.drawn (.nanBits .f64 x y) = t
    have h1 := Nat.mod_lt (t / 2) (show 0 < 4503599627370495 by decide)
    show (t % 2 * 9223372036854775808 + 9218868437227405312 + 1 + t / 2 % 4503599627370495) < _
    generalize t / 2 % 4503599627370495 = y at *
    omega
  · simp [binOp, Op.floatArith, h, Question.forced]
theorem order_zero (b : Nat) (h : nanB b = false) : (FloatKind.f64.format.order b 0 == some .eq) = decide (rg b = 0) := by
  have h1 : rg b ≤ irg := by unfold nanB at h; simpa using h
  have := order_any b 0 h1 (by decide)
  show (Ieee.double.order b 0 == some .eq) = _
  rw [this]
  have e0 : sv 0 = 0 := by decide
  rw [e0]
  by_cases hz : rg b = 0
  · have : sv b = 0 := by unfold sv; rw [hz]; simp [vl_zero]
    rw [this]; simp [hz]
  · have hp := vl_pos (show 0 < rg b by omega)
    have hne : sv b ≠ 0 := by unfold sv; split <;> omega
    rcases Int.lt_or_gt_of_ne hne with hl | hl
    · rw [icmp_lt hl]; simp [hz]
    · rw [icmp_gt hl]; simp [hz]
theorem sub_self_num (b : Nat) (h : rg b < irg) : FloatKind.f64.format.sub b b = some 0 := by
  show Ieee.double.sub b b = some 0
  unfold Ieee.Format.sub
  rw [read_num b h]
  simp only [Ieee.Datum.opposite, Ieee.Datum.sum, Ieee.signed]
  generalize mg (rg b) = m
  have : (-1074 + (ex (rg b) : Int) - min (-1074 + (ex (rg b) : Int)) (-1074 + (ex (rg b) : Int))).toNat = 0 := by omega
  rw [this]
  cases ng b <;> simp [Ieee.Format.write, Ieee.Format.nearest, Ieee.Format.word, Int.add_right_neg, Int.add_left_neg]
theorem sub_self_inf (b : Nat) (h : rg b = irg) : FloatKind.f64.format.sub b b = none := by
  show Ieee.double.sub b b = none
  unfold Ieee.Format.sub
  rw [read_inf b h]
  cases ng b <;> rfl
def kindF (b : Nat) : Nat := if nanB b then 3 else if rg b = 0 then 0 else if rg b = irg then 2 else 1
theorem refKind_any (b : Nat) (w : World) (hb : b < 18446744073709551616) :
    Calls Try.prog 140 #[.float .f64 b] w fun e w' => e = .returned (.int .i64 (kindF b : Nat)) ∧ ∃ n, w' = w.drewN n := by
  have hn := order_selfF b
  unfold kindF
  cases h : nanB b
  · rw [h] at hn
    have hz := order_zero b h
    by_cases h0 : rg b = 0
    · rw [decide_eq_true h0] at hz
      rw [if_neg (by simp), if_pos h0]
      have H0 := Lib.hid h0; clear h0
      go_enter Try.func140, Try.ntmps140
      go_wp2
      go_ret
      exact ⟨rfl, 0, rfl⟩
    · rw [decide_eq_false h0] at hz
      rw [if_neg (by simp), if_neg h0]
      by_cases hi : rg b = irg
      · rw [if_pos hi]
        have hs := sub_self_inf b hi
        obtain ⟨q, hq, hql, hrun⟩ := run_sub_bad (P := Try.prog) 115 w b b hs
        have hq0 : (FloatKind.f64.format.order q 0 != some .eq) = true := by
          have : FloatKind.f64.format.order q 0 = none := order_nan q 0 (.inl (by unfold nanB at hq; simpa using hq))
          rw [this]; rfl
        have H0 := Lib.hid h0; have HI := Lib.hid hi; clear h0 hi
        go_enter Try.func140, Try.ntmps140
        go_wp2
        go_ret
        exact ⟨rfl, 1, rfl⟩
      · rw [if_neg hi]
        have h1 : rg b < irg := by unfold nanB at h; have := of_decide_eq_false h; omega
        have hrun := run_float_arith (P := Try.prog) w .sub 115 .f64 b b 0 (sub_self_num b h1)
        have hq0 : (FloatKind.f64.format.order 0 0 != some .eq) = false := by decide
        have H0 := Lib.hid h0; have HI := Lib.hid hi; clear h0 hi
        go_enter Try.func140, Try.ntmps140
        go_wp2
        go_ret
        exact ⟨rfl, 0, rfl⟩
  · rw [h] at hn
    go_enter Try.func140, Try.ntmps140
    go_wp2
    go_ret
    exact ⟨rfl, 0, rfl⟩

theorem order_cmp (a b : Nat) (ha : nanB a = false) (hb : nanB b = false) : FloatKind.f64.format.order a b = some (compare (sv a) (sv b)) := by
  have h1 : rg a ≤ irg := by unfold nanB at ha; simpa using ha
  have h2 : rg b ≤ irg := by unfold nanB at hb; simpa using hb
  exact order_any a b h1 h2
theorem order_lt (a b : Nat) (ha : nanB a = false) (hb : nanB b = false) : (FloatKind.f64.format.order a b == some .lt) = decide (sv a < sv b) := by
  rw [order_cmp a b ha hb]
  rcases Int.lt_trichotomy (sv a) (sv b) with h | h | h
  · rw [icmp_lt h]; simp [h]
  · rw [h]; simp
  · rw [icmp_gt h]; simp; omega
theorem order_eq (a b : Nat) (ha : nanB a = false) (hb : nanB b = false) : (FloatKind.f64.format.order a b == some .eq) = decide (sv a = sv b) := by
  rw [order_cmp a b ha hb]
  rcases Int.lt_trichotomy (sv a) (sv b) with h | h | h
  · rw [icmp_lt h]; simp; omega
  · rw [h]; simp
  · rw [icmp_gt h]; simp; omega
theorem div_one_zero (b : Nat) (h : rg b = 0) : FloatKind.f64.format.div 4607182418800017408 b = some (if ng b then 18442240474082181120 else 9218868437227405312) := by
  show Ieee.double.div 4607182418800017408 b = _
  unfold Ieee.Format.div
  rw [read_num b (by rw [h]; decide), read_num 4607182418800017408 (by decide), h]
  cases ng b <;> decide
/-- has a number a minus? (a number that is one) -/
theorem below_any (b : Nat) (w : World) (hb : b < 18446744073709551616) (h : nanB b = false) :
    Calls Try.prog 141 #[.float .f64 b] w fun e w' => e = .returned (.bool (ng b)) ∧ w = w' := by
  have hz := order_zero b h
  have hl : (FloatKind.f64.format.order b 0 == some .lt) = (ng b && decide (rg b ≠ 0)) := by
    rw [order_lt b 0 h (by decide), show sv 0 = 0 from by decide]
    have hp : 0 < rg b → 0 < vl (rg b) := vl_pos
    have hq : rg b = 0 → vl (rg b) = 0 := fun h => by rw [h]; rfl
    unfold sv
    rw [Bool.eq_iff_iff]
    cases ng b <;> simp <;> omega
  by_cases h0 : rg b = 0
  · rw [decide_eq_true h0] at hz
    have hd := div_one_zero b h0
    have hrun := run_float_arith (P := Try.prog) w .quo 115 .f64 4607182418800017408 b _ hd
    rw [show (ng b && decide (rg b ≠ 0)) = false by simp [h0]] at hl
    cases hg : ng b
    · rw [hg] at hrun
      simp only [Bool.false_eq_true, if_false] at hrun
      have hlt : (FloatKind.f64.format.order 9218868437227405312 0 == some .lt) = false := by decide
      have H0 := Lib.hid h0; have HD := Lib.hid hd; have HG := Lib.hid hg; clear h0 hd hg
      go_enter Try.func141, Try.ntmps141
      go_wp2
      go_ret
      exact ⟨rfl, rfl⟩
    · rw [hg] at hrun
      simp only [if_true] at hrun
      have hlt : (FloatKind.f64.format.order 18442240474082181120 0 == some .lt) = true := by decide
      have H0 := Lib.hid h0; have HD := Lib.hid hd; have HG := Lib.hid hg; clear h0 hd hg
      go_enter Try.func141, Try.ntmps141
      go_wp2
      go_ret
      exact ⟨rfl, rfl⟩
  · rw [decide_eq_false h0] at hz
    rw [show (ng b && decide (rg b ≠ 0)) = ng b by simp [h0]] at hl
    cases hg : ng b
    · rw [hg] at hl
      have H0 := Lib.hid h0; have HG := Lib.hid hg; clear h0 hg
      go_enter Try.func141, Try.ntmps141
      go_wp2
      go_ret
      exact ⟨rfl, rfl⟩
    · rw [hg] at hl
      have H0 := Lib.hid h0; have HG := Lib.hid hg; clear h0 hg
      go_enter Try.func141, Try.ntmps141
      go_wp2
      go_ret
      exact ⟨rfl, rfl⟩
end Go.Proofs.Ytfhmaincnlaapaa
namespace Go.Proofs.Ytfhmaincnlaapaa
open Go.ChangeShapes Go.WideShapes Go.ChangeAt Go.RowKit
set_option linter.unusedVariables false
theorem kindF_nan (b : Nat) (h : nanB b = true) : kindF b = 3 := by unfold kindF; rw [h]; rfl
theorem kindF_num (b : Nat) (h : nanB b = false) : kindF b ≠ 3 := by unfold kindF; rw [h]; split <;> (try split) <;> (try split) <;> simp_all
theorem keyB_nan (b : Nat) (h : nanB b = true) : keyB b = 18446744073709551615 := by unfold keyB; rw [h]; rfl
theorem keyB_num (b : Nat) (h : nanB b = false) : keyB b < 18446744073709551615 := by
  have hr : rg b ≤ irg := by unfold nanB at h; simpa using h
  unfold irg at hr
  unfold keyB; rw [h]; simp only [Bool.false_eq_true, if_false]; split <;> omega
theorem key_eq (a b : Nat) (ha : nanB a = false) (hb : nanB b = false) : decide (keyB a = keyB b) = (decide (sv a = sv b) && (ng a == ng b)) := by
  have h1 : rg a ≤ irg := by unfold nanB at ha; simpa using ha
  have h2 : rg b ≤ irg := by unfold nanB at hb; simpa using hb
  unfold irg at h1 h2
  simp only [keyB, ha, hb]
  unfold sv
  have hl : vl (rg a) = vl (rg b) → rg a = rg b := vl_inj
  have z1 : 0 < rg a → 0 < vl (rg a) := vl_pos
  have z2 : 0 < rg b → 0 < vl (rg b) := vl_pos
  have e3 : rg a = rg b → vl (rg a) = vl (rg b) := fun h => by rw [h]
  generalize vl (rg a) = x at *
  generalize vl (rg b) = y at *
  generalize rg a = r at *
  generalize rg b = s at *
  rw [Bool.eq_iff_iff]
  cases ng a <;> cases ng b <;> simp <;> omega
/-- some draws, however they are written -/
def Drws (w w' : World) : Prop := ∃ k, w' = w.drewN k
theorem drws_refl (w : World) : Drws w w := ⟨0, rfl⟩
theorem drws_step {w w' : World} (h : Drws w w') (n : Nat) : Drws w (w'.drewN n) := by
  obtain ⟨k, rfl⟩ := h; exact ⟨k + n, World.drewN_drewN _ _ _⟩
theorem refFSame_any (a b : Nat) (w : World) (ha : a < 18446744073709551616) (hb : b < 18446744073709551616) :
    Calls Try.prog 78 #[.float .f64 a, .float .f64 b] w fun e w' => e = .returned (.bool (decide (keyB a = keyB b))) ∧ Drws w w' := by
  cases na : nanB a
  · have t1 : ((kindF a : Int) == 3) = false := by rw [beq_eq_false_iff_ne]; have := kindF_num a na; omega
    have t1' : ((kindF a : Int) != 3) = true := by rw [bne_iff_ne]; have := kindF_num a na; omega
    cases nb : nanB b
    · have t2 : ((kindF b : Int) == 3) = false := by rw [beq_eq_false_iff_ne]; have := kindF_num b nb; omega
      have hl := order_lt a b na nb
      have he := order_eq a b na nb
      rw [key_eq a b na nb]
      have NA := Lib.hid na; have NB := Lib.hid nb; clear na nb
      have A := Lib.hid hl; have E := Lib.hid he; clear hl he
      by_cases c1 : sv a < sv b
      · have hl : (FloatKind.f64.format.order a b == some .lt) = true := by rw [A.out]; simp [c1]
        have he : (FloatKind.f64.format.order a b == some .eq) = false := by rw [E.out]; simp; omega
        have C := Lib.hid c1; clear c1
        go_enter Try.func78, Try.ntmps78
        go_wp2_with (first | (go_at_call 140; (first | (with_reducible refine (refKind_any a _ ha).mono ?_) | (with_reducible refine (refKind_any b _ hb).mono ?_)); rintro e w' ⟨rfl, n, rfl⟩) | (go_at_call 141; (first | (with_reducible refine (below_any a _ ha NA.out).mono ?_) | (with_reducible refine (below_any b _ hb NB.out).mono ?_)); rintro e w' ⟨rfl, rfl⟩))
        go_ret
        exact ⟨by have := C.out; simp; omega, by first | exact drws_refl _ | exact drws_step (drws_refl _) _ | exact drws_step (drws_step (drws_refl _) _) _ | exact drws_step (drws_step (drws_step (drws_refl _) _) _) _ | exact drws_step (drws_step (drws_step (drws_step (drws_refl _) _) _) _) _⟩
      · have hl : (FloatKind.f64.format.order a b == some .lt) = false := by rw [A.out]; simp [c1]
        by_cases c2 : sv a = sv b
        · have he : (FloatKind.f64.format.order a b == some .eq) = true := by rw [E.out]; simp [c2]
          have C := Lib.hid c1; have D := Lib.hid c2; clear c1 c2
          cases ga : ng a
          all_goals
            cases gb : ng b
            all_goals
              skip
              go_enter Try.func78, Try.ntmps78
              go_wp2_with (first | (go_at_call 140; (first | (with_reducible refine (refKind_any a _ ha).mono ?_) | (with_reducible refine (refKind_any b _ hb).mono ?_)); rintro e w' ⟨rfl, n, rfl⟩) | (go_at_call 141; (first | (with_reducible refine (below_any a _ ha NA.out).mono ?_) | (with_reducible refine (below_any b _ hb NB.out).mono ?_)); rintro e w' ⟨rfl, rfl⟩))
              go_ret
              exact ⟨by simp [D.out], by first | exact drws_refl _ | exact drws_step (drws_refl _) _ | exact drws_step (drws_step (drws_refl _) _) _ | exact drws_step (drws_step (drws_step (drws_refl _) _) _) _ | exact drws_step (drws_step (drws_step (drws_step (drws_refl _) _) _) _) _⟩
        · have he : (FloatKind.f64.format.order a b == some .eq) = false := by rw [E.out]; simp [c2]
          have C := Lib.hid c1; have D := Lib.hid c2; clear c1 c2
          go_enter Try.func78, Try.ntmps78
          go_wp2_with (first | (go_at_call 140; (first | (with_reducible refine (refKind_any a _ ha).mono ?_) | (with_reducible refine (refKind_any b _ hb).mono ?_)); rintro e w' ⟨rfl, n, rfl⟩) | (go_at_call 141; (first | (with_reducible refine (below_any a _ ha NA.out).mono ?_) | (with_reducible refine (below_any b _ hb NB.out).mono ?_)); rintro e w' ⟨rfl, rfl⟩))
          go_ret
          exact ⟨by simp [D.out], by first | exact drws_refl _ | exact drws_step (drws_refl _) _ | exact drws_step (drws_step (drws_refl _) _) _ | exact drws_step (drws_step (drws_step (drws_refl _) _) _) _ | exact drws_step (drws_step (drws_step (drws_step (drws_refl _) _) _) _) _⟩
    · have t2 : ((kindF b : Int) == 3) = true := by rw [kindF_nan b nb]; rfl
      have t3 : ((kindF a : Int) == (kindF b : Int)) = false := by rw [beq_eq_false_iff_ne, kindF_nan b nb]; have := kindF_num a na; omega
      have hlt : decide (keyB a = keyB b) = false := by have := keyB_num a na; rw [keyB_nan b nb]; simp; omega
      rw [hlt]
      have NA := Lib.hid na; have NB := Lib.hid nb; have HL := Lib.hid hlt; clear na nb hlt
      go_enter Try.func78, Try.ntmps78
      go_wp2_with (go_at_call 140; (first | (with_reducible refine (refKind_any a _ ha).mono ?_) | (with_reducible refine (refKind_any b _ hb).mono ?_)); rintro e w' ⟨rfl, n, rfl⟩)
      go_ret
      exact ⟨rfl, by first | exact drws_refl _ | exact drws_step (drws_refl _) _ | exact drws_step (drws_step (drws_refl _) _) _ | exact drws_step (drws_step (drws_step (drws_refl _) _) _) _ | exact drws_step (drws_step (drws_step (drws_step (drws_refl _) _) _) _) _⟩
  · have t1 : ((kindF a : Int) == 3) = true := by rw [kindF_nan a na]; rfl
    have t3 : ((kindF a : Int) == (kindF b : Int)) = decide (keyB a = keyB b) := by
      rw [kindF_nan a na, keyB_nan a na]
      cases nb : nanB b
      · have h1 := kindF_num b nb; have h2 := keyB_num b nb
        rw [decide_eq_false (by omega), beq_eq_false_iff_ne]; omega
      · rw [kindF_nan b nb, keyB_nan b nb]; rfl
    generalize decide (keyB a = keyB b) = r at *
    have NA := Lib.hid na; clear na
    go_enter Try.func78, Try.ntmps78
    go_wp2_with (go_at_call 140; (first | (with_reducible refine (refKind_any a _ ha).mono ?_) | (with_reducible refine (refKind_any b _ hb).mono ?_)); rintro e w' ⟨rfl, n, rfl⟩)
    go_ret
    exact ⟨rfl, by first | exact drws_refl _ | exact drws_step (drws_refl _) _ | exact drws_step (drws_step (drws_refl _) _) _ | exact drws_step (drws_step (drws_step (drws_refl _) _) _) _ | exact drws_step (drws_step (drws_step (drws_step (drws_refl _) _) _) _) _⟩
end Go.Proofs.Ytfhmaincnlaapaa
namespace Go.Proofs.Ytfhmaincnlaapaa
open Go.ChangeShapes Go.WideShapes Go.ChangeAt Go.RowKit
set_option linter.unusedVariables false

end Go.Proofs.Ytfhmaincnlaapaa
namespace Go.Proofs.Ytfhmaincnlaapaa
open Go.ChangeShapes Go.WideShapes Go.ChangeAt Go.RowKit
set_option linter.unusedVariables false

end Go.Proofs.Ytfhmaincnlaapaa
namespace Go.Proofs.Ytfhmaincnlaapaa
open Go.ChangeShapes Go.WideShapes Go.ChangeAt Go.RowKit
set_option linter.unusedVariables false

/-- what was read -/
structure GotS where
  u : Nat
  i : Int
  t : List UInt8
  n : Nat
  e : Nat
def GotS.v (g : GotS) : Value := .agg #[.int .u64 (g.u : Int), .int .i64 g.i, .string ⟨g.t.toArray⟩, .int .i64 (g.n : Int), .int .i64 (g.e : Int)]
def mx (ms : Int) : Nat := (max ms 0).toNat
section
variable (mu : Nat) (ai : Int) (f : Nat) (s : ByteArray) (ms : Int) (A : Option Addr) (m c B : Nat) (t : List UInt8) (w : World)

end
end Go.Proofs.Ytfhmaincnlaapaa
namespace Go.Proofs.Ytfhmaincnlaapaa
open Go.ChangeShapes Go.WideShapes Go.ChangeAt Go.RowKit
set_option linter.unusedVariables false

section
variable (mu : Nat) (ai : Int) (f : Nat) (s : ByteArray) (ms : Int) (A : Option Addr) (m c B : Nat) (t : List UInt8) (w : World)
end
end Go.Proofs.Ytfhmaincnlaapaa
namespace Go.Proofs.Ytfhmaincnlaapaa
open Go.ChangeShapes Go.WideShapes Go.ChangeAt Go.RowKit
set_option linter.unusedVariables false

end Go.Proofs.Ytfhmaincnlaapaa
namespace Go.Proofs.Ytfhmaincnlaapaa
open Go.ChangeShapes Go.WideShapes Go.ChangeAt Go.RowKit
set_option linter.unusedVariables false

end Go.Proofs.Ytfhmaincnlaapaa
namespace Go.Proofs.Ytfhmaincnlaapaa
open Go.ChangeShapes Go.WideShapes Go.ChangeAt Go.RowKit
set_option linter.unusedVariables false

/-- a thing that is asked for -/
structure AskS where
  d : Int
  u : Nat
  i : Int
  f : Nat
  s : ByteArray
  m : Int
end Go.Proofs.Ytfhmaincnlaapaa
namespace Go.Proofs.Ytfhmaincnlaapaa
open Go.ChangeShapes Go.WideShapes Go.ChangeAt Go.RowKit
set_option linter.unusedVariables false

section
variable {w : World} {B n : Nat} {A : Option Addr} {l : List AskS}
end
end Go.Proofs.Ytfhmaincnlaapaa
namespace Go.Proofs.Ytfhmaincnlaapaa
open Go.ChangeShapes Go.WideShapes Go.ChangeAt Go.RowKit Go.Deep
set_option linter.unusedVariables false

/-- how a thing is read out of some cells; what it leads to lies below block B -/
structure Rp (α : Type) where
  size : Nat
  rep : World → Nat → α → List Value → Prop
  len : ∀ {w : World} {B : Nat} {x : α} {cs : List Value}, rep w B x cs → cs.length = size
  one : ∀ {w : World} {B : Nat} {x : α} {cs : List Value}, rep w B x cs → ∀ u ∈ cs, u.oneCell' = true
  keep : ∀ {w w' : World} {B B' : Nat} {x : α} {cs : List Value}, rep w B x cs → Below B w w' → B ≤ B' → rep w' B' x cs

def Rp.val {α : Type} (f : α → Value) (ok : α → Prop) (h1 : ∀ x, (f x).oneCell' = true) : Rp α where
  size := 1
  rep _ _ x cs := cs = [f x] ∧ ok x
  len h := by rw [h.1]; rfl
  one h := by rw [h.1]; intro u hu; rw [List.mem_singleton] at hu; rw [hu]; exact h1 _
  keep h _ _ := h
def Rp.two {α β γ : Type} (p : α → β) (q : α → γ) (R : Rp β) (S : Rp γ) : Rp α where
  size := R.size + S.size
  rep w B x cs := ∃ c d, cs = c ++ d ∧ R.rep w B (p x) c ∧ S.rep w B (q x) d
  len h := by obtain ⟨c, d, rfl, h1, h2⟩ := h; rw [List.length_append, R.len h1, S.len h2]
  one h := by
    obtain ⟨c, d, rfl, h1, h2⟩ := h
    intro u hu
    rcases List.mem_append.1 hu with hu | hu
    · exact R.one h1 u hu
    · exact S.one h2 u hu
  keep h hb hB := by obtain ⟨c, d, rfl, h1, h2⟩ := h; exact ⟨c, d, rfl, R.keep h1 hb hB, S.keep h2 hb hB⟩

/-- the cells of a list of things -/
def Chunk {α : Type} (R : Rp α) (w : World) (B : Nat) : List α → List Value → Prop
  | [], xs => xs = []
  | x :: l, xs => ∃ c rest, xs = c ++ rest ∧ R.rep w B x c ∧ Chunk R w B l rest
section
variable {α : Type} {R : Rp α} {w w' : World} {B B' : Nat} {l m : List α} {xs ys : List Value}
theorem Chunk.len (h : Chunk R w B l xs) : xs.length = l.length * R.size := by
  induction l generalizing xs with
  | nil => cases h; simp
  | cons x l ih => obtain ⟨c, rest, rfl, h1, h2⟩ := h; rw [List.length_append, R.len h1, ih h2, List.length_cons, Nat.succ_mul]; omega
theorem Chunk.one (h : Chunk R w B l xs) : ∀ u ∈ xs, u.oneCell' = true := by
  induction l generalizing xs with
  | nil => cases h; simp
  | cons x l ih =>
    obtain ⟨c, rest, rfl, h1, h2⟩ := h
    intro u hu
    rcases List.mem_append.1 hu with hu | hu
    · exact R.one h1 u hu
    · exact ih h2 u hu
theorem Chunk.keep (h : Chunk R w B l xs) (hb : Below B w w') (hB : B ≤ B') : Chunk R w' B' l xs := by
  induction l generalizing xs with
  | nil => exact h
  | cons x l ih => obtain ⟨c, rest, rfl, h1, h2⟩ := h; exact ⟨c, rest, rfl, R.keep h1 hb hB, ih h2⟩
theorem Chunk.nil : Chunk R w B [] [] := rfl
theorem Chunk.app (h : Chunk R w B l xs) (k : Chunk R w B m ys) : Chunk R w B (l ++ m) (xs ++ ys) := by
  induction l generalizing xs with
  | nil => cases h; exact k
  | cons x l ih => obtain ⟨c, rest, rfl, h1, h2⟩ := h; exact ⟨c, rest ++ ys, by rw [List.append_assoc], h1, ih h2⟩
theorem Chunk.snoc {x : α} {c : List Value} (h : Chunk R w B l xs) (k : R.rep w B x c) : Chunk R w B (l ++ [x]) (xs ++ c) := h.app ⟨c, [], by simp, k, rfl⟩
theorem Chunk.get (h : Chunk R w B l xs) (i : Nat) (hi : i < l.length) : ∃ c, R.rep w B l[i] c ∧ ∀ j, j < R.size → xs[i * R.size + j]? = c[j]? := by
  induction l generalizing xs i with
  | nil => simp at hi
  | cons x l ih =>
    obtain ⟨c, rest, rfl, h1, h2⟩ := h
    have hl := R.len h1
    cases i with
    | zero => exact ⟨c, h1, fun j hj => by rw [Nat.zero_mul, Nat.zero_add, List.getElem?_append_left (by omega)]⟩
    | succ i =>
      obtain ⟨c', k1, k2⟩ := ih h2 i (by simpa using hi)
      refine ⟨c', k1, fun j hj => ?_⟩
      rw [List.getElem?_append_right (by rw [hl, Nat.succ_mul]; omega), hl, show (i + 1) * R.size + j - R.size = i * R.size + j from by rw [Nat.succ_mul]; omega]
      exact k2 j hj
theorem chunk_val {β : Type} {f : β → Value} {ok : β → Prop} {h1 : ∀ x, (f x).oneCell' = true} {l : List β} : Chunk (Rp.val f ok h1) w B l xs ↔ xs = l.map f ∧ ∀ x ∈ l, ok x := by
  induction l generalizing xs with
  | nil => simp [Chunk]
  | cons x l ih =>
    constructor
    · rintro ⟨c, rest, rfl, ⟨rfl, h2⟩, h3⟩
      obtain ⟨rfl, h4⟩ := ih.1 h3
      exact ⟨rfl, fun y hy => by rcases List.mem_cons.1 hy with rfl | hy; exact h2; exact h4 y hy⟩
    · rintro ⟨rfl, h2⟩
      exact ⟨[f x], l.map f, rfl, ⟨rfl, h2 x (by simp)⟩, ih.2 ⟨rfl, fun y hy => h2 y (by simp [hy])⟩⟩
end

def Rp.sl {α : Type} (R : Rp α) : Rp (List α) where
  size := 1
  rep w B l cs := ∃ A c xs, cs = [.slice A l.length c] ∧ l.length ≤ c ∧ c ≤ maxLen ∧ Rd w B R.size A l.length xs ∧ Chunk R w B l xs
  len h := by obtain ⟨A, c, xs, rfl, _⟩ := h; rfl
  one h := by obtain ⟨A, c, xs, rfl, _⟩ := h; intro u hu; rw [List.mem_singleton] at hu; rw [hu]; rfl
  keep h hb hB := by obtain ⟨A, c, xs, rfl, h1, h2, h3, h4⟩ := h; exact ⟨A, c, xs, rfl, h1, h2, (h3.below hb).more hB, h4.keep hb hB⟩

/-- a slice value that reads as a list of things -/
def SlR {α : Type} (R : Rp α) (w : World) (B : Nat) (l : List α) (A : Option Addr) (c : Nat) : Prop := l.length ≤ c ∧ c ≤ maxLen ∧ ∃ xs, Rd w B R.size A l.length xs ∧ Chunk R w B l xs
section
variable {α : Type} {R : Rp α} {w w' : World} {B B' c : Nat} {A : Option Addr} {l : List α}
theorem SlR.keep (h : SlR R w B l A c) (hb : Below B w w') (hB : B ≤ B') : SlR R w' B' l A c := by
  obtain ⟨h1, h2, xs, h3, h4⟩ := h; exact ⟨h1, h2, xs, (h3.below hb).more hB, h4.keep hb hB⟩
theorem SlR.mono (h : SlR R w B l A c) (hB : B ≤ B') : SlR R w B' l A c := h.keep (Below.refl _ _) hB
theorem SlR.drewN (h : SlR R w B l A c) (k : Nat) : SlR R (w.drewN k) B l A c := h.keep (below_drewN (Below.refl _ _) k) (Nat.le_refl _)
theorem SlR.get (h : SlR R w B l A c) {i : Nat} (hi : i < l.length) : ∃ a cs, A = some a ∧ a.block < B ∧ R.rep w B l[i] cs ∧ ∀ j, j < R.size → w.cell? (a.add (i * R.size + j)) = cs[j]? := by
  obtain ⟨_, _, xs, h3, h4⟩ := h
  obtain ⟨a, rfl, hb, hc⟩ := h3.2 (by omega)
  obtain ⟨cs, h5, h6⟩ := h4.get i hi
  refine ⟨a, cs, rfl, hb, h5, fun j hj => ?_⟩
  have hl : j < cs.length := by rw [R.len h5]; exact hj
  have e := h6 j hj
  rw [List.getElem?_eq_getElem hl] at e
  rw [List.getElem?_eq_getElem hl]
  exact hc _ _ e
theorem SlR.nil : SlR R w B [] none 0 := ⟨Nat.le_refl _, by simp [maxLen], [], Rd.nil, rfl⟩
theorem SlR.own {base : Nat} {e : TypeId} {xs : List Value} (h : w.ownsRow base e R.size (.slice A l.length c) l.length xs) (hx : Chunk R w w.heap.size l xs) : SlR R w w.heap.size l A c := by
  have := Rd.own h
  obtain ⟨A', c', e', h1, h2, _⟩ : ∃ A' c', (Value.slice A l.length c) = .slice A' l.length c' ∧ l.length ≤ c' ∧ c' ≤ maxLen ∧ l.length ≤ maxLen := own_form h
  injection e' with _ _ e'
  exact ⟨by omega, by omega, xs, this, hx⟩
end

/-! ### what an argument reads as -/
def Opens {α : Type} (P : Program) (t : TypeId) (R : Rp α) : Prop :=
  ∀ (H : Type) (enc : TypeId × Value → H) (w : World) (base : Nat) (spare : Nat → Bool) (held : Bool) (fuel : Nat) (cs : List Value) (x : DataW H × List MemPlace), DataW.trod enc P w base spare held fuel t cs = some x → ∃ y, R.rep w w.heap.size y cs
section
variable {P : Program} {t : TypeId}
theorem opens_slice {α : Type} {R : Rp α} {e : TypeId} (ht : P.underlying t = some (.slice e)) (hC : P.cellsOf e = R.size) (hp : 0 < R.size) (he : Opens P e R) : Opens P t R.sl := by
  intro H enc w base spare held fuel cs x h
  rcases open_slice ht h with ⟨rfl, _⟩ | ⟨a, len, cap, m, n, D, Pl, rfl, hb, hl, hm, hmm, hx, hi⟩
  · exact ⟨[], none, 0, [], rfl, Nat.le_refl _, by simp [maxLen], Rd.nil, rfl⟩
  · have key : ∀ i, i < len → ∃ yc : α × List Value, R.rep w w.heap.size yc.1 yc.2 ∧ ∀ j, j < R.size → w.cell? (a.add (i * R.size + j)) = yc.2[j]? := by
      intro i hil
      obtain ⟨cs', hc, ht'⟩ := hi i (by split at hmm <;> omega)
      obtain ⟨_, hcl, hat⟩ := World.cells?_some hc
      obtain ⟨y, hy⟩ := he H enc w base spare held n cs' _ ht'
      refine ⟨(y, cs'), hy, fun j hj => ?_⟩
      have := hat j (by omega)
      rw [Go.Deep.add_add, hC] at this
      exact this
    have build : ∀ k, k ≤ len → ∃ (l : List α) (xs : List Value), l.length = k ∧ Chunk R w w.heap.size l xs ∧ ∀ i j, i < k → j < R.size → w.cell? (a.add (i * R.size + j)) = xs[i * R.size + j]? := by
      intro k
      induction k with
      | zero => intro _; exact ⟨[], [], rfl, rfl, fun i j hi => by omega⟩
      | succ k ih =>
        intro hk
        obtain ⟨l, xs, rfl, h1, h2⟩ := ih (by omega)
        obtain ⟨⟨y, c⟩, h3, h4⟩ := key l.length (by omega)
        refine ⟨l ++ [y], xs ++ c, by simp, h1.snoc h3, fun i j hi hj => ?_⟩
        have hxl := h1.len
        have hcl := R.len h3
        by_cases e : i = l.length
        · subst e
          rw [List.getElem?_append_right (by omega), hxl, Nat.add_sub_cancel_left]; exact h4 j hj
        · have : (i + 1) * R.size ≤ l.length * R.size := Nat.mul_le_mul_right _ (by omega)
          rw [Nat.succ_mul] at this
          rw [List.getElem?_append_left (by omega)]; exact h2 i j (by omega) hj
    obtain ⟨l, xs, rfl, h1, h2⟩ := build len (Nat.le_refl _)
    refine ⟨l, some a, cap, xs, rfl, hl, hm, ⟨h1.len, fun hn => ⟨a, rfl, ?_, fun j u hu => ?_⟩⟩, h1⟩
    · have := h2 0 0 hn hp
      rw [Nat.zero_mul, Nat.zero_add] at this
      have hx0 : 0 < xs.length := by rw [h1.len]; exact Nat.mul_pos hn hp
      rw [List.getElem?_eq_getElem hx0] at this
      have := World.block_lt_of_cell? w _ this
      rwa [block_add] at this
    · have hj : j < xs.length := (List.getElem?_eq_some_iff.1 hu).1
      rw [h1.len] at hj
      have hd : j / R.size < l.length := Nat.div_lt_of_lt_mul (by rw [Nat.mul_comm]; exact hj)
      have := h2 (j / R.size) (j % R.size) hd (Nat.mod_lt _ hp)
      rw [Nat.mul_comm, Nat.div_add_mod] at this
      rw [this]; exact hu
theorem opens_int {k : IntKind} (ht : P.underlying t = some (.int k)) (h1 : ∀ x : Int, (Value.int k x).oneCell' = true) : Opens P t (Rp.val (Value.int k) (fun z => (Lit.int k z).wf = true) h1) := by
  intro H enc w base spare held fuel cs x h
  obtain ⟨s, rfl, _, hs⟩ := DataW.trod_int ht h
  exact ⟨s, rfl, hs⟩
theorem opens_three {α β γ δ : Type} {R : Rp β} {S : Rp γ} {T : Rp δ} {p : α → β} {q : α → γ} {r : α → δ} {t : TypeId} {f0 f1 f2 : Field} (ht : P.underlying t = some (.struct #[f0, f1, f2])) (ho0 : f0.offset = 0) (ho1 : f1.offset = R.size) (ho2 : f2.offset = R.size + S.size) (hs0 : P.cellsOf f0.type = R.size) (hs1 : P.cellsOf f1.type = S.size) (hs2 : P.cellsOf f2.type = T.size) (hC : P.cellsOf t = R.size + S.size + T.size)
    (h0 : Opens P f0.type R) (h1 : Opens P f1.type S) (h2 : Opens P f2.type T) (mk : β → γ → δ → α) (hp : ∀ a b c, p (mk a b c) = a) (hq : ∀ a b c, q (mk a b c) = b) (hr : ∀ a b c, r (mk a b c) = c) : Opens P t (Rp.two p id R (Rp.two q r S T)) := by
  intro H enc w base spare held fuel cs x h
  obtain ⟨xs, n, _, hx, hlen, hxl, hg⟩ := DataW.trod_struct ht h
  rw [hC] at hlen
  match xs, hxl with
  | [a0, a1, a2], _ =>
    have g0 := hg 0 f0 rfl
    have g1 := hg 1 f1 rfl
    have g2 := hg 2 f2 rfl
    rw [ho0, hs0, List.drop_zero] at g0
    rw [ho1, hs1] at g1
    rw [ho2, hs2] at g2
    obtain ⟨b0, r0⟩ := h0 H enc w base spare held n _ _ g0
    obtain ⟨b1, r1⟩ := h1 H enc w base spare held n _ _ g1
    obtain ⟨b2, r2⟩ := h2 H enc w base spare held n _ _ g2
    rw [List.take_of_length_le (by rw [List.length_drop]; omega), ← List.drop_drop] at r2
    exact ⟨mk b0 b1 b2, _, _, (List.take_append_drop R.size cs).symm, by rw [hp]; exact r0, _, _, (List.take_append_drop S.size _).symm, by simp only [id_eq]; rw [hq]; exact r1, by simp only [id_eq]; rw [hr]; exact r2⟩
theorem opens_four {α β γ δ ε : Type} {R : Rp β} {S : Rp γ} {T : Rp δ} {U : Rp ε} {p : α → β} {q : α → γ} {r : α → δ} {s : α → ε} {t : TypeId} {f0 f1 f2 f3 : Field} (ht : P.underlying t = some (.struct #[f0, f1, f2, f3])) (ho0 : f0.offset = 0) (ho1 : f1.offset = R.size) (ho2 : f2.offset = R.size + S.size) (ho3 : f3.offset = R.size + S.size + T.size) (hs0 : P.cellsOf f0.type = R.size) (hs1 : P.cellsOf f1.type = S.size) (hs2 : P.cellsOf f2.type = T.size) (hs3 : P.cellsOf f3.type = U.size) (hC : P.cellsOf t = R.size + S.size + T.size + U.size)
    (h0 : Opens P f0.type R) (h1 : Opens P f1.type S) (h2 : Opens P f2.type T) (h3 : Opens P f3.type U) (mk : β → γ → δ → ε → α) (hp : ∀ a b c d, p (mk a b c d) = a) (hq : ∀ a b c d, q (mk a b c d) = b) (hr : ∀ a b c d, r (mk a b c d) = c) (hs : ∀ a b c d, s (mk a b c d) = d) : Opens P t (Rp.two p id R (Rp.two q id S (Rp.two r s T U))) := by
  intro H enc w base spare held fuel cs x h
  obtain ⟨xs, n, _, hx, hlen, hxl, hg⟩ := DataW.trod_struct ht h
  rw [hC] at hlen
  match xs, hxl with
  | [a0, a1, a2, a3], _ =>
    have g0 := hg 0 f0 rfl
    have g1 := hg 1 f1 rfl
    have g2 := hg 2 f2 rfl
    have g3 := hg 3 f3 rfl
    rw [ho0, hs0, List.drop_zero] at g0
    rw [ho1, hs1] at g1
    rw [ho2, hs2] at g2
    rw [ho3, hs3] at g3
    obtain ⟨b0, r0⟩ := h0 H enc w base spare held n _ _ g0
    obtain ⟨b1, r1⟩ := h1 H enc w base spare held n _ _ g1
    obtain ⟨b2, r2⟩ := h2 H enc w base spare held n _ _ g2
    obtain ⟨b3, r3⟩ := h3 H enc w base spare held n _ _ g3
    rw [← List.drop_drop] at r2
    rw [List.take_of_length_le (by rw [List.length_drop]; omega), ← List.drop_drop, ← List.drop_drop] at r3
    exact ⟨mk b0 b1 b2 b3, _, _, (List.take_append_drop R.size cs).symm, by rw [hp]; exact r0, _, _, (List.take_append_drop S.size _).symm, by simp only [id_eq]; rw [hq]; exact r1, _, _, (List.take_append_drop T.size _).symm, by simp only [id_eq]; rw [hr]; exact r2, by simp only [id_eq]; rw [hs]; exact r3⟩
end
end Go.Proofs.Ytfhmaincnlaapaa
namespace Go.Proofs.Ytfhmaincnlaapaa
open Go.ChangeShapes Go.WideShapes Go.ChangeAt Go.RowKit Go.Deep Go.Joins
set_option linter.unusedVariables false

structure Sch where
  dims : List (ByteArray × Int)
  ints : List ByteArray
  nums : List ByteArray
  views : List Int
abbrev i64R : Rp Int := Rp.val (Value.int .i64) (fun z => (Lit.int .i64 z).wf = true) (fun _ => rfl)
def dimC (l : List (ByteArray × Int)) : List Value := l.flatMap fun x => [.string x.1, .int .i64 x.2]
abbrev u32s (l : List Int) : List Value := l.map (Value.int .u32)
/-- a value that is a schema, in world w, all that it leads to below block B -/
def SchAt (w : World) (B : Nat) (v : Value) (S : Sch) : Prop :=
  ∃ A0 c0 A1 c1 A2 c2 A3 c3, v = .agg #[.slice A0 S.dims.length c0, .slice A1 S.ints.length c1, .slice A2 S.nums.length c2, .slice A3 S.views.length c3] ∧
    Rd w B 2 A0 S.dims.length (dimC S.dims) ∧ Rd w B 1 A1 S.ints.length (strs S.ints) ∧ Rd w B 1 A2 S.nums.length (strs S.nums) ∧ Rd w B 1 A3 S.views.length (u32s S.views) ∧
    (S.dims.length ≤ c0 ∧ c0 ≤ maxLen) ∧ (S.ints.length ≤ c1 ∧ c1 ≤ maxLen) ∧ (S.nums.length ≤ c2 ∧ c2 ≤ maxLen) ∧ (S.views.length ≤ c3 ∧ c3 ≤ maxLen)
end Go.Proofs.Ytfhmaincnlaapaa
namespace Go.Proofs.Ytfhmaincnlaapaa
open Go.ChangeShapes Go.WideShapes Go.ChangeAt Go.RowKit Go.Deep
set_option linter.unusedVariables false

theorem opens_f64 {P : Program} {t : TypeId} (ht : P.underlying t = some (.float .f64)) (h1 : ∀ x : Nat, (Value.float .f64 x).oneCell' = true) : Opens P t (Rp.val (Value.float .f64) (fun b => b < 18446744073709551616) h1) := by
  intro H enc w base spare held fuel cs x h
  obtain ⟨s, rfl, hs⟩ := trod_f64 ht h
  exact ⟨s, rfl, hs⟩
end Go.Proofs.Ytfhmaincnlaapaa
namespace Go.Proofs.Ytfhmaincnlaapaa
open Go.ChangeShapes Go.WideShapes Go.ChangeAt Go.RowKit Go.Deep Go.Joins
set_option linter.unusedVariables false

structure FactS where
  codes : List Int
  ints : List Int
  nums : List Nat
abbrev f64R : Rp Nat := Rp.val (Value.float .f64) (fun b => b < 18446744073709551616) (fun _ => rfl)
abbrev i64s (l : List Int) : List Value := l.map (Value.int .i64)
abbrev f64s (l : List Nat) : List Value := l.map (Value.float .f64)
/-- three slices that are a fact's -/
def FactV (w : World) (B : Nat) (F : FactS) (v0 v1 v2 : Value) : Prop :=
  ∃ A0 c0 A1 c1 A2 c2, v0 = .slice A0 F.codes.length c0 ∧ v1 = .slice A1 F.ints.length c1 ∧ v2 = .slice A2 F.nums.length c2 ∧
    Rd w B 1 A0 F.codes.length (i64s F.codes) ∧ Rd w B 1 A1 F.ints.length (i64s F.ints) ∧ Rd w B 1 A2 F.nums.length (f64s F.nums) ∧
    (F.codes.length ≤ c0 ∧ c0 ≤ maxLen) ∧ (F.ints.length ≤ c1 ∧ c1 ≤ maxLen) ∧ (F.nums.length ≤ c2 ∧ c2 ≤ maxLen)
end Go.Proofs.Ytfhmaincnlaapaa
namespace Go.Proofs.Ytfhmaincnlaapaa
open Go.ChangeShapes Go.WideShapes Go.ChangeAt Go.RowKit Go.Deep Go.Joins
set_option linter.unusedVariables false

theorem opens_u64n {P : Program} {t : TypeId} (ht : P.underlying t = some (.int .u64)) (h1 : ∀ n : Nat, (Value.int .u64 (n : Int)).oneCell' = true) : Opens P t (Rp.val (fun n : Nat => Value.int .u64 (n : Int)) (fun n => n < 18446744073709551616) h1) := by
  intro H enc w base spare held fuel cs x h
  obtain ⟨z, rfl, _, hz⟩ := DataW.trod_int ht h
  have hb := bounds_u64 hz
  exact ⟨z.toNat, by simp only [show ((z.toNat : Nat) : Int) = z from by omega], show z.toNat < _ by omega⟩
theorem opens_u32n {P : Program} {t : TypeId} (ht : P.underlying t = some (.int .u32)) (h1 : ∀ n : Nat, (Value.int .u32 (n : Int)).oneCell' = true) : Opens P t (Rp.val (fun n : Nat => Value.int .u32 (n : Int)) (fun n => n < 4294967296) h1) := by
  intro H enc w base spare held fuel cs x h
  obtain ⟨z, rfl, _, hz⟩ := DataW.trod_int ht h
  have hb := bounds_u32 hz
  exact ⟨z.toNat, by simp only [show ((z.toNat : Nat) : Int) = z from by omega], show z.toNat < _ by omega⟩
theorem opens_u8n {P : Program} {t : TypeId} (ht : P.underlying t = some (.int .u8)) (h1 : ∀ b : UInt8, (Value.int .u8 (b.toNat : Int)).oneCell' = true) : Opens P t (Rp.val (fun b : UInt8 => Value.int .u8 (b.toNat : Int)) (fun _ => True) h1) := by
  intro H enc w base spare held fuel cs x h
  obtain ⟨z, rfl, _, hz⟩ := DataW.trod_int ht h
  have hb := bounds_u8 hz
  refine ⟨UInt8.ofNat z.toNat, ?_, trivial⟩
  have : (UInt8.ofNat z.toNat).toNat = z.toNat := by
    rw [UInt8.toNat_ofNat']; omega
  simp only [this, show ((z.toNat : Nat) : Int) = z from by omega]
/-- five fields -/
theorem opens_five {P : Program} {t : TypeId} {α β0 β1 β2 β3 β4 : Type} {R0 : Rp β0} {R1 : Rp β1} {R2 : Rp β2} {R3 : Rp β3} {R4 : Rp β4} {p0 : α → β0} {p1 : α → β1} {p2 : α → β2} {p3 : α → β3} {p4 : α → β4} {f0 f1 f2 f3 f4 : Field}
    (ht : P.underlying t = some (.struct #[f0, f1, f2, f3, f4])) (o0 : f0.offset = 0) (o1 : f1.offset = R0.size) (o2 : f2.offset = R0.size + R1.size) (o3 : f3.offset = R0.size + R1.size + R2.size) (o4 : f4.offset = R0.size + R1.size + R2.size + R3.size)
    (s0 : P.cellsOf f0.type = R0.size) (s1 : P.cellsOf f1.type = R1.size) (s2 : P.cellsOf f2.type = R2.size) (s3 : P.cellsOf f3.type = R3.size) (s4 : P.cellsOf f4.type = R4.size) (hC : P.cellsOf t = R0.size + R1.size + R2.size + R3.size + R4.size)
    (h0 : Opens P f0.type R0) (h1 : Opens P f1.type R1) (h2 : Opens P f2.type R2) (h3 : Opens P f3.type R3) (h4 : Opens P f4.type R4) (mk : β0 → β1 → β2 → β3 → β4 → α)
    (q0 : ∀ a b c d e, p0 (mk a b c d e) = a) (q1 : ∀ a b c d e, p1 (mk a b c d e) = b) (q2 : ∀ a b c d e, p2 (mk a b c d e) = c) (q3 : ∀ a b c d e, p3 (mk a b c d e) = d) (q4 : ∀ a b c d e, p4 (mk a b c d e) = e) :
    Opens P t (Rp.two p0 id R0 (Rp.two p1 id R1 (Rp.two p2 id R2 (Rp.two p3 p4 R3 R4)))) := by
  intro H enc w base spare held fuel cs x h
  obtain ⟨xs, n, _, hx, hlen, hxl, hg⟩ := DataW.trod_struct ht h
  rw [hC] at hlen
  match xs, hxl with
  | [a0, a1, a2, a3, a4], _ =>
    have g0 := hg 0 f0 rfl
    have g1 := hg 1 f1 rfl
    have g2 := hg 2 f2 rfl
    have g3 := hg 3 f3 rfl
    have g4 := hg 4 f4 rfl
    rw [o0, s0, List.drop_zero] at g0
    rw [o1, s1] at g1
    rw [o2, s2] at g2
    rw [o3, s3] at g3
    rw [o4, s4] at g4
    obtain ⟨b0, r0⟩ := h0 H enc w base spare held n _ _ g0
    obtain ⟨b1, r1⟩ := h1 H enc w base spare held n _ _ g1
    obtain ⟨b2, r2⟩ := h2 H enc w base spare held n _ _ g2
    obtain ⟨b3, r3⟩ := h3 H enc w base spare held n _ _ g3
    obtain ⟨b4, r4⟩ := h4 H enc w base spare held n _ _ g4
    rw [← List.drop_drop] at r2
    rw [← List.drop_drop, ← List.drop_drop] at r3
    rw [List.take_of_length_le (by rw [List.length_drop]; omega), ← List.drop_drop, ← List.drop_drop, ← List.drop_drop] at r4
    exact ⟨mk b0 b1 b2 b3 b4, _, _, (List.take_append_drop R0.size cs).symm, by rw [q0]; exact r0, _, _, (List.take_append_drop R1.size _).symm, by simp only [id_eq]; rw [q1]; exact r1, _, _, (List.take_append_drop R2.size _).symm, by simp only [id_eq]; rw [q2]; exact r2,
      _, _, (List.take_append_drop R3.size _).symm, by simp only [id_eq]; rw [q3]; exact r3, by simp only [id_eq]; rw [q4]; exact r4⟩
structure WholeS where
  sum : Int
  abs : Int
  sq : List Nat
  mn : Int
  mx : Int
structure RealS where
  sum : List UInt8
  mn : Nat
  mx : Nat
structure CellS where
  key : Nat
  count : Int
  ints : List WholeS
  nums : List RealS
abbrev u64nR : Rp Nat := Rp.val (fun n : Nat => Value.int .u64 (n : Int)) (fun n => n < 18446744073709551616) (fun _ => rfl)
abbrev u32nR : Rp Nat := Rp.val (fun n : Nat => Value.int .u32 (n : Int)) (fun n => n < 4294967296) (fun _ => rfl)
abbrev u8R : Rp UInt8 := Rp.val (fun b : UInt8 => Value.int .u8 (b.toNat : Int)) (fun _ => True) (fun _ => rfl)
def wholeR : Rp WholeS := Rp.two WholeS.sum id i64R (Rp.two WholeS.abs id i64R (Rp.two WholeS.sq id u32nR.sl (Rp.two WholeS.mn WholeS.mx i64R i64R)))
def realR : Rp RealS := Rp.two RealS.sum id u8R.sl (Rp.two RealS.mn RealS.mx f64R f64R)
def cellR : Rp CellS := Rp.two CellS.key id u64nR (Rp.two CellS.count id i64R (Rp.two CellS.ints CellS.nums wholeR.sl realR.sl))
theorem opens_whole : Opens Try.prog 114 wholeR :=
  opens_five Try.underlying114 rfl rfl rfl rfl rfl (by kernel_rfl) (by kernel_rfl) (by kernel_rfl) (by kernel_rfl) (by kernel_rfl) (by kernel_rfl)
    (opens_int Try.underlying2 _) (opens_int Try.underlying2 _) (opens_slice Try.underlying24 (by kernel_rfl) (by decide) (opens_u32n Try.underlying33 _)) (opens_int Try.underlying2 _) (opens_int Try.underlying2 _)
    WholeS.mk (fun _ _ _ _ _ => rfl) (fun _ _ _ _ _ => rfl) (fun _ _ _ _ _ => rfl) (fun _ _ _ _ _ => rfl) (fun _ _ _ _ _ => rfl)
theorem opens_real : Opens Try.prog 117 realR :=
  opens_three Try.underlying117 rfl rfl rfl (by kernel_rfl) (by kernel_rfl) (by kernel_rfl) (by kernel_rfl)
    (opens_slice Try.underlying53 (by kernel_rfl) (by decide) (opens_u8n Try.underlying5 _)) (opens_f64 Try.underlying115 _) (opens_f64 Try.underlying115 _) RealS.mk (fun _ _ _ => rfl) (fun _ _ _ => rfl) (fun _ _ _ => rfl)
theorem opens_cell : Opens Try.prog 52 cellR :=
  opens_four Try.underlying52 rfl rfl rfl rfl (by kernel_rfl) (by kernel_rfl) (by kernel_rfl) (by kernel_rfl) (by kernel_rfl)
    (opens_u64n Try.underlying48 _) (opens_int Try.underlying2 _) (opens_slice Try.underlying49 (by kernel_rfl) (by decide) opens_whole) (opens_slice Try.underlying50 (by kernel_rfl) (by decide) opens_real)
    CellS.mk (fun _ _ _ _ => rfl) (fun _ _ _ _ => rfl) (fun _ _ _ _ => rfl) (fun _ _ _ _ => rfl)
abbrev u32n (l : List Nat) : List Value := l.map (fun n : Nat => Value.int .u32 (n : Int))
/-- a whole measure's five cells -/
theorem wholeR_at {w : World} {B : Nat} {x : WholeS} {cs : List Value} (h : wholeR.rep w B x cs) : ∃ A c, cs = [.int .i64 x.sum, .int .i64 x.abs, .slice A x.sq.length c, .int .i64 x.mn, .int .i64 x.mx] ∧ Rd w B 1 A x.sq.length (u32n x.sq) ∧ x.sq.length ≤ c ∧ c ≤ maxLen ∧
    (∀ n ∈ x.sq, n < 4294967296) ∧ (-9223372036854775808 ≤ x.sum ∧ x.sum ≤ 9223372036854775807) ∧ (-9223372036854775808 ≤ x.abs ∧ x.abs ≤ 9223372036854775807) ∧ (-9223372036854775808 ≤ x.mn ∧ x.mn ≤ 9223372036854775807) ∧ (-9223372036854775808 ≤ x.mx ∧ x.mx ≤ 9223372036854775807) := by
  obtain ⟨_, _, rfl, ⟨rfl, w0⟩, _, _, rfl, ⟨rfl, w1⟩, _, _, rfl, ⟨A, c, xs, rfl, a2, b2, r2, k2⟩, _, _, rfl, ⟨rfl, w3⟩, rfl, w4⟩ := h
  obtain ⟨rfl, d2⟩ := chunk_val.1 k2
  exact ⟨A, c, rfl, r2, a2, b2, d2, bounds_i64 w0, bounds_i64 w1, bounds_i64 w3, bounds_i64 w4⟩
theorem realR_at {w : World} {B : Nat} {x : RealS} {cs : List Value} (h : realR.rep w B x cs) : ∃ A c, cs = [.slice A x.sum.length c, .float .f64 x.mn, .float .f64 x.mx] ∧ Rd w B 1 A x.sum.length (u8s x.sum) ∧ x.sum.length ≤ c ∧ c ≤ maxLen ∧ x.mn < 18446744073709551616 ∧ x.mx < 18446744073709551616 := by
  obtain ⟨_, _, rfl, ⟨A, c, xs, rfl, a2, b2, r2, k2⟩, _, _, rfl, ⟨rfl, w3⟩, rfl, w4⟩ := h
  obtain ⟨rfl, d2⟩ := chunk_val.1 k2
  exact ⟨A, c, rfl, r2, a2, b2, w3, w4⟩
/-- a cell, its lists at A2 and A3 -/
structure CellV (w : World) (B : Nat) (C : CellS) (A2 : Option Addr) (c2 : Nat) (A3 : Option Addr) (c3 : Nat) : Prop where
  key : C.key < 18446744073709551616
  count : -9223372036854775808 ≤ C.count ∧ C.count ≤ 9223372036854775807
  ints : SlR wholeR w B C.ints A2 c2
  nums : SlR realR w B C.nums A3 c3
theorem CellV.keep {w w' : World} {B B' : Nat} {C : CellS} {A2 A3 : Option Addr} {c2 c3 : Nat} (h : CellV w B C A2 c2 A3 c3) (hb : Below B w w') (hB : B ≤ B') : CellV w' B' C A2 c2 A3 c3 := ⟨h.key, h.count, h.ints.keep hb hB, h.nums.keep hb hB⟩
def cellC (C : CellS) (A2 : Option Addr) (c2 : Nat) (A3 : Option Addr) (c3 : Nat) : List Value := [.int .u64 (C.key : Int), .int .i64 C.count, .slice A2 C.ints.length c2, .slice A3 C.nums.length c3]
theorem cellR_at {w : World} {B : Nat} {C : CellS} {cs : List Value} (h : cellR.rep w B C cs) : ∃ A2 c2 A3 c3, cs = cellC C A2 c2 A3 c3 ∧ CellV w B C A2 c2 A3 c3 := by
  obtain ⟨_, _, rfl, ⟨rfl, w0⟩, _, _, rfl, ⟨rfl, w1⟩, _, _, rfl, ⟨A2, c2, x2, rfl, a2, b2, r2, k2⟩, A3, c3, x3, rfl, a3, b3, r3, k3⟩ := h
  exact ⟨A2, c2, A3, c3, rfl, ⟨w0, bounds_i64 w1, ⟨a2, b2, x2, r2, k2⟩, ⟨a3, b3, x3, r3, k3⟩⟩⟩
theorem cellR_mk {w : World} {B : Nat} {C : CellS} {A2 A3 : Option Addr} {c2 c3 : Nat} (h : CellV w B C A2 c2 A3 c3) : cellR.rep w B C (cellC C A2 c2 A3 c3) := by
  obtain ⟨w0, w1, ⟨a2, b2, x2, r2, k2⟩, a3, b3, x3, r3, k3⟩ := h
  exact ⟨[_], [_, _, _], rfl, ⟨rfl, w0⟩, [_], [_, _], rfl, ⟨rfl, WalkArith.wf_i64 w1⟩, [_], [_], rfl, ⟨A2, c2, x2, rfl, a2, b2, r2, k2⟩, A3, c3, x3, rfl, a3, b3, r3, k3⟩
/-- measure k of a slice of whole measures -/
theorem SlR.wholeAt {w : World} {B c : Nat} {l : List WholeS} {A : Option Addr} (h : SlR wholeR w B l A c) {k : Nat} (hk : k < l.length) : ∃ a A2 c2, A = some a ∧ a.block < B ∧ w.cell? (a.add (k * 5)) = some (.int .i64 l[k].sum) ∧
    w.cell? ⟨(a.add (k * 5)).block, (a.add (k * 5)).off + 1, none⟩ = some (.int .i64 l[k].abs) ∧ w.cell? ⟨(a.add (k * 5)).block, (a.add (k * 5)).off + 2, none⟩ = some (.slice A2 l[k].sq.length c2) ∧
    w.cell? ⟨(a.add (k * 5)).block, (a.add (k * 5)).off + 3, none⟩ = some (.int .i64 l[k].mn) ∧ w.cell? ⟨(a.add (k * 5)).block, (a.add (k * 5)).off + 4, none⟩ = some (.int .i64 l[k].mx) ∧
    Rd w B 1 A2 l[k].sq.length (u32n l[k].sq) ∧ l[k].sq.length ≤ c2 ∧ c2 ≤ maxLen ∧ (∀ n ∈ l[k].sq, n < 4294967296) ∧ (-9223372036854775808 ≤ l[k].sum ∧ l[k].sum ≤ 9223372036854775807) ∧ (-9223372036854775808 ≤ l[k].abs ∧ l[k].abs ≤ 9223372036854775807) ∧
    (-9223372036854775808 ≤ l[k].mn ∧ l[k].mn ≤ 9223372036854775807) ∧ (-9223372036854775808 ≤ l[k].mx ∧ l[k].mx ≤ 9223372036854775807) := by
  obtain ⟨a, cs, rfl, hb, hr, hc⟩ := h.get hk
  obtain ⟨A2, c2, rfl, hv⟩ := wholeR_at hr
  have key : ∀ j, j < 5 → w.cell? (a.add (k * 5 + j)) = ([.int .i64 l[k].sum, .int .i64 l[k].abs, .slice A2 l[k].sq.length c2, .int .i64 l[k].mn, .int .i64 l[k].mx] : List Value)[j]? := fun j hj => hc j hj
  refine ⟨a, A2, c2, rfl, hb, key 0 (by decide), ?_, ?_, ?_, ?_, hv⟩
  · have := key 1 (by decide)
    rw [← add_add', add_succ] at this
    exact this
  · have := key 2 (by decide)
    rw [← add_add', show (2 : Nat) = 1 + 1 from rfl, add_succ] at this
    exact this
  · have := key 3 (by decide)
    rw [← add_add', show (3 : Nat) = 2 + 1 from rfl, add_succ] at this
    exact this
  · have := key 4 (by decide)
    rw [← add_add', show (4 : Nat) = 3 + 1 from rfl, add_succ] at this
    exact this
theorem SlR.realAt {w : World} {B c : Nat} {l : List RealS} {A : Option Addr} (h : SlR realR w B l A c) {k : Nat} (hk : k < l.length) : ∃ a A2 c2, A = some a ∧ a.block < B ∧ w.cell? (a.add (k * 3)) = some (.slice A2 l[k].sum.length c2) ∧
    w.cell? ⟨(a.add (k * 3)).block, (a.add (k * 3)).off + 1, none⟩ = some (.float .f64 l[k].mn) ∧ w.cell? ⟨(a.add (k * 3)).block, (a.add (k * 3)).off + 2, none⟩ = some (.float .f64 l[k].mx) ∧
    Rd w B 1 A2 l[k].sum.length (u8s l[k].sum) ∧ l[k].sum.length ≤ c2 ∧ c2 ≤ maxLen ∧ l[k].mn < 18446744073709551616 ∧ l[k].mx < 18446744073709551616 := by
  obtain ⟨a, cs, rfl, hb, hr, hc⟩ := h.get hk
  obtain ⟨A2, c2, rfl, hv⟩ := realR_at hr
  have key : ∀ j, j < 3 → w.cell? (a.add (k * 3 + j)) = ([.slice A2 l[k].sum.length c2, .float .f64 l[k].mn, .float .f64 l[k].mx] : List Value)[j]? := fun j hj => hc j hj
  refine ⟨a, A2, c2, rfl, hb, key 0 (by decide), ?_, ?_, hv⟩
  · have := key 1 (by decide)
    rw [← add_add', add_succ] at this
    exact this
  · have := key 2 (by decide)
    rw [← add_add', show (2 : Nat) = 1 + 1 from rfl, add_succ] at this
    exact this
end Go.Proofs.Ytfhmaincnlaapaa
namespace Go.Proofs.Ytfhmaincnlaapaa
open Go.ChangeShapes Go.WideShapes Go.ChangeAt Go.RowKit
set_option linter.unusedVariables false

end Go.Proofs.Ytfhmaincnlaapaa
namespace Go.Proofs.Ytfhmaincnlaapaa
open Go.ChangeShapes Go.WideShapes Go.ChangeAt Go.RowKit
set_option linter.unusedVariables false

/-- whatever block is neither a writer nor bytes stands as it was -/
def KeptK (w w' : World) : Prop := ∀ h t cs, Blk w h t cs → t ≠ 216 → t ≠ 5 → Blk w' h t cs
theorem KeptK.refl (w : World) : KeptK w w := fun _ _ _ h _ _ => h
theorem KeptK.trans {a b c : World} (h : KeptK a b) (k : KeptK b c) : KeptK a c := fun g t cs hb h1 h2 => k g t cs (h g t cs hb h1 h2) h1 h2
theorem KeptK.drewN {a b : World} (h : KeptK a b) (n : Nat) : KeptK a (b.drewN n) := fun g t cs hb h1 h2 => h g t cs hb h1 h2
end Go.Proofs.Ytfhmaincnlaapaa
