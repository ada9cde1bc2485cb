/-
  bushellaw08.small, awake; bushelref08.Read and bushellaw08.read of any thing.
  bushellaw08.read: a thing is asked for, and is what must be.
  THE READER's B.
  THE READER's I, F, T.
  WHAT A NODE READS AS, as a plain function.
  SHEETS IN MEMORY.
  ENTRIES IN MEMORY; which may be those of nodes.
  THE WRITER buf.Out: NewOut, lay, Bytes, U.
  bushelref08.Read of a number with a sign; of bytes.
  bushelref08.Read of things of every kind.
  bushelref07.GetT: the document's text of any bytes is the same.
  bushelref07.GetI: the document's number with a sign of any bytes is the same.
  flo.From, code.key, code.GetF; bushelref07.F.
  bushelref03.Split and Rank, at a finite number above 0: the rung; bushelref03.Key: the key.
  PLAIN LEAN: halves, doubles and whole parts of real numbers are exact where bushelref03's Split and Rank take them.
  bushelref03.Less and Same: they stand to one another as the keys do.
  flo.Key and code.F, bushelref03's Kind, Below, Less: what they give at any real number's bits.
  PLAIN LEAN: real numbers as words of 64 bits: what a word's rung is worth, and that the order of numbers is the order of keys.
-/
import Derived.Laws.FloatArith
import Derived.Deep.DeepCutAuto
import Derived.Laws.BitsAllLaws
import Derived.Deep.LoopGhost
import Derived.IntWalk
import Derived.Deep.RegionHeldLaw
import Derived.Deep.RegionHeld
import Derived.Test.YtfhmaincnlaapaaUnSy2
import Derived.Test.YtfhmaincnlaapaaUnRefRead
namespace Go.Proofs.Ytfhmaincnlaapaa
set_option linter.unusedVariables false
open Ieee

/-- the bits below the sign -/
def rg (b : Nat) : Nat := b % 9223372036854775808
def ng (b : Nat) : Bool := b / 9223372036854775808 % 2 == 1
/-- infinity's rung -/
def irg : Nat := 9218868437227405312
def nanB (b : Nat) : Bool := decide (irg < rg b)
def mg (r : Nat) : Nat := if r < 4503599627370496 then r else 4503599627370496 + r % 4503599627370496
def ex (r : Nat) : Nat := if r < 4503599627370496 then 0 else r / 4503599627370496 - 1
/-- what a rung is worth, in units of 2^-1074 -/
def vl (r : Nat) : Nat := mg r * 2 ^ ex r
def sv (b : Nat) : Int := if ng b then -(vl (rg b) : Int) else (vl (rg b) : Int)
/-- the key -/
def keyB (b : Nat) : Nat := if nanB b then 18446744073709551615 else if ng b then 9223372036854775807 - rg b else 9223372036854775808 + rg b

theorem sw_eq : double.signWeight = 9223372036854775808 := by decide
theorem bi_eq : double.binade = 4503599627370496 := by decide
theorem ir_eq : double.infRung = 9218868437227405312 := by decide
theorem lp_eq : double.leastPlace = -1074 := by decide

theorem read_num (b : Nat) (h : rg b < irg) : double.read b = .number (ng b) (mg (rg b)) (-1074 + (ex (rg b) : Nat)) := by
  unfold Format.read
  simp only [sw_eq, bi_eq, ir_eq, lp_eq]
  unfold rg irg at *
  unfold mg ex ng
  split
  · simp
  · rfl
theorem read_inf (b : Nat) (h : rg b = irg) : double.read b = .infinity (ng b) := by
  unfold Format.read
  simp only [sw_eq, bi_eq, ir_eq, lp_eq]
  unfold rg irg at *
  unfold ng
  rw [if_neg (by omega), if_neg (by omega), if_pos h]
theorem read_nan (b : Nat) (h : irg < rg b) : double.read b = .nan (ng b) (rg b - irg) := by
  unfold Format.read
  simp only [sw_eq, bi_eq, ir_eq, lp_eq]
  unfold rg irg at *
  unfold ng
  rw [if_neg (by omega), if_neg (by omega), if_neg (by omega)]

theorem vl_lt {r s : Nat} (h : r < s) : vl r < vl s := by
  unfold vl mg ex
  by_cases hr : r < 4503599627370496
  · by_cases hs : s < 4503599627370496
    · simp [hr, hs]; exact h
    · rw [if_pos hr, if_pos hr, if_neg hs, if_neg hs]
      have : 1 ≤ 2 ^ (s / 4503599627370496 - 1) := Nat.one_le_two_pow
      calc r * 2 ^ 0 = r := by simp
        _ < (4503599627370496 + s % 4503599627370496) * 1 := by omega
        _ ≤ _ := Nat.mul_le_mul_left _ this
  · have hs : ¬ s < 4503599627370496 := by omega
    rw [if_neg hr, if_neg hr, if_neg hs, if_neg hs]
    obtain ⟨q, hq⟩ : ∃ q, r / 4503599627370496 = q + 1 := ⟨r / 4503599627370496 - 1, by omega⟩
    obtain ⟨p, hp⟩ : ∃ p, s / 4503599627370496 = p + 1 := ⟨s / 4503599627370496 - 1, by omega⟩
    rw [hq, hp, Nat.add_sub_cancel, Nat.add_sub_cancel]
    by_cases e : q = p
    · subst e
      exact Nat.mul_lt_mul_of_pos_right (by omega) (Nat.two_pow_pos _)
    · have hlt : q + 1 ≤ p := by omega
      have h2 : 2 ^ (q + 1) ≤ 2 ^ p := Nat.pow_le_pow_right (by decide) hlt
      calc (4503599627370496 + r % 4503599627370496) * 2 ^ q < (2 * 4503599627370496) * 2 ^ q := Nat.mul_lt_mul_of_pos_right (by omega) (Nat.two_pow_pos _)
        _ = 4503599627370496 * 2 ^ (q + 1) := by rw [Nat.pow_succ]; omega
        _ ≤ 4503599627370496 * 2 ^ p := Nat.mul_le_mul_left _ h2
        _ ≤ _ := Nat.mul_le_mul_right _ (by omega)
theorem vl_inj {r s : Nat} (h : vl r = vl s) : r = s := by
  rcases Nat.lt_trichotomy r s with h1 | h1 | h1
  · have := vl_lt h1; omega
  · exact h1
  · have := vl_lt h1; omega
theorem vl_zero : vl 0 = 0 := rfl
theorem vl_pos {r : Nat} (h : 0 < r) : 0 < vl r := by have := vl_lt h; rw [vl_zero] at this; exact this

theorem icmp_lt {x y : Int} (h : x < y) : compare x y = .lt := by simp [compare, compareOfLessAndEq, h]
theorem icmp_gt {x y : Int} (h : y < x) : compare x y = .gt := by
  have h1 : ¬ x < y := by omega
  have h2 : x ≠ y := by omega
  simp [compare, compareOfLessAndEq, h1, h2]
theorem compare_mul (x y : Int) (c : Nat) (hc : 0 < c) : compare (x * (c : Int)) (y * (c : Int)) = compare x y := by
  have hc' : (0 : Int) < c := by omega
  rcases Int.lt_trichotomy x y with h | h | h
  · rw [icmp_lt h, icmp_lt (Int.mul_lt_mul_of_pos_right h hc')]
  · subst h; simp
  · rw [icmp_gt h, icmp_gt (Int.mul_lt_mul_of_pos_right h hc')]
theorem signed_mul (s : Bool) (m k c : Nat) : signed s m k * ((2 ^ c : Nat) : Int) = if s then -((m * 2 ^ (k + c) : Nat) : Int) else ((m * 2 ^ (k + c) : Nat) : Int) := by
  unfold signed
  rw [Nat.shiftLeft_eq, Nat.pow_add, ← Nat.mul_assoc]
  split <;> simp [Int.neg_mul]
/-- numbers stand to one another as what they are worth -/
theorem order_num (a b : Nat) (ha : rg a < irg) (hb : rg b < irg) : double.order a b = some (compare (sv a) (sv b)) := by
  unfold Format.order
  rw [read_num a ha, read_num b hb]
  simp only [Datum.order]
  congr 1
  generalize hi : ex (rg a) = i
  generalize hj : ex (rg b) = j
  have e1 : ((-1074 + (i : Int)) - min (-1074 + (i : Int)) (-1074 + (j : Int))).toNat + min i j = i := by omega
  have e2 : ((-1074 + (j : Int)) - min (-1074 + (i : Int)) (-1074 + (j : Int))).toNat + min i j = j := by omega
  rw [← compare_mul _ _ (2 ^ min i j) (Nat.two_pow_pos _), signed_mul, signed_mul, e1, e2]
  unfold sv vl
  rw [hi, hj]
theorem vl_irg (r : Nat) (h : r < irg) : vl r < vl irg := vl_lt h
theorem order_any (a b : Nat) (ha : rg a ≤ irg) (hb : rg b ≤ irg) : double.order a b = some (compare (sv a) (sv b)) := by
  by_cases h1 : rg a = irg
  · by_cases h2 : rg b = irg
    · unfold Format.order
      rw [read_inf a h1, read_inf b h2]
      simp only [Datum.order, sv, h1, h2]
      have hp := vl_pos (show 0 < irg by decide)
      generalize vl irg = x at *
      congr 1
      cases ng a <;> cases ng b <;> simp <;> (first | rfl | (symm; first | (exact icmp_lt (by omega)) | (exact icmp_gt (by omega))))
    · unfold Format.order
      rw [read_inf a h1, read_num b (by omega)]
      simp only [Datum.order, sv, h1]
      have hv := vl_irg (rg b) (by omega)
      congr 1
      cases ng a <;> cases ng b <;> simp <;> (symm; first | (exact icmp_lt (by omega)) | (exact icmp_gt (by omega)))
  · by_cases h2 : rg b = irg
    · unfold Format.order
      rw [read_num a (by omega), read_inf b h2]
      simp only [Datum.order, sv, h2]
      have hv := vl_irg (rg a) (by omega)
      congr 1
      cases ng a <;> cases ng b <;> simp <;> (symm; first | (exact icmp_lt (by omega)) | (exact icmp_gt (by omega)))
    · exact order_num a b (by omega) (by omega)
theorem order_nan (a b : Nat) (h : irg < rg a ∨ irg < rg b) : double.order a b = none := by
  unfold Format.order
  by_cases ha : irg < rg a
  · rw [read_nan a ha]; cases double.read b <;> rfl
  · rw [read_nan b (by omega)]; cases double.read a <;> rfl
theorem order_self (b : Nat) : (double.order b b != some .eq) = nanB b := by
  unfold nanB
  by_cases h : irg < rg b
  · rw [order_nan b b (.inl h), decide_eq_true h]; rfl
  · rw [order_any b b (by omega) (by omega), decide_eq_false h]; simp
theorem rg_lt (b : Nat) : rg b < 9223372036854775808 := Nat.mod_lt _ (by decide)
theorem ng_iff (b : Nat) (hb : b < 18446744073709551616) : ng b = decide (9223372036854775808 ≤ b) := by
  unfold ng; rw [Bool.eq_iff_iff]; simp; omega
end Go.Proofs.Ytfhmaincnlaapaa
namespace Go.Proofs.Ytfhmaincnlaapaa
open Go.ChangeShapes Go.WideShapes Go.ChangeAt Go.RowKit
set_option linter.unusedVariables false
theorem f64bits (b : Nat) (w : World) : (callFunc 169 #[.float .f64 b]).run Try.prog w = .ok (.value (.int .u64 (b : Int))) w := by kernel_rfl

theorem and63 (b : Nat) (h : b < 18446744073709551616) : bits .and .u64 (b : Int) 9223372036854775807 = ((rg b : Nat) : Int) := by
  have e : (9223372036854775807 : Int) = ((9223372036854775807 : Nat) : Int) := rfl
  rw [e, u64_and_nat _ _ h (by omega)]
  congr 1
  exact Nat.and_two_pow_sub_one_eq_mod b 63

theorem order_selfF (b : Nat) : (FloatKind.f64.format.order b b != some .eq) = nanB b := order_self b
theorem key_any (b : Nat) (w : World) (hb : b < 18446744073709551616) :
    Calls Try.prog 154 #[.float .f64 b] w fun e w' => e = .returned (.int .u64 (keyB b : Nat)) ∧ w = w' := by
  have hf := f64bits b
  have hn := order_selfF b
  have hd := and63 b hb
  have hr := rg_lt b
  unfold keyB
  have hni := ng_iff b hb
  have hrb : rg b = b - if 9223372036854775808 ≤ b then 9223372036854775808 else 0 := by unfold rg; split <;> omega
  cases h : nanB b
  · rw [h] at hn
    by_cases hg : 9223372036854775808 ≤ b
    · rw [if_pos hg] at hrb
      rw [hni, decide_eq_true hg]
      have t2 : (((b : Int) / 9223372036854775808) == 1) = true := by rw [beq_iff_eq]; omega
      have HR := Lib.hid hrb; have HN := Lib.hid hni; clear hrb hni
      go_enter Try.func154, Try.ntmps154
      go_wp2
      go_ret
      exact ⟨by simp; omega, rfl⟩
    · rw [if_neg hg] at hrb
      rw [hni, decide_eq_false hg]
      have t2 : (((b : Int) / 9223372036854775808) == 1) = false := by rw [beq_eq_false_iff_ne]; omega
      have HR := Lib.hid hrb; have HN := Lib.hid hni; clear hrb hni
      go_enter Try.func154, Try.ntmps154
      go_wp2
      go_ret
      exact ⟨by have := HR.out; simp; omega, rfl⟩
  · rw [h] at hn
    have HR := Lib.hid hrb; have HN := Lib.hid hni; clear hrb hni
    go_enter Try.func154, Try.ntmps154
    go_wp2
    go_ret
    exact ⟨rfl, rfl⟩
/-! bushelref03 -/
theorem run_sub_bad {P : Program} (t : TypeId) (w : World) (x y : Nat) (h : FloatKind.f64.format.sub x y = none) : ∃ q, nanB q = true ∧ q < 18446744073709551616 ∧ (binOp .sub t (.float .f64 x) (.float .f64 y)).run P w = .ok (.float .f64 q) w.drew := by
  refine ⟨Question.cut (.nanBits .f64 x y) (w.tape w.drawn (.nanBits .f64 x y)), ?_, ?_, ?_⟩
  · generalize w.tape w.drawn (.nanBits .f64 x y) = t
    have h1 := Nat.mod_lt (t / 2) (show 0 < 4503599627370495 by decide)
    refine decide_eq_true ?_
    show 9218868437227405312 < (t % 2 * 9223372036854775808 + 9218868437227405312 + 1 + t / 2 % 4503599627370495) % 9223372036854775808
    generalize t / 2 % 4503599627370495 = y at *
    omega
  · generalize w.tape w.drawn (.nanBits .f64 x y) = t
    have h1 := Nat.mod_lt (t / 2) (show 0 < 4503599627370495 by decide)
    show (t % 2 * 9223372036854775808 + 9218868437227405312 + 1 + t / 2 % 4503599627370495) < _
    generalize t / 2 % 4503599627370495 = y at *
    omega
  · simp [binOp, Op.floatArith, h, Question.forced]
theorem order_zero (b : Nat) (h : nanB b = false) : (FloatKind.f64.format.order b 0 == some .eq) = decide (rg b = 0) := by
  have h1 : rg b ≤ irg := by unfold nanB at h; simpa using h
  have := order_any b 0 h1 (by decide)
  show (Ieee.double.order b 0 == some .eq) = _
  rw [this]
  have e0 : sv 0 = 0 := by decide
  rw [e0]
  by_cases hz : rg b = 0
  · have : sv b = 0 := by unfold sv; rw [hz]; simp [vl_zero]
    rw [this]; simp [hz]
  · have hp := vl_pos (show 0 < rg b by omega)
    have hne : sv b ≠ 0 := by unfold sv; split <;> omega
    rcases Int.lt_or_gt_of_ne hne with hl | hl
    · rw [icmp_lt hl]; simp [hz]
    · rw [icmp_gt hl]; simp [hz]
theorem sub_self_num (b : Nat) (h : rg b < irg) : FloatKind.f64.format.sub b b = some 0 := by
  show Ieee.double.sub b b = some 0
  unfold Ieee.Format.sub
  rw [read_num b h]
  simp only [Ieee.Datum.opposite, Ieee.Datum.sum, Ieee.signed]
  generalize mg (rg b) = m
  have : (-1074 + (ex (rg b) : Int) - min (-1074 + (ex (rg b) : Int)) (-1074 + (ex (rg b) : Int))).toNat = 0 := by omega
  rw [this]
  cases ng b <;> simp [Ieee.Format.write, Ieee.Format.nearest, Ieee.Format.word, Int.add_right_neg, Int.add_left_neg]
theorem sub_self_inf (b : Nat) (h : rg b = irg) : FloatKind.f64.format.sub b b = none := by
  show Ieee.double.sub b b = none
  unfold Ieee.Format.sub
  rw [read_inf b h]
  cases ng b <;> rfl
def kindF (b : Nat) : Nat := if nanB b then 3 else if rg b = 0 then 0 else if rg b = irg then 2 else 1
theorem refKind_any (b : Nat) (w : World) (hb : b < 18446744073709551616) :
    Calls Try.prog 140 #[.float .f64 b] w fun e w' => e = .returned (.int .i64 (kindF b : Nat)) ∧ ∃ n, w' = w.drewN n := by
  have hn := order_selfF b
  unfold kindF
  cases h : nanB b
  · rw [h] at hn
    have hz := order_zero b h
    by_cases h0 : rg b = 0
    · rw [decide_eq_true h0] at hz
      rw [if_neg (by simp), if_pos h0]
      have H0 := Lib.hid h0; clear h0
      go_enter Try.func140, Try.ntmps140
      go_wp2
      go_ret
      exact ⟨rfl, 0, rfl⟩
    · rw [decide_eq_false h0] at hz
      rw [if_neg (by simp), if_neg h0]
      by_cases hi : rg b = irg
      · rw [if_pos hi]
        have hs := sub_self_inf b hi
        obtain ⟨q, hq, hql, hrun⟩ := run_sub_bad (P := Try.prog) 115 w b b hs
        have hq0 : (FloatKind.f64.format.order q 0 != some .eq) = true := by
          have : FloatKind.f64.format.order q 0 = none := order_nan q 0 (.inl (by unfold nanB at hq; simpa using hq))
          rw [this]; rfl
        have H0 := Lib.hid h0; have HI := Lib.hid hi; clear h0 hi
        go_enter Try.func140, Try.ntmps140
        go_wp2
        go_ret
        exact ⟨rfl, 1, rfl⟩
      · rw [if_neg hi]
        have h1 : rg b < irg := by unfold nanB at h; have := of_decide_eq_false h; omega
        have hrun := run_float_arith (P := Try.prog) w .sub 115 .f64 b b 0 (sub_self_num b h1)
        have hq0 : (FloatKind.f64.format.order 0 0 != some .eq) = false := by decide
        have H0 := Lib.hid h0; have HI := Lib.hid hi; clear h0 hi
        go_enter Try.func140, Try.ntmps140
        go_wp2
        go_ret
        exact ⟨rfl, 0, rfl⟩
  · rw [h] at hn
    go_enter Try.func140, Try.ntmps140
    go_wp2
    go_ret
    exact ⟨rfl, 0, rfl⟩

theorem order_cmp (a b : Nat) (ha : nanB a = false) (hb : nanB b = false) : FloatKind.f64.format.order a b = some (compare (sv a) (sv b)) := by
  have h1 : rg a ≤ irg := by unfold nanB at ha; simpa using ha
  have h2 : rg b ≤ irg := by unfold nanB at hb; simpa using hb
  exact order_any a b h1 h2
theorem order_lt (a b : Nat) (ha : nanB a = false) (hb : nanB b = false) : (FloatKind.f64.format.order a b == some .lt) = decide (sv a < sv b) := by
  rw [order_cmp a b ha hb]
  rcases Int.lt_trichotomy (sv a) (sv b) with h | h | h
  · rw [icmp_lt h]; simp [h]
  · rw [h]; simp
  · rw [icmp_gt h]; simp; omega
theorem order_eq (a b : Nat) (ha : nanB a = false) (hb : nanB b = false) : (FloatKind.f64.format.order a b == some .eq) = decide (sv a = sv b) := by
  rw [order_cmp a b ha hb]
  rcases Int.lt_trichotomy (sv a) (sv b) with h | h | h
  · rw [icmp_lt h]; simp; omega
  · rw [h]; simp
  · rw [icmp_gt h]; simp; omega
theorem div_one_zero (b : Nat) (h : rg b = 0) : FloatKind.f64.format.div 4607182418800017408 b = some (if ng b then 18442240474082181120 else 9218868437227405312) := by
  show Ieee.double.div 4607182418800017408 b = _
  unfold Ieee.Format.div
  rw [read_num b (by rw [h]; decide), read_num 4607182418800017408 (by decide), h]
  cases ng b <;> decide
/-- has a number a minus? (a number that is one) -/
theorem below_any (b : Nat) (w : World) (hb : b < 18446744073709551616) (h : nanB b = false) :
    Calls Try.prog 141 #[.float .f64 b] w fun e w' => e = .returned (.bool (ng b)) ∧ w = w' := by
  have hz := order_zero b h
  have hl : (FloatKind.f64.format.order b 0 == some .lt) = (ng b && decide (rg b ≠ 0)) := by
    rw [order_lt b 0 h (by decide), show sv 0 = 0 from by decide]
    have hp : 0 < rg b → 0 < vl (rg b) := vl_pos
    have hq : rg b = 0 → vl (rg b) = 0 := fun h => by rw [h]; rfl
    unfold sv
    rw [Bool.eq_iff_iff]
    cases ng b <;> simp <;> omega
  by_cases h0 : rg b = 0
  · rw [decide_eq_true h0] at hz
    have hd := div_one_zero b h0
    have hrun := run_float_arith (P := Try.prog) w .quo 115 .f64 4607182418800017408 b _ hd
    rw [show (ng b && decide (rg b ≠ 0)) = false by simp [h0]] at hl
    cases hg : ng b
    · rw [hg] at hrun
      simp only [Bool.false_eq_true, if_false] at hrun
      have hlt : (FloatKind.f64.format.order 9218868437227405312 0 == some .lt) = false := by decide
      have H0 := Lib.hid h0; have HD := Lib.hid hd; have HG := Lib.hid hg; clear h0 hd hg
      go_enter Try.func141, Try.ntmps141
      go_wp2
      go_ret
      exact ⟨rfl, rfl⟩
    · rw [hg] at hrun
      simp only [if_true] at hrun
      have hlt : (FloatKind.f64.format.order 18442240474082181120 0 == some .lt) = true := by decide
      have H0 := Lib.hid h0; have HD := Lib.hid hd; have HG := Lib.hid hg; clear h0 hd hg
      go_enter Try.func141, Try.ntmps141
      go_wp2
      go_ret
      exact ⟨rfl, rfl⟩
  · rw [decide_eq_false h0] at hz
    rw [show (ng b && decide (rg b ≠ 0)) = ng b by simp [h0]] at hl
    cases hg : ng b
    · rw [hg] at hl
      have H0 := Lib.hid h0; have HG := Lib.hid hg; clear h0 hg
      go_enter Try.func141, Try.ntmps141
      go_wp2
      go_ret
      exact ⟨rfl, rfl⟩
    · rw [hg] at hl
      have H0 := Lib.hid h0; have HG := Lib.hid hg; clear h0 hg
      go_enter Try.func141, Try.ntmps141
      go_wp2
      go_ret
      exact ⟨rfl, rfl⟩
end Go.Proofs.Ytfhmaincnlaapaa
namespace Go.Proofs.Ytfhmaincnlaapaa
open Go.ChangeShapes Go.WideShapes Go.ChangeAt Go.RowKit
set_option linter.unusedVariables false
theorem kindF_nan (b : Nat) (h : nanB b = true) : kindF b = 3 := by unfold kindF; rw [h]; rfl
theorem kindF_num (b : Nat) (h : nanB b = false) : kindF b ≠ 3 := by unfold kindF; rw [h]; split <;> (try split) <;> (try split) <;> simp_all
theorem keyB_nan (b : Nat) (h : nanB b = true) : keyB b = 18446744073709551615 := by unfold keyB; rw [h]; rfl
theorem keyB_num (b : Nat) (h : nanB b = false) : keyB b < 18446744073709551615 := by
  have hr : rg b ≤ irg := by unfold nanB at h; simpa using h
  unfold irg at hr
  unfold keyB; rw [h]; simp only [Bool.false_eq_true, if_false]; split <;> omega
theorem key_eq (a b : Nat) (ha : nanB a = false) (hb : nanB b = false) : decide (keyB a = keyB b) = (decide (sv a = sv b) && (ng a == ng b)) := by
  have h1 : rg a ≤ irg := by unfold nanB at ha; simpa using ha
  have h2 : rg b ≤ irg := by unfold nanB at hb; simpa using hb
  unfold irg at h1 h2
  simp only [keyB, ha, hb]
  unfold sv
  have hl : vl (rg a) = vl (rg b) → rg a = rg b := vl_inj
  have z1 : 0 < rg a → 0 < vl (rg a) := vl_pos
  have z2 : 0 < rg b → 0 < vl (rg b) := vl_pos
  have e3 : rg a = rg b → vl (rg a) = vl (rg b) := fun h => by rw [h]
  generalize vl (rg a) = x at *
  generalize vl (rg b) = y at *
  generalize rg a = r at *
  generalize rg b = s at *
  rw [Bool.eq_iff_iff]
  cases ng a <;> cases ng b <;> simp <;> omega
/-- some draws, however they are written -/
def Drws (w w' : World) : Prop := ∃ k, w' = w.drewN k
theorem drws_refl (w : World) : Drws w w := ⟨0, rfl⟩
theorem drws_step {w w' : World} (h : Drws w w') (n : Nat) : Drws w (w'.drewN n) := by
  obtain ⟨k, rfl⟩ := h; exact ⟨k + n, World.drewN_drewN _ _ _⟩
theorem refFSame_any (a b : Nat) (w : World) (ha : a < 18446744073709551616) (hb : b < 18446744073709551616) :
    Calls Try.prog 78 #[.float .f64 a, .float .f64 b] w fun e w' => e = .returned (.bool (decide (keyB a = keyB b))) ∧ Drws w w' := by
  cases na : nanB a
  · have t1 : ((kindF a : Int) == 3) = false := by rw [beq_eq_false_iff_ne]; have := kindF_num a na; omega
    have t1' : ((kindF a : Int) != 3) = true := by rw [bne_iff_ne]; have := kindF_num a na; omega
    cases nb : nanB b
    · have t2 : ((kindF b : Int) == 3) = false := by rw [beq_eq_false_iff_ne]; have := kindF_num b nb; omega
      have hl := order_lt a b na nb
      have he := order_eq a b na nb
      rw [key_eq a b na nb]
      have NA := Lib.hid na; have NB := Lib.hid nb; clear na nb
      have A := Lib.hid hl; have E := Lib.hid he; clear hl he
      by_cases c1 : sv a < sv b
      · have hl : (FloatKind.f64.format.order a b == some .lt) = true := by rw [A.out]; simp [c1]
        have he : (FloatKind.f64.format.order a b == some .eq) = false := by rw [E.out]; simp; omega
        have C := Lib.hid c1; clear c1
        go_enter Try.func78, Try.ntmps78
        go_wp2_with (first | (go_at_call 140; (first | (with_reducible refine (refKind_any a _ ha).mono ?_) | (with_reducible refine (refKind_any b _ hb).mono ?_)); rintro e w' ⟨rfl, n, rfl⟩) | (go_at_call 141; (first | (with_reducible refine (below_any a _ ha NA.out).mono ?_) | (with_reducible refine (below_any b _ hb NB.out).mono ?_)); rintro e w' ⟨rfl, rfl⟩))
        go_ret
        exact ⟨by have := C.out; simp; omega, by first | exact drws_refl _ | exact drws_step (drws_refl _) _ | exact drws_step (drws_step (drws_refl _) _) _ | exact drws_step (drws_step (drws_step (drws_refl _) _) _) _ | exact drws_step (drws_step (drws_step (drws_step (drws_refl _) _) _) _) _⟩
      · have hl : (FloatKind.f64.format.order a b == some .lt) = false := by rw [A.out]; simp [c1]
        by_cases c2 : sv a = sv b
        · have he : (FloatKind.f64.format.order a b == some .eq) = true := by rw [E.out]; simp [c2]
          have C := Lib.hid c1; have D := Lib.hid c2; clear c1 c2
          cases ga : ng a
          all_goals
            cases gb : ng b
            all_goals
              skip
              go_enter Try.func78, Try.ntmps78
              go_wp2_with (first | (go_at_call 140; (first | (with_reducible refine (refKind_any a _ ha).mono ?_) | (with_reducible refine (refKind_any b _ hb).mono ?_)); rintro e w' ⟨rfl, n, rfl⟩) | (go_at_call 141; (first | (with_reducible refine (below_any a _ ha NA.out).mono ?_) | (with_reducible refine (below_any b _ hb NB.out).mono ?_)); rintro e w' ⟨rfl, rfl⟩))
              go_ret
              exact ⟨by simp [D.out], by first | exact drws_refl _ | exact drws_step (drws_refl _) _ | exact drws_step (drws_step (drws_refl _) _) _ | exact drws_step (drws_step (drws_step (drws_refl _) _) _) _ | exact drws_step (drws_step (drws_step (drws_step (drws_refl _) _) _) _) _⟩
        · have he : (FloatKind.f64.format.order a b == some .eq) = false := by rw [E.out]; simp [c2]
          have C := Lib.hid c1; have D := Lib.hid c2; clear c1 c2
          go_enter Try.func78, Try.ntmps78
          go_wp2_with (first | (go_at_call 140; (first | (with_reducible refine (refKind_any a _ ha).mono ?_) | (with_reducible refine (refKind_any b _ hb).mono ?_)); rintro e w' ⟨rfl, n, rfl⟩) | (go_at_call 141; (first | (with_reducible refine (below_any a _ ha NA.out).mono ?_) | (with_reducible refine (below_any b _ hb NB.out).mono ?_)); rintro e w' ⟨rfl, rfl⟩))
          go_ret
          exact ⟨by simp [D.out], by first | exact drws_refl _ | exact drws_step (drws_refl _) _ | exact drws_step (drws_step (drws_refl _) _) _ | exact drws_step (drws_step (drws_step (drws_refl _) _) _) _ | exact drws_step (drws_step (drws_step (drws_step (drws_refl _) _) _) _) _⟩
    · have t2 : ((kindF b : Int) == 3) = true := by rw [kindF_nan b nb]; rfl
      have t3 : ((kindF a : Int) == (kindF b : Int)) = false := by rw [beq_eq_false_iff_ne, kindF_nan b nb]; have := kindF_num a na; omega
      have hlt : decide (keyB a = keyB b) = false := by have := keyB_num a na; rw [keyB_nan b nb]; simp; omega
      rw [hlt]
      have NA := Lib.hid na; have NB := Lib.hid nb; have HL := Lib.hid hlt; clear na nb hlt
      go_enter Try.func78, Try.ntmps78
      go_wp2_with (go_at_call 140; (first | (with_reducible refine (refKind_any a _ ha).mono ?_) | (with_reducible refine (refKind_any b _ hb).mono ?_)); rintro e w' ⟨rfl, n, rfl⟩)
      go_ret
      exact ⟨rfl, by first | exact drws_refl _ | exact drws_step (drws_refl _) _ | exact drws_step (drws_step (drws_refl _) _) _ | exact drws_step (drws_step (drws_step (drws_refl _) _) _) _ | exact drws_step (drws_step (drws_step (drws_step (drws_refl _) _) _) _) _⟩
  · have t1 : ((kindF a : Int) == 3) = true := by rw [kindF_nan a na]; rfl
    have t3 : ((kindF a : Int) == (kindF b : Int)) = decide (keyB a = keyB b) := by
      rw [kindF_nan a na, keyB_nan a na]
      cases nb : nanB b
      · have h1 := kindF_num b nb; have h2 := keyB_num b nb
        rw [decide_eq_false (by omega), beq_eq_false_iff_ne]; omega
      · rw [kindF_nan b nb, keyB_nan b nb]; rfl
    generalize decide (keyB a = keyB b) = r at *
    have NA := Lib.hid na; clear na
    go_enter Try.func78, Try.ntmps78
    go_wp2_with (go_at_call 140; (first | (with_reducible refine (refKind_any a _ ha).mono ?_) | (with_reducible refine (refKind_any b _ hb).mono ?_)); rintro e w' ⟨rfl, n, rfl⟩)
    go_ret
    exact ⟨rfl, by first | exact drws_refl _ | exact drws_step (drws_refl _) _ | exact drws_step (drws_step (drws_refl _) _) _ | exact drws_step (drws_step (drws_step (drws_refl _) _) _) _ | exact drws_step (drws_step (drws_step (drws_step (drws_refl _) _) _) _) _⟩
end Go.Proofs.Ytfhmaincnlaapaa
namespace Go.Proofs.Ytfhmaincnlaapaa
set_option linter.unusedVariables false
open Ieee

theorem log2_eq {n k : Nat} (h1 : 2 ^ k ≤ n) (h2 : n < 2 ^ (k + 1)) : n.log2 = k := by
  have h0 : n ≠ 0 := by have := Nat.two_pow_pos k; omega
  have a := Nat.log2_self_le h0
  have b := @Nat.lt_log2_self n
  have c : 2 ^ n.log2 < 2 ^ (k + 1) := by omega
  have d : 2 ^ k < 2 ^ (n.log2 + 1) := by omega
  have c' := (Nat.pow_lt_pow_iff_right (by decide : 1 < 2)).1 c
  have d' := (Nat.pow_lt_pow_iff_right (by decide : 1 < 2)).1 d
  omega
theorem cut_zero (neg : Bool) (n d : Nat) : Toward.zero.cut neg n d = n / 2 ^ d := by
  unfold Toward.cut
  simp only [Nat.one_shiftLeft, Bool.toNat_false, Nat.add_zero]
  rcases Nat.le_total d (n.log2 + 2) with h | h
  · rw [Nat.min_eq_left h]
  · rw [Nat.min_eq_right h]
    have b := @Nat.lt_log2_self n
    have h1 : n < 2 ^ (n.log2 + 2) := Nat.lt_of_lt_of_le b (Nat.pow_le_pow_right (by decide) (by omega))
    have h2 : n < 2 ^ d := Nat.lt_of_lt_of_le h1 (Nat.pow_le_pow_right (by decide) h)
    rw [Nat.div_eq_of_lt h1, Nat.div_eq_of_lt h2]
theorem cut_exact (neg : Bool) (m d : Nat) (hm : 0 < m) : Toward.even.cut neg (m * 2 ^ d) d = m := by
  have hp := Nat.two_pow_pos d
  have hl : d ≤ (m * 2 ^ d).log2 + 2 := by
    have h1 : 2 ^ d ≤ m * 2 ^ d := Nat.le_mul_of_pos_left _ hm
    have b := @Nat.lt_log2_self (m * 2 ^ d)
    have := (Nat.pow_lt_pow_iff_right (by decide : 1 < 2)).1 (Nat.lt_of_le_of_lt h1 b)
    omega
  unfold Toward.cut
  simp only [Nat.one_shiftLeft]
  rw [Nat.min_eq_left hl, Nat.mul_div_cancel _ hp, Nat.mul_mod_left]
  simp
theorem mg_bound (r : Nat) (h : r < irg) : mg r < 9007199254740992 ∧ (ex r = 0 ∨ 4503599627370496 ≤ mg r) ∧ ex r * 4503599627370496 + mg r = r ∧ ex r ≤ 2045 := by
  unfold irg at h
  unfold mg ex
  by_cases hr : r < 4503599627370496
  · rw [if_pos hr, if_pos hr]; omega
  · rw [if_neg hr, if_neg hr]; omega
/-- A NUMBER THAT THE FORMAT HAS IS WRITTEN AS IT IS. -/
theorem nearest_exact (neg : Bool) (mag : Nat) (place : Int) (r p q : Nat) (hr0 : 0 < r) (hr : r < irg) (hpq : (p : Int) - q = place + 1074) (hv : mag * 2 ^ p = vl r * 2 ^ q) :
    double.nearest neg mag place = double.word neg r := by
  obtain ⟨hm1, hm2, hm3, hm4⟩ := mg_bound r hr
  have hv0 := vl_pos hr0
  have hmag : mag ≠ 0 := by
    rintro rfl
    have : 0 < vl r * 2 ^ q := Nat.mul_pos hv0 (Nat.two_pow_pos q)
    omega
  have hmg : 0 < mg r := by
    rcases Nat.eq_zero_or_pos (mg r) with h | h
    · unfold vl at hv0; rw [h] at hv0; simp at hv0
    · exact h
  have hv' : mag * 2 ^ p = mg r * 2 ^ (ex r + q) := by rw [hv, vl, Nat.mul_assoc, ← Nat.pow_add]
  have hL1 := Nat.log2_self_le hmag
  have hL2 := @Nat.lt_log2_self mag
  -- the place of the highest bit
  have hup : mag.log2 + p ≤ 52 + ex r + q := by
    have h1 : 2 ^ (mag.log2 + p) ≤ mag * 2 ^ p := by rw [Nat.pow_add]; exact Nat.mul_le_mul_right _ hL1
    have h2 : mg r * 2 ^ (ex r + q) < 2 ^ 53 * 2 ^ (ex r + q) := Nat.mul_lt_mul_of_pos_right (by simpa using hm1) (Nat.two_pow_pos _)
    rw [← Nat.pow_add] at h2
    have := (Nat.pow_lt_pow_iff_right (by decide : 1 < 2)).1 (Nat.lt_of_le_of_lt (hv' ▸ h1) h2)
    omega
  have hlo : 4503599627370496 ≤ mg r → 52 + ex r + q ≤ mag.log2 + p := by
    intro h
    have h1 : mag * 2 ^ p < 2 ^ (mag.log2 + 1 + p) := by rw [Nat.pow_add]; exact Nat.mul_lt_mul_of_pos_right hL2 (Nat.two_pow_pos _)
    have h2 : 2 ^ 52 * 2 ^ (ex r + q) ≤ mg r * 2 ^ (ex r + q) := Nat.mul_le_mul_right _ (by simpa using h)
    rw [← Nat.pow_add] at h2
    have := (Nat.pow_lt_pow_iff_right (by decide : 1 < 2)).1 (Nat.lt_of_le_of_lt h2 (hv' ▸ h1))
    omega
  unfold Format.nearest
  rw [if_neg hmag]
  simp only [lp_eq, bi_eq, ir_eq]
  have hf : (double.fractionBits : Int) = 52 := rfl
  have hlast : max (place + (mag.log2 : Int) - (double.fractionBits : Int)) (-1074) = (ex r : Int) - 1074 := by
    rw [hf]
    rcases hm2 with h | h
    · by_cases h2 : 4503599627370496 ≤ mg r
      · have := hlo h2; omega
      · omega
    · have := hlo h; omega
  rw [hlast]
  have hkept : Toward.even.cut neg (mag <<< (place - ((ex r : Int) - 1074)).toNat) ((ex r : Int) - 1074 - place).toNat = mg r := by
    rcases Nat.le_total (ex r + q) p with h | h
    · have e1 : (place - ((ex r : Int) - 1074)).toNat = p - (ex r + q) := by omega
      have e2 : ((ex r : Int) - 1074 - place).toNat = 0 := by omega
      rw [e1, e2, Nat.shiftLeft_eq]
      have e3 : mag * 2 ^ (p - (ex r + q)) = mg r := by
        have : mag * 2 ^ (p - (ex r + q)) * 2 ^ (ex r + q) = mg r * 2 ^ (ex r + q) := by
          rw [Nat.mul_assoc, ← Nat.pow_add, Nat.sub_add_cancel h, hv']
        exact Nat.eq_of_mul_eq_mul_right (Nat.two_pow_pos _) this
      rw [e3]
      have := cut_exact neg (mg r) 0 hmg
      simpa using this
    · have e1 : (place - ((ex r : Int) - 1074)).toNat = 0 := by omega
      have e2 : ((ex r : Int) - 1074 - place).toNat = ex r + q - p := by omega
      rw [e1, e2, Nat.shiftLeft_zero]
      have e3 : mag = mg r * 2 ^ (ex r + q - p) := by
        have : mag * 2 ^ p = mg r * 2 ^ (ex r + q - p) * 2 ^ p := by
          rw [Nat.mul_assoc, ← Nat.pow_add, Nat.sub_add_cancel h, hv']
        exact Nat.eq_of_mul_eq_mul_right (Nat.two_pow_pos _) this
      rw [e3]
      exact cut_exact neg (mg r) _ hmg
  rw [hkept]
  have e4 : ((ex r : Int) - 1074 - -1074).toNat = ex r := by omega
  rw [e4, hm3]
  congr 1
  unfold irg at hr
  omega
theorem read_pos (r : Nat) (h : r < irg) : double.read r = .number false (mg r) (-1074 + (ex r : Nat)) := by
  have h1 : rg r = r := by unfold rg irg at *; omega
  have h2 : ng r = false := by unfold ng irg at *; rw [beq_eq_false_iff_ne]; omega
  have := read_num r (by rw [h1]; exact h)
  rw [h1, h2] at this
  exact this
theorem read_two : double.read 4611686018427387904 = .number false 4503599627370496 (-51) := by decide
theorem log2_52 : (4503599627370496 : Nat).log2 = 52 := by decide
theorem quot_two (m : Nat) (i : Int) (hlog : m.log2 = 52) : (Datum.number false m i).quotient 54 (.number false 4503599627370496 (-51)) = some (.number false (8 * m) (i - 4)) := by
  have hne : ¬ ((4503599627370496 : Nat) = 0) := by omega
  simp only [Datum.quotient]
  rw [if_neg hne]
  have e0 : 54 + Nat.log2 4503599627370496 - m.log2 = 54 := by rw [log2_52, hlog]
  have e1 : m <<< 54 / 4503599627370496 = m * 4 := by rw [Nat.shiftLeft_eq]; omega
  have e2 : m <<< 54 % 4503599627370496 = 0 := by rw [Nat.shiftLeft_eq]; omega
  simp only [e0, e1, e2]
  have e3 : i - -51 - ((54 : Nat) : Int) - 1 = i - 4 := by omega
  have e4 : 2 * (m * 4) + ((0 : Nat) != 0).toNat = 8 * m := by simp; omega
  rw [e3, e4]
  rfl
/-- HALF OF A NUMBER from 2^-1021 on -/
theorem div_two (r : Nat) (h1 : 9007199254740992 ≤ r) (h : r < irg) : ∃ s, FloatKind.f64.format.div r 4611686018427387904 = some s ∧ s + 4503599627370496 = r ∧ 0 < s ∧ 2 * vl s = vl r := by
  obtain ⟨hm1, hm2, hm3, hm4⟩ := mg_bound r h
  have hx : 1 ≤ ex r := by omega
  have hm : 4503599627370496 ≤ mg r := by omega
  have hlog : (mg r).log2 = 52 := log2_eq (by simpa using hm) (by simpa using hm1)
  obtain ⟨s, hs⟩ : ∃ s, s + 4503599627370496 = r := ⟨r - 4503599627370496, by omega⟩
  have hmg : mg s = mg r ∧ ex s + 1 = ex r := by
    unfold mg ex at *
    rw [if_neg (by omega), if_neg (by omega), if_neg (by omega), if_neg (by omega)]
    omega
  have hsl : s < irg := by omega
  have hv : 2 * vl s = vl r := by
    rw [vl, vl, hmg.1, ← hmg.2, Nat.pow_succ]
    generalize 2 ^ ex s = t
    generalize mg r = u
    ac_rfl
  refine ⟨s, ?_, hs, by omega, hv⟩
  have e : FloatKind.f64.format.div r 4611686018427387904 = some (double.nearest false (8 * mg r) (-1074 + (ex r : Nat) - 4)) := by
    show ((double.read r).quotient 54 (double.read 4611686018427387904)).map double.write = _
    rw [read_pos r h, read_two, quot_two _ _ hlog]
    rfl
  rw [e]
  refine congrArg some ?_
  rw [nearest_exact false (8 * mg r) (-1074 + (ex r : Nat) - 4) s (ex r) 4 (by omega) hsl (by omega) ?_]
  · rfl
  · rw [vl, hmg.1, ← hmg.2, Nat.pow_succ]
    generalize 2 ^ ex s = t
    generalize mg r = u
    rw [show (2 : Nat) ^ 4 = 16 from rfl, Nat.mul_comm t 2, ← Nat.mul_assoc, Nat.mul_assoc u t 16, Nat.mul_comm t 16, ← Nat.mul_assoc, Nat.mul_comm 8 u, Nat.mul_assoc u 8 2]
/-- TWICE A NUMBER -/
theorem mul_two (r : Nat) (h0 : 0 < r) (h : r < irg - 4503599627370496) : ∃ s, FloatKind.f64.format.mul r 4611686018427387904 = some s ∧ r < s ∧ s < irg ∧ vl s = 2 * vl r := by
  have h' : r < irg := by omega
  obtain ⟨hm1, hm2, hm3, hm4⟩ := mg_bound r h'
  have hx : ∃ s, r < s ∧ s < irg ∧ vl s = 2 * vl r := by
    by_cases hr : r < 4503599627370496
    · refine ⟨2 * r, by omega, by unfold irg; omega, ?_⟩
      unfold vl mg ex
      rw [if_pos hr, if_pos hr]
      split
      · simp
      · have : 2 * r / 4503599627370496 = 1 := by omega
        rw [this]; simp; omega
    · refine ⟨r + 4503599627370496, by omega, by omega, ?_⟩
      have hs : mg (r + 4503599627370496) = mg r ∧ ex (r + 4503599627370496) = ex r + 1 := by
        unfold mg ex
        rw [if_neg (by omega), if_neg (by omega), if_neg (by omega), if_neg (by omega)]
        omega
      rw [vl, vl, hs.1, hs.2, Nat.pow_succ]
      generalize 2 ^ ex r = t
      rw [← Nat.mul_assoc, Nat.mul_comm]
  obtain ⟨s, hs1, hs2, hs3⟩ := hx
  refine ⟨s, ?_, hs1, hs2, hs3⟩
  show double.mul r 4611686018427387904 = _
  unfold Format.mul
  rw [read_pos r h', read_two]
  simp only [Datum.product, Option.map_some, Format.write]
  refine congrArg some ?_
  have key : mg r * 4503599627370496 * 2 ^ ex r = vl s * 2 ^ 51 := by
    rw [hs3, vl]
    have e51 : (2 : Nat) ^ 51 = 2251799813685248 := by decide
    rw [e51]
    generalize 2 ^ ex r = t
    have e : (4503599627370496 : Nat) = 2 * 2251799813685248 := by decide
    rw [e]
    generalize (2251799813685248 : Nat) = c
    generalize mg r = u
    ac_rfl
  exact nearest_exact false (mg r * 4503599627370496) (-1074 + (ex r : Int) + -51) s (ex r) 51 (by omega) hs2 (by omega) key

/-- 1074 and 2098, behind names: a power with so great an exponent is never reckoned out -/
def EE : Nat := 1074
theorem EE_eq : EE = 1074 := rfl
def FF : Nat := 2098
theorem FF_eq : FF = 2098 := rfl
/-- 2^1074, in units of which a whole number is counted -/
def UU : Nat := 2 ^ EE
theorem UU_pos : 0 < UU := Nat.two_pow_pos _
theorem UU_eq : UU = 2 ^ EE := rfl
theorem irg_pos : 0 < irg := by unfold irg; omega
/-- the rung of a whole number below 2^53 -/
def ir : Nat → Nat
  | 0 => 0
  | n + 1 => (1022 + (n + 1).log2) * 4503599627370496 + (n + 1) * 2 ^ (52 - (n + 1).log2)
theorem ir_zero : ir 0 = 0 := rfl
theorem ir_pos (n : Nat) (h : n ≠ 0) : ir n = (1022 + n.log2) * 4503599627370496 + n * 2 ^ (52 - n.log2) := by
  cases n with
  | zero => exact absurd rfl h
  | succ n => rfl
theorem ir_vl0 : ir 0 < irg ∧ vl (ir 0) = 0 * UU := by
  rw [ir_zero, Nat.zero_mul, vl_zero]
  exact ⟨irg_pos, rfl⟩
theorem ir_vl (n' : Nat) (h : n' < 9007199254740992) : ir n' < irg ∧ vl (ir n') = n' * UU := by
  rcases Nat.eq_zero_or_pos n' with h0 | h0
  · rw [h0]; exact ir_vl0
  · have h0 : n' ≠ 0 := by omega
    rw [ir_pos n' h0]
    have a := Nat.log2_self_le h0
    have b := @Nat.lt_log2_self n'
    have hl : n'.log2 ≤ 52 := by
      have c : 2 ^ n'.log2 < 2 ^ 53 := by
        have : (2 : Nat) ^ 53 = 9007199254740992 := by decide
        omega
      have := (Nat.pow_lt_pow_iff_right (by decide : 1 < 2)).1 c
      omega
    obtain ⟨j, hj⟩ : ∃ j, 52 = n'.log2 + j := ⟨52 - n'.log2, by omega⟩
    have ej : 52 - n'.log2 = j := by omega
    rw [ej]
    have m1 : 4503599627370496 ≤ n' * 2 ^ j := by
      have : 2 ^ n'.log2 * 2 ^ j = 4503599627370496 := by rw [← Nat.pow_add, ← hj]
      rw [← this]; exact Nat.mul_le_mul_right _ a
    have m2 : n' * 2 ^ j < 9007199254740992 := by
      have : 2 ^ (n'.log2 + 1) * 2 ^ j = 9007199254740992 := by rw [← Nat.pow_add, show n'.log2 + 1 + j = 53 by omega]
      rw [← this]; exact Nat.mul_lt_mul_of_pos_right b (Nat.two_pow_pos _)
    generalize hM : n' * 2 ^ j = M at *
    generalize hk : n'.log2 = k at *
    refine ⟨by unfold irg; omega, ?_⟩
    have e1 : mg ((1022 + k) * 4503599627370496 + M) = M := by unfold mg; rw [if_neg (by omega)]; omega
    have e2 : ex ((1022 + k) * 4503599627370496 + M) = 1022 + k := by unfold ex; rw [if_neg (by omega)]; omega
    rw [vl, e1, e2, ← hM, UU_eq, Nat.mul_assoc, ← Nat.pow_add]
    have hE := EE_eq
    congr 2
    omega
theorem ofInt_exact (n : Nat) (h : n < 9007199254740992) : floatOfInt .f64 (n : Int) = ir n := by
  show double.write (.number (decide ((n : Int) < 0)) (n : Int).natAbs 0) = _
  have e : decide ((n : Int) < 0) = false := by rw [decide_eq_false_iff_not]; omega
  rw [e, Int.natAbs_natCast]
  simp only [Format.write]
  by_cases h0 : n = 0
  · subst h0; rfl
  · obtain ⟨h1, h2⟩ := ir_vl n h
    have hp : 0 < ir n := by
      rcases Nat.eq_zero_or_pos (ir n) with h3 | h3
      · rw [h3, vl_zero] at h2
        have := Nat.mul_pos (show 0 < n by omega) UU_pos
        omega
      · exact h3
    rw [nearest_exact false n 0 (ir n) EE 0 hp h1 (by have := EE_eq; omega) (by rw [h2]; simp [UU_eq])]
    rfl
theorem toInt_exact (r : Nat) (h : r < irg) (hb : vl r / UU < 18446744073709551616) : floatToIntVal .f64 r .u64 = some ((vl r / UU : Nat) : Int) := by
  have hd : (FloatKind.f64.decode r).toInt .zero = some ((vl r / UU : Nat) : Int) := by
    show (double.read r).toInt .zero = _
    rw [read_pos r h]
    simp only [Datum.toInt, Datum.integral, signed]
    rw [cut_zero]
    simp only [Nat.shiftLeft_zero, Bool.false_eq_true, if_false]
    congr 2
    rw [vl, UU_eq, Nat.shiftLeft_eq]
    have hE := EE_eq
    rcases Nat.le_total EE (ex r) with hx | hx
    · have e1 : (-1074 + (ex r : Int)).toNat = ex r - EE := by omega
      have e2 : (-(-1074 + (ex r : Int))).toNat = 0 := by omega
      rw [e1, e2]
      have : 2 ^ ex r = 2 ^ (ex r - EE) * 2 ^ EE := by rw [← Nat.pow_add]; congr 1; omega
      rw [this, ← Nat.mul_assoc, Nat.mul_div_cancel _ (Nat.two_pow_pos _)]
      simp
    · have e1 : (-1074 + (ex r : Int)).toNat = 0 := by omega
      have e2 : (-(-1074 + (ex r : Int))).toNat = EE - ex r := by omega
      rw [e1, e2]
      have : 2 ^ EE = 2 ^ (EE - ex r) * 2 ^ ex r := by rw [← Nat.pow_add]; congr 1; omega
      rw [this, Nat.mul_div_mul_right _ _ (Nat.two_pow_pos _)]
      simp
  unfold floatToIntVal
  rw [hd]
  simp only
  rw [if_pos]
  have e1 : IntKind.u64.min = 0 := by decide
  have e2 : IntKind.u64.max = 18446744073709551615 := by decide
  rw [e1, e2]
  generalize vl r / UU = z at *
  omega
/-- numbers from 2^52 on are whole -/
theorem whole_of_ge (r : Nat) (h : r < irg) (hv : 4503599627370496 * UU ≤ vl r) : vl r % UU = 0 := by
  obtain ⟨hm1, hm2, hm3, hm4⟩ := mg_bound r h
  have hE := EE_eq
  have hx : EE ≤ ex r := by
    rcases Nat.lt_or_ge (ex r) EE with h1 | h1
    · exfalso
      have h2 : 2 ^ ex r * 2 ≤ UU := by rw [← Nat.pow_succ, UU_eq]; exact Nat.pow_le_pow_right (by decide) (by omega)
      have h3 : vl r < 9007199254740992 * 2 ^ ex r := Nat.mul_lt_mul_of_pos_right hm1 (Nat.two_pow_pos _)
      generalize 2 ^ ex r = t at *
      omega
    · exact h1
  rw [vl, UU_eq]
  have : 2 ^ ex r = 2 ^ (ex r - EE) * 2 ^ EE := by rw [← Nat.pow_add]; congr 1; omega
  rw [this, ← Nat.mul_assoc, Nat.mul_mod_left]
theorem sv_pos (r : Nat) (h : r ≤ irg) : sv r = (vl r : Int) ∧ nanB r = false ∧ rg r = r := by
  have h1 : rg r = r := by unfold rg irg at *; omega
  have h2 : ng r = false := by unfold ng irg at *; rw [beq_eq_false_iff_ne]; omega
  refine ⟨by unfold sv; rw [h1, h2]; rfl, ?_, h1⟩
  unfold nanB
  rw [h1]
  exact decide_eq_false (by omega)
theorem ord_pos (r s : Nat) (hr : r ≤ irg) (hs : s ≤ irg) : FloatKind.f64.format.order r s = some (compare (r : Int) (s : Int)) := by
  obtain ⟨h1, h2, h3⟩ := sv_pos r hr
  obtain ⟨k1, k2, k3⟩ := sv_pos s hs
  have : FloatKind.f64.format.order r s = some (compare (sv r) (sv s)) := order_any r s (by rw [h3]; exact hr) (by rw [k3]; exact hs)
  rw [this, h1, k1]
  congr 1
  rcases Nat.lt_trichotomy r s with h | h | h
  · have := vl_lt h; rw [icmp_lt (by omega), icmp_lt (by omega)]
  · subst h; simp
  · have := vl_lt h; rw [icmp_gt (by omega), icmp_gt (by omega)]
theorem ord_gt (r s : Nat) (hr : r ≤ irg) (hs : s ≤ irg) : (FloatKind.f64.format.order r s == some .gt) = decide (s < r) := by
  rw [ord_pos r s hr hs]
  rcases Nat.lt_trichotomy r s with h | h | h
  · rw [icmp_lt (by omega)]; simp; omega
  · subst h; simp
  · rw [icmp_gt (by omega)]; simp [h]
theorem ord_eq (r s : Nat) (hr : r ≤ irg) (hs : s ≤ irg) : (FloatKind.f64.format.order r s == some .eq) = decide (r = s) := by
  rw [ord_pos r s hr hs]
  rcases Nat.lt_trichotomy r s with h | h | h
  · rw [icmp_lt (by omega)]; simp; omega
  · subst h; simp
  · rw [icmp_gt (by omega)]; simp; omega
/-- 2^53 as a word -/
def c53 : Nat := 4845873199050653696
theorem c53_lt : c53 < irg := by unfold c53 irg; omega
theorem c53_vl : vl c53 = 9007199254740992 * UU := by
  have e1 : mg c53 = 4503599627370496 := by unfold mg c53; rw [if_neg (by omega)]
  have e2 : ex c53 = EE + 1 := by have hE := EE_eq; unfold ex c53; rw [if_neg (by omega)]; omega
  rw [vl, e1, e2, UU_eq, Nat.pow_succ, ← Nat.mul_assoc, Nat.mul_right_comm]
theorem vl_le_iff {r s : Nat} : vl r < vl s ↔ r < s := by
  constructor
  · intro h
    rcases Nat.lt_or_ge r s with h1 | h1
    · exact h1
    · rcases Nat.eq_or_lt_of_le h1 with h2 | h2
      · subst h2; omega
      · have := vl_lt h2; omega
  · exact vl_lt
theorem vl_pow (r : Nat) (h : r < irg) : vl r < 2 ^ FF := by
  have hF := FF_eq
  obtain ⟨h1, _, _, h4⟩ := mg_bound r h
  have h5 : vl r < 2 ^ 53 * 2 ^ ex r := Nat.mul_lt_mul_of_pos_right (by simpa using h1) (Nat.two_pow_pos _)
  rw [← Nat.pow_add] at h5
  exact Nat.lt_of_lt_of_le h5 (Nat.pow_le_pow_right (by decide) (by omega))
/-- where whole numbers are, the number is its whole part's -/
theorem ir_iff (r : Nat) (h : r < irg) (hb : vl r / UU < 9007199254740992) : (r = ir (vl r / UU)) ↔ vl r % UU = 0 := by
  obtain ⟨h1, h2⟩ := ir_vl (vl r / UU) hb
  have hd := Nat.div_add_mod (vl r) UU
  have hp := UU_pos
  constructor
  · intro e
    rw [← e, Nat.mul_comm] at h2
    omega
  · intro e
    apply vl_inj
    rw [h2, Nat.mul_comm]
    omega
end Go.Proofs.Ytfhmaincnlaapaa
namespace Go.Proofs.Ytfhmaincnlaapaa
open Go.ChangeShapes Go.WideShapes Go.ChangeAt Go.RowKit
set_option linter.unusedVariables false

theorem pow_le_vl (m a r : Nat) (hm : 0 < m) (h : m * 2 ^ a = vl r) (hr : r < irg) : a < 2098 := by
  have h1 := vl_pow r hr
  have h2 : 2 ^ a ≤ m * 2 ^ a := Nat.le_mul_of_pos_left _ hm
  have := (Nat.pow_lt_pow_iff_right (by decide : 1 < 2)).1 (show 2 ^ a < 2 ^ FF by omega)
  have hF := FF_eq
  omega
/-- the whole part of a number below 2^53 -/
theorem whole_lt (r : Nat) (hr : r < c53) : vl r / UU < 9007199254740992 := by
  rw [Nat.div_lt_iff_lt_mul UU_pos, ← c53_vl]
  exact vl_lt hr
theorem double_ok (r : Nat) (hr : r < c53) (hne : vl r % UU ≠ 0) : r < irg - 4503599627370496 ∧ 2 * vl r < vl c53 := by
  have h1 : vl r < 4503599627370496 * UU := by
    rcases Nat.lt_or_ge (vl r) (4503599627370496 * UU) with h | h
    · exact h
    · exact absurd (whole_of_ge r (by unfold c53 irg at *; omega) h) hne
  refine ⟨by unfold c53 irg at *; omega, ?_⟩
  rw [c53_vl]
  generalize UU = u at *
  omega

theorem xor_top (b : Nat) (h1 : 9223372036854775808 ≤ b) (h2 : b < 18446744073709551616) : b ^^^ 2 ^ 63 = b % 2 ^ 63 := by
  apply Nat.eq_of_testBit_eq
  intro i
  rw [Nat.testBit_xor, Nat.testBit_two_pow, Nat.testBit_mod_two_pow]
  rcases Nat.lt_trichotomy i 63 with h | h | h
  · have e : ¬ 63 = i := by omega
    simp [h, e]
  · subst h
    rw [Nat.testBit_eq_decide_div_mod_eq]
    have : b / 2 ^ 63 % 2 = 1 := by omega
    simp [this]
  · have e : ¬ 63 = i := by omega
    have e2 : b.testBit i = false := by
      apply Nat.testBit_lt_two_pow
      exact Nat.lt_of_lt_of_le h2 (show 2 ^ 64 ≤ 2 ^ i from Nat.pow_le_pow_right (by decide) (by omega))
    have e3 : ¬ i < 63 := by omega
    simp [e, e2, e3]
theorem neg_float {P : Program} (b : Nat) (hb : b < 18446744073709551616) (hg : ng b = true) : ∀ W : World, (Op.unary .neg (.float .f64 b)).run P W = .ok (.float .f64 (rg b)) W := by
  intro W
  have h1 := ng_iff b hb
  rw [hg] at h1
  have h2 : 9223372036854775808 ≤ b := of_decide_eq_true h1.symm
  have e : Op.negFloat .f64 b = rg b := xor_top b h2 hb
  show Result.ok (Value.float .f64 (Op.negFloat .f64 b)) W = _
  rw [e]
end Go.Proofs.Ytfhmaincnlaapaa
namespace Go.Proofs.Ytfhmaincnlaapaa
open Go.ChangeShapes Go.WideShapes Go.ChangeAt Go.RowKit
set_option linter.unusedVariables false

theorem f64from (n : Nat) (w : World) : (callFunc 184 #[.int .u64 (n : Int)]).run Try.prog w = .ok (.value (.float .f64 n)) w := by kernel_rfl
end Go.Proofs.Ytfhmaincnlaapaa
namespace Go.Proofs.Ytfhmaincnlaapaa
open Go.ChangeShapes Go.WideShapes Go.ChangeAt Go.RowKit
set_option linter.unusedVariables false

end Go.Proofs.Ytfhmaincnlaapaa
namespace Go.Proofs.Ytfhmaincnlaapaa
open Go.ChangeShapes Go.WideShapes Go.ChangeAt Go.RowKit
set_option linter.unusedVariables false

end Go.Proofs.Ytfhmaincnlaapaa
namespace Go.Proofs.Ytfhmaincnlaapaa
open Go.ChangeShapes Go.WideShapes Go.ChangeAt Go.RowKit
set_option linter.unusedVariables false

/-- what was read -/
structure GotS where
  u : Nat
  i : Int
  t : List UInt8
  n : Nat
  e : Nat
def GotS.v (g : GotS) : Value := .agg #[.int .u64 (g.u : Int), .int .i64 g.i, .string ⟨g.t.toArray⟩, .int .i64 (g.n : Int), .int .i64 (g.e : Int)]
def mx (ms : Int) : Nat := (max ms 0).toNat
section
variable (mu : Nat) (ai : Int) (f : Nat) (s : ByteArray) (ms : Int) (A : Option Addr) (m c B : Nat) (t : List UInt8) (w : World)

end
end Go.Proofs.Ytfhmaincnlaapaa
namespace Go.Proofs.Ytfhmaincnlaapaa
open Go.ChangeShapes Go.WideShapes Go.ChangeAt Go.RowKit
set_option linter.unusedVariables false

section
variable (mu : Nat) (ai : Int) (f : Nat) (s : ByteArray) (ms : Int) (A : Option Addr) (m c B : Nat) (t : List UInt8) (w : World)
end
end Go.Proofs.Ytfhmaincnlaapaa
namespace Go.Proofs.Ytfhmaincnlaapaa
open Go.ChangeShapes Go.WideShapes Go.ChangeAt Go.RowKit
set_option linter.unusedVariables false

/-- THE WRITER AT BLOCK g: what was laid; all of it lies from block base on -/
def OutS (w : World) (base g : Nat) (l : List UInt8) : Prop :=
  base ≤ g ∧ base ≤ w.heap.size ∧ ∃ v, Blk w g 216 #[.bool true, v] ∧ w.ownsRow base 5 1 v l.length (u8s l)
theorem OutS.lt {w : World} {base g : Nat} {l : List UInt8} (h : OutS w base g l) : g < w.heap.size := by obtain ⟨_, _, v, hb, _⟩ := h; exact hb.lt
theorem OutS.drw {w w' : World} {base g : Nat} {l : List UInt8} (h : OutS w base g l) (k : Drw w w') : OutS w' base g l := by obtain ⟨n, rfl⟩ := k; exact h
/-- all that is new lies behind what was there -/
theorem OutS.below {w w' : World} {base g : Nat} {l : List UInt8} (h : OutS w base g l) (hb : Below w.heap.size w w') : OutS w' base g l := by
  obtain ⟨h1, h2, v, hB, ho⟩ := h
  exact ⟨h1, Nat.le_trans h2 hb.size, v, hB.below hb hB.lt, own_below ho hb (Nat.le_refl _)⟩

end Go.Proofs.Ytfhmaincnlaapaa
namespace Go.Proofs.Ytfhmaincnlaapaa
open Go.ChangeShapes Go.WideShapes Go.ChangeAt Go.RowKit
set_option linter.unusedVariables false

/-- the cells of a list whose elements have some cells each -/
theorem flat_get {α : Type} (f : α → List Value) (s : Nat) (hs : ∀ x, (f x).length = s) (l : List α) (k j : Nat) (hk : k < l.length) (hj : j < s) : (l.flatMap f)[k * s + j]? = (f l[k])[j]? := by
  induction l generalizing k with
  | nil => simp at hk
  | cons x l ih =>
    rw [List.flatMap_cons]
    cases k with
    | zero => rw [Nat.zero_mul, Nat.zero_add, List.getElem?_append_left (by rw [hs]; exact hj)]; rfl
    | succ k =>
      rw [List.getElem?_append_right (by rw [hs, Nat.succ_mul]; omega), hs, show (k + 1) * s + j - s = k * s + j from by rw [Nat.succ_mul]; omega, ih k (by simpa using hk)]
      rfl
theorem flat_len {α : Type} (f : α → List Value) (s : Nat) (hs : ∀ x, (f x).length = s) (l : List α) : (l.flatMap f).length = l.length * s := by
  induction l with
  | nil => simp
  | cons x l ih => rw [List.flatMap_cons, List.length_append, hs, ih, List.length_cons, Nat.succ_mul]; omega

section
variable {w w' : World} {B n : Nat} {A : Option Addr} {l : List (Nat × Int)}
end

theorem one_of {p : Nat → Prop} (h : p 0) : ∀ j, j < 1 → p j := fun j hj => by obtain rfl : j = 0 := by omega
                                                                               exact h
theorem rd_drw {w w' : World} {B size n : Nat} {A : Option Addr} {xs : List Value} (h : Rd w B size A n xs) (k : Drw w w') : Rd w' B size A n xs := by obtain ⟨m, rfl⟩ := k; exact h
end Go.Proofs.Ytfhmaincnlaapaa
namespace Go.Proofs.Ytfhmaincnlaapaa
open Go.ChangeShapes Go.WideShapes Go.ChangeAt Go.RowKit
set_option linter.unusedVariables false

structure Sht where
  k : Int
  a : Nat
  b : Nat
  d : List UInt8
def shC (s : Sht) (v : Value) : List Value := [.int .i64 s.k, .int .u64 (s.a : Int), .int .u64 (s.b : Int), v]
theorem shC_len (s : Sht) (v : Value) : (shC s v).length = 4 := rfl

/-- the cells of a list of sheets; each body reads as its bytes, below block B -/
def ShR (w : World) (B : Nat) : List Sht → List Value → Prop
  | [], xs => xs = []
  | s :: ss, xs => ∃ A c rest, xs = shC s (.slice A s.d.length c) ++ rest ∧ Rd w B 1 A s.d.length (u8s s.d) ∧ s.d.length ≤ c ∧ c ≤ maxLen ∧ ShR w B ss rest
/-- the cells of a list of sheets whose bodies are the call's own, each in a block below B -/
def ShO (w : World) (base B : Nat) : List Sht → List Value → Prop
  | [], xs => xs = []
  | s :: ss, xs => ∃ v rest, xs = shC s v ++ rest ∧ w.ownsRow base 5 1 v s.d.length (u8s s.d) ∧ (∀ k, v.ownBlock = some k → k < B) ∧ ShO w base B ss rest
theorem ShO.map {w w' : World} {base B B' : Nat} {ss : List Sht} {xs : List Value} (h : ShO w base B ss xs) (hB : B ≤ B')
    (hk : ∀ v n ys, w.ownsRow base 5 1 v n ys → (∀ k, v.ownBlock = some k → k < B) → w'.ownsRow base 5 1 v n ys) : ShO w' base B' ss xs := by
  induction ss generalizing xs with
  | nil => exact h
  | cons s ss ih =>
    obtain ⟨v, rest, rfl, ho, hl, hr⟩ := h
    exact ⟨v, rest, rfl, hk _ _ _ ho hl, fun k hk => Nat.lt_of_lt_of_le (hl k hk) hB, ih hr⟩
theorem ShO.snoc {w : World} {base B : Nat} {ss : List Sht} {xs : List Value} {s : Sht} {v : Value} (h : ShO w base B ss xs) (ho : w.ownsRow base 5 1 v s.d.length (u8s s.d)) (hl : ∀ k, v.ownBlock = some k → k < B) :
    ShO w base B (ss ++ [s]) (xs ++ shC s v) := by
  induction ss generalizing xs with
  | nil => cases h; exact ⟨v, [], by simp, ho, hl, rfl⟩
  | cons s' ss ih =>
    obtain ⟨v', rest, rfl, ho', hl', hr⟩ := h
    exact ⟨v', rest ++ shC s v, by rw [List.append_assoc], ho', hl', ih hr⟩
theorem ShO.len {w : World} {base B : Nat} {ss : List Sht} {xs : List Value} (h : ShO w base B ss xs) : xs.length = ss.length * 4 := by
  induction ss generalizing xs with
  | nil => cases h; rfl
  | cons s ss ih =>
    obtain ⟨v, rest, rfl, _, _, hr⟩ := h
    rw [List.length_append, shC_len, ih hr, List.length_cons]; omega
theorem ShR.len {w : World} {B : Nat} {ss : List Sht} {xs : List Value} (h : ShR w B ss xs) : xs.length = ss.length * 4 := by
  induction ss generalizing xs with
  | nil => cases h; rfl
  | cons s ss ih =>
    obtain ⟨A, c, rest, rfl, _, _, _, hr⟩ := h
    rw [List.length_append, shC_len, ih hr, List.length_cons]; omega
theorem ShR.keep {w w' : World} {B B' : Nat} {ss : List Sht} {xs : List Value} (h : ShR w B ss xs) (hb : Below B w w') (hB : B ≤ B') : ShR w' B' ss xs := by
  induction ss generalizing xs with
  | nil => exact h
  | cons s ss ih =>
    obtain ⟨A, c, rest, rfl, hR, h1, h2, hr⟩ := h
    exact ⟨A, c, rest, rfl, (hR.below hb).more hB, h1, h2, ih hr⟩
theorem ShR.get {w : World} {B : Nat} {ss : List Sht} {xs : List Value} (h : ShR w B ss xs) (i : Nat) (hi : i < ss.length) :
    ∃ A c, xs[i * 4]? = some (.int .i64 ss[i].k) ∧ xs[i * 4 + 1]? = some (.int .u64 (ss[i].a : Int)) ∧ xs[i * 4 + 2]? = some (.int .u64 (ss[i].b : Int)) ∧ xs[i * 4 + 3]? = some (.slice A ss[i].d.length c) ∧
      Rd w B 1 A ss[i].d.length (u8s ss[i].d) ∧ ss[i].d.length ≤ c ∧ c ≤ maxLen := by
  induction ss generalizing xs i with
  | nil => simp at hi
  | cons s ss ih =>
    obtain ⟨A, c, rest, rfl, hR, h1, h2, hr⟩ := h
    cases i with
    | zero => exact ⟨A, c, rfl, rfl, rfl, rfl, hR, h1, h2⟩
    | succ i =>
      obtain ⟨A', c', e0, e1, e2, e3, r⟩ := ih hr i (by simpa using hi)
      have sh : ∀ j, (shC s (.slice A s.d.length c) ++ rest)[(i + 1) * 4 + j]? = rest[i * 4 + j]? := fun j => by
        rw [List.getElem?_append_right (by rw [shC_len]; omega), shC_len, show (i + 1) * 4 + j - 4 = i * 4 + j from by omega]
      exact ⟨A', c', (sh 0).trans e0, (sh 1).trans e1, (sh 2).trans e2, (sh 3).trans e3, r⟩

section
variable {P : Program}
end
end Go.Proofs.Ytfhmaincnlaapaa
namespace Go.Proofs.Ytfhmaincnlaapaa
open Go.ChangeShapes Go.WideShapes Go.ChangeAt Go.RowKit
set_option linter.unusedVariables false

end Go.Proofs.Ytfhmaincnlaapaa
namespace Go.Proofs.Ytfhmaincnlaapaa
open Go.ChangeShapes Go.WideShapes Go.ChangeAt Go.RowKit
set_option linter.unusedVariables false

end Go.Proofs.Ytfhmaincnlaapaa
namespace Go.Proofs.Ytfhmaincnlaapaa
open Go.ChangeShapes Go.WideShapes Go.ChangeAt Go.RowKit
set_option linter.unusedVariables false

end Go.Proofs.Ytfhmaincnlaapaa
namespace Go.Proofs.Ytfhmaincnlaapaa
open Go.ChangeShapes Go.WideShapes Go.ChangeAt Go.RowKit
set_option linter.unusedVariables false

/-- a thing that is asked for -/
structure AskS where
  d : Int
  u : Nat
  i : Int
  f : Nat
  s : ByteArray
  m : Int
end Go.Proofs.Ytfhmaincnlaapaa
namespace Go.Proofs.Ytfhmaincnlaapaa
open Go.ChangeShapes Go.WideShapes Go.ChangeAt Go.RowKit
set_option linter.unusedVariables false

section
variable {w : World} {B n : Nat} {A : Option Addr} {l : List AskS}
end
end Go.Proofs.Ytfhmaincnlaapaa
