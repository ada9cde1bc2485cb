/-
  flo.Key and code.F, bushelref03's Kind, Below, Less: what they give at any real number's bits.
-/
import Derived.Test.YtpnolgghbenekaaCodeWrite
import Derived.Test.YtpnolgghbenekaaFloPure
namespace Go.Proofs.Ytpnolgghbenekaa
open Go.ChangeShapes Go.WideShapes Go.ChangeAt Go.RowKit
set_option linter.unusedVariables false
theorem f64bits (b : Nat) (w : World) : (callFunc 125 #[.float .f64 b]).run Try.prog w = .ok (.value (.int .u64 (b : Int))) w := by kernel_rfl

theorem and63 (b : Nat) (h : b < 18446744073709551616) : bits .and .u64 (b : Int) 9223372036854775807 = ((rg b : Nat) : Int) := by
  have e : (9223372036854775807 : Int) = ((9223372036854775807 : Nat) : Int) := rfl
  rw [e, u64_and_nat _ _ h (by omega)]
  congr 1
  exact Nat.and_two_pow_sub_one_eq_mod b 63

theorem order_selfF (b : Nat) : (FloatKind.f64.format.order b b != some .eq) = nanB b := order_self b
theorem key_any (b : Nat) (w : World) (hb : b < 18446744073709551616) :
    Calls Try.prog 102 #[.float .f64 b] w fun e w' => e = .returned (.int .u64 (keyB b : Nat)) ∧ w = w' := by
  have hf := f64bits b
  have hn := order_selfF b
  have hd := and63 b hb
  have hr := rg_lt b
  unfold keyB
  have hni := ng_iff b hb
  have hrb : rg b = b - if 9223372036854775808 ≤ b then 9223372036854775808 else 0 := by unfold rg; split <;> omega
  cases h : nanB b
  · rw [h] at hn
    by_cases hg : 9223372036854775808 ≤ b
    · rw [if_pos hg] at hrb
      rw [hni, decide_eq_true hg]
      have t2 : (((b : Int) / 9223372036854775808) == 1) = true := by rw [beq_iff_eq]; omega
      have HR := Lib.hid hrb; have HN := Lib.hid hni; clear hrb hni
      go_enter Try.func102, Try.ntmps102
      go_wp2
      go_ret
      exact ⟨by simp; omega, rfl⟩
    · rw [if_neg hg] at hrb
      rw [hni, decide_eq_false hg]
      have t2 : (((b : Int) / 9223372036854775808) == 1) = false := by rw [beq_eq_false_iff_ne]; omega
      have HR := Lib.hid hrb; have HN := Lib.hid hni; clear hrb hni
      go_enter Try.func102, Try.ntmps102
      go_wp2
      go_ret
      exact ⟨by have := HR.out; simp; omega, rfl⟩
  · rw [h] at hn
    have HR := Lib.hid hrb; have HN := Lib.hid hni; clear hrb hni
    go_enter Try.func102, Try.ntmps102
    go_wp2
    go_ret
    exact ⟨rfl, rfl⟩
theorem codeF_any (b : Nat) (w : World) (hb : b < 18446744073709551616) :
    Calls Try.prog 122 #[.float .f64 b] w fun e w' => ∃ v', e = .returned v' ∧ w'.ownsRow w.heap.size 5 1 v' 8 (u8s (be 8 (keyB b))) ∧ Below w.heap.size w w' := by
  have hc : Calls Try.prog 127 #[.slice none 0 0, .int .u64 (keyB b : Int), .int .i64 8] w fun e w' => ∃ v', e = .returned v' ∧ w'.ownsRow w.heap.size 5 1 v' (0 + 8) (u8s ([] ++ be 8 (keyB b))) ∧ Appd w w' (.slice none 0 0) v' := bytes_any w.heap.size 0 (keyB b) 8 _ [] w (by simpa [u8s] using World.ownsRow_nil w w.heap.size 5 1) (Nat.le_refl _) (keyB_lt b) (by omega) (by omega)
  go_enter Try.func122, Try.ntmps122
  go_wp2_with (first | (go_at_call 102; (with_reducible refine (key_any b _ hb).mono ?_); rintro e w' ⟨rfl, rfl⟩) | (go_at_call 127; (with_reducible refine hc.mono ?_); rintro e w' ⟨v', rfl, ho, hb'⟩))
  go_ret
  exact ⟨_, rfl, by simpa using ho, hb'.below_nil (Nat.le_refl _)⟩

/-! bushelref03 -/
theorem run_sub_bad {P : Program} (t : TypeId) (w : World) (x y : Nat) (h : FloatKind.f64.format.sub x y = none) : ∃ q, nanB q = true ∧ q < 18446744073709551616 ∧ (binOp .sub t (.float .f64 x) (.float .f64 y)).run P w = .ok (.float .f64 q) w.drew := by
  refine ⟨Question.cut (.nanBits .f64 x y) (w.tape w.drawn (.nanBits .f64 x y)), ?_, ?_, ?_⟩
  · generalize w.tape w.drawn (.nanBits .f64 x y) = t
    have h1 := Nat.mod_lt (t / 2) (show 0 < 4503599627370495 by decide)
    refine decide_eq_true ?_
    show 9218868437227405312 < (t % 2 * 9223372036854775808 + 9218868437227405312 + 1 + t / 2 % 4503599627370495) % 9223372036854775808
    generalize t / 2 % 4503599627370495 = y at *
    omega
  · generalize w.tape w.drawn (.nanBits .f64 x y) = t
    have h1 := Nat.mod_lt (t / 2) (show 0 < 4503599627370495 by decide)
    show (t % 2 * 9223372036854775808 + 9218868437227405312 + 1 + t / 2 % 4503599627370495) < _
    generalize t / 2 % 4503599627370495 = y at *
    omega
  · simp [binOp, Op.floatArith, h, run_choose_drew, Question.forced]
theorem order_zero (b : Nat) (h : nanB b = false) : (FloatKind.f64.format.order b 0 == some .eq) = decide (rg b = 0) := by
  have h1 : rg b ≤ irg := by unfold nanB at h; simpa using h
  have := order_any b 0 h1 (by decide)
  show (Ieee.double.order b 0 == some .eq) = _
  rw [this]
  have e0 : sv 0 = 0 := by decide
  rw [e0]
  by_cases hz : rg b = 0
  · have : sv b = 0 := by unfold sv; rw [hz]; simp [vl_zero]
    rw [this]; simp [hz]
  · have hp := vl_pos (show 0 < rg b by omega)
    have hne : sv b ≠ 0 := by unfold sv; split <;> omega
    rcases Int.lt_or_gt_of_ne hne with hl | hl
    · rw [icmp_lt hl]; simp [hz]
    · rw [icmp_gt hl]; simp [hz]
theorem sub_self_num (b : Nat) (h : rg b < irg) : FloatKind.f64.format.sub b b = some 0 := by
  show Ieee.double.sub b b = some 0
  unfold Ieee.Format.sub
  rw [read_num b h]
  simp only [Ieee.Datum.opposite, Ieee.Datum.sum, Ieee.signed]
  generalize mg (rg b) = m
  have : (-1074 + (ex (rg b) : Int) - min (-1074 + (ex (rg b) : Int)) (-1074 + (ex (rg b) : Int))).toNat = 0 := by omega
  rw [this]
  cases ng b <;> simp [Ieee.Format.write, Ieee.Format.nearest, Ieee.Format.word, Int.add_right_neg, Int.add_left_neg]
theorem sub_self_inf (b : Nat) (h : rg b = irg) : FloatKind.f64.format.sub b b = none := by
  show Ieee.double.sub b b = none
  unfold Ieee.Format.sub
  rw [read_inf b h]
  cases ng b <;> rfl
def kindF (b : Nat) : Nat := if nanB b then 3 else if rg b = 0 then 0 else if rg b = irg then 2 else 1
theorem refKind_any (b : Nat) (w : World) (hb : b < 18446744073709551616) :
    Calls Try.prog 103 #[.float .f64 b] w fun e w' => e = .returned (.int .i64 (kindF b : Nat)) ∧ ∃ n, w' = w.drewN n := by
  have hn := order_selfF b
  unfold kindF
  cases h : nanB b
  · rw [h] at hn
    have hz := order_zero b h
    by_cases h0 : rg b = 0
    · rw [decide_eq_true h0] at hz
      rw [if_neg (by simp), if_pos h0]
      have H0 := Lib.hid h0; clear h0
      go_enter Try.func103, Try.ntmps103
      go_wp2
      go_ret
      exact ⟨rfl, 0, rfl⟩
    · rw [decide_eq_false h0] at hz
      rw [if_neg (by simp), if_neg h0]
      by_cases hi : rg b = irg
      · rw [if_pos hi]
        have hs := sub_self_inf b hi
        obtain ⟨q, hq, hql, hrun⟩ := run_sub_bad (P := Try.prog) 77 w b b hs
        have hq0 : (FloatKind.f64.format.order q 0 != some .eq) = true := by
          have : FloatKind.f64.format.order q 0 = none := order_nan q 0 (.inl (by unfold nanB at hq; simpa using hq))
          rw [this]; rfl
        have H0 := Lib.hid h0; have HI := Lib.hid hi; clear h0 hi
        go_enter Try.func103, Try.ntmps103
        go_wp2
        go_ret
        exact ⟨rfl, 1, rfl⟩
      · rw [if_neg hi]
        have h1 : rg b < irg := by unfold nanB at h; have := of_decide_eq_false h; omega
        have hrun := run_float_arith (P := Try.prog) w .sub 77 .f64 b b 0 (sub_self_num b h1)
        have hq0 : (FloatKind.f64.format.order 0 0 != some .eq) = false := by decide
        have H0 := Lib.hid h0; have HI := Lib.hid hi; clear h0 hi
        go_enter Try.func103, Try.ntmps103
        go_wp2
        go_ret
        exact ⟨rfl, 0, rfl⟩
  · rw [h] at hn
    go_enter Try.func103, Try.ntmps103
    go_wp2
    go_ret
    exact ⟨rfl, 0, rfl⟩

theorem sv_zero_iff (b : Nat) : sv b = 0 ↔ rg b = 0 := by
  constructor
  · intro h
    by_cases hz : rg b = 0
    · exact hz
    · have hp := vl_pos (show 0 < rg b by omega)
      unfold sv at h; split at h <;> omega
  · intro h; unfold sv; rw [h]; simp [vl_zero]
theorem order_cmp (a b : Nat) (ha : nanB a = false) (hb : nanB b = false) : FloatKind.f64.format.order a b = some (compare (sv a) (sv b)) := by
  have h1 : rg a ≤ irg := by unfold nanB at ha; simpa using ha
  have h2 : rg b ≤ irg := by unfold nanB at hb; simpa using hb
  exact order_any a b h1 h2
theorem order_lt (a b : Nat) (ha : nanB a = false) (hb : nanB b = false) : (FloatKind.f64.format.order a b == some .lt) = decide (sv a < sv b) := by
  rw [order_cmp a b ha hb]
  rcases Int.lt_trichotomy (sv a) (sv b) with h | h | h
  · rw [icmp_lt h]; simp [h]
  · rw [h]; simp
  · rw [icmp_gt h]; simp; omega
theorem order_eq (a b : Nat) (ha : nanB a = false) (hb : nanB b = false) : (FloatKind.f64.format.order a b == some .eq) = decide (sv a = sv b) := by
  rw [order_cmp a b ha hb]
  rcases Int.lt_trichotomy (sv a) (sv b) with h | h | h
  · rw [icmp_lt h]; simp; omega
  · rw [h]; simp
  · rw [icmp_gt h]; simp; omega
theorem div_one_zero (b : Nat) (h : rg b = 0) : FloatKind.f64.format.div 4607182418800017408 b = some (if ng b then 18442240474082181120 else 9218868437227405312) := by
  show Ieee.double.div 4607182418800017408 b = _
  unfold Ieee.Format.div
  rw [read_num b (by rw [h]; decide), read_num 4607182418800017408 (by decide), h]
  cases ng b <;> decide
/-- has a number a minus? (a number that is one) -/
theorem below_any (b : Nat) (w : World) (hb : b < 18446744073709551616) (h : nanB b = false) :
    Calls Try.prog 104 #[.float .f64 b] w fun e w' => e = .returned (.bool (ng b)) ∧ w = w' := by
  have hz := order_zero b h
  have hl : (FloatKind.f64.format.order b 0 == some .lt) = (ng b && decide (rg b ≠ 0)) := by
    rw [order_lt b 0 h (by decide), show sv 0 = 0 from by decide]
    have hp : 0 < rg b → 0 < vl (rg b) := vl_pos
    have hq : rg b = 0 → vl (rg b) = 0 := fun h => by rw [h]; rfl
    unfold sv
    rw [Bool.eq_iff_iff]
    cases ng b <;> simp <;> omega
  by_cases h0 : rg b = 0
  · rw [decide_eq_true h0] at hz
    have hd := div_one_zero b h0
    have hrun := run_float_arith (P := Try.prog) w .quo 77 .f64 4607182418800017408 b _ hd
    rw [show (ng b && decide (rg b ≠ 0)) = false by simp [h0]] at hl
    cases hg : ng b
    · rw [hg] at hrun
      simp only [Bool.false_eq_true, if_false] at hrun
      have hlt : (FloatKind.f64.format.order 9218868437227405312 0 == some .lt) = false := by decide
      have H0 := Lib.hid h0; have HD := Lib.hid hd; have HG := Lib.hid hg; clear h0 hd hg
      go_enter Try.func104, Try.ntmps104
      go_wp2
      go_ret
      exact ⟨rfl, rfl⟩
    · rw [hg] at hrun
      simp only [if_true] at hrun
      have hlt : (FloatKind.f64.format.order 18442240474082181120 0 == some .lt) = true := by decide
      have H0 := Lib.hid h0; have HD := Lib.hid hd; have HG := Lib.hid hg; clear h0 hd hg
      go_enter Try.func104, Try.ntmps104
      go_wp2
      go_ret
      exact ⟨rfl, rfl⟩
  · rw [decide_eq_false h0] at hz
    rw [show (ng b && decide (rg b ≠ 0)) = ng b by simp [h0]] at hl
    cases hg : ng b
    · rw [hg] at hl
      have H0 := Lib.hid h0; have HG := Lib.hid hg; clear h0 hg
      go_enter Try.func104, Try.ntmps104
      go_wp2
      go_ret
      exact ⟨rfl, rfl⟩
    · rw [hg] at hl
      have H0 := Lib.hid h0; have HG := Lib.hid hg; clear h0 hg
      go_enter Try.func104, Try.ntmps104
      go_wp2
      go_ret
      exact ⟨rfl, rfl⟩
end Go.Proofs.Ytpnolgghbenekaa
