/-
  PLAIN LEAN: halves, doubles and whole parts of real numbers are exact where bushelref03's Split and Rank take them.
-/
import Derived.Test.YtpnolgghbenekaaFloPure
namespace Go.Proofs.Ytpnolgghbenekaa
set_option linter.unusedVariables false
open Ieee

theorem log2_eq {n k : Nat} (h1 : 2 ^ k ≤ n) (h2 : n < 2 ^ (k + 1)) : n.log2 = k := by
  have h0 : n ≠ 0 := by have := Nat.two_pow_pos k; omega
  have a := Nat.log2_self_le h0
  have b := @Nat.lt_log2_self n
  have c : 2 ^ n.log2 < 2 ^ (k + 1) := by omega
  have d : 2 ^ k < 2 ^ (n.log2 + 1) := by omega
  have c' := (Nat.pow_lt_pow_iff_right (by decide : 1 < 2)).1 c
  have d' := (Nat.pow_lt_pow_iff_right (by decide : 1 < 2)).1 d
  omega
theorem cut_zero (neg : Bool) (n d : Nat) : Toward.zero.cut neg n d = n / 2 ^ d := by
  unfold Toward.cut
  simp only [Nat.one_shiftLeft, Bool.toNat_false, Nat.add_zero]
  rcases Nat.le_total d (n.log2 + 2) with h | h
  · rw [Nat.min_eq_left h]
  · rw [Nat.min_eq_right h]
    have b := @Nat.lt_log2_self n
    have h1 : n < 2 ^ (n.log2 + 2) := Nat.lt_of_lt_of_le b (Nat.pow_le_pow_right (by decide) (by omega))
    have h2 : n < 2 ^ d := Nat.lt_of_lt_of_le h1 (Nat.pow_le_pow_right (by decide) h)
    rw [Nat.div_eq_of_lt h1, Nat.div_eq_of_lt h2]
theorem cut_exact (neg : Bool) (m d : Nat) (hm : 0 < m) : Toward.even.cut neg (m * 2 ^ d) d = m := by
  have hp := Nat.two_pow_pos d
  have hl : d ≤ (m * 2 ^ d).log2 + 2 := by
    have h1 : 2 ^ d ≤ m * 2 ^ d := Nat.le_mul_of_pos_left _ hm
    have b := @Nat.lt_log2_self (m * 2 ^ d)
    have := (Nat.pow_lt_pow_iff_right (by decide : 1 < 2)).1 (Nat.lt_of_le_of_lt h1 b)
    omega
  unfold Toward.cut
  simp only [Nat.one_shiftLeft]
  rw [Nat.min_eq_left hl, Nat.mul_div_cancel _ hp, Nat.mul_mod_left]
  simp
theorem mg_bound (r : Nat) (h : r < irg) : mg r < 9007199254740992 ∧ (ex r = 0 ∨ 4503599627370496 ≤ mg r) ∧ ex r * 4503599627370496 + mg r = r ∧ ex r ≤ 2045 := by
  unfold irg at h
  unfold mg ex
  by_cases hr : r < 4503599627370496
  · rw [if_pos hr, if_pos hr]; omega
  · rw [if_neg hr, if_neg hr]; omega
/-- A NUMBER THAT THE FORMAT HAS IS WRITTEN AS IT IS. -/
theorem nearest_exact (neg : Bool) (mag : Nat) (place : Int) (r p q : Nat) (hr0 : 0 < r) (hr : r < irg) (hpq : (p : Int) - q = place + 1074) (hv : mag * 2 ^ p = vl r * 2 ^ q) :
    double.nearest neg mag place = double.word neg r := by
  obtain ⟨hm1, hm2, hm3, hm4⟩ := mg_bound r hr
  have hv0 := vl_pos hr0
  have hmag : mag ≠ 0 := by
    rintro rfl
    have : 0 < vl r * 2 ^ q := Nat.mul_pos hv0 (Nat.two_pow_pos q)
    omega
  have hmg : 0 < mg r := by
    rcases Nat.eq_zero_or_pos (mg r) with h | h
    · unfold vl at hv0; rw [h] at hv0; simp at hv0
    · exact h
  have hv' : mag * 2 ^ p = mg r * 2 ^ (ex r + q) := by rw [hv, vl, Nat.mul_assoc, ← Nat.pow_add]
  have hL1 := Nat.log2_self_le hmag
  have hL2 := @Nat.lt_log2_self mag
  -- the place of the highest bit
  have hup : mag.log2 + p ≤ 52 + ex r + q := by
    have h1 : 2 ^ (mag.log2 + p) ≤ mag * 2 ^ p := by rw [Nat.pow_add]; exact Nat.mul_le_mul_right _ hL1
    have h2 : mg r * 2 ^ (ex r + q) < 2 ^ 53 * 2 ^ (ex r + q) := Nat.mul_lt_mul_of_pos_right (by simpa using hm1) (Nat.two_pow_pos _)
    rw [← Nat.pow_add] at h2
    have := (Nat.pow_lt_pow_iff_right (by decide : 1 < 2)).1 (Nat.lt_of_le_of_lt (hv' ▸ h1) h2)
    omega
  have hlo : 4503599627370496 ≤ mg r → 52 + ex r + q ≤ mag.log2 + p := by
    intro h
    have h1 : mag * 2 ^ p < 2 ^ (mag.log2 + 1 + p) := by rw [Nat.pow_add]; exact Nat.mul_lt_mul_of_pos_right hL2 (Nat.two_pow_pos _)
    have h2 : 2 ^ 52 * 2 ^ (ex r + q) ≤ mg r * 2 ^ (ex r + q) := Nat.mul_le_mul_right _ (by simpa using h)
    rw [← Nat.pow_add] at h2
    have := (Nat.pow_lt_pow_iff_right (by decide : 1 < 2)).1 (Nat.lt_of_le_of_lt h2 (hv' ▸ h1))
    omega
  unfold Format.nearest
  rw [if_neg hmag]
  simp only [lp_eq, bi_eq, ir_eq]
  have hf : (double.fractionBits : Int) = 52 := rfl
  have hlast : max (place + (mag.log2 : Int) - (double.fractionBits : Int)) (-1074) = (ex r : Int) - 1074 := by
    rw [hf]
    rcases hm2 with h | h
    · by_cases h2 : 4503599627370496 ≤ mg r
      · have := hlo h2; omega
      · omega
    · have := hlo h; omega
  rw [hlast]
  have hkept : Toward.even.cut neg (mag <<< (place - ((ex r : Int) - 1074)).toNat) ((ex r : Int) - 1074 - place).toNat = mg r := by
    rcases Nat.le_total (ex r + q) p with h | h
    · have e1 : (place - ((ex r : Int) - 1074)).toNat = p - (ex r + q) := by omega
      have e2 : ((ex r : Int) - 1074 - place).toNat = 0 := by omega
      rw [e1, e2, Nat.shiftLeft_eq]
      have e3 : mag * 2 ^ (p - (ex r + q)) = mg r := by
        have : mag * 2 ^ (p - (ex r + q)) * 2 ^ (ex r + q) = mg r * 2 ^ (ex r + q) := by
          rw [Nat.mul_assoc, ← Nat.pow_add, Nat.sub_add_cancel h, hv']
        exact Nat.eq_of_mul_eq_mul_right (Nat.two_pow_pos _) this
      rw [e3]
      have := cut_exact neg (mg r) 0 hmg
      simpa using this
    · have e1 : (place - ((ex r : Int) - 1074)).toNat = 0 := by omega
      have e2 : ((ex r : Int) - 1074 - place).toNat = ex r + q - p := by omega
      rw [e1, e2, Nat.shiftLeft_zero]
      have e3 : mag = mg r * 2 ^ (ex r + q - p) := by
        have : mag * 2 ^ p = mg r * 2 ^ (ex r + q - p) * 2 ^ p := by
          rw [Nat.mul_assoc, ← Nat.pow_add, Nat.sub_add_cancel h, hv']
        exact Nat.eq_of_mul_eq_mul_right (Nat.two_pow_pos _) this
      rw [e3]
      exact cut_exact neg (mg r) _ hmg
  rw [hkept]
  have e4 : ((ex r : Int) - 1074 - -1074).toNat = ex r := by omega
  rw [e4, hm3]
  congr 1
  unfold irg at hr
  omega
theorem read_pos (r : Nat) (h : r < irg) : double.read r = .number false (mg r) (-1074 + (ex r : Nat)) := by
  have h1 : rg r = r := by unfold rg irg at *; omega
  have h2 : ng r = false := by unfold ng irg at *; rw [beq_eq_false_iff_ne]; omega
  have := read_num r (by rw [h1]; exact h)
  rw [h1, h2] at this
  exact this
theorem read_two : double.read 4611686018427387904 = .number false 4503599627370496 (-51) := by decide
theorem word_false (r : Nat) : double.word false r = r := rfl
theorem log2_52 : (4503599627370496 : Nat).log2 = 52 := by decide
theorem quot_two (m : Nat) (i : Int) (hlog : m.log2 = 52) : (Datum.number false m i).quotient 54 (.number false 4503599627370496 (-51)) = some (.number false (8 * m) (i - 4)) := by
  have hne : ¬ ((4503599627370496 : Nat) = 0) := by omega
  simp only [Datum.quotient]
  rw [if_neg hne]
  have e0 : 54 + Nat.log2 4503599627370496 - m.log2 = 54 := by rw [log2_52, hlog]
  have e1 : m <<< 54 / 4503599627370496 = m * 4 := by rw [Nat.shiftLeft_eq]; omega
  have e2 : m <<< 54 % 4503599627370496 = 0 := by rw [Nat.shiftLeft_eq]; omega
  simp only [e0, e1, e2]
  have e3 : i - -51 - ((54 : Nat) : Int) - 1 = i - 4 := by omega
  have e4 : 2 * (m * 4) + ((0 : Nat) != 0).toNat = 8 * m := by simp; omega
  rw [e3, e4]
  rfl
/-- HALF OF A NUMBER from 2^-1021 on -/
theorem div_two (r : Nat) (h1 : 9007199254740992 ≤ r) (h : r < irg) : ∃ s, FloatKind.f64.format.div r 4611686018427387904 = some s ∧ s + 4503599627370496 = r ∧ 0 < s ∧ 2 * vl s = vl r := by
  obtain ⟨hm1, hm2, hm3, hm4⟩ := mg_bound r h
  have hx : 1 ≤ ex r := by omega
  have hm : 4503599627370496 ≤ mg r := by omega
  have hlog : (mg r).log2 = 52 := log2_eq (by simpa using hm) (by simpa using hm1)
  obtain ⟨s, hs⟩ : ∃ s, s + 4503599627370496 = r := ⟨r - 4503599627370496, by omega⟩
  have hmg : mg s = mg r ∧ ex s + 1 = ex r := by
    unfold mg ex at *
    rw [if_neg (by omega), if_neg (by omega), if_neg (by omega), if_neg (by omega)]
    omega
  have hsl : s < irg := by omega
  have hv : 2 * vl s = vl r := by
    rw [vl, vl, hmg.1, ← hmg.2, Nat.pow_succ]
    generalize 2 ^ ex s = t
    generalize mg r = u
    ac_rfl
  refine ⟨s, ?_, hs, by omega, hv⟩
  have e : FloatKind.f64.format.div r 4611686018427387904 = some (double.nearest false (8 * mg r) (-1074 + (ex r : Nat) - 4)) := by
    show ((double.read r).quotient 54 (double.read 4611686018427387904)).map double.write = _
    rw [read_pos r h, read_two, quot_two _ _ hlog]
    rfl
  rw [e]
  refine congrArg some ?_
  rw [nearest_exact false (8 * mg r) (-1074 + (ex r : Nat) - 4) s (ex r) 4 (by omega) hsl (by omega) ?_]
  · rfl
  · rw [vl, hmg.1, ← hmg.2, Nat.pow_succ]
    generalize 2 ^ ex s = t
    generalize mg r = u
    rw [show (2 : Nat) ^ 4 = 16 from rfl, Nat.mul_comm t 2, ← Nat.mul_assoc, Nat.mul_assoc u t 16, Nat.mul_comm t 16, ← Nat.mul_assoc, Nat.mul_comm 8 u, Nat.mul_assoc u 8 2]
/-- TWICE A NUMBER -/
theorem mul_two (r : Nat) (h0 : 0 < r) (h : r < irg - 4503599627370496) : ∃ s, FloatKind.f64.format.mul r 4611686018427387904 = some s ∧ r < s ∧ s < irg ∧ vl s = 2 * vl r := by
  have h' : r < irg := by omega
  obtain ⟨hm1, hm2, hm3, hm4⟩ := mg_bound r h'
  have hx : ∃ s, r < s ∧ s < irg ∧ vl s = 2 * vl r := by
    by_cases hr : r < 4503599627370496
    · refine ⟨2 * r, by omega, by unfold irg; omega, ?_⟩
      unfold vl mg ex
      rw [if_pos hr, if_pos hr]
      split
      · simp
      · have : 2 * r / 4503599627370496 = 1 := by omega
        rw [this]; simp; omega
    · refine ⟨r + 4503599627370496, by omega, by omega, ?_⟩
      have hs : mg (r + 4503599627370496) = mg r ∧ ex (r + 4503599627370496) = ex r + 1 := by
        unfold mg ex
        rw [if_neg (by omega), if_neg (by omega), if_neg (by omega), if_neg (by omega)]
        omega
      rw [vl, vl, hs.1, hs.2, Nat.pow_succ]
      generalize 2 ^ ex r = t
      rw [← Nat.mul_assoc, Nat.mul_comm]
  obtain ⟨s, hs1, hs2, hs3⟩ := hx
  refine ⟨s, ?_, hs1, hs2, hs3⟩
  show double.mul r 4611686018427387904 = _
  unfold Format.mul
  rw [read_pos r h', read_two]
  simp only [Datum.product, Option.map_some, Format.write]
  refine congrArg some ?_
  have key : mg r * 4503599627370496 * 2 ^ ex r = vl s * 2 ^ 51 := by
    rw [hs3, vl]
    have e51 : (2 : Nat) ^ 51 = 2251799813685248 := by decide
    rw [e51]
    generalize 2 ^ ex r = t
    have e : (4503599627370496 : Nat) = 2 * 2251799813685248 := by decide
    rw [e]
    generalize (2251799813685248 : Nat) = c
    generalize mg r = u
    ac_rfl
  exact nearest_exact false (mg r * 4503599627370496) (-1074 + (ex r : Int) + -51) s (ex r) 51 (by omega) hs2 (by omega) key

/-- 1074 and 2098, behind names: a power with so great an exponent is never reckoned out -/
def EE : Nat := 1074
theorem EE_eq : EE = 1074 := rfl
def FF : Nat := 2098
theorem FF_eq : FF = 2098 := rfl
/-- 2^1074, in units of which a whole number is counted -/
def UU : Nat := 2 ^ EE
theorem UU_pos : 0 < UU := Nat.two_pow_pos _
theorem UU_eq : UU = 2 ^ EE := rfl
theorem irg_pos : 0 < irg := by unfold irg; omega
/-- the rung of a whole number below 2^53 -/
def ir : Nat → Nat
  | 0 => 0
  | n + 1 => (1022 + (n + 1).log2) * 4503599627370496 + (n + 1) * 2 ^ (52 - (n + 1).log2)
theorem ir_zero : ir 0 = 0 := rfl
theorem ir_pos (n : Nat) (h : n ≠ 0) : ir n = (1022 + n.log2) * 4503599627370496 + n * 2 ^ (52 - n.log2) := by
  cases n with
  | zero => exact absurd rfl h
  | succ n => rfl
theorem ir_vl0 : ir 0 < irg ∧ vl (ir 0) = 0 * UU := by
  rw [ir_zero, Nat.zero_mul, vl_zero]
  exact ⟨irg_pos, rfl⟩
theorem ir_vl (n' : Nat) (h : n' < 9007199254740992) : ir n' < irg ∧ vl (ir n') = n' * UU := by
  rcases Nat.eq_zero_or_pos n' with h0 | h0
  · rw [h0]; exact ir_vl0
  · have h0 : n' ≠ 0 := by omega
    rw [ir_pos n' h0]
    have a := Nat.log2_self_le h0
    have b := @Nat.lt_log2_self n'
    have hl : n'.log2 ≤ 52 := by
      have c : 2 ^ n'.log2 < 2 ^ 53 := by
        have : (2 : Nat) ^ 53 = 9007199254740992 := by decide
        omega
      have := (Nat.pow_lt_pow_iff_right (by decide : 1 < 2)).1 c
      omega
    obtain ⟨j, hj⟩ : ∃ j, 52 = n'.log2 + j := ⟨52 - n'.log2, by omega⟩
    have ej : 52 - n'.log2 = j := by omega
    rw [ej]
    have m1 : 4503599627370496 ≤ n' * 2 ^ j := by
      have : 2 ^ n'.log2 * 2 ^ j = 4503599627370496 := by rw [← Nat.pow_add, ← hj]
      rw [← this]; exact Nat.mul_le_mul_right _ a
    have m2 : n' * 2 ^ j < 9007199254740992 := by
      have : 2 ^ (n'.log2 + 1) * 2 ^ j = 9007199254740992 := by rw [← Nat.pow_add, show n'.log2 + 1 + j = 53 by omega]
      rw [← this]; exact Nat.mul_lt_mul_of_pos_right b (Nat.two_pow_pos _)
    generalize hM : n' * 2 ^ j = M at *
    generalize hk : n'.log2 = k at *
    refine ⟨by unfold irg; omega, ?_⟩
    have e1 : mg ((1022 + k) * 4503599627370496 + M) = M := by unfold mg; rw [if_neg (by omega)]; omega
    have e2 : ex ((1022 + k) * 4503599627370496 + M) = 1022 + k := by unfold ex; rw [if_neg (by omega)]; omega
    rw [vl, e1, e2, ← hM, UU_eq, Nat.mul_assoc, ← Nat.pow_add]
    have hE := EE_eq
    congr 2
    omega
theorem ofInt_exact (n : Nat) (h : n < 9007199254740992) : floatOfInt .f64 (n : Int) = ir n := by
  show double.write (.number (decide ((n : Int) < 0)) (n : Int).natAbs 0) = _
  have e : decide ((n : Int) < 0) = false := by rw [decide_eq_false_iff_not]; omega
  rw [e, Int.natAbs_natCast]
  simp only [Format.write]
  by_cases h0 : n = 0
  · subst h0; rfl
  · obtain ⟨h1, h2⟩ := ir_vl n h
    have hp : 0 < ir n := by
      rcases Nat.eq_zero_or_pos (ir n) with h3 | h3
      · rw [h3, vl_zero] at h2
        have := Nat.mul_pos (show 0 < n by omega) UU_pos
        omega
      · exact h3
    rw [nearest_exact false n 0 (ir n) EE 0 hp h1 (by have := EE_eq; omega) (by rw [h2]; simp [UU_eq])]
    rfl
theorem toInt_exact (r : Nat) (h : r < irg) (hb : vl r / UU < 18446744073709551616) : floatToIntVal .f64 r .u64 = some ((vl r / UU : Nat) : Int) := by
  have hd : (FloatKind.f64.decode r).toInt .zero = some ((vl r / UU : Nat) : Int) := by
    show (double.read r).toInt .zero = _
    rw [read_pos r h]
    simp only [Datum.toInt, Datum.integral, signed]
    rw [cut_zero]
    simp only [Nat.shiftLeft_zero, Bool.false_eq_true, if_false]
    congr 2
    rw [vl, UU_eq, Nat.shiftLeft_eq]
    have hE := EE_eq
    rcases Nat.le_total EE (ex r) with hx | hx
    · have e1 : (-1074 + (ex r : Int)).toNat = ex r - EE := by omega
      have e2 : (-(-1074 + (ex r : Int))).toNat = 0 := by omega
      rw [e1, e2]
      have : 2 ^ ex r = 2 ^ (ex r - EE) * 2 ^ EE := by rw [← Nat.pow_add]; congr 1; omega
      rw [this, ← Nat.mul_assoc, Nat.mul_div_cancel _ (Nat.two_pow_pos _)]
      simp
    · have e1 : (-1074 + (ex r : Int)).toNat = 0 := by omega
      have e2 : (-(-1074 + (ex r : Int))).toNat = EE - ex r := by omega
      rw [e1, e2]
      have : 2 ^ EE = 2 ^ (EE - ex r) * 2 ^ ex r := by rw [← Nat.pow_add]; congr 1; omega
      rw [this, Nat.mul_div_mul_right _ _ (Nat.two_pow_pos _)]
      simp
  unfold floatToIntVal
  rw [hd]
  simp only
  rw [if_pos]
  have e1 : IntKind.u64.min = 0 := by decide
  have e2 : IntKind.u64.max = 18446744073709551615 := by decide
  rw [e1, e2]
  generalize vl r / UU = z at *
  omega
/-- numbers from 2^52 on are whole -/
theorem whole_of_ge (r : Nat) (h : r < irg) (hv : 4503599627370496 * UU ≤ vl r) : vl r % UU = 0 := by
  obtain ⟨hm1, hm2, hm3, hm4⟩ := mg_bound r h
  have hE := EE_eq
  have hx : EE ≤ ex r := by
    rcases Nat.lt_or_ge (ex r) EE with h1 | h1
    · exfalso
      have h2 : 2 ^ ex r * 2 ≤ UU := by rw [← Nat.pow_succ, UU_eq]; exact Nat.pow_le_pow_right (by decide) (by omega)
      have h3 : vl r < 9007199254740992 * 2 ^ ex r := Nat.mul_lt_mul_of_pos_right hm1 (Nat.two_pow_pos _)
      generalize 2 ^ ex r = t at *
      omega
    · exact h1
  rw [vl, UU_eq]
  have : 2 ^ ex r = 2 ^ (ex r - EE) * 2 ^ EE := by rw [← Nat.pow_add]; congr 1; omega
  rw [this, ← Nat.mul_assoc, Nat.mul_mod_left]
/-- what Rank gives is the rung -/
theorem rank_sub (m r : Nat) (hr : r < irg) (hm : m < 4503599627370496) (h : m = vl r) : m = r := by
  apply vl_inj
  rw [← h]
  unfold vl mg ex
  rw [if_pos hm, if_pos hm]; simp
theorem rank_norm (m a r : Nat) (h1 : 4503599627370496 ≤ m) (h2 : m < 9007199254740992) (h : m * 2 ^ a = vl r) : a * 4503599627370496 + m = r := by
  apply vl_inj
  rw [← h]
  have e1 : mg (a * 4503599627370496 + m) = m := by unfold mg; rw [if_neg (by omega)]; omega
  have e2 : ex (a * 4503599627370496 + m) = a := by unfold ex; rw [if_neg (by omega)]; omega
  rw [vl, e1, e2]
theorem sv_pos (r : Nat) (h : r ≤ irg) : sv r = (vl r : Int) ∧ nanB r = false ∧ rg r = r := by
  have h1 : rg r = r := by unfold rg irg at *; omega
  have h2 : ng r = false := by unfold ng irg at *; rw [beq_eq_false_iff_ne]; omega
  refine ⟨by unfold sv; rw [h1, h2]; rfl, ?_, h1⟩
  unfold nanB
  rw [h1]
  exact decide_eq_false (by omega)
theorem ord_pos (r s : Nat) (hr : r ≤ irg) (hs : s ≤ irg) : FloatKind.f64.format.order r s = some (compare (r : Int) (s : Int)) := by
  obtain ⟨h1, h2, h3⟩ := sv_pos r hr
  obtain ⟨k1, k2, k3⟩ := sv_pos s hs
  have : FloatKind.f64.format.order r s = some (compare (sv r) (sv s)) := order_any r s (by rw [h3]; exact hr) (by rw [k3]; exact hs)
  rw [this, h1, k1]
  congr 1
  rcases Nat.lt_trichotomy r s with h | h | h
  · have := vl_lt h; rw [icmp_lt (by omega), icmp_lt (by omega)]
  · subst h; simp
  · have := vl_lt h; rw [icmp_gt (by omega), icmp_gt (by omega)]
theorem ord_gt (r s : Nat) (hr : r ≤ irg) (hs : s ≤ irg) : (FloatKind.f64.format.order r s == some .gt) = decide (s < r) := by
  rw [ord_pos r s hr hs]
  rcases Nat.lt_trichotomy r s with h | h | h
  · rw [icmp_lt (by omega)]; simp; omega
  · subst h; simp
  · rw [icmp_gt (by omega)]; simp [h]
theorem ord_lt (r s : Nat) (hr : r ≤ irg) (hs : s ≤ irg) : (FloatKind.f64.format.order r s == some .lt) = decide (r < s) := by
  rw [ord_pos r s hr hs]
  rcases Nat.lt_trichotomy r s with h | h | h
  · rw [icmp_lt (by omega)]; simp [h]
  · subst h; simp
  · rw [icmp_gt (by omega)]; simp; omega
theorem ord_eq (r s : Nat) (hr : r ≤ irg) (hs : s ≤ irg) : (FloatKind.f64.format.order r s == some .eq) = decide (r = s) := by
  rw [ord_pos r s hr hs]
  rcases Nat.lt_trichotomy r s with h | h | h
  · rw [icmp_lt (by omega)]; simp; omega
  · subst h; simp
  · rw [icmp_gt (by omega)]; simp; omega
/-- 2^53 as a word -/
def c53 : Nat := 4845873199050653696
theorem c53_lt : c53 < irg := by unfold c53 irg; omega
theorem c53_vl : vl c53 = 9007199254740992 * UU := by
  have e1 : mg c53 = 4503599627370496 := by unfold mg c53; rw [if_neg (by omega)]
  have e2 : ex c53 = EE + 1 := by have hE := EE_eq; unfold ex c53; rw [if_neg (by omega)]; omega
  rw [vl, e1, e2, UU_eq, Nat.pow_succ, ← Nat.mul_assoc, Nat.mul_right_comm]
theorem vl_le_iff {r s : Nat} : vl r < vl s ↔ r < s := by
  constructor
  · intro h
    rcases Nat.lt_or_ge r s with h1 | h1
    · exact h1
    · rcases Nat.eq_or_lt_of_le h1 with h2 | h2
      · subst h2; omega
      · have := vl_lt h2; omega
  · exact vl_lt
theorem vl_pow (r : Nat) (h : r < irg) : vl r < 2 ^ FF := by
  have hF := FF_eq
  obtain ⟨h1, _, _, h4⟩ := mg_bound r h
  have h5 : vl r < 2 ^ 53 * 2 ^ ex r := Nat.mul_lt_mul_of_pos_right (by simpa using h1) (Nat.two_pow_pos _)
  rw [← Nat.pow_add] at h5
  exact Nat.lt_of_lt_of_le h5 (Nat.pow_le_pow_right (by decide) (by omega))
/-- where whole numbers are, the number is its whole part's -/
theorem ir_iff (r : Nat) (h : r < irg) (hb : vl r / UU < 9007199254740992) : (r = ir (vl r / UU)) ↔ vl r % UU = 0 := by
  obtain ⟨h1, h2⟩ := ir_vl (vl r / UU) hb
  have hd := Nat.div_add_mod (vl r) UU
  have hp := UU_pos
  constructor
  · intro e
    rw [← e, Nat.mul_comm] at h2
    omega
  · intro e
    apply vl_inj
    rw [h2, Nat.mul_comm]
    omega
end Go.Proofs.Ytpnolgghbenekaa
