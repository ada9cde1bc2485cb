/-
  PLAIN LEAN: the codes stand in the order of what they are codes of.
-/
import Derived.Test.YtlnjohbmdckgkaaFloPure
namespace Go.Proofs.Ytlnjohbmdckgkaa
set_option linter.unusedVariables false

theorem be_mod (k x : Nat) : be k (x % 256 ^ k) = be k x := by
  have h : ∀ j, j ≤ k → be j (x % 256 ^ k) = be j x := by
    intro j
    induction j with
    | zero => intro _; rfl
    | succ j ih =>
      intro hj
      rw [be, be, ih (by omega)]
      congr 1
      apply UInt8.toNat_inj.1
      rw [UInt8.toNat_ofNat', UInt8.toNat_ofNat']
      have e : 256 ^ k = 256 ^ j * 256 ^ (k - j) := by rw [← Nat.pow_add]; congr 1; omega
      rw [e, Nat.mod_mul_right_div_self]
      have e2 : 256 ^ (k - j) = 2 ^ 8 * 256 ^ (k - j - 1) := by
        obtain ⟨m, hm⟩ : ∃ m, k - j = m + 1 := ⟨k - j - 1, by omega⟩
        rw [hm, Nat.add_sub_cancel, Nat.pow_succ, Nat.mul_comm]
      rw [e2]
      exact Nat.mod_mul_right_mod _ _ _
  exact h k (Nat.le_refl _)
theorem u8of_lt {a b : Nat} (ha : a < 256) (hb : b < 256) : decide (UInt8.ofNat a < UInt8.ofNat b) = decide (a < b) := by
  rw [Bool.eq_iff_iff]; simp [UInt8.lt_iff_toNat_lt, UInt8.toNat_ofNat']; rw [Nat.mod_eq_of_lt ha, Nat.mod_eq_of_lt hb]
theorem u8of_eq {a b : Nat} (ha : a < 256) (hb : b < 256) : (UInt8.ofNat a = UInt8.ofNat b) ↔ a = b := by
  constructor
  · intro h
    have := congrArg UInt8.toNat h
    rw [UInt8.toNat_ofNat', UInt8.toNat_ofNat'] at this
    omega
  · intro h; rw [h]
theorem ltB_be (k x y : Nat) (hx : x < 256 ^ k) (hy : y < 256 ^ k) : ltB (be k x) (be k y) = decide (x < y) := by
  induction k generalizing x y with
  | zero => simp at hx hy; simp [be, ltB, hx, hy]
  | succ k ih =>
    have hp : 0 < 256 ^ k := Nat.pow_pos (by decide)
    have hx' : x / 256 ^ k < 256 := by rw [Nat.div_lt_iff_lt_mul hp]; rw [Nat.pow_succ, Nat.mul_comm] at hx; exact hx
    have hy' : y / 256 ^ k < 256 := by rw [Nat.div_lt_iff_lt_mul hp]; rw [Nat.pow_succ, Nat.mul_comm] at hy; exact hy
    rw [be, be, ltB]
    have ex := Nat.div_add_mod x (256 ^ k)
    have ey := Nat.div_add_mod y (256 ^ k)
    have mx := Nat.mod_lt x hp
    have my := Nat.mod_lt y hp
    by_cases e : x / 256 ^ k = y / 256 ^ k
    · rw [if_pos ((u8of_eq hx' hy').2 e), ← be_mod k x, ← be_mod k y, ih _ _ mx my]
      rw [Bool.eq_iff_iff]; simp only [decide_eq_true_eq]
      rw [e] at ex
      generalize 256 ^ k * (y / 256 ^ k) = t at *
      omega
    · rw [if_neg (fun h => e ((u8of_eq hx' hy').1 h)), u8of_lt hx' hy']
      rw [Bool.eq_iff_iff]; simp only [decide_eq_true_eq]
      constructor
      · intro h
        have : 256 ^ k * (x / 256 ^ k) + 256 ^ k ≤ 256 ^ k * (y / 256 ^ k) := by
          have := Nat.mul_le_mul_left (256 ^ k) (show x / 256 ^ k + 1 ≤ y / 256 ^ k by omega)
          rwa [Nat.mul_add, Nat.mul_one] at this
        omega
      · intro h
        rcases Nat.lt_or_gt_of_ne e with h1 | h1
        · exact h1
        · have : 256 ^ k * (y / 256 ^ k) + 256 ^ k ≤ 256 ^ k * (x / 256 ^ k) := by
            have := Nat.mul_le_mul_left (256 ^ k) (show y / 256 ^ k + 1 ≤ x / 256 ^ k by omega)
            rwa [Nat.mul_add, Nat.mul_one] at this
          omega
theorem wd_mono {x y : Nat} (hx : x < 18446744073709551616) (hy : y < 18446744073709551616) (h : wd x < wd y) : x < y := by
  have h1 := wd_lt x hx
  have h2 := wd_ge y (by rcases Nat.eq_zero_or_pos y with e | e; (rw [e, wd_zero] at h; omega); exact e) hy
  have h3 : 256 ^ wd x ≤ 256 ^ (wd y - 1) := Nat.pow_le_pow_right (by decide) (by omega)
  omega
theorem ltB_encU (x y : Nat) (hx : x < 18446744073709551616) (hy : y < 18446744073709551616) : ltB (encU x) (encU y) = decide (x < y) := by
  have h1 := wd_le x
  have h2 := wd_le y
  unfold encU
  rw [ltB]
  by_cases e : wd x = wd y
  · rw [if_pos ((u8of_eq (by omega) (by omega)).2 e)]
    have hx' := wd_lt x hx
    rw [e] at hx' ⊢
    exact ltB_be _ _ _ hx' (wd_lt y hy)
  · rw [if_neg (fun h => e ((u8of_eq (by omega) (by omega)).1 h)), u8of_lt (by omega) (by omega)]
    rw [Bool.eq_iff_iff]; simp only [decide_eq_true_eq]
    constructor
    · exact wd_mono hx hy
    · intro h
      rcases Nat.lt_or_gt_of_ne e with h1 | h1
      · exact h1
      · have := wd_mono hy hx h1; omega
theorem ltB_flip (l m : List UInt8) (h : l.length = m.length) : ltB (l.map (255 - ·)) (m.map (255 - ·)) = ltB m l := by
  induction l generalizing m with
  | nil => cases m with
    | nil => rfl
    | cons b m => simp at h
  | cons a l ih =>
    cases m with
    | nil => simp at h
    | cons b m =>
      simp only [List.map_cons, ltB]
      have ha := a.toNat_lt
      have hb := b.toNat_lt
      have sa : (255 - a).toNat = 255 - a.toNat := by rw [UInt8.toNat_sub_of_le _ _ (by rw [UInt8.le_iff_toNat_le]; simp; omega)]; rfl
      have sb : (255 - b).toNat = 255 - b.toNat := by rw [UInt8.toNat_sub_of_le _ _ (by rw [UInt8.le_iff_toNat_le]; simp; omega)]; rfl
      by_cases e : a = b
      · subst e; simp; exact ih m (by simpa using h)
      · have e1 : ¬ (255 - a = 255 - b) := fun h => e (UInt8.toNat_inj.1 (by have := congrArg UInt8.toNat h; omega))
        have e2 : ¬ b = a := fun h => e h.symm
        rw [if_neg e1, if_neg e2]
        rw [Bool.eq_iff_iff]; simp [UInt8.lt_iff_toNat_lt]; omega
theorem ltB_encI (x y : Int) (hx1 : -9223372036854775808 ≤ x) (hx2 : x ≤ 9223372036854775807) (hy1 : -9223372036854775808 ≤ y) (hy2 : y ≤ 9223372036854775807) : ltB (encI x) (encI y) = decide (x < y) := by
  unfold encI
  by_cases px : 0 ≤ x
  · by_cases py : 0 ≤ y
    · rw [if_pos px, if_pos py, ltB]
      have h1 := wd_le x.toNat
      have h2 := wd_le y.toNat
      have hu := ltB_encU x.toNat y.toNat (by omega) (by omega)
      unfold encU at hu
      rw [ltB] at hu
      have e : decide (x < y) = decide (x.toNat < y.toNat) := by rw [Bool.eq_iff_iff]; simp; omega
      rw [e, ← hu]
      by_cases e : wd x.toNat = wd y.toNat
      · rw [if_pos ((u8of_eq (by omega) (by omega)).2 (by omega)), if_pos ((u8of_eq (by omega) (by omega)).2 e)]
      · rw [if_neg (fun h => e (by have := (u8of_eq (by omega) (by omega)).1 h; omega)), if_neg (fun h => e ((u8of_eq (by omega) (by omega)).1 h)), u8of_lt (by omega) (by omega), u8of_lt (by omega) (by omega)]
        rw [Bool.eq_iff_iff]; simp
    · rw [if_pos px, if_neg py, ltB]
      have h1 := wd_le x.toNat
      have h2 := wd_le (-(y + 1)).toNat
      rw [if_neg (fun h => by have := (u8of_eq (by omega) (by omega)).1 h; omega), u8of_lt (by omega) (by omega)]
      rw [Bool.eq_iff_iff]; simp; omega
  · by_cases py : 0 ≤ y
    · rw [if_neg px, if_pos py, ltB]
      have h1 := wd_le y.toNat
      have h2 := wd_le (-(x + 1)).toNat
      rw [if_neg (fun h => by have := (u8of_eq (by omega) (by omega)).1 h; omega), u8of_lt (by omega) (by omega)]
      rw [Bool.eq_iff_iff]; simp; omega
    · rw [if_neg px, if_neg py, ltB]
      generalize hp : (-(x + 1)).toNat = p
      generalize hq : (-(y + 1)).toNat = q
      have h1 := wd_le p
      have h2 := wd_le q
      have e : decide (x < y) = decide (q < p) := by rw [Bool.eq_iff_iff]; simp; omega
      have hu := ltB_encU q p (by omega) (by omega)
      unfold encU at hu
      rw [ltB] at hu
      rw [e, ← hu, be_flip _ _ h1 (by omega), be_flip _ _ h2 (by omega)]
      by_cases e : wd p = wd q
      · rw [if_pos ((u8of_eq (by omega) (by omega)).2 (by omega)), if_pos ((u8of_eq (by omega) (by omega)).2 e.symm), ltB_flip _ _ (by rw [be_length, be_length, e])]
      · rw [if_neg (fun h => e (by have := (u8of_eq (by omega) (by omega)).1 h; omega)), if_neg (fun h => e ((u8of_eq (by omega) (by omega)).1 h).symm), u8of_lt (by omega) (by omega), u8of_lt (by omega) (by omega)]
        rw [Bool.eq_iff_iff]; simp; omega
theorem ltB_encT (l m : List UInt8) : ltB (encT l) (encT m) = ltB l m := by
  induction l generalizing m with
  | nil =>
    cases m with
    | nil => simp [encT, ltB]
    | cons b m =>
      simp only [encT]
      by_cases hb : b = 0
      · rw [if_pos hb]; simp [ltB]
      · rw [if_neg hb]
        have : ¬ (0 = b) := fun h => hb h.symm
        simp only [ltB, if_neg this]
        have h0 : b.toNat ≠ 0 := fun h => hb (UInt8.toNat_inj.1 h)
        simp [UInt8.lt_iff_toNat_lt]; omega
  | cons a l ih =>
    cases m with
    | nil =>
      simp only [encT]
      by_cases ha : a = 0
      · rw [if_pos ha]; simp [ltB]
      · rw [if_neg ha]
        simp only [ltB, if_neg ha]
        simp [UInt8.lt_iff_toNat_lt]
    | cons b m =>
      simp only [encT]
      by_cases ha : a = 0 <;> by_cases hb : b = 0
      · rw [if_pos ha, if_pos hb, ha, hb]; simp [ltB, ih m]
      · have : ¬ (0 = b) := fun h => hb h.symm
        rw [if_pos ha, if_neg hb, ha]; simp [ltB, this]
      · rw [if_neg ha, if_pos hb, hb]; simp [ltB, ha]
      · rw [if_neg ha, if_neg hb]; simp only [ltB, ih m]
theorem ltB_bytesLess (l m : List UInt8) : Op.bytesLess l m = ltB l m := by
  induction l generalizing m with
  | nil => cases m <;> rfl
  | cons a l ih =>
    cases m with
    | nil => rfl
    | cons b m =>
      simp only [ltB, Op.bytesLess, ih m]
      by_cases e : a = b
      · subst e; simp
      · simp [e]
end Go.Proofs.Ytlnjohbmdckgkaa
