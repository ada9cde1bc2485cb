/-
  PLAIN LEAN: what is read of bytes (layer 7): numbers, numbers with a sign, texts; what was put is got.
-/
import Derived.Test.YtpnolgghbenekaaCodePure
namespace Go.Proofs.Ytpnolgghbenekaa
set_option linter.unusedVariables false

theorem snoc_ind {α : Type} {p : List α → Prop} (h0 : p []) (h1 : ∀ l b, p l → p (l ++ [b])) (l : List α) : p l := by
  have h : ∀ r : List α, p r.reverse := by
    intro r
    induction r with
    | nil => exact h0
    | cons b r ih => rw [List.reverse_cons]; exact h1 _ _ ih
  have := h l.reverse
  rwa [List.reverse_reverse] at this
/-- the number that bytes are, the highest first -/
def bv (l : List UInt8) : Nat := l.foldl (fun x b => x * 256 + b.toNat) 0
theorem bv_nil : bv [] = 0 := rfl
theorem bv_snoc (l : List UInt8) (b : UInt8) : bv (l ++ [b]) = bv l * 256 + b.toNat := by simp [bv]
theorem bv_lt (l : List UInt8) : bv l < 256 ^ l.length := by
  refine snoc_ind (p := fun l => bv l < 256 ^ l.length) (by simp [bv]) (fun l b ih => ?_) l
  rw [bv_snoc, List.length_append, List.length_singleton, Nat.pow_succ]
  have := b.toNat_lt
  omega
theorem bv_take (l : List UInt8) (i : Nat) (h : i < l.length) : bv (l.take (i + 1)) = bv (l.take i) * 256 + l[i].toNat := by
  rw [List.take_succ_eq_append_getElem h, bv_snoc]
theorem bv_be (k x : Nat) : bv (be k x) = x % 256 ^ k := by
  induction k generalizing x with
  | zero => simp [be, bv, Nat.mod_one]
  | succ k ih =>
    have e : x % 256 ^ (k + 1) = x % 256 + 256 * (x / 256 % 256 ^ k) := by
      rw [Nat.pow_succ, Nat.mul_comm (256 ^ k) 256, Nat.mod_mul]
    rw [be_snoc, bv_snoc, ih, e, UInt8.toNat_ofNat']
    have : x % 2 ^ 8 = x % 256 := rfl
    omega
theorem be_bv (l : List UInt8) : be l.length (bv l) = l := by
  refine snoc_ind (p := fun l => be l.length (bv l) = l) rfl (fun l b ih => ?_) l
  have hb := b.toNat_lt
  rw [List.length_append, List.length_singleton, be_snoc, bv_snoc]
  have e1 : (bv l * 256 + b.toNat) / 256 = bv l := by omega
  rw [e1, ih]
  congr 2
  apply UInt8.toNat_inj.1
  rw [UInt8.toNat_ofNat']
  omega

/-- n bytes that have no nought ahead: the number, and the error -/
def numB (t : List UInt8) (n : Nat) : Nat × Nat :=
  if n = 0 then (0, 0) else
  match t with
  | [] => (0, 5)
  | c :: _ => if c = 0 then (0, 6) else if t.length < n then (0, 5) else (bv (t.take n), 0)
theorem numB_ok (t : List UInt8) (n : Nat) (h : n ≤ t.length) (hz : 0 < n → t.headD 0 ≠ 0) : numB t n = (bv (t.take n), 0) := by
  unfold numB
  by_cases h0 : n = 0
  · subst h0; rfl
  · rw [if_neg h0]
    cases t with
    | nil => simp at h; omega
    | cons c t =>
      have hc : c ≠ 0 := hz (by omega)
      have hl : ¬ (c :: t).length < n := by omega
      simp only [if_neg hc, if_neg hl]
theorem numB_short (t : List UInt8) (n : Nat) (h : t.length < n) (hz : 0 < t.length → t.headD 0 ≠ 0) : numB t n = (0, 5) := by
  unfold numB
  rw [if_neg (by omega)]
  cases t with
  | nil => rfl
  | cons c t =>
    have hc : c ≠ 0 := hz (by simp)
    simp only [if_neg hc, if_pos h]
theorem numB_form (t : List UInt8) (n : Nat) (h0 : 0 < n) (h : 0 < t.length) (hz : t[0] = 0) : numB t n = (0, 6) := by
  unfold numB
  rw [if_neg (by omega)]
  cases t with
  | nil => simp at h
  | cons c t =>
    have hc : c = 0 := hz
    simp only [if_pos hc]
theorem headD_get (t : List UInt8) (h : 0 < t.length) : t.headD 0 = t[0] := by
  cases t with
  | nil => simp at h
  | cons c t => rfl
theorem or_byte (X b : Nat) (hX : X < 72057594037927936) (hb : b < 256) : bits .or .u64 ((X : Int) * 256) (b : Int) = ((X * 256 + b : Nat) : Int) := by
  have e : ((X : Int) * 256) = ((X * 256 : Nat) : Int) := by omega
  rw [e, u64_or_nat _ _ (by omega) (by omega)]
  congr 1
  have := Nat.shiftLeft_add_eq_or_of_lt (show b < 2 ^ 8 from hb) X
  rw [Nat.shiftLeft_eq] at this
  exact this.symm
theorem or_byte0 (b : Nat) (hb : b < 256) : bits .or .u64 0 (b : Int) = (b : Int) := by
  have := or_byte 0 b (by omega) hb
  simpa using this
def getU (l : List UInt8) : Nat × Nat × Nat :=
  match l with
  | [] => (0, 0, 5)
  | c :: t => if 8 < c.toNat then (0, 0, 6) else
    if (numB t c.toNat).2 = 0 then ((numB t c.toNat).1, c.toNat + 1, 0) else (0, 0, (numB t c.toNat).2)
/-- the number of bytes that a first byte asks for, and whether it is below 0 -/
def sgn (c : UInt8) : Nat × Bool := if c.toNat < 9 then (8 - c.toNat, true) else (c.toNat - 9, false)
def prt (c : UInt8) (t : List UInt8) : List UInt8 := if (sgn c).2 then (t.take (sgn c).1).map (255 - ·) else t.take (sgn c).1
def getI (l : List UInt8) : Int × Nat × Nat :=
  match l with
  | [] => (0, 0, 5)
  | c :: t => if 8 < (sgn c).1 then (0, 0, 6) else
    if (sgn c).1 = 8 ∧ 127 < ((prt c t).headD 0).toNat then (0, 0, 6) else
    if (numB (prt c t) (sgn c).1).2 = 0 then (if (sgn c).2 then -((numB (prt c t) (sgn c).1).1 : Int) - 1 else (numB (prt c t) (sgn c).1).1, (sgn c).1 + 1, 0)
    else (0, 0, (numB (prt c t) (sgn c).1).2)
/-- a text's bytes behind what was read: the text, how many bytes, the error -/
def getT : List UInt8 → List UInt8 × Nat × Nat
  | [] => ([], 0, 5)
  | c :: t => if c ≠ 0 then
      (if (getT t).2.2 = 0 then (c :: (getT t).1, (getT t).2.1 + 1, 0) else ([], 0, (getT t).2.2))
    else match t with
      | [] => ([], 0, 5)
      | d :: u => if d = 0 then ([], 2, 0) else if d = 1 then
          (if (getT u).2.2 = 0 then (0 :: (getT u).1, (getT u).2.1 + 2, 0) else ([], 0, (getT u).2.2))
        else ([], 0, 6)
theorem numB_lt (t : List UInt8) (n : Nat) (hn : n ≤ 8) : (numB t n).1 < 18446744073709551616 := by
  have h1 := bv_lt (t.take n)
  have h2 : 256 ^ (t.take n).length ≤ 256 ^ 8 := Nat.pow_le_pow_right (by decide) (by rw [List.length_take]; omega)
  have h3 : (256 : Nat) ^ 8 = 18446744073709551616 := by decide
  unfold numB
  split
  · simp
  · split
    · simp
    · split
      · simp
      · split
        · simp
        · simp only; omega
theorem numB_err (t : List UInt8) (n : Nat) : (numB t n).2 = 0 ∨ (numB t n).1 = 0 := by
  unfold numB
  split
  · simp
  · split
    · simp
    · split
      · simp
      · split <;> simp
theorem getT_ne (c : UInt8) (t : List UInt8) (h : c ≠ 0) : getT (c :: t) = if (getT t).2.2 = 0 then (c :: (getT t).1, (getT t).2.1 + 1, 0) else ([], 0, (getT t).2.2) := by
  cases t <;> simp [getT, h]
/-- what is put is got -/
theorem numB_be (x : Nat) (hx : x < 18446744073709551616) (m : List UInt8) : numB (be (wd x) x ++ m) (wd x) = (x, 0) := by
  unfold numB
  by_cases h0 : x = 0
  · subst h0; simp [wd_zero]
  · have hp : 0 < x := by omega
    have hw := wd_step x hx hp
    rw [if_neg (by omega)]
    have hl := wd_lt x hx
    have hg := wd_ge x hp hx
    have e : be (wd x) x = UInt8.ofNat (x / 256 ^ (wd x - 1)) :: be (wd x - 1) x := by
      conv => lhs; rw [show wd x = (wd x - 1) + 1 by omega, be]
    have hd : x / 256 ^ (wd x - 1) < 256 := by
      rw [Nat.div_lt_iff_lt_mul (Nat.pow_pos (by decide))]
      have : (256 : Nat) ^ wd x = 256 ^ (wd x - 1) * 256 := by rw [← Nat.pow_succ]; congr 1; omega
      rw [Nat.mul_comm]; omega
    have h1 : 1 ≤ x / 256 ^ (wd x - 1) := by rw [Nat.le_div_iff_mul_le (Nat.pow_pos (by decide))]; omega
    have hne : UInt8.ofNat (x / 256 ^ (wd x - 1)) ≠ 0 := by
      intro h
      have := congrArg UInt8.toNat h
      rw [UInt8.toNat_ofNat'] at this
      simp at this
      omega
    have hlen : ¬ (be (wd x) x ++ m).length < wd x := by rw [List.length_append, be_length]; omega
    have ht : (be (wd x) x ++ m).take (wd x) = be (wd x) x := by
      have := List.take_left (l₁ := be (wd x) x) (l₂ := m)
      rwa [be_length] at this
    have hm : x % 256 ^ wd x = x := Nat.mod_eq_of_lt hl
    generalize hz : be (wd x) x ++ m = z at *
    cases z with
    | nil => rw [e] at hz; simp at hz
    | cons c z =>
      have hc : c ≠ 0 := by
        rw [e] at hz
        simp only [List.cons_append, List.cons.injEq] at hz
        rw [← hz.1]; exact hne
      simp only [if_neg hc, if_neg hlen]
      rw [ht, bv_be, hm]
theorem getU_enc (x : Nat) (hx : x < 18446744073709551616) (m : List UInt8) : getU (encU x ++ m) = (x, wd x + 1, 0) := by
  have hw := wd_le x
  unfold encU getU
  simp only [List.cons_append]
  have e : (UInt8.ofNat (wd x)).toNat = wd x := by rw [UInt8.toNat_ofNat']; omega
  rw [e, if_neg (by omega), numB_be x hx m]
  simp
theorem getI_enc (z : Int) (h1 : -9223372036854775808 ≤ z) (h2 : z ≤ 9223372036854775807) (m : List UInt8) : getI (encI z ++ m) = (z, (encI z).length, 0) := by
  have top : ∀ y, y < 9223372036854775808 → wd y = 8 → ((be 8 y).headD 0).toNat ≤ 127 := by
    intro y hy h8
    simp only [be, List.headD_cons, UInt8.toNat_ofNat']
    omega
  unfold encI
  by_cases hz : 0 ≤ z
  · rw [if_pos hz]
    generalize hx : z.toNat = x
    have hw := wd_le x
    have e : (UInt8.ofNat (9 + wd x)).toNat = 9 + wd x := by rw [UInt8.toNat_ofNat']; omega
    have es : sgn (UInt8.ofNat (9 + wd x)) = (wd x, false) := by unfold sgn; rw [e, if_neg (by omega)]; simp
    have ht : (be (wd x) x ++ m).take (wd x) = be (wd x) x := by
      have := List.take_left (l₁ := be (wd x) x) (l₂ := m)
      rwa [be_length] at this
    have ep : prt (UInt8.ofNat (9 + wd x)) (be (wd x) x ++ m) = be (wd x) x := by unfold prt; rw [es]; simpa using ht
    unfold getI
    simp only [List.cons_append, es, ep]
    rw [if_neg (by omega), if_neg (by
      rintro ⟨h8, hh⟩
      have := top x (by omega) h8
      rw [h8] at hh; omega)]
    have hn := numB_be x (by omega) []
    rw [List.append_nil] at hn
    rw [hn]
    simp [be_length]
    omega
  · rw [if_neg hz]
    generalize hx : (-(z + 1)).toNat = x
    have hw := wd_le x
    have e : (UInt8.ofNat (8 - wd x)).toNat = 8 - wd x := by rw [UInt8.toNat_ofNat']; omega
    have es : sgn (UInt8.ofNat (8 - wd x)) = (wd x, true) := by unfold sgn; rw [e, if_pos (by omega)]; simp; omega
    have hl : (be (wd x) (18446744073709551615 - x)).length = wd x := be_length _ _
    have ht : (be (wd x) (18446744073709551615 - x) ++ m).take (wd x) = be (wd x) (18446744073709551615 - x) := by
      have := List.take_left (l₁ := be (wd x) (18446744073709551615 - x)) (l₂ := m)
      rwa [be_length] at this
    have hf : (be (wd x) (18446744073709551615 - x)).map (255 - ·) = be (wd x) x := by
      rw [← be_flip _ _ hw (by omega)]; congr 1; omega
    have ep : prt (UInt8.ofNat (8 - wd x)) (be (wd x) (18446744073709551615 - x) ++ m) = be (wd x) x := by unfold prt; rw [es]; simp only [if_true]; rw [ht, hf]
    unfold getI
    simp only [List.cons_append, es, ep]
    rw [if_neg (by omega), if_neg (by
      rintro ⟨h8, hh⟩
      have := top x (by omega) h8
      rw [h8] at hh; omega)]
    have hn := numB_be x (by omega) []
    rw [List.append_nil] at hn
    rw [hn]
    simp [be_length]
    omega
theorem getT_enc (l m : List UInt8) : getT (encT l ++ m) = (l, (encT l).length, 0) := by
  induction l with
  | nil => simp [encT, getT]
  | cons b l ih =>
    simp only [encT]
    split
    · rename_i h; subst h; simp [getT, ih]
    · rename_i h; rw [List.cons_append, getT_ne _ _ h, ih]; simp
/-- what was read, ahead of what is read behind it -/
def comb (acc : List UInt8) (p : Nat) (r : List UInt8 × Nat × Nat) : List UInt8 × Nat × Nat := if r.2.2 = 0 then (acc ++ r.1, p + r.2.1, 0) else ([], 0, r.2.2)
theorem getT_err (l : List UInt8) : (getT l).2.2 ≠ 0 → (getT l).1 = [] ∧ (getT l).2.1 = 0 := by
  have h : ∀ n l, l.length ≤ n → (getT l).2.2 ≠ 0 → (getT l).1 = [] ∧ (getT l).2.1 = 0 := by
    intro n
    induction n with
    | zero => intro l hl; have : l = [] := List.eq_nil_of_length_eq_zero (by omega); subst this; simp [getT]
    | succ n ih =>
      intro l hl
      cases l with
      | nil => simp [getT]
      | cons c t =>
        by_cases hc : c = 0
        · subst hc
          cases t with
          | nil => simp [getT]
          | cons d u =>
            by_cases hd : d = 0
            · subst hd; simp [getT]
            · by_cases hd1 : d = 1
              · subst hd1
                simp only [getT]
                by_cases he : (getT u).2.2 = 0 <;> simp [he]
              · simp [getT, hd, hd1]
        · rw [getT_ne c t hc]
          by_cases he : (getT t).2.2 = 0 <;> simp [he]
  exact h l.length l (Nat.le_refl _)
theorem comb_zero (l : List UInt8) : getT l = comb [] 0 (getT l) := by
  unfold comb
  by_cases h : (getT l).2.2 = 0
  · rw [if_pos h]
    generalize getT l = r at *
    obtain ⟨a, b, e⟩ := r
    simp at h
    subst h
    simp
  · rw [if_neg h]
    obtain ⟨h1, h2⟩ := getT_err l h
    rw [← h1, ← h2]
theorem comb_step (acc : List UInt8) (p : Nat) (c : UInt8) (t : List UInt8) (h : c ≠ 0) : comb acc p (getT (c :: t)) = comb (acc ++ [c]) (p + 1) (getT t) := by
  rw [getT_ne c t h]
  unfold comb
  by_cases he : (getT t).2.2 = 0
  · simp [he]; omega
  · simp [he]
theorem comb_one (acc : List UInt8) (p : Nat) (u : List UInt8) : comb acc p (getT (0 :: 1 :: u)) = comb (acc ++ [0]) (p + 2) (getT u) := by
  have e : getT (0 :: 1 :: u) = if (getT u).2.2 = 0 then (0 :: (getT u).1, (getT u).2.1 + 2, 0) else ([], 0, (getT u).2.2) := by simp [getT]
  rw [e]
  unfold comb
  by_cases he : (getT u).2.2 = 0
  · simp [he]; omega
  · simp [he]
theorem comb_end (acc : List UInt8) (p : Nat) (u : List UInt8) : comb acc p (getT (0 :: 0 :: u)) = (acc, p + 2, 0) := by simp [getT, comb]
theorem comb_form (acc : List UInt8) (p : Nat) (d : UInt8) (u : List UInt8) (h0 : d ≠ 0) (h1 : d ≠ 1) : comb acc p (getT (0 :: d :: u)) = ([], 0, 6) := by simp [getT, comb, h0, h1]
theorem comb_short (acc : List UInt8) (p : Nat) : comb acc p (getT []) = ([], 0, 5) := by simp [getT, comb]
theorem comb_short1 (acc : List UInt8) (p : Nat) : comb acc p (getT [0]) = ([], 0, 5) := by simp [getT, comb]
theorem numB_lt63 (t : List UInt8) (n : Nat) (hn : n ≤ 8) (h : n = 8 → (t.headD 0).toNat ≤ 127) : (numB t n).1 < 9223372036854775808 := by
  unfold numB
  split
  · simp
  · split
    · simp
    · rename_i c u
      split
      · simp
      · split
        · simp
        · rename_i hl
          simp only
          have h1 := bv_lt ((c :: u).take n)
          have h3 : ((c :: u).take n).length = n := by rw [List.length_take]; omega
          rw [h3] at h1
          by_cases h8 : n = 8
          · subst h8
            have hc : c.toNat ≤ 127 := h rfl
            have e : (c :: u).take 8 = c :: u.take 7 := rfl
            have hb : bv (c :: u.take 7) = c.toNat * 256 ^ (u.take 7).length + bv (u.take 7) := by
              have := be_bv (c :: u.take 7)
              have hlen : (u.take 7).length = 7 := by rw [List.length_take]; simp at hl; omega
              have key : ∀ (l : List UInt8) (x : Nat), l.foldl (fun x b => x * 256 + b.toNat) x = x * 256 ^ l.length + bv l := by
                intro l
                induction l with
                | nil => intro x; simp [bv]
                | cons d l ih =>
                  intro x
                  rw [List.foldl_cons, ih]
                  have := ih (0 * 256 + d.toNat)
                  rw [show bv (d :: l) = l.foldl (fun x b => x * 256 + b.toNat) (0 * 256 + d.toNat) from rfl, this]
                  rw [List.length_cons, Nat.pow_succ, Nat.zero_mul, Nat.zero_add, Nat.add_mul, Nat.mul_assoc, Nat.mul_comm 256, Nat.add_assoc]
              show (u.take 7).foldl (fun x b => x * 256 + b.toNat) (0 * 256 + c.toNat) = _
              rw [key, Nat.zero_mul, Nat.zero_add]
            rw [e, hb]
            have hlen : (u.take 7).length = 7 := by rw [List.length_take]; simp at hl; omega
            have h4 := bv_lt (u.take 7)
            rw [hlen] at h4 ⊢
            have : (256 : Nat) ^ 7 = 72057594037927936 := by decide
            omega
          · have h5 : 256 ^ n ≤ 256 ^ 7 := Nat.pow_le_pow_right (by decide) (by omega)
            have : (256 : Nat) ^ 7 = 72057594037927936 := by decide
            omega
theorem numB_take (t : List UInt8) (n : Nat) : numB (t.take n) n = numB t n := by
  unfold numB
  by_cases h0 : n = 0
  · rw [if_pos h0, if_pos h0]
  · rw [if_neg h0, if_neg h0]
    cases t with
    | nil => simp
    | cons c t =>
      obtain ⟨m, rfl⟩ : ∃ m, n = m + 1 := ⟨n - 1, by omega⟩
      simp only [List.take_succ_cons]
      by_cases hc : c = 0
      · simp [hc]
      · simp only [if_neg hc, List.length_cons, List.length_take]
        by_cases hl : t.length + 1 < m + 1
        · rw [if_pos (by omega), if_pos hl]
        · rw [if_neg (by omega), if_neg hl, List.take_take, Nat.min_self]
end Go.Proofs.Ytpnolgghbenekaa
