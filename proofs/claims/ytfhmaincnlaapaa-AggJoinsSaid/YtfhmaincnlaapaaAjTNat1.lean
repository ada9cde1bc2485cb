/-
  nat.size, Trim, Of, Cmp.
  NUMBERS OF WORDS OF 32 BITS: the same laws as those of digits (printed by gen_wordmath.py).
-/
import Derived.Test.YtfhmaincnlaapaaAjNumMath
namespace Go.Proofs.Ytfhmaincnlaapaa
open Go.ChangeShapes Go.WideShapes Go.ChangeAt Go.RowKit
set_option linter.unusedVariables false
/-- the number of a list of digits, the lowest one first -/
def vw : List Nat → Nat
  | [] => 0
  | d :: l => d + 4294967296 * vw l
theorem vd_consW (d : Nat) (l : List Nat) : vw (d :: l) = d + 4294967296 * vw l := rfl
/-- a number's digits, no noughts at the end -/
def dgw (n : Nat) : List Nat := if h : n = 0 then [] else n % 4294967296 :: dgw (n / 4294967296)
termination_by n
decreasing_by exact Nat.div_lt_self (by omega) (by decide)
theorem dig_zeroW : dgw 0 = [] := by rw [dgw]; simp
theorem dig_posW {n : Nat} (h : n ≠ 0) : dgw n = n % 4294967296 :: dgw (n / 4294967296) := by rw [dgw]; simp [h]
theorem vd_digW (n : Nat) : vw (dgw n) = n := by
  induction n using Nat.strongRecOn with
  | ind n ih =>
    by_cases h : n = 0
    · subst h; rw [dig_zeroW]; rfl
    · rw [dig_posW h]
      unfold vw
      rw [ih (n / 4294967296) (by omega)]
      omega
theorem dig_ltW (n : Nat) : ∀ d ∈ dgw n, d < 4294967296 := by
  induction n using Nat.strongRecOn with
  | ind n ih =>
    by_cases h : n = 0
    · subst h; rw [dig_zeroW]; intro d hd; cases hd
    · rw [dig_posW h]
      intro d hd
      rcases List.mem_cons.1 hd with rfl | hd
      · omega
      · exact ih (n / 4294967296) (by omega) d hd
theorem vd_appW (l m : List Nat) : vw (l ++ m) = vw l + 4294967296 ^ l.length * vw m := by
  induction l with
  | nil => simp [vw]
  | cons d l ih =>
    rw [List.cons_append, vd_consW, vd_consW, ih, List.length_cons, Nat.pow_succ, Nat.mul_add, ← Nat.mul_assoc, Nat.mul_comm 4294967296 (4294967296 ^ l.length)]
    omega
theorem vd_ltW (l : List Nat) (h : ∀ d ∈ l, d < 4294967296) : vw l < 4294967296 ^ l.length := by
  induction l with
  | nil => simp [vw]
  | cons d l ih =>
    unfold vw
    have h1 := h d (by simp)
    have h2 := ih (fun x hx => h x (by simp [hx]))
    rw [List.length_cons, Nat.pow_succ]
    omega
theorem tsz_zeroW (l : List Nat) : tsz l = 0 ↔ vw l = 0 := by
  induction l with
  | nil => simp [tsz, vw]
  | cons d l ih =>
    unfold tsz vw
    split
    · rename_i h
      have := ih.1 h
      split <;> omega
    · rename_i h
      have : vw l ≠ 0 := fun e => h (ih.2 e)
      omega
theorem take_tszW (l : List Nat) (h : ∀ d ∈ l, d < 4294967296) : l.take (tsz l) = dgw (vw l) := by
  induction l with
  | nil => simp [tsz, vw, dig_zeroW]
  | cons d l ih =>
    have hd := h d (by simp)
    have hl := ih (fun x hx => h x (by simp [hx]))
    unfold tsz vw
    split
    · rename_i h0
      have hz := (tsz_zeroW l).1 h0
      split
      · rename_i hd0; subst hd0; rw [hz]; simp [dig_zeroW]
      · rename_i hd0
        rw [hz, Nat.mul_zero, Nat.add_zero, dig_posW hd0, Nat.mod_eq_of_lt hd, Nat.div_eq_of_lt hd, dig_zeroW]; simp
    · rename_i h0
      have hz : vw l ≠ 0 := fun e => h0 ((tsz_zeroW l).2 e)
      have e1 : (d + 4294967296 * vw l) % 4294967296 = d := by omega
      have e2 : (d + 4294967296 * vw l) / 4294967296 = vw l := by omega
      rw [List.take_succ_cons, hl, dig_posW (n := d + 4294967296 * vw l) (by omega), e1, e2]
theorem vd_powW (l : List Nat) (k : Nat) : vw (List.replicate k 0 ++ l) = 4294967296 ^ k * vw l := by
  rw [vd_appW, List.length_replicate]
  have : vw (List.replicate k 0) = 0 := by
    induction k with
    | zero => rfl
    | succ k ih => rw [List.replicate_succ]; unfold vw; rw [ih]
  omega
theorem dig_lenW {n k : Nat} (h : n < 4294967296 ^ k) : (dgw n).length ≤ k := by
  induction k generalizing n with
  | zero => have : n = 0 := by simpa using h
            subst this; rw [dig_zeroW]; simp
  | succ k ih =>
    by_cases h0 : n = 0
    · subst h0; rw [dig_zeroW]; simp
    · rw [dig_posW h0, List.length_cons]
      have := ih (n := n / 4294967296) (by rw [Nat.pow_succ] at h; omega)
      omega

theorem dg_ltW (l : List Nat) (j : Nat) (h : ∀ d ∈ l, d < 4294967296) : dg l j < 4294967296 := by
  rcases Nat.lt_or_ge j l.length with hj | hj
  · rw [← dg_get l j hj]; exact h _ (List.getElem_mem hj)
  · rw [dg_far l j hj]; decide
theorem vd_nilW : vw [] = 0 := rfl
/-- the number from digit i on -/
theorem vd_dropW (l : List Nat) (i : Nat) : vw (l.drop i) = dg l i + 4294967296 * vw (l.drop (i + 1)) := by
  rcases Nat.lt_or_ge i l.length with hi | hi
  · rw [List.drop_eq_getElem_cons hi, vd_consW, dg_get l i hi]
  · rw [List.drop_eq_nil_of_le hi, List.drop_eq_nil_of_le (by omega), dg_far l i hi]; rfl
theorem vd_partsW (l : List Nat) (i : Nat) : vw l = vw (l.take i) + 4294967296 ^ (min i l.length) * vw (l.drop i) := by
  have h := vd_appW (l.take i) (l.drop i)
  rw [List.take_append_drop, List.length_take] at h
  exact h
theorem vd_drop_farW (l : List Nat) (i : Nat) (h : l.length ≤ i) : vw (l.drop i) = 0 := by rw [List.drop_eq_nil_of_le h]; rfl
theorem vd_snocW (l : List Nat) (d : Nat) : vw (l ++ [d]) = vw l + 4294967296 ^ l.length * d := by rw [vd_appW, vd_consW, vd_nilW]; simp
theorem p_posW (k : Nat) : 0 < 4294967296 ^ k := Nat.pow_pos (by decide)
/-- the same from digit i on, less at digit i: less -/
theorem vd_lessW {a b : List Nat} (ha : ∀ d ∈ a, d < 4294967296) (hb : ∀ d ∈ b, d < 4294967296) {i : Nat} (h : vw (a.drop (i + 1)) = vw (b.drop (i + 1))) (hl : dg a i < dg b i) : vw a < vw b := by
  have e1 := vd_dropW a i
  have e2 := vd_dropW b i
  have hlt : vw (a.drop i) < vw (b.drop i) := by omega
  clear e1 e2 h hl
  induction i with
  | zero => simpa using hlt
  | succ i ih =>
    apply ih
    have e1 := vd_dropW a i
    have e2 := vd_dropW b i
    have h1 := dg_ltW a i ha
    have h2 := dg_ltW b i hb
    omega
/-- the sum of digits, as far as it goes -/
def SumRW (a b out : List Nat) (i carry : Nat) : Prop := out.length = i ∧ carry ≤ 1 ∧ (∀ d ∈ out, d < 4294967296) ∧ vw out + 4294967296 ^ i * (carry + vw (a.drop i) + vw (b.drop i)) = vw a + vw b
theorem SumRW.zero (a b : List Nat) : SumRW a b [] 0 0 := ⟨rfl, by decide, fun d hd => (by cases hd), by simp [vd_nilW]⟩
theorem SumRW.succ {a b out : List Nat} {i carry : Nat} (ha : ∀ d ∈ a, d < 4294967296) (hb : ∀ d ∈ b, d < 4294967296) (h : SumRW a b out i carry) : SumRW a b (out ++ [(dg a i + dg b i + carry) % 4294967296]) (i + 1) ((dg a i + dg b i + carry) / 4294967296) := by
  obtain ⟨h1, h2, h3, h4⟩ := h
  have x1 := dg_ltW a i ha
  have x2 := dg_ltW b i hb
  refine ⟨by simp [h1], by omega, fun d hd => ?_, ?_⟩
  · rcases List.mem_append.1 hd with hd | hd
    · exact h3 d hd
    · obtain rfl := List.mem_singleton.1 hd; exact Nat.mod_lt _ (by decide)
  · rw [vd_snocW, h1, ← h4, vd_dropW a i, vd_dropW b i, Nat.pow_succ]
    generalize 4294967296 ^ i = P
    generalize vw (a.drop (i + 1)) = x
    generalize vw (b.drop (i + 1)) = y
    obtain ⟨s, hs⟩ : ∃ s, dg a i + dg b i + carry = s := ⟨_, rfl⟩
    have e1 : carry + (dg a i + 4294967296 * x) + (dg b i + 4294967296 * y) = s % 4294967296 + 4294967296 * (s / 4294967296 + x + y) := by omega
    rw [hs, e1, Nat.mul_add P (s % 4294967296), Nat.mul_assoc P 4294967296, Nat.add_assoc]
theorem SumRW.end_ {a b out : List Nat} {i carry : Nat} (h : SumRW a b out i carry) (h1 : a.length ≤ i) (h2 : b.length ≤ i) : vw (out ++ [carry]) = vw a + vw b ∧ ∀ d ∈ out ++ [carry], d < 4294967296 := by
  obtain ⟨g1, g2, g3, g4⟩ := h
  rw [vd_drop_farW a i h1, vd_drop_farW b i h2] at g4
  refine ⟨by rw [vd_snocW, g1, ← g4]; simp, fun d hd => ?_⟩
  rcases List.mem_append.1 hd with hd | hd
  · exact g3 d hd
  · obtain rfl := List.mem_singleton.1 hd; omega
/-- the difference of digits, as far as it goes -/
def RestRW (a b out : List Nat) (i borrow : Nat) : Prop := out.length = i ∧ borrow ≤ 1 ∧ (∀ d ∈ out, d < 4294967296) ∧ (vw out : Int) + (4294967296 ^ i : Nat) * ((vw (a.drop i) : Int) - vw (b.drop i) - borrow) = (vw a : Int) - vw b
theorem RestRW.zero (a b : List Nat) : RestRW a b [] 0 0 := ⟨rfl, by decide, fun d hd => (by cases hd), by simp [vd_nilW]⟩
theorem RestRW.step {a b out : List Nat} {i borrow d borrow' : Nat} (hd : d < 4294967296) (hb' : borrow' ≤ 1) (h : RestRW a b out i borrow) (he : (dg a i : Int) - dg b i - borrow = (d : Int) - 4294967296 * borrow') : RestRW a b (out ++ [d]) (i + 1) borrow' := by
  obtain ⟨h1, h2, h3, h4⟩ := h
  refine ⟨by simp [h1], hb', fun x hx => ?_, ?_⟩
  · rcases List.mem_append.1 hx with hx | hx
    · exact h3 x hx
    · obtain rfl := List.mem_singleton.1 hx; exact hd
  · rw [vd_snocW, h1, ← h4, vd_dropW a i, vd_dropW b i, Nat.pow_succ]
    generalize 4294967296 ^ i = P
    generalize vw (a.drop (i + 1)) = x
    generalize vw (b.drop (i + 1)) = y
    have e1 : ((dg a i + 4294967296 * x : Nat) : Int) - ((dg b i + 4294967296 * y : Nat) : Int) - borrow = d + 4294967296 * ((x : Int) - y - borrow') := by omega
    rw [e1, Int.mul_add]
    simp only [Int.natCast_add, Int.natCast_mul]
    rw [Int.mul_assoc (P : Int), Int.add_assoc]
    rfl
theorem RestRW.end_ {a b out : List Nat} (h : ∃ borrow, RestRW a b out a.length borrow) (hle : vw b ≤ vw a) : vw out = vw a - vw b ∧ ∀ d ∈ out, d < 4294967296 := by
  obtain ⟨borrow, g1, g2, g3, g4⟩ := h
  refine ⟨?_, g3⟩
  rw [vd_drop_farW a _ (Nat.le_refl _)] at g4
  have hlt := vd_ltW out g3
  rw [g1] at hlt
  generalize 4294967296 ^ a.length = P at *
  generalize hx : vw (b.drop a.length) = x at *
  have hz : x + borrow = 0 := by
    rcases Nat.eq_zero_or_pos (x + borrow) with h0 | h0
    · exact h0
    · exfalso
      have e : (P : Int) * ((0 : Nat) - (x : Int) - borrow) = -((P * (x + borrow) : Nat) : Int) := by push_cast; rw [show ((0 : Int) - x - borrow) = -((x : Int) + borrow) from by omega, Int.mul_neg]
      rw [e] at g4
      have : P * 1 ≤ P * (x + borrow) := Nat.mul_le_mul_left _ h0
      omega
  obtain ⟨rfl, rfl⟩ : x = 0 ∧ borrow = 0 := by omega
  simp at g4
  omega
/-- one digit turned -/
theorem vd_setW (l : List Nat) (j x : Nat) (h : j < l.length) : vw (l.set j x) + 4294967296 ^ j * dg l j = vw l + 4294967296 ^ j * x := by
  induction l generalizing j with
  | nil => simp at h
  | cons d l ih =>
    cases j with
    | zero => simp [vd_consW, dg]; omega
    | succ j =>
      have := ih j (by simpa using h)
      rw [List.set_cons_succ, vd_consW, vd_consW, Nat.pow_succ]
      have e : dg (d :: l) (j + 1) = dg l j := by simp [dg]
      rw [e, Nat.mul_comm (4294967296 ^ j) 4294967296, Nat.mul_assoc, Nat.mul_assoc]
      omega
theorem vd_replW (k : Nat) : vw (List.replicate k 0) = 0 := by have := vd_powW [] k; simpa [vd_nilW] using this
/-- the product of digits, as far as it goes: rounds i; in round i, k digits of b -/
def MulRW (a b out : List Nat) (i : Nat) : Prop := out.length = a.length + b.length + 1 ∧ (∀ d ∈ out, d < 4294967296) ∧ (∀ j, i + b.length ≤ j → dg out j = 0) ∧ vw out = vw (a.take i) * vw b
def MulIW (a b out : List Nat) (i k carry : Nat) : Prop := out.length = a.length + b.length + 1 ∧ (∀ d ∈ out, d < 4294967296) ∧ (∀ j, i + b.length ≤ j → dg out j = 0) ∧ carry < 4294967296 ∧ vw out + 4294967296 ^ (i + k) * carry = vw (a.take i) * vw b + 4294967296 ^ i * (dg a i * vw (b.take k))
theorem mem_set_ltW {l : List Nat} {j x : Nat} (h : ∀ d ∈ l, d < 4294967296) (hx : x < 4294967296) : ∀ d ∈ l.set j x, d < 4294967296 := fun d hd => by
  rcases List.mem_or_eq_of_mem_set hd with hd | rfl
  · exact h d hd
  · exact hx
theorem vd_take_succW (l : List Nat) (k : Nat) (h : k < l.length) : vw (l.take (k + 1)) = vw (l.take k) + 4294967296 ^ k * dg l k := by
  rw [List.take_succ_eq_append_getElem h, vd_snocW, List.length_take, dg_get l k h, Nat.min_eq_left (by omega)]
theorem MulRW.zero (a b : List Nat) : MulRW a b (List.replicate (a.length + b.length + 1) 0) 0 := by
  refine ⟨by simp, fun d hd => ?_, fun j _ => ?_, ?_⟩
  · have := List.eq_of_mem_replicate hd; omega
  · unfold dg List.getD; rw [List.getElem?_replicate]; split <;> rfl
  · rw [vd_replW]; simp [vd_nilW]
theorem MulRW.start {a b out : List Nat} {i : Nat} (h : MulRW a b out i) : MulIW a b out i 0 0 := ⟨h.1, h.2.1, h.2.2.1, by decide, by rw [h.2.2.2]; simp [vd_nilW]⟩
theorem prod_bdW {x y z c : Nat} (hx : x < 4294967296) (hy : y < 4294967296) (hz : z < 4294967296) (hc : c < 4294967296) : z + x * y + c < 18446744073709551616 := by
  have : x * y ≤ 4294967295 * 4294967295 := Nat.mul_le_mul (by omega) (by omega)
  omega
theorem MulIW.succ {a b out : List Nat} {i k carry : Nat} (ha : ∀ d ∈ a, d < 4294967296) (hb : ∀ d ∈ b, d < 4294967296) (h : MulIW a b out i k carry) (hi : i < a.length) (hk : k < b.length) :
    MulIW a b (out.set (i + k) ((dg out (i + k) + dg a i * dg b k + carry) % 4294967296)) i (k + 1) ((dg out (i + k) + dg a i * dg b k + carry) / 4294967296) := by
  obtain ⟨h1, h2, h3, h4, h5⟩ := h
  have x1 := dg_ltW a i ha
  have x2 := dg_ltW b k hb
  have x3 := dg_ltW out (i + k) h2
  have hbd := prod_bdW x1 x2 x3 h4
  have hs := vd_setW out (i + k) ((dg out (i + k) + dg a i * dg b k + carry) % 4294967296) (by omega)
  refine ⟨by simp [h1], mem_set_ltW h2 (Nat.mod_lt _ (by decide)), fun j hj => by rw [dg_set_ne _ _ _ _ (by omega)]; exact h3 j hj, by omega, ?_⟩
  rw [vd_take_succW b k hk, Nat.mul_add, Nat.mul_add, ← Nat.add_assoc (vw (a.take i) * vw b), ← h5, ← Nat.add_assoc i k 1, Nat.pow_succ]
  generalize dg out (i + k) = o at *
  generalize dg a i = p at *
  generalize dg b k = q at *
  have e1 : 4294967296 ^ i * (p * (4294967296 ^ k * q)) = 4294967296 ^ (i + k) * (p * q) := by rw [Nat.pow_add, ← Nat.mul_assoc p, Nat.mul_comm p, Nat.mul_assoc (4294967296 ^ k), ← Nat.mul_assoc (4294967296 ^ i)]
  rw [e1]
  generalize vw (out.set (i + k) ((o + p * q + carry) % 4294967296)) = V' at *
  generalize vw out = V at *
  generalize 4294967296 ^ (i + k) = P at *
  obtain ⟨s, hss⟩ : ∃ s, o + p * q + carry = s := ⟨_, rfl⟩
  rw [hss] at hs ⊢
  have e2 : P * s = P * o + P * (p * q) + P * carry := by rw [← hss, Nat.mul_add, Nat.mul_add]
  have e3 : P * s = P * (s % 4294967296) + P * 4294967296 * (s / 4294967296) := by
    rw [Nat.mul_assoc, ← Nat.mul_add, Nat.mod_add_div]
  omega
theorem MulIW.end_ {a b out : List Nat} {i carry : Nat} (h : MulIW a b out i b.length carry) (hi : i < a.length) : MulRW a b (out.set (i + b.length) carry) (i + 1) := by
  obtain ⟨h1, h2, h3, h4, h5⟩ := h
  have hs := vd_setW out (i + b.length) carry (by omega)
  have h0 := h3 (i + b.length) (Nat.le_refl _)
  refine ⟨by simp [h1], mem_set_ltW h2 h4, fun j hj => by rw [dg_set_ne _ _ _ _ (by omega)]; exact h3 j (by omega), ?_⟩
  rw [h0, Nat.mul_zero, Nat.add_zero] at hs
  rw [hs, h5, vd_take_succW a i hi, List.take_length, Nat.add_mul, Nat.mul_assoc]
theorem MulRW.all {a b out : List Nat} (h : MulRW a b out a.length) : vw out = vw a * vw b ∧ ∀ d ∈ out, d < 4294967296 := by
  obtain ⟨_, h2, _, h4⟩ := h
  rw [List.take_length] at h4
  exact ⟨h4, h2⟩
theorem dig_monoW {m n : Nat} (h : m ≤ n) : (dgw m).length ≤ (dgw n).length := by
  apply dig_lenW
  have := vd_ltW (dgw n) (dig_ltW n)
  rw [vd_digW] at this
  omega
/-- long division: what is left, and a digit more -/
theorem ldiv_stepW {b r d : Nat} (hb : 0 < b) (hr : r < b) (hd : d < 4294967296) : (d + 4294967296 * r) / b < 4294967296 := by
  rw [Nat.div_lt_iff_lt_mul hb]
  have : 4294967296 * r + 4294967296 ≤ 4294967296 * b := by omega
  rw [Nat.mul_comm]; omega
/-- long division, as far as it goes: digits from i on are done -/
def DivRW (a q : List Nat) (b i r : Nat) : Prop := q.length = a.length ∧ (∀ d ∈ q, d < 4294967296) ∧ (∀ j, j < i → dg q j = 0) ∧ r < b ∧ vw (q.drop i) * b + r = vw (a.drop i)
theorem DivRW.start (a : List Nat) (b : Nat) (hb : 0 < b) : DivRW a (List.replicate a.length 0) b a.length 0 := by
  refine ⟨by simp, fun d hd => ?_, fun j _ => ?_, hb, ?_⟩
  · have := List.eq_of_mem_replicate hd; omega
  · unfold dg List.getD; rw [List.getElem?_replicate]; split <;> rfl
  · rw [vd_drop_farW _ _ (by simp), vd_drop_farW _ _ (Nat.le_refl _)]; simp
theorem DivRW.step {a q : List Nat} {b i r : Nat} (ha : ∀ d ∈ a, d < 4294967296) (h : DivRW a q b (i + 1) r) (hi : i < a.length) : DivRW a (q.set i ((dg a i + 4294967296 * r) / b)) b i ((dg a i + 4294967296 * r) % b) := by
  obtain ⟨h1, h2, h3, h4, h5⟩ := h
  have hb : 0 < b := by omega
  have hd := ldiv_stepW hb h4 (dg_ltW a i ha)
  refine ⟨by simp [h1], mem_set_ltW h2 hd, fun j hj => by rw [dg_set_ne _ _ _ _ (by omega)]; exact h3 j (by omega), Nat.mod_lt _ hb, ?_⟩
  rw [vd_dropW (q.set i _) i, vd_dropW a i, dg_set_self _ _ _ (by omega), drop_set_le, ← h5, Nat.add_mul]
  have e := Nat.div_add_mod (dg a i + 4294967296 * r) b
  rw [Nat.mul_comm b] at e
  rw [Nat.mul_add, ← Nat.mul_assoc]
  generalize (dg a i + 4294967296 * r) / b * b = x at *
  generalize (dg a i + 4294967296 * r) % b = y at *
  generalize 4294967296 * vw (List.drop (i + 1) q) * b = z
  omega
theorem DivRW.all {a q : List Nat} {b r : Nat} (h : DivRW a q b 0 r) : vw q = vw a / b ∧ (∀ d ∈ q, d < 4294967296) := by
  obtain ⟨_, h2, _, h4, h5⟩ := h
  refine ⟨?_, h2⟩
  rw [List.drop_zero, List.drop_zero] at h5
  rw [← h5, Nat.add_comm, Nat.add_mul_div_right _ _ (by omega), Nat.div_eq_of_lt h4]; omega
end Go.Proofs.Ytfhmaincnlaapaa
namespace Go.Proofs.Ytfhmaincnlaapaa
open Go.ChangeShapes Go.WideShapes Go.ChangeAt Go.RowKit
set_option linter.unusedVariables false

end Go.Proofs.Ytfhmaincnlaapaa
namespace Go.Proofs.Ytfhmaincnlaapaa.Sy
open Go.ChangeShapes Go.WideShapes Go.ChangeAt Go.RowKit
set_option linter.unusedVariables false
set_option linter.unusedSimpArgs false
def wL (l : List Nat) : List AV := l.map u3
def wA (l : List Nat) : AV := .lst l.length (wL l)
def Wd (l : List Nat) : Prop := ∀ d ∈ l, d < 4294967296
theorem wL_len (l : List Nat) : (wL l).length = l.length := by simp [wL]
theorem wL_app (l m : List Nat) : wL (l ++ m) = wL l ++ wL m := by simp [wL]
theorem wL_take (l : List Nat) (k : Nat) : (wL l).take k = wL (l.take k) := by simp [wL, List.map_take]
theorem wL_drop (l : List Nat) (k : Nat) : (wL l).drop k = wL (l.drop k) := by simp [wL, List.map_drop]
theorem wL_set (l : List Nat) (k x : Nat) (h : k < l.length) : (wL l).take k ++ [u3 x] ++ (wL l).drop (k + 1) = wL (l.set k x) := by
  rw [wL_take, wL_drop, show [u3 x] = wL [x] from rfl, ← wL_app, ← wL_app]
  congr 1
  rw [List.set_eq_take_append_cons_drop, if_pos h, List.append_assoc]; rfl
theorem rd_wL (l : List Nat) (k : Nat) (h : k < l.length) : rd1 false 1 (wL l) ((k : Int).toNat * 1) = some (u3 (dg l k)) := by
  unfold rd1 wL
  simp [dg, List.getD, h]
theorem i64n (n : Nat) (h : n < 9223372036854775808) : IntKind.i64.wrap (n : Int) = (n : Int) := IntWalk.i64_in _ (by omega)
theorem i64i (n : Int) (h : -9223372036854775808 ≤ n ∧ n < 9223372036854775808) : IntKind.i64.wrap n = n := IntWalk.i64_in _ (by omega)
theorem u64n (n : Int) (h : 0 ≤ n ∧ n < 18446744073709551616) : IntKind.u64.wrap n = n := by rw [IntKind.wrap_u64]; omega
theorem tsz_take (l : List Nat) (n : Nat) (h : n < l.length) : tsz (l.take (n + 1)) = if dg l n = 0 then tsz (l.take n) else n + 1 := by
  rw [List.take_succ_eq_append_getElem h, tsz_last, dg_get l n h, List.length_take, Nat.min_eq_left (by omega)]
/-! ### size -/
def invSize (l : List Nat) (n : {n : Nat // n ≤ l.length ∧ tsz (l.take n) = tsz l}) : AS := ⟨[(0, wA l), (3, iz (n.1 : Nat))], [], 19, []⟩
theorem size_loop (l : List Nat) (hl : l.length < 9223372036854775808) (i) : LoopOk Try.prog (loopBody Try.f143 2) (invSize l i) (.exit 0) ⟨[(3, iz (tsz l : Nat))], [], 19, []⟩ := by
  refine LoopOk.of hmo (invSize l) (fun n => n.1) (fun i => ?_) i
  obtain ⟨n, hn, hs⟩ := i
  cases n with
  | zero =>
    refine Round.out [(7, .val (bz false))] [] [(↑(0 : Nat) : Int) = (↑(tsz l) : Int), false = false] (by kernel_rfl) ?_
    exact ⟨by rw [← hs]; rfl, rfl, trivial⟩
  | succ n =>
    have hc : IntKind.i64.wrap (((n + 1 : Nat) : Int) - 1) = (n : Int) := by rw [i64i _ (by omega)]; omega
    have h0 : decide ((0 : Int) < ((n + 1 : Nat) : Int)) = true := decide_eq_true (by omega)
    rw [tsz_take l n (by omega)] at hs
    by_cases hd : dg l n = 0
    · rw [if_pos hd] at hs
      refine Round.on [(7, .val (bz true)), (11, .val (iz (n : Nat))), (13, .val (u3 (dg l n))), (14, .val (bz true)), (17, .val (iz (n : Nat)))] [] ⟨n, by omega, hs⟩ [l.length = l.length ∧ wL l = wL l, (↑n : Int) = (↑n : Int), decide ((0 : Int) < (↑(n + (1 : Nat)) : Int)) = true, IntKind.i64.wrap ((↑(n + (1 : Nat)) : Int) - (1 : Int)) = (↑n : Int), (0 : Int) ≤ (↑n : Int) ∧ (↑n : Int) < (↑l.length : Int), rd1 false (1 : Nat) (wL l) ((↑n : Int).toNat * (1 : Nat)) = some (AV.v (Value.int IntKind.u32 (↑(dg l n) : Int))), ((↑(dg l n) : Int) == (0 : Int)) = true, IntKind.i64.wrap ((↑(n + (1 : Nat)) : Int) - (1 : Int)) = (↑n : Int)] (by kernel_rfl) (Nat.lt_succ_self _) ?_
      exact ⟨⟨rfl, rfl⟩, rfl, h0, hc, by omega, rd_wL l n (by omega), by rw [hd]; rfl, hc, trivial⟩
    · rw [if_neg hd] at hs
      refine Round.out [(7, .val (bz true)), (11, .val (iz (n : Nat))), (13, .val (u3 (dg l n))), (14, .val (bz false))] [] [(↑(n + (1 : Nat)) : Int) = (↑(tsz l) : Int), decide ((0 : Int) < (↑(n + (1 : Nat)) : Int)) = true, IntKind.i64.wrap ((↑(n + (1 : Nat)) : Int) - (1 : Int)) = (↑n : Int), (0 : Int) ≤ (↑n : Int) ∧ (↑n : Int) < (↑l.length : Int), rd1 false (1 : Nat) (wL l) ((↑n : Int).toNat * (1 : Nat)) = some (AV.v (Value.int IntKind.u32 (↑(dg l n) : Int))), ((↑(dg l n) : Int) == (0 : Int)) = false] (by kernel_rfl) ?_
      exact ⟨by rw [← hs], h0, hc, by omega, rd_wL l n (by omega), by rw [beq_eq_false_iff_ne]; omega, trivial⟩
def size0 (l : List Nat) : {n : Nat // n ≤ l.length ∧ tsz (l.take n) = tsz l} := ⟨l.length, Nat.le_refl _, by rw [List.take_length]⟩
theorem size_ok (l : List Nat) (hl : l.length < 9223372036854775808) : FnOk Try.prog 143 ⟨[wA l], [], iz (tsz l : Nat), []⟩ := by
  refine fn_go hmo Try.func143 (by kernel_rfl) [] [(2, ⟨.exit 0, invSize l (size0 l), ⟨[(3, iz (tsz l : Nat))], [], 19, []⟩⟩)] [(↑(tsz l) : Int) = (↑(tsz l) : Int), LoopOk Try.prog (loopBody Try.f143 (2 : Nat)) (invSize l (size0 l)) (Exit.exit (0 : Nat)) (AS.mk [((3 : Nat), AV.v (Value.int IntKind.i64 (↑(tsz l) : Int)))] [] (19 : Nat) []), l.length = l.length ∧ wL l = wL l, (↑l.length : Int) = (↑l.length : Int)] (by kernel_rfl) ?_
  exact ⟨rfl, size_loop l hl (size0 l), ⟨rfl, rfl⟩, rfl, trivial⟩
/-! ### Trim -/
/-! ### Cmp -/
def cmpW (a b : List Nat) : Int := if vw a < vw b then -1 else if vw b < vw a then 1 else 0
theorem tsz_lt {a b : List Nat} (ha : Wd a) (hb : Wd b) (h : tsz a < tsz b) : vw a < vw b := by
  refine Nat.lt_of_not_le fun hle => ?_
  have e1 := take_tszW a ha
  have e2 := take_tszW b hb
  have h1 := dig_monoW hle
  rw [← e1, ← e2, List.length_take, List.length_take] at h1
  have := tsz_le a; have := tsz_le b
  omega
/-- how far down they are the same -/
def CI (a b : List Nat) : Type := {n : Nat // n ≤ a.length ∧ n ≤ b.length ∧ vw (a.drop n) = vw (b.drop n)}
def CI.x {a b : List Nat} (i : CI a b) : Int := (i.1 : Int) - 1
def invCmp (a b : List Nat) (i : CI a b) : AS := ⟨[(0, wA a), (1, wA b), (7, iz i.x)], [], 42, []⟩
theorem cmp_on {a b : List Nat} (ha : Wd a) (hb : Wd b) (hal : a.length ≤ 1000000) (e : Exit) (σ' : AS) (m : Nat) (hn) (he : dg a m = dg b m) : Round Try.prog (loopBody Try.f183 7) (invCmp a b) (·.1) e σ' ⟨m + 1, hn⟩ := by
  have hm : m < a.length ∧ m < b.length := ⟨hn.1, hn.2.1⟩
  have hd := vd_dropW a m
  have hd2 := vd_dropW b m
  have hj : m ≤ a.length ∧ m ≤ b.length ∧ vw (a.drop m) = vw (b.drop m) := ⟨by omega, by omega, by rw [hd, hd2, he, hn.2.2]⟩
  have hx : CI.x (a := a) (b := b) ⟨m + 1, hn⟩ = (m : Int) := by show ((m + 1 : Nat) : Int) - 1 = m; omega
  refine Round.on [(20, .val (iz (m : Nat))), (21, .val (bz true)), (25, .val (iz (m : Nat))), (27, .val (u3 (dg a m))), (29, .val (iz (m : Nat))), (31, .val (u3 (dg b m))), (32, .val (bz false)), (34, .val (iz (m : Nat))), (36, .val (u3 (dg a m))), (38, .val (iz (m : Nat))), (40, .val (u3 (dg b m))), (41, .val (bz false)), (22, .val (iz (m : Nat))), (23, .val (iz (CI.x (a := a) (b := b) ⟨m, hj⟩)))] [] ⟨m, hj⟩ [a.length = a.length ∧ wL a = wL a, b.length = b.length ∧ wL b = wL b, CI.x (Subtype.mk m hj) = CI.x (Subtype.mk m hj), CI.x (Subtype.mk (m + (1 : Nat)) hn) = (↑m : Int), true = true, CI.x (Subtype.mk (m + (1 : Nat)) hn) = (↑m : Int), (0 : Int) ≤ (↑m : Int) ∧ (↑m : Int) < (↑a.length : Int), rd1 false (1 : Nat) (wL a) ((↑m : Int).toNat * (1 : Nat)) = some (AV.v (Value.int IntKind.u32 (↑(dg a m) : Int))), CI.x (Subtype.mk (m + (1 : Nat)) hn) = (↑m : Int), (0 : Int) ≤ (↑m : Int) ∧ (↑m : Int) < (↑b.length : Int), rd1 false (1 : Nat) (wL b) ((↑m : Int).toNat * (1 : Nat)) = some (AV.v (Value.int IntKind.u32 (↑(dg b m) : Int))), decide ((↑(dg a m) : Int) < (↑(dg b m) : Int)) = false, CI.x (Subtype.mk (m + (1 : Nat)) hn) = (↑m : Int), (0 : Int) ≤ (↑m : Int) ∧ (↑m : Int) < (↑a.length : Int), rd1 false (1 : Nat) (wL a) ((↑m : Int).toNat * (1 : Nat)) = some (AV.v (Value.int IntKind.u32 (↑(dg a m) : Int))), CI.x (Subtype.mk (m + (1 : Nat)) hn) = (↑m : Int), (0 : Int) ≤ (↑m : Int) ∧ (↑m : Int) < (↑b.length : Int), rd1 false (1 : Nat) (wL b) ((↑m : Int).toNat * (1 : Nat)) = some (AV.v (Value.int IntKind.u32 (↑(dg b m) : Int))), decide ((↑(dg b m) : Int) < (↑(dg a m) : Int)) = false, CI.x (Subtype.mk (m + (1 : Nat)) hn) = (↑m : Int), IntKind.i64.wrap ((↑m : Int) - (1 : Int)) = CI.x (Subtype.mk m hj)] (by kernel_rfl) (Nat.lt_succ_self m) ?_
  have hw : IntKind.i64.wrap ((m : Int) - 1) = CI.x (a := a) (b := b) ⟨m, hj⟩ := by rw [i64i _ (by omega)]; rfl
  ((repeat' refine And.intro ?_ ?_); (iterate 5 (with_reducible rfl)); (with_reducible assumption); (with_reducible rfl); (with_reducible assumption); (iterate 2 (omega)); rotate_left 1; (with_reducible assumption); (iterate 2 (omega)); rotate_left 1; ((with_reducible refine Df ?_; omega)); (with_reducible assumption); (iterate 2 (omega)); rotate_left 1; (with_reducible assumption); (iterate 2 (omega)); rotate_left 1; ((with_reducible refine Df ?_; omega)); (iterate 2 (with_reducible assumption)); (exact True.intro))
  all_goals first | exact rd_wL a m hm.1 | exact rd_wL b m hm.2 | exact hw | (rw [he]; exact decide_eq_false (Int.lt_irrefl _)) | (exact he ▸ rd_wL a m hm.1) | (exact he ▸ rd_wL b m hm.2)
theorem cmp_loop_eq {a b : List Nat} (ha : Wd a) (hb : Wd b) (hal : a.length ≤ 1000000) (h : vw a = vw b) (i : CI a b) : LoopOk Try.prog (loopBody Try.f183 7) (invCmp a b i) (.exit 0) ⟨[], [], 42, []⟩ := by
  refine LoopOk.of hmo (invCmp a b) (·.1) (fun i => ?_) i
  obtain ⟨n, hn⟩ := i
  cases n with
  | zero =>
    refine Round.out [(20, .val (iz (-1))), (21, .val (bz false))] [] [CI.x (Subtype.mk (0 : Nat) hn) = (-1 : Int), false = false] (by kernel_rfl) ?_
    ((repeat' refine And.intro ?_ ?_); (exact rfl); (with_reducible rfl); (exact True.intro))
    all_goals rfl
  | succ m =>
    refine cmp_on ha hb hal _ _ m hn ?_
    rcases Nat.lt_trichotomy (dg a m) (dg b m) with h1 | h1 | h1
    · have := vd_lessW ha hb hn.2.2 h1; omega
    · exact h1
    · have := vd_lessW hb ha hn.2.2.symm h1; omega
theorem cmp_loop_lt {a b : List Nat} (ha : Wd a) (hb : Wd b) (hal : a.length ≤ 1000000) (h : vw a < vw b) (i : CI a b) : LoopOk Try.prog (loopBody Try.f183 7) (invCmp a b i) .ret ⟨[(4, iz (-1))], [], 42, []⟩ := by
  refine LoopOk.of hmo (invCmp a b) (·.1) (fun i => ?_) i
  obtain ⟨n, hn⟩ := i
  cases n with
  | zero => have := hn.2.2; simp only [List.drop_zero] at this; omega
  | succ m =>
    rcases Nat.lt_trichotomy (dg a m) (dg b m) with h1 | h1 | h1
    · have hm : m < a.length ∧ m < b.length := ⟨hn.1, hn.2.1⟩
      have hx : CI.x (a := a) (b := b) ⟨m + 1, hn⟩ = (m : Int) := by show ((m + 1 : Nat) : Int) - 1 = m; omega
      refine Round.out [(20, .val (iz (m : Nat))), (21, .val (bz true)), (25, .val (iz (m : Nat))), (27, .val (u3 (dg a m))), (29, .val (iz (m : Nat))), (31, .val (u3 (dg b m))), (32, .val (bz true))] [] [(-1 : Int) = (-1 : Int), CI.x (Subtype.mk (m + (1 : Nat)) hn) = (↑m : Int), true = true, CI.x (Subtype.mk (m + (1 : Nat)) hn) = (↑m : Int), (0 : Int) ≤ (↑m : Int) ∧ (↑m : Int) < (↑a.length : Int), rd1 false (1 : Nat) (wL a) ((↑m : Int).toNat * (1 : Nat)) = some (AV.v (Value.int IntKind.u32 (↑(dg a m) : Int))), CI.x (Subtype.mk (m + (1 : Nat)) hn) = (↑m : Int), (0 : Int) ≤ (↑m : Int) ∧ (↑m : Int) < (↑b.length : Int), rd1 false (1 : Nat) (wL b) ((↑m : Int).toNat * (1 : Nat)) = some (AV.v (Value.int IntKind.u32 (↑(dg b m) : Int))), decide ((↑(dg a m) : Int) < (↑(dg b m) : Int)) = true] (by kernel_rfl) ?_
      ((repeat' refine And.intro ?_ ?_); (with_reducible rfl); (with_reducible assumption); (with_reducible rfl); (with_reducible assumption); (iterate 2 (omega)); rotate_left 1; (with_reducible assumption); (iterate 2 (omega)); rotate_left 1; ((with_reducible refine Dt ?_; omega)); (exact True.intro))
      all_goals first | exact rd_wL a m hm.1 | exact rd_wL b m hm.2
    · exact cmp_on ha hb hal _ _ m hn h1
    · have := vd_lessW hb ha hn.2.2.symm h1; omega
theorem cmp_loop_gt {a b : List Nat} (ha : Wd a) (hb : Wd b) (hal : a.length ≤ 1000000) (h : vw b < vw a) (i : CI a b) : LoopOk Try.prog (loopBody Try.f183 7) (invCmp a b i) .ret ⟨[(4, iz 1)], [], 42, []⟩ := by
  refine LoopOk.of hmo (invCmp a b) (·.1) (fun i => ?_) i
  obtain ⟨n, hn⟩ := i
  cases n with
  | zero => have := hn.2.2; simp only [List.drop_zero] at this; omega
  | succ m =>
    rcases Nat.lt_trichotomy (dg a m) (dg b m) with h1 | h1 | h1
    · have := vd_lessW ha hb hn.2.2 h1; omega
    · exact cmp_on ha hb hal _ _ m hn h1
    · have hm : m < a.length ∧ m < b.length := ⟨hn.1, hn.2.1⟩
      have hx : CI.x (a := a) (b := b) ⟨m + 1, hn⟩ = (m : Int) := by show ((m + 1 : Nat) : Int) - 1 = m; omega
      refine Round.out [(20, .val (iz (m : Nat))), (21, .val (bz true)), (25, .val (iz (m : Nat))), (27, .val (u3 (dg a m))), (29, .val (iz (m : Nat))), (31, .val (u3 (dg b m))), (32, .val (bz false)), (34, .val (iz (m : Nat))), (36, .val (u3 (dg a m))), (38, .val (iz (m : Nat))), (40, .val (u3 (dg b m))), (41, .val (bz true))] [] [(1 : Int) = (1 : Int), CI.x (Subtype.mk (m + (1 : Nat)) hn) = (↑m : Int), true = true, CI.x (Subtype.mk (m + (1 : Nat)) hn) = (↑m : Int), (0 : Int) ≤ (↑m : Int) ∧ (↑m : Int) < (↑a.length : Int), rd1 false (1 : Nat) (wL a) ((↑m : Int).toNat * (1 : Nat)) = some (AV.v (Value.int IntKind.u32 (↑(dg a m) : Int))), CI.x (Subtype.mk (m + (1 : Nat)) hn) = (↑m : Int), (0 : Int) ≤ (↑m : Int) ∧ (↑m : Int) < (↑b.length : Int), rd1 false (1 : Nat) (wL b) ((↑m : Int).toNat * (1 : Nat)) = some (AV.v (Value.int IntKind.u32 (↑(dg b m) : Int))), decide ((↑(dg a m) : Int) < (↑(dg b m) : Int)) = false, CI.x (Subtype.mk (m + (1 : Nat)) hn) = (↑m : Int), (0 : Int) ≤ (↑m : Int) ∧ (↑m : Int) < (↑a.length : Int), rd1 false (1 : Nat) (wL a) ((↑m : Int).toNat * (1 : Nat)) = some (AV.v (Value.int IntKind.u32 (↑(dg a m) : Int))), CI.x (Subtype.mk (m + (1 : Nat)) hn) = (↑m : Int), (0 : Int) ≤ (↑m : Int) ∧ (↑m : Int) < (↑b.length : Int), rd1 false (1 : Nat) (wL b) ((↑m : Int).toNat * (1 : Nat)) = some (AV.v (Value.int IntKind.u32 (↑(dg b m) : Int))), decide ((↑(dg b m) : Int) < (↑(dg a m) : Int)) = true] (by kernel_rfl) ?_
      ((repeat' refine And.intro ?_ ?_); (with_reducible rfl); (with_reducible assumption); (with_reducible rfl); (with_reducible assumption); (iterate 2 (omega)); rotate_left 1; (with_reducible assumption); (iterate 2 (omega)); rotate_left 1; ((with_reducible refine Df ?_; omega)); (with_reducible assumption); (iterate 2 (omega)); rotate_left 1; (with_reducible assumption); (iterate 2 (omega)); rotate_left 1; ((with_reducible refine Dt ?_; omega)); (exact True.intro))
      all_goals first | exact rd_wL a m hm.1 | exact rd_wL b m hm.2
theorem drop_tsz {l : List Nat} (h : Wd l) : vw (l.drop (tsz l)) = 0 := by
  have e := vd_partsW l (tsz l)
  rw [take_tszW l h, vd_digW, Nat.min_eq_left (tsz_le l)] at e
  have := p_posW (tsz l)
  rcases Nat.eq_zero_or_pos (vw (l.drop (tsz l))) with h0 | h0
  · exact h0
  · have := Nat.mul_pos this h0; omega
def cmp0 {a b : List Nat} (h : tsz a = tsz b) (ha : Wd a) (hb : Wd b) : CI a b := ⟨tsz a, tsz_le a, h ▸ tsz_le b, by rw [drop_tsz ha, h, drop_tsz hb]⟩
theorem cmp_ok {a b : List Nat} (ha : Wd a) (hb : Wd b) (hal : a.length ≤ 1000000) (hbl : b.length ≤ 1000000) : FnOk Try.prog 183 ⟨[wA a, wA b], [], iz (cmpW a b), []⟩ := by
  have h1 := size_ok a (by omega)
  have h2 := size_ok b (by omega)
  have hta := tsz_le a
  have htb := tsz_le b
  rcases Nat.lt_trichotomy (tsz a) (tsz b) with h | h | h
  · have hc : cmpW a b = -1 := by unfold cmpW; rw [if_pos (tsz_lt ha hb h)]
    rw [hc]
    refine fn_go hmo Try.func183 (by kernel_rfl) [(9, .call ⟨[wA a], [], iz (tsz a : Nat), []⟩), (11, .call ⟨[wA b], [], iz (tsz b : Nat), []⟩), (14, .val (bz true)), (17, .val (bz true))] [] [(-1 : Int) = (-1 : Int), (a.length = a.length ∧ wL a = wL a) ∧ True, FnOk Try.prog (143 : Nat) (Inst.mk [AV.lst a.length (wL a)] [] (AV.v (Value.int IntKind.i64 (↑(tsz a) : Int))) []), (b.length = b.length ∧ wL b = wL b) ∧ True, FnOk Try.prog (143 : Nat) (Inst.mk [AV.lst b.length (wL b)] [] (AV.v (Value.int IntKind.i64 (↑(tsz b) : Int))) []), ((↑(tsz a) : Int) != (↑(tsz b) : Int)) = true, decide ((↑(tsz a) : Int) < (↑(tsz b) : Int)) = true] (by kernel_rfl) ?_
    ((repeat' refine And.intro ?_ ?_); (iterate 3 (with_reducible rfl)); (exact True.intro); ((show FnOk _ _ _; assumption)); (iterate 2 (with_reducible rfl)); (exact True.intro); ((show FnOk _ _ _; assumption)); ((with_reducible refine Ne ?_; omega)); ((with_reducible refine Dt ?_; omega)); (exact True.intro))
    all_goals first | exact h1 | exact h2 | (simp; omega)
  · have hw : IntKind.i64.wrap ((tsz a : Int) - 1) = (cmp0 h ha hb).x := by rw [i64i _ (by omega)]; rfl
    rcases Nat.lt_trichotomy (vw a) (vw b) with hl | hl | hl
    · have hc : cmpW a b = -1 := by unfold cmpW; rw [if_pos hl]
      have h3 := cmp_loop_lt ha hb hal hl (cmp0 h ha hb)
      rw [hc]
      refine fn_go hmo Try.func183 (by kernel_rfl) [(9, .call ⟨[wA a], [], iz (tsz a : Nat), []⟩), (11, .call ⟨[wA b], [], iz (tsz b : Nat), []⟩), (14, .val (bz false)), (19, .val (iz (cmp0 h ha hb).x))] [(7, ⟨.ret, invCmp a b (cmp0 h ha hb), ⟨[(4, iz (-1))], [], 42, []⟩⟩)] [(-1 : Int) = (-1 : Int), (a.length = a.length ∧ wL a = wL a) ∧ True, FnOk Try.prog (143 : Nat) (Inst.mk [AV.lst a.length (wL a)] [] (AV.v (Value.int IntKind.i64 (↑(tsz a) : Int))) []), (b.length = b.length ∧ wL b = wL b) ∧ True, FnOk Try.prog (143 : Nat) (Inst.mk [AV.lst b.length (wL b)] [] (AV.v (Value.int IntKind.i64 (↑(tsz b) : Int))) []), ((↑(tsz a) : Int) != (↑(tsz b) : Int)) = false, IntKind.i64.wrap ((↑(tsz a) : Int) - (1 : Int)) = (cmp0 h ha hb).x, LoopOk Try.prog (loopBody Try.f183 (7 : Nat)) (invCmp a b (cmp0 h ha hb)) Exit.ret (AS.mk [((4 : Nat), AV.v (Value.int IntKind.i64 (-1 : Int)))] [] (42 : Nat) []), a.length = a.length ∧ wL a = wL a, b.length = b.length ∧ wL b = wL b, (cmp0 h ha hb).x = (cmp0 h ha hb).x] (by kernel_rfl) ?_
      ((repeat' refine And.intro ?_ ?_); (iterate 3 (with_reducible rfl)); (exact True.intro); ((show FnOk _ _ _; assumption)); (iterate 2 (with_reducible rfl)); (exact True.intro); ((show FnOk _ _ _; assumption)); ((with_reducible refine Nq ?_; omega)); (with_reducible assumption); ((show LoopOk _ _ _ _ _; assumption)); (iterate 5 (with_reducible rfl)); (exact True.intro))
      all_goals first | exact h1 | exact h2 | exact h3 | exact hw | (simp; omega)
    · have hc : cmpW a b = 0 := by unfold cmpW; rw [if_neg (by omega), if_neg (by omega)]
      have h3 := cmp_loop_eq ha hb hal hl (cmp0 h ha hb)
      rw [hc]
      refine fn_go hmo Try.func183 (by kernel_rfl) [(9, .call ⟨[wA a], [], iz (tsz a : Nat), []⟩), (11, .call ⟨[wA b], [], iz (tsz b : Nat), []⟩), (14, .val (bz false)), (19, .val (iz (cmp0 h ha hb).x))] [(7, ⟨.exit 0, invCmp a b (cmp0 h ha hb), ⟨[], [], 42, []⟩⟩)] [(0 : Int) = (0 : Int), (a.length = a.length ∧ wL a = wL a) ∧ True, FnOk Try.prog (143 : Nat) (Inst.mk [AV.lst a.length (wL a)] [] (AV.v (Value.int IntKind.i64 (↑(tsz a) : Int))) []), (b.length = b.length ∧ wL b = wL b) ∧ True, FnOk Try.prog (143 : Nat) (Inst.mk [AV.lst b.length (wL b)] [] (AV.v (Value.int IntKind.i64 (↑(tsz b) : Int))) []), ((↑(tsz a) : Int) != (↑(tsz b) : Int)) = false, IntKind.i64.wrap ((↑(tsz a) : Int) - (1 : Int)) = (cmp0 h ha hb).x, LoopOk Try.prog (loopBody Try.f183 (7 : Nat)) (invCmp a b (cmp0 h ha hb)) (Exit.exit (0 : Nat)) (AS.mk [] [] (42 : Nat) []), a.length = a.length ∧ wL a = wL a, b.length = b.length ∧ wL b = wL b, (cmp0 h ha hb).x = (cmp0 h ha hb).x] (by kernel_rfl) ?_
      ((repeat' refine And.intro ?_ ?_); (iterate 3 (with_reducible rfl)); (exact True.intro); ((show FnOk _ _ _; assumption)); (iterate 2 (with_reducible rfl)); (exact True.intro); ((show FnOk _ _ _; assumption)); ((with_reducible refine Nq ?_; omega)); (iterate 2 (with_reducible assumption)); (iterate 5 (with_reducible rfl)); (exact True.intro))
      all_goals first | exact h1 | exact h2 | exact h3 | exact hw | (simp; omega)
    · have hc : cmpW a b = 1 := by unfold cmpW; rw [if_neg (by omega), if_pos hl]
      have h3 := cmp_loop_gt ha hb hal hl (cmp0 h ha hb)
      rw [hc]
      refine fn_go hmo Try.func183 (by kernel_rfl) [(9, .call ⟨[wA a], [], iz (tsz a : Nat), []⟩), (11, .call ⟨[wA b], [], iz (tsz b : Nat), []⟩), (14, .val (bz false)), (19, .val (iz (cmp0 h ha hb).x))] [(7, ⟨.ret, invCmp a b (cmp0 h ha hb), ⟨[(4, iz 1)], [], 42, []⟩⟩)] [(1 : Int) = (1 : Int), (a.length = a.length ∧ wL a = wL a) ∧ True, FnOk Try.prog (143 : Nat) (Inst.mk [AV.lst a.length (wL a)] [] (AV.v (Value.int IntKind.i64 (↑(tsz a) : Int))) []), (b.length = b.length ∧ wL b = wL b) ∧ True, FnOk Try.prog (143 : Nat) (Inst.mk [AV.lst b.length (wL b)] [] (AV.v (Value.int IntKind.i64 (↑(tsz b) : Int))) []), ((↑(tsz a) : Int) != (↑(tsz b) : Int)) = false, IntKind.i64.wrap ((↑(tsz a) : Int) - (1 : Int)) = (cmp0 h ha hb).x, LoopOk Try.prog (loopBody Try.f183 (7 : Nat)) (invCmp a b (cmp0 h ha hb)) Exit.ret (AS.mk [((4 : Nat), AV.v (Value.int IntKind.i64 (1 : Int)))] [] (42 : Nat) []), a.length = a.length ∧ wL a = wL a, b.length = b.length ∧ wL b = wL b, (cmp0 h ha hb).x = (cmp0 h ha hb).x] (by kernel_rfl) ?_
      ((repeat' refine And.intro ?_ ?_); (iterate 3 (with_reducible rfl)); (exact True.intro); ((show FnOk _ _ _; assumption)); (iterate 2 (with_reducible rfl)); (exact True.intro); ((show FnOk _ _ _; assumption)); ((with_reducible refine Nq ?_; omega)); (with_reducible assumption); ((show LoopOk _ _ _ _ _; assumption)); (iterate 5 (with_reducible rfl)); (exact True.intro))
      all_goals first | exact h1 | exact h2 | exact h3 | exact hw | (simp; omega)
  · have hl := tsz_lt hb ha h
    have hc : cmpW a b = 1 := by unfold cmpW; rw [if_neg (by omega), if_pos hl]
    rw [hc]
    refine fn_go hmo Try.func183 (by kernel_rfl) [(9, .call ⟨[wA a], [], iz (tsz a : Nat), []⟩), (11, .call ⟨[wA b], [], iz (tsz b : Nat), []⟩), (14, .val (bz true)), (17, .val (bz false))] [] [(1 : Int) = (1 : Int), (a.length = a.length ∧ wL a = wL a) ∧ True, FnOk Try.prog (143 : Nat) (Inst.mk [AV.lst a.length (wL a)] [] (AV.v (Value.int IntKind.i64 (↑(tsz a) : Int))) []), (b.length = b.length ∧ wL b = wL b) ∧ True, FnOk Try.prog (143 : Nat) (Inst.mk [AV.lst b.length (wL b)] [] (AV.v (Value.int IntKind.i64 (↑(tsz b) : Int))) []), ((↑(tsz a) : Int) != (↑(tsz b) : Int)) = true, decide ((↑(tsz a) : Int) < (↑(tsz b) : Int)) = false] (by kernel_rfl) ?_
    ((repeat' refine And.intro ?_ ?_); (iterate 3 (with_reducible rfl)); (exact True.intro); ((show FnOk _ _ _; assumption)); (iterate 2 (with_reducible rfl)); (exact True.intro); ((show FnOk _ _ _; assumption)); ((with_reducible refine Ne ?_; omega)); ((with_reducible refine Df ?_; omega)); (exact True.intro))
    all_goals first | exact h1 | exact h2 | (simp; omega)
end Go.Proofs.Ytfhmaincnlaapaa.Sy
