/-
  NUMBERS OF DIGITS OF BASE 1000: sums, differences, products, quotients of digits, as far as they go.
  NUMBERS OF DIGITS OF BASE 1000 (bushelref01), without the program.
-/
import Derived.Test.YtfhmaincnlaapaaBlk
namespace Go.Proofs.Ytfhmaincnlaapaa
open Go.ChangeShapes Go.WideShapes Go.ChangeAt Go.RowKit
set_option linter.unusedVariables false

/-- the number of a list of digits, the lowest one first -/
def vd : List Nat → Nat
  | [] => 0
  | d :: l => d + 1000 * vd l
theorem vd_cons (d : Nat) (l : List Nat) : vd (d :: l) = d + 1000 * vd l := rfl
/-- a number's digits, no noughts at the end -/
def dig (n : Nat) : List Nat := if h : n = 0 then [] else n % 1000 :: dig (n / 1000)
termination_by n
decreasing_by exact Nat.div_lt_self (by omega) (by decide)
theorem dig_zero : dig 0 = [] := by rw [dig]; simp
theorem dig_pos {n : Nat} (h : n ≠ 0) : dig n = n % 1000 :: dig (n / 1000) := by rw [dig]; simp [h]
theorem vd_dig (n : Nat) : vd (dig n) = n := by
  induction n using Nat.strongRecOn with
  | ind n ih =>
    by_cases h : n = 0
    · subst h; rw [dig_zero]; rfl
    · rw [dig_pos h]
      unfold vd
      rw [ih (n / 1000) (by omega)]
      omega
theorem dig_lt (n : Nat) : ∀ d ∈ dig n, d < 1000 := by
  induction n using Nat.strongRecOn with
  | ind n ih =>
    by_cases h : n = 0
    · subst h; rw [dig_zero]; intro d hd; cases hd
    · rw [dig_pos h]
      intro d hd
      rcases List.mem_cons.1 hd with rfl | hd
      · omega
      · exact ih (n / 1000) (by omega) d hd
theorem vd_app (l m : List Nat) : vd (l ++ m) = vd l + 1000 ^ l.length * vd m := by
  induction l with
  | nil => simp [vd]
  | cons d l ih =>
    rw [List.cons_append, vd_cons, vd_cons, ih, List.length_cons, Nat.pow_succ, Nat.mul_add, ← Nat.mul_assoc, Nat.mul_comm 1000 (1000 ^ l.length)]
    omega
theorem vd_lt (l : List Nat) (h : ∀ d ∈ l, d < 1000) : vd l < 1000 ^ l.length := by
  induction l with
  | nil => simp [vd]
  | cons d l ih =>
    unfold vd
    have h1 := h d (by simp)
    have h2 := ih (fun x hx => h x (by simp [hx]))
    rw [List.length_cons, Nat.pow_succ]
    omega
/-- the length without noughts at the end -/
def tsz : List Nat → Nat
  | [] => 0
  | d :: l => if tsz l = 0 then (if d = 0 then 0 else 1) else tsz l + 1
theorem tsz_le (l : List Nat) : tsz l ≤ l.length := by
  induction l with
  | nil => simp [tsz]
  | cons d l ih => unfold tsz; rw [List.length_cons]; split <;> (try split) <;> omega
theorem tsz_zero (l : List Nat) : tsz l = 0 ↔ vd l = 0 := by
  induction l with
  | nil => simp [tsz, vd]
  | cons d l ih =>
    unfold tsz vd
    split
    · rename_i h
      have := ih.1 h
      split <;> omega
    · rename_i h
      have : vd l ≠ 0 := fun e => h (ih.2 e)
      omega
theorem take_tsz (l : List Nat) (h : ∀ d ∈ l, d < 1000) : l.take (tsz l) = dig (vd l) := by
  induction l with
  | nil => simp [tsz, vd, dig_zero]
  | cons d l ih =>
    have hd := h d (by simp)
    have hl := ih (fun x hx => h x (by simp [hx]))
    unfold tsz vd
    split
    · rename_i h0
      have hz := (tsz_zero l).1 h0
      split
      · rename_i hd0; subst hd0; rw [hz]; simp [dig_zero]
      · rename_i hd0
        rw [hz, Nat.mul_zero, Nat.add_zero, dig_pos hd0, Nat.mod_eq_of_lt hd, Nat.div_eq_of_lt hd, dig_zero]; simp
    · rename_i h0
      have hz : vd l ≠ 0 := fun e => h0 ((tsz_zero l).2 e)
      have e1 : (d + 1000 * vd l) % 1000 = d := by omega
      have e2 : (d + 1000 * vd l) / 1000 = vd l := by omega
      rw [List.take_succ_cons, hl, dig_pos (n := d + 1000 * vd l) (by omega), e1, e2]
theorem tsz_last (l : List Nat) (d : Nat) : tsz (l ++ [d]) = if d = 0 then tsz l else l.length + 1 := by
  induction l with
  | nil => simp [tsz]
  | cons x l ih =>
    rw [List.cons_append]
    unfold tsz
    rw [ih]
    by_cases hd : d = 0
    · rw [if_pos hd, if_pos hd]
    · rw [if_neg hd, if_neg hd, if_neg (by omega), List.length_cons]
theorem vd_pow (l : List Nat) (k : Nat) : vd (List.replicate k 0 ++ l) = 1000 ^ k * vd l := by
  rw [vd_app, List.length_replicate]
  have : vd (List.replicate k 0) = 0 := by
    induction k with
    | zero => rfl
    | succ k ih => rw [List.replicate_succ]; unfold vd; rw [ih]
  omega
theorem dig_len {n k : Nat} (h : n < 1000 ^ k) : (dig n).length ≤ k := by
  induction k generalizing n with
  | zero => have : n = 0 := by simpa using h
            subst this; rw [dig_zero]; simp
  | succ k ih =>
    by_cases h0 : n = 0
    · subst h0; rw [dig_zero]; simp
    · rw [dig_pos h0, List.length_cons]
      have := ih (n := n / 1000) (by rw [Nat.pow_succ] at h; omega)
      omega
end Go.Proofs.Ytfhmaincnlaapaa
namespace Go.Proofs.Ytfhmaincnlaapaa
open Go.ChangeShapes Go.WideShapes Go.ChangeAt Go.RowKit
set_option linter.unusedVariables false

/-- digit j, nought beyond the end -/
def dg (l : List Nat) (j : Nat) : Nat := l.getD j 0
theorem dg_get (l : List Nat) (j : Nat) (h : j < l.length) : l[j] = dg l j := by simp [dg, List.getD, h]
theorem dg_far (l : List Nat) (j : Nat) (h : l.length ≤ j) : dg l j = 0 := by simp [dg, List.getD, h]
theorem dg_lt (l : List Nat) (j : Nat) (h : ∀ d ∈ l, d < 1000) : dg l j < 1000 := by
  rcases Nat.lt_or_ge j l.length with hj | hj
  · rw [← dg_get l j hj]; exact h _ (List.getElem_mem hj)
  · rw [dg_far l j hj]; decide
theorem dg_drop (l : List Nat) (i j : Nat) : dg (l.drop i) j = dg l (i + j) := by simp [dg, List.getD]
theorem vd_nil : vd [] = 0 := rfl
/-- the number from digit i on -/
theorem vd_drop (l : List Nat) (i : Nat) : vd (l.drop i) = dg l i + 1000 * vd (l.drop (i + 1)) := by
  rcases Nat.lt_or_ge i l.length with hi | hi
  · rw [List.drop_eq_getElem_cons hi, vd_cons, dg_get l i hi]
  · rw [List.drop_eq_nil_of_le hi, List.drop_eq_nil_of_le (by omega), dg_far l i hi]; rfl
theorem vd_parts (l : List Nat) (i : Nat) : vd l = vd (l.take i) + 1000 ^ (min i l.length) * vd (l.drop i) := by
  have h := vd_app (l.take i) (l.drop i)
  rw [List.take_append_drop, List.length_take] at h
  exact h
theorem vd_drop_far (l : List Nat) (i : Nat) (h : l.length ≤ i) : vd (l.drop i) = 0 := by rw [List.drop_eq_nil_of_le h]; rfl
theorem vd_snoc (l : List Nat) (d : Nat) : vd (l ++ [d]) = vd l + 1000 ^ l.length * d := by rw [vd_app, vd_cons, vd_nil]; simp
theorem p_pos (k : Nat) : 0 < 1000 ^ k := Nat.pow_pos (by decide)
theorem vd_drop_lt (l : List Nat) (h : ∀ d ∈ l, d < 1000) (i : Nat) : vd (l.drop i) * 1000 ^ i ≤ vd l := by
  induction i with
  | zero => simp
  | succ i ih =>
    rw [vd_drop l i, Nat.add_mul] at ih
    rw [Nat.pow_succ, Nat.mul_comm (1000 ^ i) 1000, ← Nat.mul_assoc, Nat.mul_comm (vd _) 1000]
    have : 0 ≤ dg l i * 1000 ^ i := Nat.zero_le _
    omega
/-- the same from digit i on, less at digit i: less -/
theorem vd_less {a b : List Nat} (ha : ∀ d ∈ a, d < 1000) (hb : ∀ d ∈ b, d < 1000) {i : Nat} (h : vd (a.drop (i + 1)) = vd (b.drop (i + 1))) (hl : dg a i < dg b i) : vd a < vd b := by
  have e1 := vd_drop a i
  have e2 := vd_drop b i
  have hlt : vd (a.drop i) < vd (b.drop i) := by omega
  clear e1 e2 h hl
  induction i with
  | zero => simpa using hlt
  | succ i ih =>
    apply ih
    have e1 := vd_drop a i
    have e2 := vd_drop b i
    have h1 := dg_lt a i ha
    have h2 := dg_lt b i hb
    omega
/-- the sum of digits, as far as it goes -/
def SumR (a b out : List Nat) (i carry : Nat) : Prop := out.length = i ∧ carry ≤ 1 ∧ (∀ d ∈ out, d < 1000) ∧ vd out + 1000 ^ i * (carry + vd (a.drop i) + vd (b.drop i)) = vd a + vd b
theorem SumR.zero (a b : List Nat) : SumR a b [] 0 0 := ⟨rfl, by decide, fun d hd => (by cases hd), by simp [vd_nil]⟩
theorem SumR.succ {a b out : List Nat} {i carry : Nat} (ha : ∀ d ∈ a, d < 1000) (hb : ∀ d ∈ b, d < 1000) (h : SumR a b out i carry) : SumR a b (out ++ [(dg a i + dg b i + carry) % 1000]) (i + 1) ((dg a i + dg b i + carry) / 1000) := by
  obtain ⟨h1, h2, h3, h4⟩ := h
  have x1 := dg_lt a i ha
  have x2 := dg_lt b i hb
  refine ⟨by simp [h1], by omega, fun d hd => ?_, ?_⟩
  · rcases List.mem_append.1 hd with hd | hd
    · exact h3 d hd
    · obtain rfl := List.mem_singleton.1 hd; exact Nat.mod_lt _ (by decide)
  · rw [vd_snoc, h1, ← h4, vd_drop a i, vd_drop b i, Nat.pow_succ]
    generalize 1000 ^ i = P
    generalize vd (a.drop (i + 1)) = x
    generalize vd (b.drop (i + 1)) = y
    obtain ⟨s, hs⟩ : ∃ s, dg a i + dg b i + carry = s := ⟨_, rfl⟩
    have e1 : carry + (dg a i + 1000 * x) + (dg b i + 1000 * y) = s % 1000 + 1000 * (s / 1000 + x + y) := by omega
    rw [hs, e1, Nat.mul_add P (s % 1000), Nat.mul_assoc P 1000, Nat.add_assoc]
theorem SumR.end_ {a b out : List Nat} {i carry : Nat} (h : SumR a b out i carry) (h1 : a.length ≤ i) (h2 : b.length ≤ i) : vd (out ++ [carry]) = vd a + vd b ∧ ∀ d ∈ out ++ [carry], d < 1000 := by
  obtain ⟨g1, g2, g3, g4⟩ := h
  rw [vd_drop_far a i h1, vd_drop_far b i h2] at g4
  refine ⟨by rw [vd_snoc, g1, ← g4]; simp, fun d hd => ?_⟩
  rcases List.mem_append.1 hd with hd | hd
  · exact g3 d hd
  · obtain rfl := List.mem_singleton.1 hd; omega
/-- the difference of digits, as far as it goes -/
def RestR (a b out : List Nat) (i borrow : Nat) : Prop := out.length = i ∧ borrow ≤ 1 ∧ (∀ d ∈ out, d < 1000) ∧ (vd out : Int) + (1000 ^ i : Nat) * ((vd (a.drop i) : Int) - vd (b.drop i) - borrow) = (vd a : Int) - vd b
theorem RestR.zero (a b : List Nat) : RestR a b [] 0 0 := ⟨rfl, by decide, fun d hd => (by cases hd), by simp [vd_nil]⟩
theorem RestR.step {a b out : List Nat} {i borrow d borrow' : Nat} (hd : d < 1000) (hb' : borrow' ≤ 1) (h : RestR a b out i borrow) (he : (dg a i : Int) - dg b i - borrow = (d : Int) - 1000 * borrow') : RestR a b (out ++ [d]) (i + 1) borrow' := by
  obtain ⟨h1, h2, h3, h4⟩ := h
  refine ⟨by simp [h1], hb', fun x hx => ?_, ?_⟩
  · rcases List.mem_append.1 hx with hx | hx
    · exact h3 x hx
    · obtain rfl := List.mem_singleton.1 hx; exact hd
  · rw [vd_snoc, h1, ← h4, vd_drop a i, vd_drop b i, Nat.pow_succ]
    generalize 1000 ^ i = P
    generalize vd (a.drop (i + 1)) = x
    generalize vd (b.drop (i + 1)) = y
    have e1 : ((dg a i + 1000 * x : Nat) : Int) - ((dg b i + 1000 * y : Nat) : Int) - borrow = d + 1000 * ((x : Int) - y - borrow') := by omega
    rw [e1, Int.mul_add]
    simp only [Int.natCast_add, Int.natCast_mul]
    rw [Int.mul_assoc (P : Int), Int.add_assoc]
    rfl
theorem RestR.end_ {a b out : List Nat} (h : ∃ borrow, RestR a b out a.length borrow) (hle : vd b ≤ vd a) : vd out = vd a - vd b ∧ ∀ d ∈ out, d < 1000 := by
  obtain ⟨borrow, g1, g2, g3, g4⟩ := h
  refine ⟨?_, g3⟩
  rw [vd_drop_far a _ (Nat.le_refl _)] at g4
  have hlt := vd_lt out g3
  rw [g1] at hlt
  generalize 1000 ^ a.length = P at *
  generalize hx : vd (b.drop a.length) = x at *
  have hz : x + borrow = 0 := by
    rcases Nat.eq_zero_or_pos (x + borrow) with h0 | h0
    · exact h0
    · exfalso
      have e : (P : Int) * ((0 : Nat) - (x : Int) - borrow) = -((P * (x + borrow) : Nat) : Int) := by push_cast; rw [show ((0 : Int) - x - borrow) = -((x : Int) + borrow) from by omega, Int.mul_neg]
      rw [e] at g4
      have : P * 1 ≤ P * (x + borrow) := Nat.mul_le_mul_left _ h0
      omega
  obtain ⟨rfl, rfl⟩ : x = 0 ∧ borrow = 0 := by omega
  simp at g4
  omega
/-- one digit turned -/
theorem vd_set (l : List Nat) (j x : Nat) (h : j < l.length) : vd (l.set j x) + 1000 ^ j * dg l j = vd l + 1000 ^ j * x := by
  induction l generalizing j with
  | nil => simp at h
  | cons d l ih =>
    cases j with
    | zero => simp [vd_cons, dg]; omega
    | succ j =>
      have := ih j (by simpa using h)
      rw [List.set_cons_succ, vd_cons, vd_cons, Nat.pow_succ]
      have e : dg (d :: l) (j + 1) = dg l j := by simp [dg]
      rw [e, Nat.mul_comm (1000 ^ j) 1000, Nat.mul_assoc, Nat.mul_assoc]
      omega
theorem dg_set_self (l : List Nat) (j x : Nat) (h : j < l.length) : dg (l.set j x) j = x := by simp [dg, List.getD, h]
theorem dg_set_ne (l : List Nat) (j k x : Nat) (h : j ≠ k) : dg (l.set j x) k = dg l k := by simp [dg, List.getD, List.getElem?_set_ne h]
theorem vd_repl (k : Nat) : vd (List.replicate k 0) = 0 := by have := vd_pow [] k; simpa [vd_nil] using this
/-- the product of digits, as far as it goes: rounds i; in round i, k digits of b -/
def MulR (a b out : List Nat) (i : Nat) : Prop := out.length = a.length + b.length + 1 ∧ (∀ d ∈ out, d < 1000) ∧ (∀ j, i + b.length ≤ j → dg out j = 0) ∧ vd out = vd (a.take i) * vd b
def MulI (a b out : List Nat) (i k carry : Nat) : Prop := out.length = a.length + b.length + 1 ∧ (∀ d ∈ out, d < 1000) ∧ (∀ j, i + b.length ≤ j → dg out j = 0) ∧ carry < 1000 ∧ vd out + 1000 ^ (i + k) * carry = vd (a.take i) * vd b + 1000 ^ i * (dg a i * vd (b.take k))
theorem mem_set_lt {l : List Nat} {j x : Nat} (h : ∀ d ∈ l, d < 1000) (hx : x < 1000) : ∀ d ∈ l.set j x, d < 1000 := fun d hd => by
  rcases List.mem_or_eq_of_mem_set hd with hd | rfl
  · exact h d hd
  · exact hx
theorem vd_take_succ (l : List Nat) (k : Nat) (h : k < l.length) : vd (l.take (k + 1)) = vd (l.take k) + 1000 ^ k * dg l k := by
  rw [List.take_succ_eq_append_getElem h, vd_snoc, List.length_take, dg_get l k h, Nat.min_eq_left (by omega)]
theorem MulR.zero (a b : List Nat) : MulR a b (List.replicate (a.length + b.length + 1) 0) 0 := by
  refine ⟨by simp, fun d hd => ?_, fun j _ => ?_, ?_⟩
  · have := List.eq_of_mem_replicate hd; omega
  · unfold dg List.getD; rw [List.getElem?_replicate]; split <;> rfl
  · rw [vd_repl]; simp [vd_nil]
theorem MulR.start {a b out : List Nat} {i : Nat} (h : MulR a b out i) : MulI a b out i 0 0 := ⟨h.1, h.2.1, h.2.2.1, by decide, by rw [h.2.2.2]; simp [vd_nil]⟩
theorem prod_bd {x y z c : Nat} (hx : x < 1000) (hy : y < 1000) (hz : z < 1000) (hc : c < 1000) : z + x * y + c < 1000000 := by
  have : x * y ≤ 999 * 999 := Nat.mul_le_mul (by omega) (by omega)
  omega
theorem MulI.succ {a b out : List Nat} {i k carry : Nat} (ha : ∀ d ∈ a, d < 1000) (hb : ∀ d ∈ b, d < 1000) (h : MulI a b out i k carry) (hi : i < a.length) (hk : k < b.length) :
    MulI a b (out.set (i + k) ((dg out (i + k) + dg a i * dg b k + carry) % 1000)) i (k + 1) ((dg out (i + k) + dg a i * dg b k + carry) / 1000) := by
  obtain ⟨h1, h2, h3, h4, h5⟩ := h
  have x1 := dg_lt a i ha
  have x2 := dg_lt b k hb
  have x3 := dg_lt out (i + k) h2
  have hbd := prod_bd x1 x2 x3 h4
  have hs := vd_set out (i + k) ((dg out (i + k) + dg a i * dg b k + carry) % 1000) (by omega)
  refine ⟨by simp [h1], mem_set_lt h2 (Nat.mod_lt _ (by decide)), fun j hj => by rw [dg_set_ne _ _ _ _ (by omega)]; exact h3 j hj, by omega, ?_⟩
  rw [vd_take_succ b k hk, Nat.mul_add, Nat.mul_add, ← Nat.add_assoc (vd (a.take i) * vd b), ← h5, ← Nat.add_assoc i k 1, Nat.pow_succ]
  generalize dg out (i + k) = o at *
  generalize dg a i = p at *
  generalize dg b k = q at *
  have e1 : 1000 ^ i * (p * (1000 ^ k * q)) = 1000 ^ (i + k) * (p * q) := by rw [Nat.pow_add, ← Nat.mul_assoc p, Nat.mul_comm p, Nat.mul_assoc (1000 ^ k), ← Nat.mul_assoc (1000 ^ i)]
  rw [e1]
  generalize vd (out.set (i + k) ((o + p * q + carry) % 1000)) = V' at *
  generalize vd out = V at *
  generalize 1000 ^ (i + k) = P at *
  obtain ⟨s, hss⟩ : ∃ s, o + p * q + carry = s := ⟨_, rfl⟩
  rw [hss] at hs ⊢
  have e2 : P * s = P * o + P * (p * q) + P * carry := by rw [← hss, Nat.mul_add, Nat.mul_add]
  have e3 : P * s = P * (s % 1000) + P * 1000 * (s / 1000) := by
    rw [Nat.mul_assoc, ← Nat.mul_add, Nat.mod_add_div]
  omega
theorem MulI.end_ {a b out : List Nat} {i carry : Nat} (h : MulI a b out i b.length carry) (hi : i < a.length) : MulR a b (out.set (i + b.length) carry) (i + 1) := by
  obtain ⟨h1, h2, h3, h4, h5⟩ := h
  have hs := vd_set out (i + b.length) carry (by omega)
  have h0 := h3 (i + b.length) (Nat.le_refl _)
  refine ⟨by simp [h1], mem_set_lt h2 h4, fun j hj => by rw [dg_set_ne _ _ _ _ (by omega)]; exact h3 j (by omega), ?_⟩
  rw [h0, Nat.mul_zero, Nat.add_zero] at hs
  rw [hs, h5, vd_take_succ a i hi, List.take_length, Nat.add_mul, Nat.mul_assoc]
theorem MulR.all {a b out : List Nat} (h : MulR a b out a.length) : vd out = vd a * vd b ∧ ∀ d ∈ out, d < 1000 := by
  obtain ⟨_, h2, _, h4⟩ := h
  rw [List.take_length] at h4
  exact ⟨h4, h2⟩
/-- how many digits -/
def nd (z : Int) : Nat := (dig z.natAbs).length
theorem dig_vd_len {n : Nat} {l : List Nat} (h : dig n = l) : vd l = n := by rw [← h, vd_dig]
theorem dig_inj {m n : Nat} (h : dig m = dig n) : m = n := by rw [← vd_dig m, h, vd_dig]
theorem dig_len2 {n k : Nat} (h : n < 2 ^ k) : (dig n).length ≤ k := dig_len (Nat.lt_of_lt_of_le h (Nat.pow_le_pow_left (by decide) k))
theorem dig_mono {m n : Nat} (h : m ≤ n) : (dig m).length ≤ (dig n).length := by
  apply dig_len
  have := vd_lt (dig n) (dig_lt n)
  rw [vd_dig] at this
  omega
theorem dig_len_le {n : Nat} {l : List Nat} (h : ∀ d ∈ l, d < 1000) (e : vd l = n) : (dig n).length ≤ l.length := by
  apply dig_len; rw [← e]; exact vd_lt l h
/-- long division: what is left, and a digit more -/
theorem ldiv_step {b r d : Nat} (hb : 0 < b) (hr : r < b) (hd : d < 1000) : (d + 1000 * r) / b < 1000 := by
  rw [Nat.div_lt_iff_lt_mul hb]
  have : 1000 * r + 1000 ≤ 1000 * b := by omega
  rw [Nat.mul_comm]; omega
/-- long division, as far as it goes: digits from i on are done -/
def DivR (a q : List Nat) (b i r : Nat) : Prop := q.length = a.length ∧ (∀ d ∈ q, d < 1000) ∧ (∀ j, j < i → dg q j = 0) ∧ r < b ∧ vd (q.drop i) * b + r = vd (a.drop i)
theorem DivR.start (a : List Nat) (b : Nat) (hb : 0 < b) : DivR a (List.replicate a.length 0) b a.length 0 := by
  refine ⟨by simp, fun d hd => ?_, fun j _ => ?_, hb, ?_⟩
  · have := List.eq_of_mem_replicate hd; omega
  · unfold dg List.getD; rw [List.getElem?_replicate]; split <;> rfl
  · rw [vd_drop_far _ _ (by simp), vd_drop_far _ _ (Nat.le_refl _)]; simp
theorem drop_set_le (l : List Nat) (i x : Nat) : (l.set i x).drop (i + 1) = l.drop (i + 1) := by rw [List.drop_set_of_lt (by omega)]
theorem DivR.step {a q : List Nat} {b i r : Nat} (ha : ∀ d ∈ a, d < 1000) (h : DivR a q b (i + 1) r) (hi : i < a.length) : DivR a (q.set i ((dg a i + 1000 * r) / b)) b i ((dg a i + 1000 * r) % b) := by
  obtain ⟨h1, h2, h3, h4, h5⟩ := h
  have hb : 0 < b := by omega
  have hd := ldiv_step hb h4 (dg_lt a i ha)
  refine ⟨by simp [h1], mem_set_lt h2 hd, fun j hj => by rw [dg_set_ne _ _ _ _ (by omega)]; exact h3 j (by omega), Nat.mod_lt _ hb, ?_⟩
  rw [vd_drop (q.set i _) i, vd_drop a i, dg_set_self _ _ _ (by omega), drop_set_le, ← h5, Nat.add_mul]
  have e := Nat.div_add_mod (dg a i + 1000 * r) b
  rw [Nat.mul_comm b] at e
  rw [Nat.mul_add, ← Nat.mul_assoc]
  generalize (dg a i + 1000 * r) / b * b = x at *
  generalize (dg a i + 1000 * r) % b = y at *
  generalize 1000 * vd (List.drop (i + 1) q) * b = z
  omega
theorem set_zero {q : List Nat} {i : Nat} (h : dg q i = 0) : q.set i 0 = q := by
  apply List.ext_getElem?
  intro j
  rw [List.getElem?_set]
  split
  · rename_i e; subst e
    split
    · rename_i hl
      rw [List.getElem?_eq_getElem hl, dg_get q _ hl, h]
    · rename_i hl
      rw [List.getElem?_eq_none (by omega)]
  · rfl
theorem DivR.less {a q : List Nat} {b i r : Nat} (ha : ∀ d ∈ a, d < 1000) (h : DivR a q b (i + 1) r) (hi : i < a.length) (hl : dg a i + 1000 * r < b) : DivR a q b i (dg a i + 1000 * r) := by
  have h' := h.step ha hi
  rw [Nat.div_eq_of_lt hl, Nat.mod_eq_of_lt hl, set_zero (h.2.2.1 i (by omega))] at h'
  exact h'
theorem DivR.all {a q : List Nat} {b r : Nat} (h : DivR a q b 0 r) : vd q = vd a / b ∧ (∀ d ∈ q, d < 1000) := by
  obtain ⟨_, h2, _, h4, h5⟩ := h
  refine ⟨?_, h2⟩
  rw [List.drop_zero, List.drop_zero] at h5
  rw [← h5, Nat.add_comm, Nat.add_mul_div_right _ _ (by omega), Nat.div_eq_of_lt h4]; omega
/-- the search for a quotient's digit -/
theorem half_up {b r lo hi mid : Nat} (h1 : lo * b ≤ r) (h2 : r < (hi + 1) * b) (hm : mid * b ≤ r) : mid * b ≤ r ∧ r < (hi + 1) * b := ⟨hm, h2⟩
theorem quot_of {b r q : Nat} (h1 : q * b ≤ r) (h2 : r < (q + 1) * b) : r / b = q := by
  have hb : 0 < b := by
    rcases Nat.eq_zero_or_pos b with h0 | h0
    · subst h0; omega
    · exact h0
  apply Nat.le_antisymm
  · exact Nat.le_of_lt_succ ((Nat.div_lt_iff_lt_mul hb).2 h2)
  · exact (Nat.le_div_iff_mul_le hb).2 h1
end Go.Proofs.Ytfhmaincnlaapaa
