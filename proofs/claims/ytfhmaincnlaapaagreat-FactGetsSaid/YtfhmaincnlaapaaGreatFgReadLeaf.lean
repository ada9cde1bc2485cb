/-
  tree.ReadLeaf.
  bushelref11.Keys, bushelref15.Rising.
  A region that draws its order, its steps written out (reg.py): an operation taken first, one left out by its guard, a call.
  agg.Put.
  agg.Get.
  agg.measure, agg.Get.
  cells.rising, cells.Right.
  agg.Right.
  What agg.Get comes to; what is put of a right cell is got.
  bushelref02.Num: words of 32 bits to a number.
  NUMBERS OF WORDS OF 32 BITS: the same laws as those of digits (printed by gen_wordmath.py).
-/
import Derived.Deep.RegionHeld3
import Derived.Deep.RegionLawGrows
import Derived.Deep.DeepCutAuto
import Derived.StillTailTactics
import Derived.Test.YtfhmaincnlaapaaGreatFgBufOut
import Derived.Test.YtfhmaincnlaapaaGreatFgBufOutKeep
import Derived.Test.YtfhmaincnlaapaaGreatFgRefNodesW
import Derived.Test.YtfhmaincnlaapaaGreatFgFactSame2
import Derived.Test.YtfhmaincnlaapaaGreatFgGetLaw
import Derived.Test.YtfhmaincnlaapaaGreatFgSchemaKeys
import Derived.Test.YtfhmaincnlaapaaGreatFgExactRead
namespace Go.Proofs.YtfhmaincnlaapaaGreat
open Go.ChangeShapes Go.WideShapes Go.ChangeAt Go.RowKit
set_option linter.unusedVariables false

/-- the number of a list of digits, the lowest one first -/
def vw : List Nat → Nat
  | [] => 0
  | d :: l => d + 4294967296 * vw l
theorem vd_consW (d : Nat) (l : List Nat) : vw (d :: l) = d + 4294967296 * vw l := rfl
theorem vd_appW (l m : List Nat) : vw (l ++ m) = vw l + 4294967296 ^ l.length * vw m := by
  induction l with
  | nil => simp [vw]
  | cons d l ih =>
    rw [List.cons_append, vd_consW, vd_consW, ih, List.length_cons, Nat.pow_succ, Nat.mul_add, ← Nat.mul_assoc, Nat.mul_comm 4294967296 (4294967296 ^ l.length)]
    omega
theorem vd_ltW (l : List Nat) (h : ∀ d ∈ l, d < 4294967296) : vw l < 4294967296 ^ l.length := by
  induction l with
  | nil => simp [vw]
  | cons d l ih =>
    unfold vw
    have h1 := h d (by simp)
    have h2 := ih (fun x hx => h x (by simp [hx]))
    rw [List.length_cons, Nat.pow_succ]
    omega
theorem vd_powW (l : List Nat) (k : Nat) : vw (List.replicate k 0 ++ l) = 4294967296 ^ k * vw l := by
  rw [vd_appW, List.length_replicate]
  have : vw (List.replicate k 0) = 0 := by
    induction k with
    | zero => rfl
    | succ k ih => rw [List.replicate_succ]; unfold vw; rw [ih]
  omega
theorem dg_ltW (l : List Nat) (j : Nat) (h : ∀ d ∈ l, d < 4294967296) : dg l j < 4294967296 := by
  rcases Nat.lt_or_ge j l.length with hj | hj
  · rw [← dg_get l j hj]; exact h _ (List.getElem_mem hj)
  · rw [dg_far l j hj]; decide
theorem vd_nilW : vw [] = 0 := rfl
/-- the number from digit i on -/
theorem vd_dropW (l : List Nat) (i : Nat) : vw (l.drop i) = dg l i + 4294967296 * vw (l.drop (i + 1)) := by
  rcases Nat.lt_or_ge i l.length with hi | hi
  · rw [List.drop_eq_getElem_cons hi, vd_consW, dg_get l i hi]
  · rw [List.drop_eq_nil_of_le hi, List.drop_eq_nil_of_le (by omega), dg_far l i hi]; rfl
theorem vd_drop_farW (l : List Nat) (i : Nat) (h : l.length ≤ i) : vw (l.drop i) = 0 := by rw [List.drop_eq_nil_of_le h]; rfl
theorem vd_snocW (l : List Nat) (d : Nat) : vw (l ++ [d]) = vw l + 4294967296 ^ l.length * d := by rw [vd_appW, vd_consW, vd_nilW]; simp
/-- the sum of digits, as far as it goes -/
def SumRW (a b out : List Nat) (i carry : Nat) : Prop := out.length = i ∧ carry ≤ 1 ∧ (∀ d ∈ out, d < 4294967296) ∧ vw out + 4294967296 ^ i * (carry + vw (a.drop i) + vw (b.drop i)) = vw a + vw b
theorem SumRW.zero (a b : List Nat) : SumRW a b [] 0 0 := ⟨rfl, by decide, fun d hd => (by cases hd), by simp [vd_nilW]⟩
theorem SumRW.succ {a b out : List Nat} {i carry : Nat} (ha : ∀ d ∈ a, d < 4294967296) (hb : ∀ d ∈ b, d < 4294967296) (h : SumRW a b out i carry) : SumRW a b (out ++ [(dg a i + dg b i + carry) % 4294967296]) (i + 1) ((dg a i + dg b i + carry) / 4294967296) := by
  obtain ⟨h1, h2, h3, h4⟩ := h
  have x1 := dg_ltW a i ha
  have x2 := dg_ltW b i hb
  refine ⟨by simp [h1], by omega, fun d hd => ?_, ?_⟩
  · rcases List.mem_append.1 hd with hd | hd
    · exact h3 d hd
    · obtain rfl := List.mem_singleton.1 hd; exact Nat.mod_lt _ (by decide)
  · rw [vd_snocW, h1, ← h4, vd_dropW a i, vd_dropW b i, Nat.pow_succ]
    generalize 4294967296 ^ i = P
    generalize vw (a.drop (i + 1)) = x
    generalize vw (b.drop (i + 1)) = y
    obtain ⟨s, hs⟩ : ∃ s, dg a i + dg b i + carry = s := ⟨_, rfl⟩
    have e1 : carry + (dg a i + 4294967296 * x) + (dg b i + 4294967296 * y) = s % 4294967296 + 4294967296 * (s / 4294967296 + x + y) := by omega
    rw [hs, e1, Nat.mul_add P (s % 4294967296), Nat.mul_assoc P 4294967296, Nat.add_assoc]
theorem SumRW.end_ {a b out : List Nat} {i carry : Nat} (h : SumRW a b out i carry) (h1 : a.length ≤ i) (h2 : b.length ≤ i) : vw (out ++ [carry]) = vw a + vw b ∧ ∀ d ∈ out ++ [carry], d < 4294967296 := by
  obtain ⟨g1, g2, g3, g4⟩ := h
  rw [vd_drop_farW a i h1, vd_drop_farW b i h2] at g4
  refine ⟨by rw [vd_snocW, g1, ← g4]; simp, fun d hd => ?_⟩
  rcases List.mem_append.1 hd with hd | hd
  · exact g3 d hd
  · obtain rfl := List.mem_singleton.1 hd; omega
/-- the difference of digits, as far as it goes -/
def RestRW (a b out : List Nat) (i borrow : Nat) : Prop := out.length = i ∧ borrow ≤ 1 ∧ (∀ d ∈ out, d < 4294967296) ∧ (vw out : Int) + (4294967296 ^ i : Nat) * ((vw (a.drop i) : Int) - vw (b.drop i) - borrow) = (vw a : Int) - vw b
theorem RestRW.zero (a b : List Nat) : RestRW a b [] 0 0 := ⟨rfl, by decide, fun d hd => (by cases hd), by simp [vd_nilW]⟩
theorem RestRW.step {a b out : List Nat} {i borrow d borrow' : Nat} (hd : d < 4294967296) (hb' : borrow' ≤ 1) (h : RestRW a b out i borrow) (he : (dg a i : Int) - dg b i - borrow = (d : Int) - 4294967296 * borrow') : RestRW a b (out ++ [d]) (i + 1) borrow' := by
  obtain ⟨h1, h2, h3, h4⟩ := h
  refine ⟨by simp [h1], hb', fun x hx => ?_, ?_⟩
  · rcases List.mem_append.1 hx with hx | hx
    · exact h3 x hx
    · obtain rfl := List.mem_singleton.1 hx; exact hd
  · rw [vd_snocW, h1, ← h4, vd_dropW a i, vd_dropW b i, Nat.pow_succ]
    generalize 4294967296 ^ i = P
    generalize vw (a.drop (i + 1)) = x
    generalize vw (b.drop (i + 1)) = y
    have e1 : ((dg a i + 4294967296 * x : Nat) : Int) - ((dg b i + 4294967296 * y : Nat) : Int) - borrow = d + 4294967296 * ((x : Int) - y - borrow') := by omega
    rw [e1, Int.mul_add]
    simp only [Int.natCast_add, Int.natCast_mul]
    rw [Int.mul_assoc (P : Int), Int.add_assoc]
    rfl
theorem RestRW.end_ {a b out : List Nat} (h : ∃ borrow, RestRW a b out a.length borrow) (hle : vw b ≤ vw a) : vw out = vw a - vw b ∧ ∀ d ∈ out, d < 4294967296 := by
  obtain ⟨borrow, g1, g2, g3, g4⟩ := h
  refine ⟨?_, g3⟩
  rw [vd_drop_farW a _ (Nat.le_refl _)] at g4
  have hlt := vd_ltW out g3
  rw [g1] at hlt
  generalize 4294967296 ^ a.length = P at *
  generalize hx : vw (b.drop a.length) = x at *
  have hz : x + borrow = 0 := by
    rcases Nat.eq_zero_or_pos (x + borrow) with h0 | h0
    · exact h0
    · exfalso
      have e : (P : Int) * ((0 : Nat) - (x : Int) - borrow) = -((P * (x + borrow) : Nat) : Int) := by push_cast; rw [show ((0 : Int) - x - borrow) = -((x : Int) + borrow) from by omega, Int.mul_neg]
      rw [e] at g4
      have : P * 1 ≤ P * (x + borrow) := Nat.mul_le_mul_left _ h0
      omega
  obtain ⟨rfl, rfl⟩ : x = 0 ∧ borrow = 0 := by omega
  simp at g4
  omega
/-- one digit turned -/
theorem vd_setW (l : List Nat) (j x : Nat) (h : j < l.length) : vw (l.set j x) + 4294967296 ^ j * dg l j = vw l + 4294967296 ^ j * x := by
  induction l generalizing j with
  | nil => simp at h
  | cons d l ih =>
    cases j with
    | zero => simp [vd_consW, dg]; omega
    | succ j =>
      have := ih j (by simpa using h)
      rw [List.set_cons_succ, vd_consW, vd_consW, Nat.pow_succ]
      have e : dg (d :: l) (j + 1) = dg l j := by simp [dg]
      rw [e, Nat.mul_comm (4294967296 ^ j) 4294967296, Nat.mul_assoc, Nat.mul_assoc]
      omega
theorem vd_replW (k : Nat) : vw (List.replicate k 0) = 0 := by have := vd_powW [] k; simpa [vd_nilW] using this
/-- the product of digits, as far as it goes: rounds i; in round i, k digits of b -/
def MulRW (a b out : List Nat) (i : Nat) : Prop := out.length = a.length + b.length + 1 ∧ (∀ d ∈ out, d < 4294967296) ∧ (∀ j, i + b.length ≤ j → dg out j = 0) ∧ vw out = vw (a.take i) * vw b
def MulIW (a b out : List Nat) (i k carry : Nat) : Prop := out.length = a.length + b.length + 1 ∧ (∀ d ∈ out, d < 4294967296) ∧ (∀ j, i + b.length ≤ j → dg out j = 0) ∧ carry < 4294967296 ∧ vw out + 4294967296 ^ (i + k) * carry = vw (a.take i) * vw b + 4294967296 ^ i * (dg a i * vw (b.take k))
theorem mem_set_ltW {l : List Nat} {j x : Nat} (h : ∀ d ∈ l, d < 4294967296) (hx : x < 4294967296) : ∀ d ∈ l.set j x, d < 4294967296 := fun d hd => by
  rcases List.mem_or_eq_of_mem_set hd with hd | rfl
  · exact h d hd
  · exact hx
theorem vd_take_succW (l : List Nat) (k : Nat) (h : k < l.length) : vw (l.take (k + 1)) = vw (l.take k) + 4294967296 ^ k * dg l k := by
  rw [List.take_succ_eq_append_getElem h, vd_snocW, List.length_take, dg_get l k h, Nat.min_eq_left (by omega)]
theorem MulRW.zero (a b : List Nat) : MulRW a b (List.replicate (a.length + b.length + 1) 0) 0 := by
  refine ⟨by simp, fun d hd => ?_, fun j _ => ?_, ?_⟩
  · have := List.eq_of_mem_replicate hd; omega
  · unfold dg List.getD; rw [List.getElem?_replicate]; split <;> rfl
  · rw [vd_replW]; simp [vd_nilW]
theorem MulRW.start {a b out : List Nat} {i : Nat} (h : MulRW a b out i) : MulIW a b out i 0 0 := ⟨h.1, h.2.1, h.2.2.1, by decide, by rw [h.2.2.2]; simp [vd_nilW]⟩
theorem prod_bdW {x y z c : Nat} (hx : x < 4294967296) (hy : y < 4294967296) (hz : z < 4294967296) (hc : c < 4294967296) : z + x * y + c < 18446744073709551616 := by
  have : x * y ≤ 4294967295 * 4294967295 := Nat.mul_le_mul (by omega) (by omega)
  omega
theorem MulIW.succ {a b out : List Nat} {i k carry : Nat} (ha : ∀ d ∈ a, d < 4294967296) (hb : ∀ d ∈ b, d < 4294967296) (h : MulIW a b out i k carry) (hi : i < a.length) (hk : k < b.length) :
    MulIW a b (out.set (i + k) ((dg out (i + k) + dg a i * dg b k + carry) % 4294967296)) i (k + 1) ((dg out (i + k) + dg a i * dg b k + carry) / 4294967296) := by
  obtain ⟨h1, h2, h3, h4, h5⟩ := h
  have x1 := dg_ltW a i ha
  have x2 := dg_ltW b k hb
  have x3 := dg_ltW out (i + k) h2
  have hbd := prod_bdW x1 x2 x3 h4
  have hs := vd_setW out (i + k) ((dg out (i + k) + dg a i * dg b k + carry) % 4294967296) (by omega)
  refine ⟨by simp [h1], mem_set_ltW h2 (Nat.mod_lt _ (by decide)), fun j hj => by rw [dg_set_ne _ _ _ _ (by omega)]; exact h3 j hj, by omega, ?_⟩
  rw [vd_take_succW b k hk, Nat.mul_add, Nat.mul_add, ← Nat.add_assoc (vw (a.take i) * vw b), ← h5, ← Nat.add_assoc i k 1, Nat.pow_succ]
  generalize dg out (i + k) = o at *
  generalize dg a i = p at *
  generalize dg b k = q at *
  have e1 : 4294967296 ^ i * (p * (4294967296 ^ k * q)) = 4294967296 ^ (i + k) * (p * q) := by rw [Nat.pow_add, ← Nat.mul_assoc p, Nat.mul_comm p, Nat.mul_assoc (4294967296 ^ k), ← Nat.mul_assoc (4294967296 ^ i)]
  rw [e1]
  generalize vw (out.set (i + k) ((o + p * q + carry) % 4294967296)) = V' at *
  generalize vw out = V at *
  generalize 4294967296 ^ (i + k) = P at *
  obtain ⟨s, hss⟩ : ∃ s, o + p * q + carry = s := ⟨_, rfl⟩
  rw [hss] at hs ⊢
  have e2 : P * s = P * o + P * (p * q) + P * carry := by rw [← hss, Nat.mul_add, Nat.mul_add]
  have e3 : P * s = P * (s % 4294967296) + P * 4294967296 * (s / 4294967296) := by
    rw [Nat.mul_assoc, ← Nat.mul_add, Nat.mod_add_div]
  omega
theorem MulIW.end_ {a b out : List Nat} {i carry : Nat} (h : MulIW a b out i b.length carry) (hi : i < a.length) : MulRW a b (out.set (i + b.length) carry) (i + 1) := by
  obtain ⟨h1, h2, h3, h4, h5⟩ := h
  have hs := vd_setW out (i + b.length) carry (by omega)
  have h0 := h3 (i + b.length) (Nat.le_refl _)
  refine ⟨by simp [h1], mem_set_ltW h2 h4, fun j hj => by rw [dg_set_ne _ _ _ _ (by omega)]; exact h3 j (by omega), ?_⟩
  rw [h0, Nat.mul_zero, Nat.add_zero] at hs
  rw [hs, h5, vd_take_succW a i hi, List.take_length, Nat.add_mul, Nat.mul_assoc]
theorem MulRW.all {a b out : List Nat} (h : MulRW a b out a.length) : vw out = vw a * vw b ∧ ∀ d ∈ out, d < 4294967296 := by
  obtain ⟨_, h2, _, h4⟩ := h
  rw [List.take_length] at h4
  exact ⟨h4, h2⟩
/-- long division: what is left, and a digit more -/
theorem ldiv_stepW {b r d : Nat} (hb : 0 < b) (hr : r < b) (hd : d < 4294967296) : (d + 4294967296 * r) / b < 4294967296 := by
  rw [Nat.div_lt_iff_lt_mul hb]
  have : 4294967296 * r + 4294967296 ≤ 4294967296 * b := by omega
  rw [Nat.mul_comm]; omega
/-- long division, as far as it goes: digits from i on are done -/
def DivRW (a q : List Nat) (b i r : Nat) : Prop := q.length = a.length ∧ (∀ d ∈ q, d < 4294967296) ∧ (∀ j, j < i → dg q j = 0) ∧ r < b ∧ vw (q.drop i) * b + r = vw (a.drop i)
theorem DivRW.start (a : List Nat) (b : Nat) (hb : 0 < b) : DivRW a (List.replicate a.length 0) b a.length 0 := by
  refine ⟨by simp, fun d hd => ?_, fun j _ => ?_, hb, ?_⟩
  · have := List.eq_of_mem_replicate hd; omega
  · unfold dg List.getD; rw [List.getElem?_replicate]; split <;> rfl
  · rw [vd_drop_farW _ _ (by simp), vd_drop_farW _ _ (Nat.le_refl _)]; simp
theorem DivRW.step {a q : List Nat} {b i r : Nat} (ha : ∀ d ∈ a, d < 4294967296) (h : DivRW a q b (i + 1) r) (hi : i < a.length) : DivRW a (q.set i ((dg a i + 4294967296 * r) / b)) b i ((dg a i + 4294967296 * r) % b) := by
  obtain ⟨h1, h2, h3, h4, h5⟩ := h
  have hb : 0 < b := by omega
  have hd := ldiv_stepW hb h4 (dg_ltW a i ha)
  refine ⟨by simp [h1], mem_set_ltW h2 hd, fun j hj => by rw [dg_set_ne _ _ _ _ (by omega)]; exact h3 j (by omega), Nat.mod_lt _ hb, ?_⟩
  rw [vd_dropW (q.set i _) i, vd_dropW a i, dg_set_self _ _ _ (by omega), drop_set_le, ← h5, Nat.add_mul]
  have e := Nat.div_add_mod (dg a i + 4294967296 * r) b
  rw [Nat.mul_comm b] at e
  rw [Nat.mul_add, ← Nat.mul_assoc]
  generalize (dg a i + 4294967296 * r) / b * b = x at *
  generalize (dg a i + 4294967296 * r) % b = y at *
  generalize 4294967296 * vw (List.drop (i + 1) q) * b = z
  omega
theorem DivRW.less {a q : List Nat} {b i r : Nat} (ha : ∀ d ∈ a, d < 4294967296) (h : DivRW a q b (i + 1) r) (hi : i < a.length) (hl : dg a i + 4294967296 * r < b) : DivRW a q b i (dg a i + 4294967296 * r) := by
  have h' := h.step ha hi
  rw [Nat.div_eq_of_lt hl, Nat.mod_eq_of_lt hl, set_zero (h.2.2.1 i (by omega))] at h'
  exact h'
theorem DivRW.all {a q : List Nat} {b r : Nat} (h : DivRW a q b 0 r) : vw q = vw a / b ∧ (∀ d ∈ q, d < 4294967296) := by
  obtain ⟨_, h2, _, h4, h5⟩ := h
  refine ⟨?_, h2⟩
  rw [List.drop_zero, List.drop_zero] at h5
  rw [← h5, Nat.add_comm, Nat.add_mul_div_right _ _ (by omega), Nat.div_eq_of_lt h4]; omega
end Go.Proofs.YtfhmaincnlaapaaGreat
namespace Go.Proofs.YtfhmaincnlaapaaGreat
open Go.ChangeShapes Go.WideShapes Go.ChangeAt Go.RowKit
set_option linter.unusedVariables false

/-- a number's cells are written -/
theorem NumV.put {w : World} {g B n c n0 c0 : Nat} {b b0 : Bool} {A A0 : Option Addr} {z : Int} (h : NumV w B b A n c z) (hk : Blk w g 134 #[.bool b0, .slice A0 n0 c0]) (hB : B ≤ w.heap.size) :
    NumV ((w.setCell ⟨g, 0, none⟩ (.bool b)).setCell ⟨g, 1, none⟩ (.slice A n c)) ((w.setCell ⟨g, 0, none⟩ (.bool b)).setCell ⟨g, 1, none⟩ (.slice A n c)).heap.size b A n c z ∧ Blk ((w.setCell ⟨g, 0, none⟩ (.bool b)).setCell ⟨g, 1, none⟩ (.slice A n c)) g 134 #[.bool b, .slice A n c] := by
  have h1 := h.rd.farB hk (i64n_not_bool _ _ _ _ _) 0 (.bool b)
  have h2 := h1.farB (hk.set_ 0 (.bool b)) (i64n_not_bool _ _ _ _ _) 1 (.slice A n c)
  exact ⟨⟨h.sgn, h.len, h2.more (by simpa using hB), h.hc, h.hm⟩, (hk.set_ 0 (.bool b)).set_ 1 (.slice A n c)⟩
end Go.Proofs.YtfhmaincnlaapaaGreat
namespace Go.Proofs.YtfhmaincnlaapaaGreat
open Go.ChangeShapes Go.WideShapes Go.ChangeAt Go.RowKit
set_option linter.unusedVariables false

/-- bytes, a number with a sign, a real number, read at a place -/
def inB_ (t : List UInt8) (p e : Nat) : List UInt8 × Nat × Nat := if e = 0 then ((rdB 283 (t.drop p)).t, p + (rdB 283 (t.drop p)).n, (rdB 283 (t.drop p)).e) else ([], p, e)
def inI_ (t : List UInt8) (p e : Nat) : Int × Nat × Nat := (stepV (0 : Int) (getI (t.drop p)).1 (stepE e (getI (t.drop p)).2.2 0), stepP p (getI (t.drop p)).2.1 (stepE e (getI (t.drop p)).2.2 0), stepE e (getI (t.drop p)).2.2 0)
def inF_ (t : List UInt8) (p e : Nat) : Nat × Nat × Nat := (stepV (0 : Nat) (getF (t.drop p)).1 (stepE e (getF (t.drop p)).2.2 0), stepP p (getF (t.drop p)).2.1 (stepE e (getF (t.drop p)).2.2 0), stepE e (getF (t.drop p)).2.2 0)
/-- a whole measure -/
def sqF (t : List UInt8) (_ p e : Nat) : List Nat × Nat × Nat := ([(inU t p e 4294967295).1], (inU t p e 4294967295).2)
def meaA (t : List UInt8) (p e : Nat) : Int × Nat × Nat := inI_ t p e
def meaB (t : List UInt8) (p e : Nat) : Int × Nat × Nat := inI_ t (meaA t p e).2.1 (meaA t p e).2.2
def meaN (t : List UInt8) (p e : Nat) : Nat × Nat × Nat := inU t (meaB t p e).2.1 (meaB t p e).2.2 7
def meaQ (t : List UInt8) (p e : Nat) : List Nat × Nat × Nat := runN (sqF t) (meaN t p e).2.1 (meaN t p e).2.2 (meaN t p e).1
def meaL (t : List UInt8) (p e : Nat) : Int × Nat × Nat := inI_ t (meaQ t p e).2.1 (meaQ t p e).2.2
def meaH (t : List UInt8) (p e : Nat) : Int × Nat × Nat := inI_ t (meaL t p e).2.1 (meaL t p e).2.2
def meaS (t : List UInt8) (p e : Nat) : WholeS × Nat × Nat := (⟨(meaA t p e).1, (meaB t p e).1, (meaQ t p e).1, (meaL t p e).1, (meaH t p e).1⟩, (meaH t p e).2)
def meaF (t : List UInt8) (_ p e : Nat) : List WholeS × Nat × Nat := ([(meaS t p e).1], (meaS t p e).2)
/-- a real measure -/
def reaA (t : List UInt8) (p e : Nat) : List UInt8 × Nat × Nat := inB_ t p e
def reaB (t : List UInt8) (p e : Nat) : Nat × Nat × Nat := inF_ t (reaA t p e).2.1 (reaA t p e).2.2
def reaC (t : List UInt8) (p e : Nat) : Nat × Nat × Nat := inF_ t (reaB t p e).2.1 (reaB t p e).2.2
def reaS (t : List UInt8) (p e : Nat) : RealS × Nat × Nat := (⟨(reaA t p e).1, (reaB t p e).1, (reaC t p e).1⟩, (reaC t p e).2)
def reaF (t : List UInt8) (_ p e : Nat) : List RealS × Nat × Nat := ([(reaS t p e).1], (reaS t p e).2)
/-- a cell -/
def celK (t : List UInt8) : Nat × Nat × Nat := inU t 0 0 18446744073709551615
def celN (t : List UInt8) : Int × Nat × Nat := inI_ t (celK t).2.1 (celK t).2.2
def celW (S : Sch) (t : List UInt8) (k : Nat) : List WholeS × Nat × Nat := runN (meaF t) (celN t).2.1 (celN t).2.2 k
def celR (S : Sch) (t : List UInt8) (k : Nat) : List RealS × Nat × Nat := runN (reaF t) (celW S t S.ints.length).2.1 (celW S t S.ints.length).2.2 k
def celS (S : Sch) (t : List UInt8) : CellS × Nat × Nat := (⟨(celK t).1, (celN t).1, (celW S t S.ints.length).1, (celR S t S.nums.length).1⟩, (celR S t S.nums.length).2)
def zeroC : CellS := ⟨0, 0, [], []⟩
/-- the cell whose bytes stand ahead, how many, and the error -/
def getC (S : Sch) (mask : Nat) (t : List UInt8) : CellS × Nat × Nat :=
  if checkN S ≠ 0 then (zeroC, 0, 1) else if (keysOf S mask).isNone = true then (zeroC, 0, 11)
  else if (celS S t).2.2 ≠ 0 then (zeroC, 0, (celS S t).2.2) else if rightC S mask (celS S t).1 = true then ((celS S t).1, (celS S t).2.1, 0) else (zeroC, 0, 6)
/-! ### what is put is got -/
def wholeOk (x : WholeS) : Prop := (-9223372036854775808 ≤ x.sum ∧ x.sum ≤ 9223372036854775807) ∧ (-9223372036854775808 ≤ x.abs ∧ x.abs ≤ 9223372036854775807) ∧ (-9223372036854775808 ≤ x.mn ∧ x.mn ≤ 9223372036854775807) ∧ (-9223372036854775808 ≤ x.mx ∧ x.mx ≤ 9223372036854775807) ∧ ∀ n ∈ x.sq, n < 4294967296
/-- what is needed of a cell for its bytes to be read back -/
structure CellOk (C : CellS) : Prop where
  key : C.key < 18446744073709551616
  count : -9223372036854775808 ≤ C.count ∧ C.count ≤ 9223372036854775807
  ints : ∀ x ∈ C.ints, wholeOk x
theorem zeroC_ok : CellOk zeroC := ⟨by decide, by decide, fun x hx => by cases hx⟩
end Go.Proofs.YtfhmaincnlaapaaGreat
namespace Go.Proofs.YtfhmaincnlaapaaGreat
open Go.ChangeShapes Go.WideShapes Go.ChangeAt Go.RowKit
set_option linter.unusedVariables false

theorem run_store_fR {P : Program} {w : World} {a : Addr} {m : Mode} (k : FloatKind) (b : Nat) : (store a (.float k b) m).run P w = stored P w a (.float k b) m := run_store P w a _ m rfl
attribute [local go_sem] run_store_fR
end Go.Proofs.YtfhmaincnlaapaaGreat
namespace Go.Proofs.YtfhmaincnlaapaaGreat
open Go.ChangeShapes Go.WideShapes Go.ChangeAt Go.RowKit
set_option linter.unusedVariables false

end Go.Proofs.YtfhmaincnlaapaaGreat
namespace Go.Proofs.YtfhmaincnlaapaaGreat
open Go.ChangeShapes Go.WideShapes Go.ChangeAt Go.RowKit
set_option linter.unusedVariables false

theorem own_set_lo {w : World} {base n : Nat} {e : TypeId} {size : Nat} {v : Value} {xs : List Value} (h : w.ownsRow base e size v n xs) {p : Addr} (hp : p.block < base) (u : Value) : (w.setCell p u).ownsRow base e size v n xs := by
  have hg : w.grownBy (w.setCell p u) (some p.block) := ⟨rfl, rfl, rfl, by simp, fun k _ hk => Below.heap_setCell w p u k (fun e => hk (by rw [e]))⟩
  refine h.kept hg ?_
  cases hv : v.ownBlock with
  | none => exact .inl rfl
  | some k => exact .inr fun q => by injection q with q; have := (h.lt k hv).1; omega
/-- a whole measure that is being read -/
structure MeaRel (w wr : World) (g gx : Nat) (t : List UInt8) (a b : Int) (v : Value) (qs : List Nat) (p e : Nat) : Prop where
  r : Blk wr w.heap.size 122 #[.int .i64 0, .int .i64 0, .slice none 0 0, .int .i64 0, .int .i64 0]
  x : Blk wr gx 122 #[.int .i64 a, .int .i64 b, v, .int .i64 0, .int .i64 0]
  o : wr.ownsRow (gx + 1) 39 1 v qs.length (u32n qs)
  i : InS wr g t p e
  n : Only g w wr
  l : w.heap.size + 1 ≤ gx
section
variable {w wr w2 w3 : World} {g gx : Nat} {t : List UInt8} {a b : Int} {v v' : Value} {qs : List Nat} {p e p' e' : Nat}
theorem MeaRel.drew (h : MeaRel w wr g gx t a b v qs p e) : MeaRel w wr.drew g gx t a b v qs p e := ⟨h.r, h.x, own_drewN h.o 1, h.i, h.n.drew, h.l⟩
theorem MeaRel.alloc (h : MeaRel w wr g gx t a b v qs p e) (o : Obj) : MeaRel w (wr.alloc o) g gx t a b v qs p e :=
  ⟨h.r.alloc o, h.x.alloc o, h.o.alloc o, h.i.below (belA (belR wr) o) h.i.lt, h.n.alloc o, h.l⟩
theorem MeaRel.lt (h : MeaRel w wr g gx t a b v qs p e) : gx + 1 ≤ wr.heap.size := h.x.lt
theorem MeaRel.only (h : MeaRel w wr g gx t a b v qs p e) (hg : g < w.heap.size) (k : Only g wr w2) (hi : InS w2 g t p' e') : MeaRel w w2 g gx t a b v qs p' e' := by
  have hl := h.l
  exact ⟨k.blk h.r (by omega), k.blk h.x (by omega), k.own h.o (own_far h.o (by omega)), hi, h.n.trans k, h.l⟩
theorem MeaRel.put (h : MeaRel w wr g gx t a b v qs p e) (hg : g < w.heap.size) (x : Nat) (ho : w3.ownsRow (gx + 1) 39 1 v' (qs.length + 1) (u32n qs ++ [.int .u32 (x : Int)])) (k : Appd wr w3 v v') :
    Blk w3 gx 122 #[.int .i64 a, .int .i64 b, v, .int .i64 0, .int .i64 0] ∧ MeaRel w (w3.setCell ⟨gx, 2, none⟩ v') g gx t a b v' (qs ++ [x]) p e := by
  have hl := h.l
  have hb : Below (gx + 1) wr w3 := (Below.refl _ _).grown k.1 h.lt fun j hj => (h.o.lt j hj).1
  have hr := h.r.below hb (by omega)
  have hx := h.x.below hb (by omega)
  have hi := h.i.below hb (by omega)
  have hset := Only.set1 w3 gx 2 v'
  have hbel : Below gx w3 (w3.setCell ⟨gx, 2, none⟩ v') := (Below.refl gx w3).setCell (p := ⟨gx, 2, none⟩) (Nat.le_refl _) v'
  refine ⟨hx, hset.blk hr (by omega), by simpa using hx.set_ 2 v', ?_, hi.below hbel (by omega), (h.n.appd k fun j hj => .inr (by have := (h.o.lt j hj).1; omega)).set_ (.inr (by simp only; omega)) _, hl⟩
  have := hset.own ho (own_far ho (by omega))
  simpa using this
end
end Go.Proofs.YtfhmaincnlaapaaGreat
namespace Go.Proofs.YtfhmaincnlaapaaGreat
open Go.ChangeShapes Go.WideShapes Go.ChangeAt Go.RowKit
set_option linter.unusedVariables false

theorem run_store_fG {P : Program} {w : World} {a : Addr} {m : Mode} (k : FloatKind) (b : Nat) : (store a (.float k b) m).run P w = stored P w a (.float k b) m := run_store P w a _ m rfl
attribute [local go_sem] run_store_fG
abbrev whC (X : WholeS) (v : Value) : List Value := [.int .i64 X.sum, .int .i64 X.abs, v, .int .i64 X.mn, .int .i64 X.mx]
abbrev reC (X : RealS) (v : Value) : List Value := [v, .float .f64 X.mn, .float .f64 X.mx]
/-- the cells of measures whose lists are the call's own -/
def WhO (w : World) (base : Nat) : List WholeS → List Value → Prop
  | [], xs => xs = []
  | X :: l, xs => ∃ v rest, xs = whC X v ++ rest ∧ w.ownsRow base 39 1 v X.sq.length (u32n X.sq) ∧ WhO w base l rest
def ReO (w : World) (base : Nat) : List RealS → List Value → Prop
  | [], xs => xs = []
  | X :: l, xs => ∃ v rest, xs = reC X v ++ rest ∧ w.ownsRow base 5 1 v X.sum.length (u8s X.sum) ∧ ReO w base l rest
section
variable {w w' : World} {base g : Nat} {l : List WholeS} {m : List RealS} {xs : List Value}
theorem WhO.map (h : WhO w base l xs) (k : ∀ v n ys, w.ownsRow base 39 1 v n ys → w'.ownsRow base 39 1 v n ys) : WhO w' base l xs := by
  induction l generalizing xs with
  | nil => exact h
  | cons X l ih => obtain ⟨v, rest, rfl, o, hr⟩ := h; exact ⟨v, rest, rfl, k _ _ _ o, ih hr⟩
theorem ReO.map (h : ReO w base m xs) (k : ∀ v n ys, w.ownsRow base 5 1 v n ys → w'.ownsRow base 5 1 v n ys) : ReO w' base m xs := by
  induction m generalizing xs with
  | nil => exact h
  | cons X l ih => obtain ⟨v, rest, rfl, o, hr⟩ := h; exact ⟨v, rest, rfl, k _ _ _ o, ih hr⟩
theorem WhO.only (h : WhO w base l xs) (k : Only g w w') (hg : g < base) : WhO w' base l xs := h.map fun v n ys ho => k.own ho (own_far ho hg)
theorem ReO.only (h : ReO w base m xs) (k : Only g w w') (hg : g < base) : ReO w' base m xs := h.map fun v n ys ho => k.own ho (own_far ho hg)
theorem WhO.alloc (h : WhO w base l xs) (o : Obj) : WhO (w.alloc o) base l xs := h.map fun v n ys ho => ho.alloc o
theorem ReO.alloc (h : ReO w base m xs) (o : Obj) : ReO (w.alloc o) base m xs := h.map fun v n ys ho => ho.alloc o
theorem WhO.drew (h : WhO w base l xs) : WhO w.drew base l xs := h.map fun v n ys ho => ho
theorem ReO.drew (h : ReO w base m xs) : ReO w.drew base m xs := h.map fun v n ys ho => ho
theorem WhO.appd {v v' : Value} {b n : Nat} {e : TypeId} {size : Nat} {ys : List Value} (h : WhO w base l xs) (k : Appd w w' v v') (ho : w.ownsRow b e size v n ys) (he : 39 ≠ e) : WhO w' base l xs := h.map fun _ _ _ h' => k.kept h' (own_own_ne h' ho he)
theorem ReO.appd {v v' : Value} {b n : Nat} {e : TypeId} {size : Nat} {ys : List Value} (h : ReO w base m xs) (k : Appd w w' v v') (ho : w.ownsRow b e size v n ys) (he : 5 ≠ e) : ReO w' base m xs := h.map fun _ _ _ h' => k.kept h' (own_own_ne h' ho he)
theorem WhO.snoc {X : WholeS} {v : Value} (h : WhO w base l xs) (o : w.ownsRow base 39 1 v X.sq.length (u32n X.sq)) : WhO w base (l ++ [X]) (xs ++ whC X v) := by
  induction l generalizing xs with
  | nil => cases h; exact ⟨v, [], rfl, o, rfl⟩
  | cons Y l ih => obtain ⟨u, rest, rfl, p, hr⟩ := h; exact ⟨u, rest ++ whC X v, by simp, p, ih hr⟩
theorem ReO.snoc {X : RealS} {v : Value} (h : ReO w base m xs) (o : w.ownsRow base 5 1 v X.sum.length (u8s X.sum)) : ReO w base (m ++ [X]) (xs ++ reC X v) := by
  induction m generalizing xs with
  | nil => cases h; exact ⟨v, [], rfl, o, rfl⟩
  | cons Y l ih => obtain ⟨u, rest, rfl, p, hr⟩ := h; exact ⟨u, rest ++ reC X v, by simp, p, ih hr⟩
theorem wholeR_mk {B : Nat} {X : WholeS} {A : Option Addr} {c : Nat} (h : Rd w B 1 A X.sq.length (u32n X.sq)) (h1 : X.sq.length ≤ c) (h2 : c ≤ maxLen) (ho : wholeOk X) : wholeR.rep w B X [.int .i64 X.sum, .int .i64 X.abs, .slice A X.sq.length c, .int .i64 X.mn, .int .i64 X.mx] := by
  obtain ⟨o1, o2, o3, o4, o5⟩ := ho
  exact ⟨[_], [_, _, _, _], rfl, ⟨rfl, WalkArith.wf_i64 o1⟩, [_], [_, _, _], rfl, ⟨rfl, WalkArith.wf_i64 o2⟩, [_], [_, _], rfl, ⟨A, c, u32n X.sq, rfl, h1, h2, h, chunk_val.2 ⟨rfl, o5⟩⟩, [_], [_], rfl, ⟨rfl, WalkArith.wf_i64 o3⟩, rfl, WalkArith.wf_i64 o4⟩
theorem realR_mk {B : Nat} {X : RealS} {A : Option Addr} {c : Nat} (h : Rd w B 1 A X.sum.length (u8s X.sum)) (h1 : X.sum.length ≤ c) (h2 : c ≤ maxLen) (o1 : X.mn < 18446744073709551616) (o2 : X.mx < 18446744073709551616) : realR.rep w B X [.slice A X.sum.length c, .float .f64 X.mn, .float .f64 X.mx] :=
  ⟨[_], [_, _], rfl, ⟨A, c, u8s X.sum, rfl, h1, h2, h, chunk_val.2 ⟨rfl, fun _ _ => trivial⟩⟩, [_], [_], rfl, ⟨rfl, o1⟩, rfl, o2⟩
theorem WhO.chunk (h : WhO w base l xs) (ho : ∀ X ∈ l, wholeOk X) : Chunk wholeR w w.heap.size l xs := by
  induction l generalizing xs with
  | nil => exact h
  | cons X l ih =>
    obtain ⟨v, rest, rfl, o, hr⟩ := h
    obtain ⟨A, c, rfl, a, b, _⟩ := own_form o
    exact ⟨_, rest, rfl, wholeR_mk (Rd.own o) a b (ho X (by simp)), ih hr fun Y hY => ho Y (by simp [hY])⟩
theorem ReO.chunk (h : ReO w base m xs) (ho : ∀ X ∈ m, X.mn < 18446744073709551616 ∧ X.mx < 18446744073709551616) : Chunk realR w w.heap.size m xs := by
  induction m generalizing xs with
  | nil => exact h
  | cons X l ih =>
    obtain ⟨v, rest, rfl, o, hr⟩ := h
    obtain ⟨A, c, rfl, a, b, _⟩ := own_form o
    exact ⟨_, rest, rfl, realR_mk (Rd.own o) a b (ho X (by simp)).1 (ho X (by simp)).2, ih hr fun Y hY => ho Y (by simp [hY])⟩
end
theorem WhO.mono {w : World} {base base' : Nat} {l : List WholeS} {xs : List Value} (h : WhO w base l xs) (hb : base' ≤ base) : WhO w base' l xs := by
  induction l generalizing xs with
  | nil => exact h
  | cons X l ih => obtain ⟨v, rest, rfl, o, hr⟩ := h; exact ⟨v, rest, rfl, own_mono o hb, ih hr⟩
theorem ReO.mono {w : World} {base base' : Nat} {m : List RealS} {xs : List Value} (h : ReO w base m xs) (hb : base' ≤ base) : ReO w base' m xs := by
  induction m generalizing xs with
  | nil => exact h
  | cons X l ih => obtain ⟨v, rest, rfl, o, hr⟩ := h; exact ⟨v, rest, rfl, own_mono o hb, ih hr⟩
def realsOk (m : List RealS) : Prop := ∀ X ∈ m, X.mn < 18446744073709551616 ∧ X.mx < 18446744073709551616
/-- a cell whose lists are the call's own -/
structure CellO (w : World) (base : Nat) (C : CellS) (A2 : Option Addr) (c2 : Nat) (A3 : Option Addr) (c3 : Nat) : Prop where
  ok : CellOk C
  rok : realsOk C.nums
  o2 : ∃ xs, w.ownsRow base 122 5 (.slice A2 C.ints.length c2) C.ints.length xs ∧ WhO w base C.ints xs
  o3 : ∃ ys, w.ownsRow base 60 3 (.slice A3 C.nums.length c3) C.nums.length ys ∧ ReO w base C.nums ys
theorem CellO.cellV {w : World} {base : Nat} {C : CellS} {A2 A3 : Option Addr} {c2 c3 : Nat} (h : CellO w base C A2 c2 A3 c3) : CellV w w.heap.size C A2 c2 A3 c3 := by
  obtain ⟨xs, h1, h2⟩ := h.o2
  obtain ⟨ys, h3, h4⟩ := h.o3
  exact ⟨h.ok.key, h.ok.count, SlR.own (R := wholeR) h1 (h2.chunk h.ok.ints), SlR.own (R := realR) h3 (h4.chunk h.rok)⟩
theorem CellO.map {w w' : World} {base base' : Nat} {C : CellS} {A2 A3 : Option Addr} {c2 c3 : Nat} (h : CellO w base C A2 c2 A3 c3) (hb : base' ≤ base)
    (k : ∀ (e : TypeId) (size : Nat) (v : Value) (n : Nat) (xs : List Value), e ≠ 53 → w.ownsRow base e size v n xs → w'.ownsRow base e size v n xs) : CellO w' base' C A2 c2 A3 c3 := by
  obtain ⟨xs, h1, h2⟩ := h.o2
  obtain ⟨ys, h3, h4⟩ := h.o3
  exact ⟨h.ok, h.rok, ⟨xs, own_mono (k _ _ _ _ _ (by decide) h1) hb, (h2.map fun v n ys o => k _ _ _ _ _ (by decide) o).mono hb⟩, ys, own_mono (k _ _ _ _ _ (by decide) h3) hb, (h4.map fun v n ys o => k _ _ _ _ _ (by decide) o).mono hb⟩
theorem cellO_zero (w : World) (base : Nat) : CellO w base zeroC none 0 none 0 := ⟨zeroC_ok, (fun X hX => by cases hX), ⟨[], World.ownsRow_nil _ _ _ 5, rfl⟩, [], World.ownsRow_nil _ _ _ 3, rfl⟩
/-- a cell that is being read -/
structure GetC (w wr : World) (g gc : Nat) (SV : Array Value) (K : Nat) (N : Int) (t : List UInt8) (v2 v3 : Value) (l : List WholeS) (m : List RealS) (xs ys : List Value) (p e : Nat) : Prop where
  s : Blk wr w.heap.size 26 SV
  z : Blk wr (w.heap.size + 1) 53 #[.int .u64 0, .int .i64 0, .slice none 0 0, .slice none 0 0]
  c : Blk wr gc 53 #[.int .u64 (K : Int), .int .i64 N, v2, v3]
  o2 : wr.ownsRow (gc + 1) 122 5 v2 l.length xs
  f2 : WhO wr (gc + 1) l xs
  o3 : wr.ownsRow (gc + 1) 60 3 v3 m.length ys
  f3 : ReO wr (gc + 1) m ys
  i : InS wr g t p e
  n : Below w.heap.size w wr
  a1 : w.heap.size + 1 + 1 ≤ g
  a2 : g < gc
section
variable {w wr w2 w3 : World} {g gc : Nat} {SV : Array Value} {K : Nat} {N : Int} {t : List UInt8} {v2 v3 v' vq : Value} {l : List WholeS} {m : List RealS} {xs ys : List Value} {p e p' e' : Nat}
theorem GetC.lt (h : GetC w wr g gc SV K N t v2 v3 l m xs ys p e) : gc + 1 ≤ wr.heap.size := h.c.lt
theorem GetC.drew (h : GetC w wr g gc SV K N t v2 v3 l m xs ys p e) : GetC w wr.drew g gc SV K N t v2 v3 l m xs ys p e := ⟨h.s, h.z, h.c, h.o2, h.f2.drew, h.o3, h.f3.drew, h.i, h.n.drew, h.a1, h.a2⟩
theorem GetC.alloc (h : GetC w wr g gc SV K N t v2 v3 l m xs ys p e) (o : Obj) : GetC w (wr.alloc o) g gc SV K N t v2 v3 l m xs ys p e :=
  ⟨h.s.alloc o, h.z.alloc o, h.c.alloc o, h.o2.alloc o, h.f2.alloc o, h.o3.alloc o, h.f3.alloc o, h.i.below (belA (belR wr) o) h.i.lt, belA h.n o, h.a1, h.a2⟩
theorem GetC.only (h : GetC w wr g gc SV K N t v2 v3 l m xs ys p e) (k : Only g wr w2) (hi : InS w2 g t p' e') : GetC w w2 g gc SV K N t v2 v3 l m xs ys p' e' := by
  have h1 := h.a1; have h2 := h.a2
  exact ⟨k.blk h.s (by omega), k.blk h.z (by omega), k.blk h.c (by omega), k.own h.o2 (own_far h.o2 (by omega)), h.f2.only k (by omega), k.own h.o3 (own_far h.o3 (by omega)), h.f3.only k (by omega), hi, h.n.trans (k.below (by omega) h.n.size), h.a1, h.a2⟩
theorem GetC.drw (h : GetC w wr g gc SV K N t v2 v3 l m xs ys p e) (k : Drw wr w2) : GetC w w2 g gc SV K N t v2 v3 l m xs ys p e := by
  obtain ⟨n, rfl⟩ := k
  exact ⟨h.s, h.z, h.c, h.o2, h.f2.map fun _ _ _ ho => ho, h.o3, h.f3.map fun _ _ _ ho => ho, h.i, belD h.n n, h.a1, h.a2⟩
theorem GetC.all (h : GetC w wr g gc SV K N t v2 v3 l m xs ys p e) (k : Below wr.heap.size wr w2) : GetC w w2 g gc SV K N t v2 v3 l m xs ys p e :=
  ⟨h.s.below k h.s.lt, h.z.below k h.z.lt, h.c.below k h.c.lt, own_below h.o2 k (Nat.le_refl _), h.f2.map fun _ _ _ o => own_below o k (Nat.le_refl _), own_below h.o3 k (Nat.le_refl _), h.f3.map fun _ _ _ o => own_below o k (Nat.le_refl _), h.i.below k h.i.lt, belT h.n k, h.a1, h.a2⟩
theorem GetC.put2 {X : WholeS} (h : GetC w wr g gc SV K N t v2 v3 l m xs ys p e) (hq : wr.ownsRow (gc + 1) 39 1 vq X.sq.length (u32n X.sq)) (ho : w3.ownsRow (gc + 1) 122 5 v' (l.length + 1) (xs ++ whC X vq)) (k : Appd wr w3 v2 v') :
    Blk w3 gc 53 #[.int .u64 (K : Int), .int .i64 N, v2, v3] ∧ GetC w (w3.setCell ⟨gc, 2, none⟩ v') g gc SV K N t v' v3 (l ++ [X]) m (xs ++ whC X vq) ys p e := by
  have h1 := h.a1; have h2 := h.a2; have hz := h.lt; have hzb := h.n.size
  have hb : Below (gc + 1) wr w3 := (Below.refl _ _).grown k.1 h.lt fun j hj => (h.o2.lt j hj).1
  have hs := h.s.below hb (by omega); have hzz := h.z.below hb (by omega); have hc := h.c.below hb (by omega); have hi := h.i.below hb (by omega)
  have o3 := k.kept h.o3 (own_own_ne h.o3 h.o2 (by decide))
  have f2 := (h.f2.appd k h.o2 (by decide)).snoc (k.kept hq (own_own_ne hq h.o2 (by decide)))
  have f3 := h.f3.appd k h.o2 (by decide)
  have hset := Only.set1 w3 gc 2 v'
  have hbel : Below gc w3 (w3.setCell ⟨gc, 2, none⟩ v') := (Below.refl gc w3).setCell (p := ⟨gc, 2, none⟩) (Nat.le_refl _) v'
  refine ⟨hc, hset.blk hs (by omega), hset.blk hzz (by omega), by simpa using hc.set_ 2 v', ?_, f2.only hset (by omega), hset.own o3 (own_far o3 (by omega)), f3.only hset (by omega), hi.below hbel (by omega), (h.n.trans (hb.mono (by omega))).setCell (by simp only; omega) _, h.a1, h.a2⟩
  have := hset.own ho (own_far ho (by omega))
  simpa using this
theorem GetC.cellV {A2 A3 : Option Addr} {c2 c3 : Nat} (h : GetC w wr g gc SV K N t (.slice A2 l.length c2) (.slice A3 m.length c3) l m xs ys p e) (ho : CellOk ⟨K, N, l, m⟩) (hn : ∀ X ∈ m, X.mn < 18446744073709551616 ∧ X.mx < 18446744073709551616) : CellV wr wr.heap.size ⟨K, N, l, m⟩ A2 c2 A3 c3 :=
  ⟨ho.key, ho.count, SlR.own (R := wholeR) h.o2 (h.f2.chunk ho.ints), SlR.own (R := realR) h.o3 (h.f3.chunk hn)⟩
theorem GetC.fin {A2 A3 : Option Addr} {c2 c3 : Nat} (h : GetC w wr g gc SV K N t (.slice A2 l.length c2) (.slice A3 m.length c3) l m xs ys p e) (ho : CellOk ⟨K, N, l, m⟩) (hn : realsOk m) (a b c d : Value) :
    CellO ((((wr.setCell ⟨w.heap.size + 1, 0, none⟩ a).setCell ⟨w.heap.size + 1, 1, none⟩ b).setCell ⟨w.heap.size + 1, 2, none⟩ c).setCell ⟨w.heap.size + 1, 3, none⟩ d) w.heap.size ⟨K, N, l, m⟩ A2 c2 A3 c3 := by
  have h1 := h.a1; have h2 := h.a2
  have hc : CellO wr (gc + 1) ⟨K, N, l, m⟩ A2 c2 A3 c3 := ⟨ho, hn, ⟨xs, h.o2, h.f2⟩, ys, h.o3, h.f3⟩
  exact hc.map (by omega) fun e size v n xs _ o =>
    own_set_lo (own_set_lo (own_set_lo (own_set_lo o (p := ⟨w.heap.size + 1, 0, none⟩) (by simp only; omega) _) (p := ⟨w.heap.size + 1, 1, none⟩) (by simp only; omega) _) (p := ⟨w.heap.size + 1, 2, none⟩) (by simp only; omega) _) (p := ⟨w.heap.size + 1, 3, none⟩) (by simp only; omega) _
end
theorem bel4 {w w1 : World} {B g : Nat} (h : Below B w w1) (hg : B ≤ g) (a b c d : Value) : Below B w ((((w1.setCell ⟨g, 0, none⟩ a).setCell ⟨g, 1, none⟩ b).setCell ⟨g, 2, none⟩ c).setCell ⟨g, 3, none⟩ d) :=
  (((h.setCell (p := ⟨g, 0, none⟩) hg a).setCell (p := ⟨g, 1, none⟩) hg b).setCell (p := ⟨g, 2, none⟩) hg c).setCell (p := ⟨g, 3, none⟩) hg d
/-- the answer of agg.Get -/
def RetGet (w : World) (S : Sch) (mask : Nat) (t : List UInt8) (y : Ending) (w' : World) : Prop := ∃ A2 c2 A3 c3, y = .returned (.tuple #[.agg #[.int .u64 ((getC S mask t).1.key : Int), .int .i64 (getC S mask t).1.count, .slice A2 (getC S mask t).1.ints.length c2, .slice A3 (getC S mask t).1.nums.length c3], .int .i64 ((getC S mask t).2.1 : Int), .int .i64 ((getC S mask t).2.2 : Int)]) ∧ CellO w' w.heap.size (getC S mask t).1 A2 c2 A3 c3 ∧ Below w.heap.size w w'
theorem RetGet.bad {w w' : World} {S : Sch} {mask : Nat} {t : List UInt8} {e : Nat} (h : getC S mask t = (zeroC, 0, e)) (hb : Below w.heap.size w w') :
    RetGet w S mask t (.returned (.tuple #[.agg #[.int .u64 0, .int .i64 0, .slice none 0 0, .slice none 0 0], .int .i64 0, .int .i64 (e : Int)])) w' :=
  ⟨none, 0, none, 0, by rw [h]; rfl, by rw [h]; exact cellO_zero _ _, hb⟩
end Go.Proofs.YtfhmaincnlaapaaGreat
namespace Go.Proofs.YtfhmaincnlaapaaGreat
open Go.ChangeShapes Go.WideShapes Go.ChangeAt Go.RowKit
set_option linter.unusedVariables false

def putR (C : CellS) (k : Nat) : List UInt8 := encU C.key ++ encI C.count ++ encWholes C.ints ++ encReals (C.nums.take k)
theorem run_store_fA {P : Program} {w : World} {a : Addr} {m : Mode} (k : FloatKind) (b : Nat) : (store a (.float k b) m).run P w = stored P w a (.float k b) m := run_store P w a _ m rfl
attribute [local go_sem] run_store_fA
end Go.Proofs.YtfhmaincnlaapaaGreat
namespace Go.Proofs.YtfhmaincnlaapaaGreat
open Go.ChangeShapes Go.WideShapes Go.ChangeAt Go.RowKit
set_option linter.unusedVariables false

section
variable {P : Program} {ops : Array Oper} {Q : Exit → Act → World → Prop} {md : Region.Mode} {S : World → Prop}
theorem rh_take (i : Nat) (d : Option Tmp) {oi : Oper} {v : Value} {fuel : Nat} {listed : Array Bool} {a : Act} {w : World} (hi : ops[i]? = some oi) (hd : oi.dst = d)
    (hs : Region.noSelect ops = true) (hf : Region.free md ops listed i = true) (hr : (Region.ready md ops listed).contains i = true) (hw : Region.wanted oi (yielded ops a.tmps) = true)
    (hQ : ∀ c a w, Q (.panic c) (a.put d v) w → Q (.panic c) a w) (hS : S w) (hy : ∀ w, S w → (execOp a.eval oi).run P w = .ok (.value v) w)
    (h : wpAnyH P md ops Q S fuel (listed.setIfInBounds i true) (a.put d v) w) : wpAnyH P md ops Q S (fuel + 1) listed a w := by
  subst hd
  exact wpAnyH_take hi hs hf hr hQ (.inl ⟨hw, hy⟩) hS h
theorem rh_call (i : Nat) (d : Option Tmp) {o : Oper} {fuel : Nat} {listed : Array Bool} {a : Act} {w : World} (hr : Region.ready md ops listed = [i]) (ho : ops[i]? = some o) (hd : o.dst = d)
    (hw : Region.wanted o (yielded ops a.tmps) = true)
    (h : ∀ K' : Act → World → Prop, Shut (∀ a w, S w → (S w → wpAnyH P md ops Q S fuel (listed.setIfInBounds i true) a w) → K' a w) → Oper.wp P o a w K' Q) : wpAnyH P md ops Q S (fuel + 1) listed a w :=
  wpAnyH_ready hr (by simp) (AllReadyH.cons ho (fun K hK => by rw [if_pos hw]; exact h K hK) AllReadyH.nil)
end
end Go.Proofs.YtfhmaincnlaapaaGreat
namespace Go.Proofs.YtfhmaincnlaapaaGreat
open Go.ChangeShapes Go.WideShapes Go.ChangeAt Go.RowKit
set_option linter.unusedVariables false

end Go.Proofs.YtfhmaincnlaapaaGreat
namespace Go.Proofs.YtfhmaincnlaapaaGreat
open Go.ChangeShapes Go.WideShapes Go.ChangeAt Go.RowKit
set_option linter.unusedVariables false

/-! ### how far agg.Get goes -/
/-! ### what ReadLeaf comes to -/
def rlS (S : Sch) (mask : Nat) (d : List UInt8) : Nat → List CellS × Nat × Nat
  | 0 => ([], 0, 0)
  | k + 1 => if (rlS S mask d k).2.2 ≠ 0 then rlS S mask d k
    else if (getC S mask (d.drop (rlS S mask d k).2.1)).2.2 ≠ 0 then ([], 0, (getC S mask (d.drop (rlS S mask d k).2.1)).2.2)
    else ((rlS S mask d k).1 ++ [(getC S mask (d.drop (rlS S mask d k).2.1)).1], (rlS S mask d k).2.1 + (getC S mask (d.drop (rlS S mask d k).2.1)).2.1, 0)
def readL (S : Sch) (mask : Nat) (s : Sht) : List CellS × Nat :=
  if checkN S ≠ 0 then ([], 1) else if (keysOf S mask).isNone = true then ([], 11) else if s.k ≠ 3 ∨ s.a < 1 ∨ 1001 < s.a ∨ s.b ≠ mask then ([], 6)
  else if (rlS S mask s.d s.a).2.2 ≠ 0 then ([], (rlS S mask s.d s.a).2.2) else if (rlS S mask s.d s.a).2.1 < s.d.length then ([], 7)
  else if risingC (rlS S mask s.d s.a).1 = true then ((rlS S mask s.d s.a).1, 0) else ([], 6)
section
variable {S : Sch} {mask : Nat} {s : Sht}
end
/-! ### cells of the call's own -/
def CeO (w : World) (base : Nat) : List CellS → List Value → Prop
  | [], xs => xs = []
  | C :: l, xs => ∃ A2 c2 A3 c3 rest, xs = cellC C A2 c2 A3 c3 ++ rest ∧ CellO w base C A2 c2 A3 c3 ∧ CeO w base l rest
section
variable {w w' : World} {base base' : Nat} {l l' : List CellS} {xs xs' : List Value}
theorem CeO.map (h : CeO w base l xs) (hb : base' ≤ base) (k : ∀ (e : TypeId) (size : Nat) (v : Value) (n : Nat) (ys : List Value), e ≠ 53 → w.ownsRow base e size v n ys → w'.ownsRow base e size v n ys) : CeO w' base' l xs := by
  induction l generalizing xs with
  | nil => exact h
  | cons C l ih => obtain ⟨A2, c2, A3, c3, rest, rfl, o, hr⟩ := h; exact ⟨A2, c2, A3, c3, rest, rfl, o.map hb k, ih hr⟩
theorem CeO.app (h : CeO w base l xs) (k : CeO w base l' xs') : CeO w base (l ++ l') (xs ++ xs') := by
  induction l generalizing xs with
  | nil => cases h; exact k
  | cons C l ih => obtain ⟨A2, c2, A3, c3, rest, rfl, o, hr⟩ := h; exact ⟨A2, c2, A3, c3, rest ++ xs', by rw [List.append_assoc], o, ih hr⟩
theorem CeO.one {C : CellS} {A2 A3 : Option Addr} {c2 c3 : Nat} (h : CellO w base C A2 c2 A3 c3) : CeO w base [C] (cellC C A2 c2 A3 c3) := ⟨A2, c2, A3, c3, [], by simp, h, rfl⟩
theorem CeO.chunk (h : CeO w base l xs) : Chunk cellR w w.heap.size l xs := by
  induction l generalizing xs with
  | nil => exact h
  | cons C l ih => obtain ⟨A2, c2, A3, c3, rest, rfl, o, hr⟩ := h; exact ⟨_, rest, rfl, cellR_mk o.cellV, ih hr⟩
theorem CeO.below (h : CeO w base l xs) (hb : Below w.heap.size w w') : CeO w' base l xs := h.map (Nat.le_refl _) fun e size v n ys _ o => own_below o hb (Nat.le_refl _)
theorem CeO.alloc (h : CeO w base l xs) (o : Obj) : CeO (w.alloc o) base l xs := h.below (belA (belR w) o)
theorem CeO.drewN (h : CeO w base l xs) (n : Nat) : CeO (w.drewN n) base l xs := h.below (belD (belR w) n)
theorem CeO.appd {v v' : Value} {b n size : Nat} {ys : List Value} (h : CeO w base l xs) (k : Appd w w' v v') (ho : w.ownsRow b 53 size v n ys) : CeO w' base l xs := h.map (Nat.le_refl _) fun _ _ _ _ _ he o => k.kept o (own_own_ne o ho he)
theorem CeO.len (h : CeO w base l xs) : xs.length = l.length * 4 := h.chunk.len
end
/-- a leaf that is being read -/
structure RlR (w wr : World) (SV XV : Array Value) (ov : Value) (l : List CellS) (xs : List Value) : Prop where
  s : Blk wr w.heap.size 26 SV
  x : Blk wr (w.heap.size + 1) 42 XV
  o : wr.ownsRow (w.heap.size + 1 + 1) 53 4 ov l.length xs
  c : CeO wr (w.heap.size + 1 + 1) l xs
  n : Below w.heap.size w wr
section
variable {w wr w2 w3 : World} {SV XV : Array Value} {ov v' : Value} {l : List CellS} {xs : List Value}
theorem RlR.lt (h : RlR w wr SV XV ov l xs) : w.heap.size + 1 + 1 ≤ wr.heap.size := h.x.lt
theorem RlR.below (h : RlR w wr SV XV ov l xs) (hb : Below wr.heap.size wr w2) : RlR w w2 SV XV ov l xs :=
  ⟨h.s.below hb h.s.lt, h.x.below hb h.x.lt, own_below h.o hb (Nat.le_refl _), h.c.below hb, belT h.n hb⟩
theorem RlR.put {C : CellS} {A2 A3 : Option Addr} {c2 c3 : Nat} (h : RlR w wr SV XV ov l xs) (hc : CellO wr (w.heap.size + 1 + 1) C A2 c2 A3 c3) (ho : w3.ownsRow (w.heap.size + 1 + 1) 53 4 v' (l.length + 1) (xs ++ cellC C A2 c2 A3 c3)) (k : Appd wr w3 ov v') :
    RlR w w3 SV XV v' (l ++ [C]) (xs ++ cellC C A2 c2 A3 c3) := by
  have hz := h.lt
  have hb : Below (w.heap.size + 1 + 1) wr w3 := (Below.refl _ _).grown k.1 h.lt fun j hj => (h.o.lt j hj).1
  exact ⟨h.s.below hb (by omega), h.x.below hb (by omega), by simpa using ho, (h.c.appd k h.o).app (CeO.one (hc.map (Nat.le_refl _) fun _ _ _ _ _ he o => k.kept o (own_own_ne o h.o he))), h.n.trans (hb.mono (by omega))⟩
end
/-- the answer of tree.ReadLeaf -/
def RetLeaf (w : World) (S : Sch) (mask : Nat) (s : Sht) (y : Ending) (w' : World) : Prop := ∃ v xs, y = .returned (.tuple #[v, .int .i64 ((readL S mask s).2 : Int)]) ∧ w'.ownsRow w.heap.size 53 4 v (readL S mask s).1.length xs ∧ CeO w' w.heap.size (readL S mask s).1 xs ∧ Below w.heap.size w w'
theorem RetLeaf.bad {w w' : World} {S : Sch} {mask : Nat} {s : Sht} {e : Nat} (h : readL S mask s = ([], e)) (hb : Below w.heap.size w w') : RetLeaf w S mask s (.returned (.tuple #[.slice none 0 0, .int .i64 (e : Int)])) w' :=
  ⟨.slice none 0 0, [], by rw [h], by rw [h]; exact World.ownsRow_nil _ _ _ 4, by rw [h]; rfl, hb⟩
/-- two operations of a drawn region may be next -/
theorem rh_call2 {P : Program} {ops : Array Oper} {Q : Exit → Act → World → Prop} {md : Region.Mode} {S : World → Prop} (i j : Nat) (di dj : Option Tmp) {oi oj : Oper} {fuel : Nat} {listed : Array Bool} {a : Act} {w : World} (hr : Region.ready md ops listed = [i, j])
    (hoi : ops[i]? = some oi) (hdi : oi.dst = di) (hoj : ops[j]? = some oj) (hdj : oj.dst = dj) (hwi : Region.wanted oi (yielded ops a.tmps) = true) (hwj : Region.wanted oj (yielded ops a.tmps) = true)
    (hi : ∀ K' : Act → World → Prop, Shut (∀ a w, S w → (S w → wpAnyH P md ops Q S fuel (listed.setIfInBounds i true) a w) → K' a w) → Oper.wp P oi a w K' Q)
    (hj : ∀ K' : Act → World → Prop, Shut (∀ a w, S w → (S w → wpAnyH P md ops Q S fuel (listed.setIfInBounds j true) a w) → K' a w) → Oper.wp P oj a w K' Q) : wpAnyH P md ops Q S (fuel + 1) listed a w :=
  wpAnyH_ready hr (by simp) (AllReadyH.cons hoi (fun K hK => by rw [if_pos hwi]; exact hi K hK) (AllReadyH.cons hoj (fun K hK => by rw [if_pos hwj]; exact hj K hK) AllReadyH.nil))
/-- behind one agg.Get -/
def LfCut (wr : World) (C : CellS) (q e : Nat) (v12 v13 v14 : Value) (wx : World) : Prop :=
  ∃ gc D2 d2 D3 d3, v12 = .pointer (some ⟨gc, 0, none⟩) ∧ v13 = .int .i64 (q : Int) ∧ v14 = .int .i64 (e : Int) ∧ Blk wx gc 53 (cellC C D2 d2 D3 d3).toArray ∧ CellO wx wr.heap.size C D2 d2 D3 d3 ∧ Below wr.heap.size wr wx
theorem LfCut.after {wr W w5 : World} {C : CellS} {q e : Nat} {D2 D3 : Option Addr} {d2 d3 : Nat} (hc : CellO w5 W.heap.size C D2 d2 D3 d3) (hw : Below wr.heap.size wr W) (hb : Below W.heap.size W w5) :
    LfCut wr C q e (.pointer (some ⟨w5.heap.size, 0, none⟩)) (.int .i64 (q : Int)) (.int .i64 (e : Int)) (w5.alloc (.cells #[.int .u64 (C.key : Int), .int .i64 C.count, .slice D2 C.ints.length d2, .slice D3 C.nums.length d3] 53)) :=
  ⟨_, D2, d2, D3, d3, rfl, rfl, rfl, Blk.new w5 _ _, hc.map hw.size fun _ _ _ _ _ _ o => o.alloc _, belA (belT hw hb) _⟩
theorem LfCut.before {wr W w5 : World} {C : CellS} {q e : Nat} {D2 D3 : Option Addr} {d2 d3 : Nat} (hz : W.heap.size = wr.heap.size + 1) (hk : Blk W wr.heap.size 53 #[.int .u64 0, .int .i64 0, .slice none 0 0, .slice none 0 0]) (hc : CellO w5 W.heap.size C D2 d2 D3 d3) (hw : Below wr.heap.size wr W) (hb : Below W.heap.size W w5) :
    LfCut wr C q e (.pointer (some ⟨wr.heap.size, 0, none⟩)) (.int .i64 (q : Int)) (.int .i64 (e : Int)) ((((w5.setCell ⟨wr.heap.size, 0, none⟩ (.int .u64 (C.key : Int))).setCell ⟨wr.heap.size, 1, none⟩ (.int .i64 C.count)).setCell ⟨wr.heap.size, 2, none⟩ (.slice D2 C.ints.length d2)).setCell ⟨wr.heap.size, 3, none⟩ (.slice D3 C.nums.length d3)) := by
  have hk5 := hk.below hb (by omega)
  refine ⟨_, D2, d2, D3, d3, rfl, rfl, rfl, ?_, hc.map (by omega) fun _ _ _ _ _ _ o => own_set_lo (own_set_lo (own_set_lo (own_set_lo o (p := ⟨wr.heap.size, 0, none⟩) (by simp only; omega) _) (p := ⟨wr.heap.size, 1, none⟩) (by simp only; omega) _) (p := ⟨wr.heap.size, 2, none⟩) (by simp only; omega) _) (p := ⟨wr.heap.size, 3, none⟩) (by simp only; omega) _, bel4 (belT hw hb) (Nat.le_refl _) _ _ _ _⟩
  exact (((hk5.set_ 0 (.int .u64 (C.key : Int))).set_ 1 (.int .i64 C.count)).set_ 2 (.slice D2 C.ints.length d2)).set_ 3 (.slice D3 C.nums.length d3)
end Go.Proofs.YtfhmaincnlaapaaGreat
