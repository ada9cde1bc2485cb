/-
  What fact.Get comes to; what is put is got.
-/
import Derived.Test.YtfhmaincnlaapaaFactPut
import Derived.Test.YtfhmaincnlaapaaBufInB
import Derived.Test.YtfhmaincnlaapaaGetFAny
namespace Go.Proofs.Ytfhmaincnlaapaa
open Go.ChangeShapes Go.WideShapes Go.ChangeAt Go.RowKit
set_option linter.unusedVariables false

/-- things read one behind the other: what was read, the place, the fault -/
def runN {V : Type} (f : Nat → Nat → Nat → List V × Nat × Nat) (p e : Nat) : Nat → List V × Nat × Nat
  | 0 => ([], p, e)
  | k + 1 => ((runN f p e k).1 ++ (f k (runN f p e k).2.1 (runN f p e k).2.2).1, (f k (runN f p e k).2.1 (runN f p e k).2.2).2)
theorem runN_succ {V : Type} (f : Nat → Nat → Nat → List V × Nat × Nat) (p e k : Nat) : runN f p e (k + 1) = ((runN f p e k).1 ++ (f k (runN f p e k).2.1 (runN f p e k).2.2).1, (f k (runN f p e k).2.1 (runN f p e k).2.2).2) := rfl
theorem runN_len {V : Type} {f : Nat → Nat → Nat → List V × Nat × Nat} (h : ∀ k p e, (f k p e).1.length = 1) (p e k : Nat) : (runN f p e k).1.length = k := by
  induction k with
  | zero => rfl
  | succ k ih => rw [runN_succ, List.length_append, ih, h]
theorem runN_all {V : Type} {P : V → Prop} {f : Nat → Nat → Nat → List V × Nat × Nat} (h : ∀ k p e, ∀ x ∈ (f k p e).1, P x) (p e k : Nat) : ∀ x ∈ (runN f p e k).1, P x := by
  induction k with
  | zero => intro x hx; cases hx
  | succ k ih =>
    rw [runN_succ]; intro x hx
    rcases List.mem_append.1 hx with hx | hx
    · exact ih x hx
    · exact h _ _ _ x hx
theorem runN_stuck {V : Type} {f : Nat → Nat → Nat → List V × Nat × Nat} (h : ∀ k p e, e ≠ 0 → (f k p e).2 = (p, e)) (p e k : Nat) (he : e ≠ 0) : (runN f p e k).2 = (p, e) := by
  induction k with
  | zero => rfl
  | succ k ih => rw [runN_succ]; simp only [ih]; exact h _ _ _ he
/-- from a fault on nothing turns -/
theorem runN_late {V : Type} {f : Nat → Nat → Nat → List V × Nat × Nat} (h : ∀ k p e, e ≠ 0 → (f k p e).2 = (p, e)) (p e k n : Nat) (hk : k ≤ n) (he : (runN f p e k).2.2 ≠ 0) : (runN f p e n).2 = (runN f p e k).2 := by
  induction n with
  | zero =>
    obtain rfl : k = 0 := (by omega)
    rfl
  | succ n ih =>
    by_cases hn : k ≤ n
    · rw [runN_succ]; simp only [ih hn]; exact h _ _ _ he
    · obtain rfl : k = n + 1 := (by omega)
      rfl
theorem stepE_bad {e : Nat} (he : e ≠ 0) (a b : Nat) : stepE e a b = e := if_pos he
theorem stepP_bad {e : Nat} (he : e ≠ 0) (p n : Nat) : stepP p n e = p := if_neg he

def uF (t : List UInt8) (sz : Nat → Int) (k p e : Nat) : List Int × Nat × Nat := ([((inU t p e (sz k - 1).toNat).1 : Int)], (inU t p e (sz k - 1).toNat).2)
def iF (t : List UInt8) (_ p e : Nat) : List Int × Nat × Nat := ([stepV (0 : Int) (getI (t.drop p)).1 (stepE e (getI (t.drop p)).2.2 0)], stepP p (getI (t.drop p)).2.1 (stepE e (getI (t.drop p)).2.2 0), stepE e (getI (t.drop p)).2.2 0)
def fF (t : List UInt8) (_ p e : Nat) : List Nat × Nat × Nat := ([stepV (0 : Nat) (getF (t.drop p)).1 (stepE e (getF (t.drop p)).2.2 0)], stepP p (getF (t.drop p)).2.1 (stepE e (getF (t.drop p)).2.2 0), stepE e (getF (t.drop p)).2.2 0)
theorem inU_stuck (t : List UInt8) (p e most : Nat) (he : e ≠ 0) : (inU t p e most).2 = (p, e) := by unfold inU; simp only [stepE_bad he, stepP_bad he]
theorem uF_stuck (t : List UInt8) (sz : Nat → Int) (k p e : Nat) (he : e ≠ 0) : (uF t sz k p e).2 = (p, e) := inU_stuck _ _ _ _ he
theorem iF_stuck (t : List UInt8) (k p e : Nat) (he : e ≠ 0) : (iF t k p e).2 = (p, e) := by unfold iF; simp only [stepE_bad he, stepP_bad he]
theorem fF_stuck (t : List UInt8) (k p e : Nat) (he : e ≠ 0) : (fF t k p e).2 = (p, e) := by unfold fF; simp only [stepE_bad he, stepP_bad he]
/-- one fact -/
def onesA (S : Sch) (t : List UInt8) (p e : Nat) : List Int × Nat × Nat := runN (uF t (szAt S)) p e S.dims.length
def onesB (S : Sch) (t : List UInt8) (p e : Nat) : List Int × Nat × Nat := runN (iF t) (onesA S t p e).2.1 (onesA S t p e).2.2 S.ints.length
def onesC (S : Sch) (t : List UInt8) (p e : Nat) : List Nat × Nat × Nat := runN (fF t) (onesB S t p e).2.1 (onesB S t p e).2.2 S.nums.length
def oneS (S : Sch) (t : List UInt8) (p e : Nat) : FactS × Nat × Nat := (⟨(onesA S t p e).1, (onesB S t p e).1, (onesC S t p e).1⟩, (onesC S t p e).2)
theorem oneS_stuck (S : Sch) (t : List UInt8) (p e : Nat) (he : e ≠ 0) : (oneS S t p e).2 = (p, e) := by
  have h1 : (onesA S t p e).2 = (p, e) := runN_stuck (uF_stuck t _) p e _ he
  have h2 : (onesB S t p e).2 = (p, e) := by unfold onesB; rw [h1]; exact runN_stuck (iF_stuck t) p e _ he
  show (onesC S t p e).2 = (p, e)
  unfold onesC; rw [h2]; exact runN_stuck (fF_stuck t) p e _ he
def factF (S : Sch) (t : List UInt8) (_ p e : Nat) : List FactS × Nat × Nat := ([(oneS S t p e).1], (oneS S t p e).2)
theorem factF_stuck (S : Sch) (t : List UInt8) (k p e : Nat) (he : e ≠ 0) : (factF S t k p e).2 = (p, e) := oneS_stuck S t p e he
def factsS (S : Sch) (t : List UInt8) (k : Nat) : List FactS × Nat × Nat := runN (factF S t) (inU t 0 0 200).2.1 (inU t 0 0 200).2.2 k
/-- the batch, and the error -/
def getB (S : Sch) (t : List UInt8) : List FactS × Nat :=
  if checkN S = 0 then
    if (inU t 0 0 200).2.2 = 0 ∧ (inU t 0 0 200).1 = 0 then ([], 3)
    else if endE t (factsS S t (inU t 0 0 200).1).2.1 (factsS S t (inU t 0 0 200).1).2.2 = 0 then ((factsS S t (inU t 0 0 200).1).1, 0)
    else ([], endE t (factsS S t (inU t 0 0 200).1).2.1 (factsS S t (inU t 0 0 200).1).2.2)
  else ([], 1)
theorem getB_arg {S : Sch} (t : List UInt8) (h : checkN S ≠ 0) : getB S t = ([], 1) := if_neg h
theorem getB_many {S : Sch} {t : List UInt8} (h : checkN S = 0) (h1 : (inU t 0 0 200).2.2 = 0) (h2 : (inU t 0 0 200).1 = 0) : getB S t = ([], 3) := by
  unfold getB; rw [if_pos h, if_pos ⟨h1, h2⟩]
theorem getB_ok {S : Sch} {t : List UInt8} (h : checkN S = 0) (h1 : ¬ ((inU t 0 0 200).2.2 = 0 ∧ (inU t 0 0 200).1 = 0)) (h2 : endE t (factsS S t (inU t 0 0 200).1).2.1 (factsS S t (inU t 0 0 200).1).2.2 = 0) :
    getB S t = ((factsS S t (inU t 0 0 200).1).1, 0) := by
  unfold getB; rw [if_pos h, if_neg h1, if_pos h2]
theorem getB_end {S : Sch} {t : List UInt8} (h : checkN S = 0) (h1 : ¬ ((inU t 0 0 200).2.2 = 0 ∧ (inU t 0 0 200).1 = 0)) (h2 : endE t (factsS S t (inU t 0 0 200).1).2.1 (factsS S t (inU t 0 0 200).1).2.2 ≠ 0) :
    getB S t = ([], endE t (factsS S t (inU t 0 0 200).1).2.1 (factsS S t (inU t 0 0 200).1).2.2) := by
  unfold getB; rw [if_pos h, if_neg h1, if_neg h2]
/-- a fault on the way -/
theorem getB_early {S : Sch} {t : List UInt8} (h : checkN S = 0) (k : Nat) (hk : k ≤ (inU t 0 0 200).1) (h1 : ¬ ((inU t 0 0 200).2.2 = 0 ∧ (inU t 0 0 200).1 = 0)) (he : (factsS S t k).2.2 ≠ 0) : getB S t = ([], (factsS S t k).2.2) := by
  have hl : (factsS S t (inU t 0 0 200).1).2 = (factsS S t k).2 := runN_late (factF_stuck S t) _ _ _ _ hk he
  have he2 : endE t (factsS S t (inU t 0 0 200).1).2.1 (factsS S t (inU t 0 0 200).1).2.2 = (factsS S t k).2.2 := by
    rw [hl]; unfold endE; rw [if_neg he]
  rw [getB_end h h1 (by rw [he2]; exact he), he2]
theorem inU_le (t : List UInt8) (p e most : Nat) : (inU t p e most).1 ≤ most := by
  unfold inU
  simp only
  unfold stepV
  split
  · rename_i h
    unfold stepE at h
    split at h
    · omega
    · split at h
      · omega
      · unfold overE at h; split at h <;> omega
  · omega
/-- what the fact's parts are -/
theorem oneS_len (S : Sch) (t : List UInt8) (p e : Nat) : (oneS S t p e).1.codes.length = S.dims.length ∧ (oneS S t p e).1.ints.length = S.ints.length ∧ (oneS S t p e).1.nums.length = S.nums.length :=
  ⟨runN_len (fun _ _ _ => rfl) _ _ _, runN_len (fun _ _ _ => rfl) _ _ _, runN_len (fun _ _ _ => rfl) _ _ _⟩
theorem getI_bounds (t : List UInt8) : -9223372036854775808 ≤ (getI t).1 ∧ (getI t).1 ≤ 9223372036854775807 := by
  cases t with
  | nil => simp [getI]
  | cons c t =>
    unfold getI
    simp only
    split
    · simp
    · rename_i h1
      split
      · simp
      · rename_i h2
        split
        · have := numB_lt63 (prt c t) (sgn c).1 (by omega) (fun h => by
            by_cases hh : 127 < ((prt c t).headD 0).toNat
            · exact absurd ⟨h, hh⟩ h2
            · omega)
          split <;> (simp only; omega)
        · simp
theorem getF_lt (t : List UInt8) : (getF t).1 < 18446744073709551616 := by
  obtain ⟨h1, h2, h3⟩ := getF_doc t
  by_cases h : (rgetF t).2 = 0
  · exact (h3 h).2.2
  · rw [h2 h]; show 0 < _; decide

/-- two lists of facts alike -/
def allB (l m : List FactS) : Bool := decide (l.length = m.length) && (List.range l.length).all fun k => sameB (l.getD k ⟨[], [], []⟩) (m.getD k ⟨[], [], []⟩)
/-- behind what was written -/
theorem drop_app (a b c : List UInt8) : (a ++ (b ++ c)).drop a.length = b ++ c := by simp
theorem inU_put (a c : List UInt8) (x most : Nat) (hx : x < 18446744073709551616) (h : x ≤ most) : inU (a ++ (encU x ++ c)) a.length 0 most = (x, (a ++ encU x).length, 0) := by
  unfold inU
  rw [drop_app, getU_enc x hx]
  have : stepE 0 0 (overE x most) = 0 := by unfold stepE overE; rw [if_neg (by omega), if_neg (by omega), if_neg (by omega)]
  simp only [this]
  unfold stepV stepP
  simp [encU_length]
theorem iF_put (a c : List UInt8) (z : Int) (h1 : -9223372036854775808 ≤ z) (h2 : z ≤ 9223372036854775807) (k : Nat) : iF (a ++ (encI z ++ c)) k a.length 0 = ([z], (a ++ encI z).length, 0) := by
  unfold iF
  rw [drop_app, getI_enc z h1 h2]
  have : stepE 0 0 0 = 0 := rfl
  simp only [this]
  unfold stepV stepP
  simp
theorem getF_enc (b : Nat) (m : List UInt8) : ∃ c, getF (be 8 (keyB b) ++ m) = (c, 8, 0) ∧ keyB c = keyB b ∧ c < 18446744073709551616 := by
  obtain ⟨c, h1, h2, h3⟩ := fromB_of_key b
  have hl : ¬ ((be 8 (keyB b) ++ m).length < 8) := by rw [List.length_append, be_length]; omega
  have ht : (be 8 (keyB b) ++ m).take 8 = be 8 (keyB b) := by
    rw [List.take_append_of_le_length (by rw [be_length]; omega), List.take_of_length_le (by rw [be_length]; omega)]
  refine ⟨c, ?_, h3, h2⟩
  unfold getF
  rw [if_neg hl, ht, bv_be, Nat.mod_eq_of_lt (by have := keyB_lt b; omega), h1]
theorem fF_put (a c : List UInt8) (b : Nat) (k : Nat) : ∃ x, fF (a ++ (be 8 (keyB b) ++ c)) k a.length 0 = ([x], (a ++ be 8 (keyB b)).length, 0) ∧ keyB x = keyB b := by
  obtain ⟨x, h1, h2, h3⟩ := getF_enc b c
  refine ⟨x, ?_, h2⟩
  unfold fF
  rw [drop_app, h1]
  have : stepE 0 0 0 = 0 := rfl
  simp only [this]
  unfold stepV stepP
  simp [be_length]
/-- a run over what a list was written as -/
theorem run_put {V X : Type} (f : List UInt8 → Nat → Nat → Nat → List V × Nat × Nat) (g : X → List UInt8) (R : X → V → Prop) (z : X) (xs : List X) (a c : List UInt8)
    (hf : ∀ k, k < xs.length → ∀ a c, ∃ v, f (a ++ (g (xs.getD k z) ++ c)) k a.length 0 = ([v], (a ++ g (xs.getD k z)).length, 0) ∧ R (xs.getD k z) v) (k : Nat) (hk : k ≤ xs.length) :
    ∃ vs, runN (f (a ++ (xs.flatMap g ++ c))) a.length 0 k = (vs, (a ++ (xs.take k).flatMap g).length, 0) ∧ vs.length = k ∧ ∀ j v, vs[j]? = some v → R (xs.getD j z) v := by
  induction k with
  | zero => exact ⟨[], by simp [runN], rfl, fun j v h => by simp at h⟩
  | succ k ih =>
    obtain ⟨vs, h1, h2, h3⟩ := ih (by omega)
    have hsp : xs.flatMap g = (xs.take k).flatMap g ++ (g (xs.getD k z) ++ (xs.drop (k + 1)).flatMap g) := by
      rw [← List.append_assoc, ← flat_snoc g z xs k (by omega), ← List.flatMap_append, List.take_append_drop]
    have ht : a ++ (xs.flatMap g ++ c) = (a ++ (xs.take k).flatMap g) ++ (g (xs.getD k z) ++ ((xs.drop (k + 1)).flatMap g ++ c)) := by
      rw [hsp]; simp only [List.append_assoc]
    obtain ⟨v, e1, e2⟩ := hf k (by omega) (a ++ (xs.take k).flatMap g) ((xs.drop (k + 1)).flatMap g ++ c)
    rw [← ht] at e1
    refine ⟨vs ++ [v], ?_, by simp [h2], ?_⟩
    · rw [runN_succ, h1]
      simp only [e1]
      rw [flat_snoc g z xs k (by omega)]
      simp only [List.append_assoc]
    · intro j u hu
      by_cases hj : j < vs.length
      · rw [List.getElem?_append_left hj] at hu; exact h3 j u hu
      · rw [List.getElem?_append_right (by omega)] at hu
        have hj2 : j - vs.length = 0 := by
          by_cases h0 : j - vs.length = 0
          · exact h0
          · rw [List.getElem?_eq_none (by simp; omega)] at hu; cases hu
        rw [hj2] at hu
        obtain rfl : v = u := by simpa using hu
        obtain rfl : j = k := by omega
        exact e2
theorem eq_of_getD {α : Type} (z : α) (xs vs : List α) (hl : vs.length = xs.length) (h : ∀ (j : Nat) v, vs[j]? = some v → xs.getD j z = v) : vs = xs := by
  apply List.ext_getElem hl
  intro j h1 h2
  have := h j _ (List.getElem?_eq_getElem h1)
  simp [List.getD, h2] at this
  exact this.symm
theorem getD_mem {α : Type} {z : α} {l : List α} {k : Nat} (h : k < l.length) : l.getD k z ∈ l := by simp [List.getD, h]
theorem oneS_put (S : Sch) (F : FactS) (a c : List UInt8) (hc : checkN S = 0) (h : fitsN S F = 0) (ho : FactOk F) : ∃ F', oneS S (a ++ (encFact F ++ c)) a.length 0 = (F', (a ++ encFact F).length, 0) ∧ sameB F F' = true := by
  obtain ⟨_, _, _, hk⟩ := fits_small hc h
  have hl : lensOk S F := by
    by_cases hl : lensOk S F
    · exact hl
    · rw [fitsN_many hl] at h; cases h
  obtain ⟨l0, l1, l2⟩ := hl
  obtain ⟨vs, v1, v2, v3⟩ := run_put (fun t => uF t (szAt S)) (fun c : Int => encU c.toNat) (fun x v => x = v) 0 F.codes a (encIs F.ints ++ (encFs F.nums ++ c)) (fun k hk' a c => by
    have hr := hk k hk'
    unfold codeAt at hr
    refine ⟨F.codes.getD k 0, ?_, rfl⟩
    generalize F.codes.getD k 0 = x at *
    have e := inU_put a c x.toNat (szAt S k - 1).toNat (by omega) (by omega)
    unfold uF
    rw [e]
    simp only
    rw [Int.toNat_of_nonneg hr.1]) F.codes.length (Nat.le_refl _)
  obtain ⟨us, u1, u2, u3⟩ := run_put iF encI (fun x v => x = v) 0 F.ints (a ++ encCodes F.codes) (encFs F.nums ++ c) (fun k hk' a c => by
    have hr := ho.ints _ (getD_mem (z := 0) hk')
    exact ⟨_, iF_put a c _ hr.1 hr.2 k, rfl⟩) F.ints.length (Nat.le_refl _)
  obtain ⟨ws, w1, w2, w3⟩ := run_put fF (fun b => be 8 (keyB b)) (fun x v => keyB x = keyB v) 0 F.nums (a ++ encCodes F.codes ++ encIs F.ints) c (fun k hk' a c => by
    obtain ⟨x, e1, e2⟩ := fF_put a c (F.nums.getD k 0) k
    exact ⟨x, e1, e2.symm⟩) F.nums.length (Nat.le_refl _)
  rw [List.take_length] at v1 u1 w1
  have ht : a ++ (encFact F ++ c) = a ++ (F.codes.flatMap (fun c : Int => encU c.toNat) ++ (encIs F.ints ++ (encFs F.nums ++ c))) := by
    unfold encFact encCodes; simp only [List.append_assoc]
  have ht1 : a ++ (encFact F ++ c) = (a ++ encCodes F.codes) ++ (F.ints.flatMap encI ++ (encFs F.nums ++ c)) := by
    unfold encFact encIs; simp only [List.append_assoc]
  have ht2 : a ++ (encFact F ++ c) = (a ++ encCodes F.codes ++ encIs F.ints) ++ (F.nums.flatMap (fun b => be 8 (keyB b)) ++ c) := by
    unfold encFact encFs; simp only [List.append_assoc]
  rw [← ht] at v1; rw [← ht1] at u1; rw [← ht2] at w1
  have hA : onesA S (a ++ (encFact F ++ c)) a.length 0 = (vs, (a ++ encCodes F.codes).length, 0) := by unfold onesA; rw [← l0]; exact v1
  have hB : onesB S (a ++ (encFact F ++ c)) a.length 0 = (us, (a ++ encCodes F.codes ++ encIs F.ints).length, 0) := by unfold onesB; rw [hA, ← l1]; exact u1
  have hC : onesC S (a ++ (encFact F ++ c)) a.length 0 = (ws, (a ++ encCodes F.codes ++ encIs F.ints ++ encFs F.nums).length, 0) := by unfold onesC; rw [hB, ← l2]; exact w1
  refine ⟨⟨vs, us, ws⟩, ?_, sameB_yes (eq_of_getD 0 _ _ v2 v3).symm (eq_of_getD 0 _ _ u2 u3).symm ?_⟩
  · unfold oneS
    rw [hA, hB, hC]
    simp only [encFact_app]
  · have hlen : (keysF ws).length = (keysF F.nums).length := by rw [keysF_len, keysF_len]; exact w2
    apply Eq.symm
    apply List.ext_getElem hlen
    intro j j1 j2
    rw [keysF_len] at j1 j2
    have := w3 j _ (List.getElem?_eq_getElem j1)
    simp [List.getD, j2] at this
    simp [keysF, this]
theorem allB_of {l m : List FactS} (hl : m.length = l.length) (h : ∀ (j : Nat) v, m[j]? = some v → sameB (l.getD j ⟨[], [], []⟩) v = true) : allB l m = true := by
  unfold allB
  rw [Bool.and_eq_true, decide_eq_true_iff]
  refine ⟨hl.symm, ?_⟩
  rw [List.all_eq_true]
  intro k hk
  have hk := List.mem_range.1 hk
  have := h k _ (List.getElem?_eq_getElem (by omega : k < m.length))
  rw [show m.getD k ⟨[], [], []⟩ = m[k] from by simp [List.getD, show k < m.length by omega]]
  exact this
theorem encTo_zero (l : List FactS) : encTo l 0 = encU l.length := by unfold encTo; simp
/-- what is put is got -/
theorem getB_put {S : Sch} {l : List FactS} (h : (batchN S l).2 = 0) (ho : ∀ F ∈ l, FactOk F) : ∃ m, getB S (encBatch l) = (m, 0) ∧ allB l m = true := by
  obtain ⟨hc, h1, h2, h3⟩ := batchN_zero h
  have hu : inU (encBatch l) 0 0 200 = (l.length, (encU l.length).length, 0) := by
    have := inU_put [] (l.flatMap encFact) l.length 200 (by omega) h2
    simpa [encBatch] using this
  obtain ⟨ms, m1, m2, m3⟩ := run_put (factF S) encFact (fun F F' => sameB F F' = true) ⟨[], [], []⟩ l (encU l.length) [] (fun k hk a c => by
    have hf := h3 k hk
    unfold fitsAt at hf
    obtain ⟨F', e1, e2⟩ := oneS_put S (l.getD k ⟨[], [], []⟩) a c hc hf (ho _ (getD_mem hk))
    exact ⟨F', by unfold factF; rw [e1], e2⟩) l.length (Nat.le_refl _)
  rw [List.take_length, List.append_nil] at m1
  have hf : factsS S (encBatch l) l.length = (ms, (encBatch l).length, 0) := by unfold factsS; rw [hu]; exact m1
  refine ⟨ms, ?_, allB_of m2 m3⟩
  have hn : ¬ ((inU (encBatch l) 0 0 200).2.2 = 0 ∧ (inU (encBatch l) 0 0 200).1 = 0) := by rw [hu]; simp only; omega
  have he : endE (encBatch l) (factsS S (encBatch l) (inU (encBatch l) 0 0 200).1).2.1 (factsS S (encBatch l) (inU (encBatch l) 0 0 200).1).2.2 = 0 := by
    rw [hu]; simp only; rw [hf]; unfold endE; simp
  rw [getB_ok hc hn he, hu]
  simp only
  rw [hf]
end Go.Proofs.Ytfhmaincnlaapaa
