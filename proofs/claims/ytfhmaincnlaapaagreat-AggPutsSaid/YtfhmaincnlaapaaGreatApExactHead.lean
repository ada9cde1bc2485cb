/-
  exact.head.
  fact.Get.
  What agg.Get comes to; what is put of a right cell is got.
-/
import Derived.Laws.BitsAllLaws
import Derived.Test.YtfhmaincnlaapaaGreatApCellPure
import Derived.Test.YtfhmaincnlaapaaGreatApFactOne
namespace Go.Proofs.YtfhmaincnlaapaaGreat
open Go.ChangeShapes Go.WideShapes Go.ChangeAt Go.RowKit
set_option linter.unusedVariables false

/-- bytes, a number with a sign, a real number, read at a place -/
def inB_ (t : List UInt8) (p e : Nat) : List UInt8 × Nat × Nat := if e = 0 then ((rdB 283 (t.drop p)).t, p + (rdB 283 (t.drop p)).n, (rdB 283 (t.drop p)).e) else ([], p, e)
def inI_ (t : List UInt8) (p e : Nat) : Int × Nat × Nat := (stepV (0 : Int) (getI (t.drop p)).1 (stepE e (getI (t.drop p)).2.2 0), stepP p (getI (t.drop p)).2.1 (stepE e (getI (t.drop p)).2.2 0), stepE e (getI (t.drop p)).2.2 0)
def inF_ (t : List UInt8) (p e : Nat) : Nat × Nat × Nat := (stepV (0 : Nat) (getF (t.drop p)).1 (stepE e (getF (t.drop p)).2.2 0), stepP p (getF (t.drop p)).2.1 (stepE e (getF (t.drop p)).2.2 0), stepE e (getF (t.drop p)).2.2 0)
/-- a whole measure -/
def sqF (t : List UInt8) (_ p e : Nat) : List Nat × Nat × Nat := ([(inU t p e 4294967295).1], (inU t p e 4294967295).2)
def meaA (t : List UInt8) (p e : Nat) : Int × Nat × Nat := inI_ t p e
def meaB (t : List UInt8) (p e : Nat) : Int × Nat × Nat := inI_ t (meaA t p e).2.1 (meaA t p e).2.2
def meaN (t : List UInt8) (p e : Nat) : Nat × Nat × Nat := inU t (meaB t p e).2.1 (meaB t p e).2.2 7
def meaQ (t : List UInt8) (p e : Nat) : List Nat × Nat × Nat := runN (sqF t) (meaN t p e).2.1 (meaN t p e).2.2 (meaN t p e).1
def meaL (t : List UInt8) (p e : Nat) : Int × Nat × Nat := inI_ t (meaQ t p e).2.1 (meaQ t p e).2.2
def meaH (t : List UInt8) (p e : Nat) : Int × Nat × Nat := inI_ t (meaL t p e).2.1 (meaL t p e).2.2
def meaS (t : List UInt8) (p e : Nat) : WholeS × Nat × Nat := (⟨(meaA t p e).1, (meaB t p e).1, (meaQ t p e).1, (meaL t p e).1, (meaH t p e).1⟩, (meaH t p e).2)
def meaF (t : List UInt8) (_ p e : Nat) : List WholeS × Nat × Nat := ([(meaS t p e).1], (meaS t p e).2)
/-- a real measure -/
def reaA (t : List UInt8) (p e : Nat) : List UInt8 × Nat × Nat := inB_ t p e
def reaB (t : List UInt8) (p e : Nat) : Nat × Nat × Nat := inF_ t (reaA t p e).2.1 (reaA t p e).2.2
def reaC (t : List UInt8) (p e : Nat) : Nat × Nat × Nat := inF_ t (reaB t p e).2.1 (reaB t p e).2.2
def reaS (t : List UInt8) (p e : Nat) : RealS × Nat × Nat := (⟨(reaA t p e).1, (reaB t p e).1, (reaC t p e).1⟩, (reaC t p e).2)
def reaF (t : List UInt8) (_ p e : Nat) : List RealS × Nat × Nat := ([(reaS t p e).1], (reaS t p e).2)
/-- a cell -/
def celK (t : List UInt8) : Nat × Nat × Nat := inU t 0 0 18446744073709551615
def celN (t : List UInt8) : Int × Nat × Nat := inI_ t (celK t).2.1 (celK t).2.2
def celW (S : Sch) (t : List UInt8) (k : Nat) : List WholeS × Nat × Nat := runN (meaF t) (celN t).2.1 (celN t).2.2 k
def celR (S : Sch) (t : List UInt8) (k : Nat) : List RealS × Nat × Nat := runN (reaF t) (celW S t S.ints.length).2.1 (celW S t S.ints.length).2.2 k
def celS (S : Sch) (t : List UInt8) : CellS × Nat × Nat := (⟨(celK t).1, (celN t).1, (celW S t S.ints.length).1, (celR S t S.nums.length).1⟩, (celR S t S.nums.length).2)
def zeroC : CellS := ⟨0, 0, [], []⟩
/-- the cell whose bytes stand ahead, how many, and the error -/
def getC (S : Sch) (mask : Nat) (t : List UInt8) : CellS × Nat × Nat :=
  if checkN S ≠ 0 then (zeroC, 0, 1) else if (keysOf S mask).isNone = true then (zeroC, 0, 11)
  else if (celS S t).2.2 ≠ 0 then (zeroC, 0, (celS S t).2.2) else if rightC S mask (celS S t).1 = true then ((celS S t).1, (celS S t).2.1, 0) else (zeroC, 0, 6)
/-- two cells alike -/
def sameW (x y : WholeS) : Bool := decide (x.sum = y.sum) && decide (x.abs = y.abs) && decide (x.mn = y.mn) && decide (x.mx = y.mx) && decide (x.sq = y.sq)
def sameR (x y : RealS) : Bool := decide (x.sum = y.sum) && decide (keyB x.mn = keyB y.mn) && decide (keyB x.mx = keyB y.mx)
def sameWs : List WholeS → List WholeS → Bool
  | [], [] => true
  | x :: l, y :: m => sameW x y && sameWs l m
  | _, _ => false
def sameRs : List RealS → List RealS → Bool
  | [], [] => true
  | x :: l, y :: m => sameR x y && sameRs l m
  | _, _ => false
def sameC (C D : CellS) : Bool := decide (C.key = D.key) && decide (C.count = D.count) && sameWs C.ints D.ints && sameRs C.nums D.nums
theorem sameW_eq {x y : WholeS} (h : sameW x y = true) : x = y := by
  unfold sameW at h
  simp only [Bool.and_eq_true, decide_eq_true_iff] at h
  obtain ⟨⟨⟨⟨h1, h2⟩, h3⟩, h4⟩, h5⟩ := h
  cases x; cases y; simp only at h1 h2 h3 h4 h5; subst h1 h2 h3 h4 h5; rfl
theorem sameW_self (x : WholeS) : sameW x x = true := by unfold sameW; simp
theorem sameWs_eq {l m : List WholeS} (h : sameWs l m = true) : l = m := by
  induction l generalizing m with
  | nil => cases m with
    | nil => rfl
    | cons y m => cases h
  | cons x l ih => cases m with
    | nil => cases h
    | cons y m =>
      unfold sameWs at h
      rw [Bool.and_eq_true] at h
      rw [sameW_eq h.1, ih h.2]
theorem sameWs_self : ∀ l : List WholeS, sameWs l l = true
  | [] => rfl
  | x :: l => by unfold sameWs; rw [sameW_self, sameWs_self l]; rfl
theorem sameRs_len {l m : List RealS} (h : sameRs l m = true) : l.length = m.length := by
  induction l generalizing m with
  | nil => cases m with
    | nil => rfl
    | cons y m => cases h
  | cons x l ih => cases m with
    | nil => cases h
    | cons y m =>
      unfold sameRs at h
      rw [Bool.and_eq_true] at h
      rw [List.length_cons, List.length_cons, ih h.2]
theorem sameRs_okR {l m : List RealS} (h : sameRs l m = true) : l.all okR = m.all okR := by
  induction l generalizing m with
  | nil => cases m with
    | nil => rfl
    | cons y m => cases h
  | cons x l ih => cases m with
    | nil => cases h
    | cons y m =>
      unfold sameRs at h
      rw [Bool.and_eq_true] at h
      rw [List.all_cons, List.all_cons, ih h.2]
      have h1 := h.1
      unfold sameR at h1
      simp only [Bool.and_eq_true, decide_eq_true_iff] at h1
      congr 1
      unfold okR
      rw [h1.1.1, h1.1.2, h1.2]
/-- of two cells alike both are right, or none -/
theorem sameC_right {C D : CellS} (S : Sch) (mask : Nat) (h : sameC C D = true) : rightC S mask C = rightC S mask D := by
  unfold sameC at h
  simp only [Bool.and_eq_true, decide_eq_true_iff] at h
  obtain ⟨⟨⟨h1, h2⟩, h3⟩, h4⟩ := h
  have e3 := sameWs_eq h3
  unfold rightC
  cases keysOf S mask with
  | none => rfl
  | some n => simp only; rw [h1, h2, e3, sameRs_len h4, sameRs_okR h4]
theorem sameRs_snoc {l m : List RealS} {x y : RealS} (h : sameRs l m = true) (k : sameR x y = true) : sameRs (l ++ [x]) (m ++ [y]) = true := by
  induction l generalizing m with
  | nil => cases m with
    | nil => show (sameR x y && sameRs [] []) = true; rw [k]; rfl
    | cons y m => cases h
  | cons x l ih => cases m with
    | nil => cases h
    | cons y m =>
      unfold sameRs at h
      rw [Bool.and_eq_true] at h
      rw [List.cons_append, List.cons_append]
      unfold sameRs
      rw [h.1, ih h.2]; rfl
theorem sameRs_of {l m : List RealS} (hl : m.length = l.length) (h : ∀ (j : Nat) v, m[j]? = some v → sameR (l.getD j ⟨[], 0, 0⟩) v = true) : sameRs l m = true := by
  induction l generalizing m with
  | nil =>
    obtain rfl : m = [] := List.eq_nil_of_length_eq_zero (by simpa using hl)
    rfl
  | cons x l ih => cases m with
    | nil => simp at hl
    | cons y m =>
      unfold sameRs
      have h0 := h 0 y rfl
      rw [Bool.and_eq_true]
      exact ⟨by simpa [List.getD] using h0, ih (by simpa using hl) fun j v hv => by have := h (j + 1) v (by simpa using hv); simpa [List.getD] using this⟩
/-! ### what is put is got -/
theorem inI_put (a c : List UInt8) (z : Int) (h : -9223372036854775808 ≤ z ∧ z ≤ 9223372036854775807) : inI_ (a ++ (encI z ++ c)) a.length 0 = (z, (a ++ encI z).length, 0) := by
  have e := iF_put a c z h.1 h.2 0
  have e1 : iF (a ++ (encI z ++ c)) 0 a.length 0 = ([(inI_ (a ++ (encI z ++ c)) a.length 0).1], (inI_ (a ++ (encI z ++ c)) a.length 0).2) := rfl
  rw [e1] at e
  injection e with ea eb
  injection ea with ea
  exact Prod.ext ea eb
theorem inF_put (a c : List UInt8) (b : Nat) : ∃ x, inF_ (a ++ (be 8 (keyB b) ++ c)) a.length 0 = (x, (a ++ be 8 (keyB b)).length, 0) ∧ keyB x = keyB b := by
  obtain ⟨x, e, hx⟩ := fF_put a c b 0
  refine ⟨x, ?_, hx⟩
  have e1 : fF (a ++ (be 8 (keyB b) ++ c)) 0 a.length 0 = ([(inF_ (a ++ (be 8 (keyB b) ++ c)) a.length 0).1], (inF_ (a ++ (be 8 (keyB b) ++ c)) a.length 0).2) := rfl
  rw [e1] at e
  injection e with ea eb
  injection ea with ea
  exact Prod.ext ea eb
theorem inB_put (a c x : List UInt8) (h : x.length ≤ 283) : inB_ (a ++ ((encU x.length ++ x) ++ c)) a.length 0 = (x, (a ++ (encU x.length ++ x)).length, 0) := by
  unfold inB_
  rw [if_pos rfl]
  have hm : mx 283 = 283 := by decide
  have hdr : (a ++ ((encU x.length ++ x) ++ c)).drop a.length = encU x.length ++ (x ++ c) := by rw [List.drop_left, List.append_assoc]
  have hg : getU (encU x.length ++ (x ++ c)) = (x.length, wd x.length + 1, 0) := getU_enc _ (by omega) _
  have hd2 : (encU x.length ++ (x ++ c)).drop (wd x.length + 1) = x ++ c := List.drop_left' (encU_length _)
  have hll : (encU x.length ++ (x ++ c)).length = wd x.length + 1 + (x.length + c.length) := by rw [List.length_append, encU_length, List.length_append]
  have hr : rdB 283 ((a ++ ((encU x.length ++ x) ++ c)).drop a.length) = ⟨0, 0, x, wd x.length + 1 + x.length, 0⟩ := by
    rw [hdr]
    unfold rdB
    rw [hg]
    simp only
    rw [if_neg (by omega), hm, if_neg (by omega), hll, if_neg (by omega), hd2, List.take_left' rfl]
  rw [hr]
  simp only [List.length_append, encU_length]
def wholeOk (x : WholeS) : Prop := (-9223372036854775808 ≤ x.sum ∧ x.sum ≤ 9223372036854775807) ∧ (-9223372036854775808 ≤ x.abs ∧ x.abs ≤ 9223372036854775807) ∧ (-9223372036854775808 ≤ x.mn ∧ x.mn ≤ 9223372036854775807) ∧ (-9223372036854775808 ≤ x.mx ∧ x.mx ≤ 9223372036854775807) ∧ ∀ n ∈ x.sq, n < 4294967296
theorem mea_put (a c : List UInt8) (x : WholeS) (h : wholeOk x) (h7 : x.sq.length ≤ 7) : meaS (a ++ (encWhole x ++ c)) a.length 0 = (x, (a ++ encWhole x).length, 0) := by
  obtain ⟨h1, h2, h3, h4, h5⟩ := h
  have ht : a ++ (encWhole x ++ c) = a ++ (encI x.sum ++ (encI x.abs ++ (encU x.sq.length ++ (encSq x.sq ++ (encI x.mn ++ (encI x.mx ++ c)))))) := by unfold encWhole; simp only [List.append_assoc]
  have ht1 : a ++ (encWhole x ++ c) = (a ++ encI x.sum) ++ (encI x.abs ++ (encU x.sq.length ++ (encSq x.sq ++ (encI x.mn ++ (encI x.mx ++ c))))) := by rw [ht]; simp only [List.append_assoc]
  have ht2 : a ++ (encWhole x ++ c) = (a ++ encI x.sum ++ encI x.abs) ++ (encU x.sq.length ++ (encSq x.sq ++ (encI x.mn ++ (encI x.mx ++ c)))) := by rw [ht]; simp only [List.append_assoc]
  have ht3 : a ++ (encWhole x ++ c) = (a ++ encI x.sum ++ encI x.abs ++ encU x.sq.length) ++ (x.sq.flatMap encU ++ (encI x.mn ++ (encI x.mx ++ c))) := by rw [ht]; unfold encSq; simp only [List.append_assoc]
  have ht4 : a ++ (encWhole x ++ c) = (a ++ encI x.sum ++ encI x.abs ++ encU x.sq.length ++ encSq x.sq) ++ (encI x.mn ++ (encI x.mx ++ c)) := by rw [ht]; simp only [List.append_assoc]
  have ht5 : a ++ (encWhole x ++ c) = (a ++ encI x.sum ++ encI x.abs ++ encU x.sq.length ++ encSq x.sq ++ encI x.mn) ++ (encI x.mx ++ c) := by rw [ht]; simp only [List.append_assoc]
  have v1 := inI_put a (encI x.abs ++ (encU x.sq.length ++ (encSq x.sq ++ (encI x.mn ++ (encI x.mx ++ c))))) x.sum h1
  have v2 := inI_put (a ++ encI x.sum) (encU x.sq.length ++ (encSq x.sq ++ (encI x.mn ++ (encI x.mx ++ c)))) x.abs h2
  have v3 := inU_put (a ++ encI x.sum ++ encI x.abs) (encSq x.sq ++ (encI x.mn ++ (encI x.mx ++ c))) x.sq.length 7 (by omega) h7
  obtain ⟨qs, v4, q2, q3⟩ := run_put sqF encU (fun x v => x = v) 0 x.sq (a ++ encI x.sum ++ encI x.abs ++ encU x.sq.length) (encI x.mn ++ (encI x.mx ++ c)) (fun k hk a c => by
    have hr := h5 _ (getD_mem (z := 0) hk)
    refine ⟨x.sq.getD k 0, ?_, rfl⟩
    unfold sqF
    rw [inU_put a c _ 4294967295 (by omega) (by omega)]) x.sq.length (Nat.le_refl _)
  rw [List.take_length] at v4
  obtain rfl : qs = x.sq := eq_of_getD 0 _ _ q2 q3
  have v5 := inI_put (a ++ encI x.sum ++ encI x.abs ++ encU x.sq.length ++ encSq x.sq) (encI x.mx ++ c) x.mn h3
  have v6 := inI_put (a ++ encI x.sum ++ encI x.abs ++ encU x.sq.length ++ encSq x.sq ++ encI x.mn) c x.mx h4
  rw [← ht] at v1; rw [← ht1] at v2; rw [← ht2] at v3; rw [← ht3] at v4; rw [← ht4] at v5; rw [← ht5] at v6
  generalize a ++ (encWhole x ++ c) = t at *
  have eA : meaA t a.length 0 = (x.sum, (a ++ encI x.sum).length, 0) := v1
  have eB : meaB t a.length 0 = (x.abs, (a ++ encI x.sum ++ encI x.abs).length, 0) := by unfold meaB; rw [eA]; exact v2
  have eN : meaN t a.length 0 = (x.sq.length, (a ++ encI x.sum ++ encI x.abs ++ encU x.sq.length).length, 0) := by unfold meaN; rw [eB]; exact v3
  have eQ : meaQ t a.length 0 = (x.sq, (a ++ encI x.sum ++ encI x.abs ++ encU x.sq.length ++ encSq x.sq).length, 0) := by unfold meaQ; rw [eN]; exact v4
  have eL : meaL t a.length 0 = (x.mn, (a ++ encI x.sum ++ encI x.abs ++ encU x.sq.length ++ encSq x.sq ++ encI x.mn).length, 0) := by unfold meaL; rw [eQ]; exact v5
  have eH : meaH t a.length 0 = (x.mx, (a ++ encI x.sum ++ encI x.abs ++ encU x.sq.length ++ encSq x.sq ++ encI x.mn ++ encI x.mx).length, 0) := by unfold meaH; rw [eL]; exact v6
  unfold meaS
  rw [eA, eB, eQ, eL, eH]
  unfold encWhole
  simp only [List.append_assoc]
theorem rea_put (a c : List UInt8) (x : RealS) (h : x.sum.length ≤ 283) : ∃ y, reaS (a ++ (encReal x ++ c)) a.length 0 = (y, (a ++ encReal x).length, 0) ∧ sameR x y = true := by
  have ht : a ++ (encReal x ++ c) = a ++ ((encU x.sum.length ++ x.sum) ++ (be 8 (keyB x.mn) ++ (be 8 (keyB x.mx) ++ c))) := by unfold encReal; simp only [List.append_assoc]
  have ht1 : a ++ (encReal x ++ c) = (a ++ (encU x.sum.length ++ x.sum)) ++ (be 8 (keyB x.mn) ++ (be 8 (keyB x.mx) ++ c)) := by rw [ht]; simp only [List.append_assoc]
  have ht2 : a ++ (encReal x ++ c) = (a ++ (encU x.sum.length ++ x.sum) ++ be 8 (keyB x.mn)) ++ (be 8 (keyB x.mx) ++ c) := by rw [ht]; simp only [List.append_assoc]
  have v1 := inB_put a (be 8 (keyB x.mn) ++ (be 8 (keyB x.mx) ++ c)) x.sum h
  obtain ⟨m1, v2, k1⟩ := inF_put (a ++ (encU x.sum.length ++ x.sum)) (be 8 (keyB x.mx) ++ c) x.mn
  obtain ⟨m2, v3, k2⟩ := inF_put (a ++ (encU x.sum.length ++ x.sum) ++ be 8 (keyB x.mn)) c x.mx
  rw [← ht] at v1; rw [← ht1] at v2; rw [← ht2] at v3
  generalize a ++ (encReal x ++ c) = t at *
  have eA : reaA t a.length 0 = (x.sum, (a ++ (encU x.sum.length ++ x.sum)).length, 0) := v1
  have eB : reaB t a.length 0 = (m1, (a ++ (encU x.sum.length ++ x.sum) ++ be 8 (keyB x.mn)).length, 0) := by unfold reaB; rw [eA]; exact v2
  have eC : reaC t a.length 0 = (m2, (a ++ (encU x.sum.length ++ x.sum) ++ be 8 (keyB x.mn) ++ be 8 (keyB x.mx)).length, 0) := by unfold reaC; rw [eB]; exact v3
  refine ⟨⟨x.sum, m1, m2⟩, ?_, by unfold sameR; simp [k1, k2]⟩
  unfold reaS
  rw [eA, eB, eC]
  unfold encReal
  simp only [List.append_assoc]
/-- what is needed of a cell for its bytes to be read back -/
structure CellOk (C : CellS) : Prop where
  key : C.key < 18446744073709551616
  count : -9223372036854775808 ≤ C.count ∧ C.count ≤ 9223372036854775807
  ints : ∀ x ∈ C.ints, wholeOk x
theorem cel_put (S : Sch) (C : CellS) (c : List UInt8) (h : CellOk C) (hi : C.ints.length = S.ints.length) (hn : C.nums.length = S.nums.length) (h7 : ∀ x ∈ C.ints, x.sq.length ≤ 7) (h283 : ∀ x ∈ C.nums, x.sum.length ≤ 283) :
    ∃ D, celS S (encCell C ++ c) = (D, (encCell C).length, 0) ∧ sameC C D = true := by
  have ht : encCell C ++ c = [] ++ (encU C.key ++ (encI C.count ++ (encWholes C.ints ++ (encReals C.nums ++ c)))) := by unfold encCell; simp only [List.append_assoc, List.nil_append]
  have ht1 : encCell C ++ c = encU C.key ++ (encI C.count ++ (encWholes C.ints ++ (encReals C.nums ++ c))) := by unfold encCell; simp only [List.append_assoc]
  have ht2 : encCell C ++ c = (encU C.key ++ encI C.count) ++ (C.ints.flatMap encWhole ++ (encReals C.nums ++ c)) := by rw [ht1]; unfold encWholes; simp only [List.append_assoc]
  have ht3 : encCell C ++ c = (encU C.key ++ encI C.count ++ encWholes C.ints) ++ (C.nums.flatMap encReal ++ c) := by rw [ht1]; unfold encReals; simp only [List.append_assoc]
  have v1 := inU_put [] (encI C.count ++ (encWholes C.ints ++ (encReals C.nums ++ c))) C.key 18446744073709551615 h.key (by have := h.key; omega)
  have v2 := inI_put (encU C.key) (encWholes C.ints ++ (encReals C.nums ++ c)) C.count h.count
  obtain ⟨ws, v3, w2, w3⟩ := run_put meaF encWhole (fun x v => x = v) ⟨0, 0, [], 0, 0⟩ C.ints (encU C.key ++ encI C.count) (encReals C.nums ++ c) (fun k hk a c => by
    refine ⟨C.ints.getD k ⟨0, 0, [], 0, 0⟩, ?_, rfl⟩
    unfold meaF
    rw [mea_put a c _ (h.ints _ (getD_mem hk)) (h7 _ (getD_mem hk))]) C.ints.length (Nat.le_refl _)
  obtain ⟨rs, v4, r2, r3⟩ := run_put reaF encReal (fun x v => sameR x v = true) ⟨[], 0, 0⟩ C.nums (encU C.key ++ encI C.count ++ encWholes C.ints) c (fun k hk a c => by
    obtain ⟨y, e1, e2⟩ := rea_put a c _ (h283 _ (getD_mem (z := ⟨[], 0, 0⟩) hk))
    refine ⟨y, ?_, e2⟩
    unfold reaF
    rw [e1]) C.nums.length (Nat.le_refl _)
  rw [List.take_length] at v3 v4
  obtain rfl : ws = C.ints := eq_of_getD _ _ _ w2 w3
  rw [← ht] at v1; rw [← ht1] at v2; rw [← ht2] at v3; rw [← ht3] at v4
  generalize encCell C ++ c = t at *
  have eK : celK t = (C.key, (encU C.key).length, 0) := by unfold celK; have := v1; simpa using this
  have eN : celN t = (C.count, (encU C.key ++ encI C.count).length, 0) := by unfold celN; rw [eK]; exact v2
  have eW : celW S t S.ints.length = (C.ints, (encU C.key ++ encI C.count ++ encWholes C.ints).length, 0) := by unfold celW; rw [eN, ← hi]; exact v3
  have eR : celR S t S.nums.length = (rs, (encU C.key ++ encI C.count ++ encWholes C.ints ++ encReals C.nums).length, 0) := by unfold celR; rw [eW, ← hn]; exact v4
  refine ⟨⟨C.key, C.count, C.ints, rs⟩, ?_, ?_⟩
  · unfold celS
    rw [eK, eN, eW, eR]
    unfold encCell
    simp only
  · unfold sameC
    simp only
    rw [sameWs_self, sameRs_of r2 r3]
    simp
theorem wordsE_end (b : List UInt8) (n k : Nat) (h : wordsE b n k = 0) : b.length ≤ 3 + 4 * n := by
  induction k with
  | zero =>
    unfold wordsE at h
    split at h
    · cases h
    · omega
  | succ k ih =>
    unfold wordsE at h
    split at h
    · cases h
    · split at h
      · cases h
      · exact ih h
theorem readE_len {b : List UInt8} (h : readE b = 0) : b.length ≤ 283 := by
  by_cases h0 : headE b = 0
  · by_cases h3 : 3 ≤ b.length
    · rw [readE_words h0 h3] at h
      have h1 := wordsE_end _ _ _ h
      have h2 := (headE_ok h0 h3).1
      omega
    · omega
  · rw [readE_head h0] at h; exact absurd h h0
theorem rightC_some' {S : Sch} {mask : Nat} {C : CellS} (h : rightC S mask C = true) : ∃ n, keysOf S mask = some n ∧ C.key < n ∧ 1 ≤ C.count ∧ C.ints.length = S.ints.length ∧ C.nums.length = S.nums.length ∧ (∀ x ∈ C.ints, okW x = true) ∧ ∀ x ∈ C.nums, okR x = true := by
  cases hk : keysOf S mask with
  | none => rw [rightC_none S mask C hk] at h; cases h
  | some n =>
    rw [rightC_some S mask n C hk] at h
    simp only [Bool.and_eq_true, decide_eq_true_iff, List.all_eq_true] at h
    exact ⟨n, rfl, h.1.1.1.1.1, h.1.1.1.1.2, h.1.1.1.2, h.1.1.2, h.1.2, h.2⟩
theorem okW_sq {x : WholeS} (h : okW x = true) : x.sq.length ≤ 7 := by
  unfold okW at h
  simp only [Bool.and_eq_true, decide_eq_true_iff] at h
  exact h.1.2
theorem okR_sum {x : RealS} (h : okR x = true) : readE x.sum = 0 := by
  unfold okR at h
  simp only [Bool.and_eq_true, decide_eq_true_iff] at h
  exact h.1
theorem keysOf_check {S : Sch} {mask n : Nat} (h : keysOf S mask = some n) : checkN S = 0 := by
  unfold keysOf at h
  split at h
  · rename_i h1; exact h1.1
  · cases h
/-- what is put of a right cell is got, whatever stands behind it -/
theorem getC_put {S : Sch} {mask : Nat} {C : CellS} (c : List UInt8) (h : rightC S mask C = true) (ho : CellOk C) : ∃ D, getC S mask (encCell C ++ c) = (D, (encCell C).length, 0) ∧ sameC C D = true ∧ rightC S mask D = true := by
  obtain ⟨n, k1, _, _, k2, k3, k4, k5⟩ := rightC_some' h
  obtain ⟨D, e, hs⟩ := cel_put S C c ho k2 k3 (fun x hx => okW_sq (k4 x hx)) (fun x hx => readE_len (okR_sum (k5 x hx)))
  have hr : rightC S mask D = true := by rw [← sameC_right S mask hs]; exact h
  refine ⟨D, ?_, hs, hr⟩
  unfold getC
  rw [e, if_neg (fun hh => hh (keysOf_check k1)), k1, if_neg (by simp), if_neg (fun hh => hh rfl), if_pos hr]
/-- the bounds of what is read -/
theorem inI_bounds (t : List UInt8) (p e : Nat) : -9223372036854775808 ≤ (inI_ t p e).1 ∧ (inI_ t p e).1 ≤ 9223372036854775807 := by
  unfold inI_ stepV
  simp only
  split
  · exact getI_bounds _
  · decide
theorem inF_lt (t : List UInt8) (p e : Nat) : (inF_ t p e).1 < 18446744073709551616 := by
  unfold inF_ stepV
  simp only
  split
  · exact getF_lt _
  · decide
theorem meaS_ok (t : List UInt8) (p e : Nat) : wholeOk (meaS t p e).1 := by
  refine ⟨inI_bounds t p e, inI_bounds t _ _, inI_bounds t _ _, inI_bounds t _ _, runN_all (P := fun x => x < 4294967296) (fun k p e x hx => ?_) _ _ _⟩
  obtain rfl := List.mem_singleton.1 hx
  have := inU_le t p e 4294967295
  omega
theorem celS_ok (S : Sch) (t : List UInt8) : CellOk (celS S t).1 := by
  refine ⟨?_, inI_bounds t _ _, runN_all (P := wholeOk) (fun k p e x hx => ?_) _ _ _⟩
  · have := inU_le t 0 0 18446744073709551615
    show (celK t).1 < _
    unfold celK; omega
  · obtain rfl := List.mem_singleton.1 hx
    exact meaS_ok t p e
theorem celS_nums (S : Sch) (t : List UInt8) : ∀ x ∈ (celS S t).1.nums, x.mn < 18446744073709551616 ∧ x.mx < 18446744073709551616 := by
  refine runN_all (P := fun x : RealS => x.mn < 18446744073709551616 ∧ x.mx < 18446744073709551616) (fun k p e x hx => ?_) _ _ _
  obtain rfl := List.mem_singleton.1 hx
  exact ⟨inF_lt t _ _, inF_lt t _ _⟩
theorem zeroC_ok : CellOk zeroC := ⟨by decide, by decide, fun x hx => by cases hx⟩
theorem getC_ok (S : Sch) (mask : Nat) (t : List UInt8) : CellOk (getC S mask t).1 := by
  unfold getC
  (repeat' split) <;> first | exact zeroC_ok | exact celS_ok S t
end Go.Proofs.YtfhmaincnlaapaaGreat
namespace Go.Proofs.YtfhmaincnlaapaaGreat
open Go.ChangeShapes Go.WideShapes Go.ChangeAt Go.RowKit
set_option linter.unusedVariables false

/-- the cells of facts whose parts are the call's own -/
def FaO (w : World) (base : Nat) : List FactS → List Value → Prop
  | [], xs => xs = []
  | F :: l, xs => ∃ v0 v1 v2 rest, xs = v0 :: v1 :: v2 :: rest ∧ w.ownsRow base 3 1 v0 F.codes.length (i64s F.codes) ∧ w.ownsRow base 2 1 v1 F.ints.length (i64s F.ints) ∧
      w.ownsRow base 57 1 v2 F.nums.length (f64s F.nums) ∧ FaO w base l rest
section
variable {w w' : World} {base g : Nat} {l : List FactS} {xs : List Value}
theorem FaO.map (h : FaO w base l xs) (h0 : ∀ v n ys, w.ownsRow base 3 1 v n ys → w'.ownsRow base 3 1 v n ys) (h1 : ∀ v n ys, w.ownsRow base 2 1 v n ys → w'.ownsRow base 2 1 v n ys)
    (h2 : ∀ v n ys, w.ownsRow base 57 1 v n ys → w'.ownsRow base 57 1 v n ys) : FaO w' base l xs := by
  induction l generalizing xs with
  | nil => exact h
  | cons F l ih =>
    obtain ⟨v0, v1, v2, rest, rfl, o0, o1, o2, hr⟩ := h
    exact ⟨v0, v1, v2, rest, rfl, h0 _ _ _ o0, h1 _ _ _ o1, h2 _ _ _ o2, ih hr⟩
theorem FaO.only (h : FaO w base l xs) (k : Only g w w') (hg : g < base) : FaO w' base l xs :=
  h.map (fun v n ys ho => k.own ho (own_far ho hg)) (fun v n ys ho => k.own ho (own_far ho hg)) (fun v n ys ho => k.own ho (own_far ho hg))
theorem FaO.alloc (h : FaO w base l xs) (o : Obj) : FaO (w.alloc o) base l xs := h.map (fun v n ys ho => ho.alloc o) (fun v n ys ho => ho.alloc o) (fun v n ys ho => ho.alloc o)
theorem FaO.drewN (h : FaO w base l xs) (k : Nat) : FaO (w.drewN k) base l xs := h.map (fun v n ys ho => ho) (fun v n ys ho => ho) (fun v n ys ho => ho)
theorem FaO.appd {v v' : Value} {b n : Nat} {ys : List Value} (h : FaO w base l xs) (k : Appd w w' v v') (ho : w.ownsRow b 86 3 v n ys) : FaO w' base l xs :=
  h.map (fun _ _ _ h' => k.kept h' (own_own_ne h' ho (by decide))) (fun _ _ _ h' => k.kept h' (own_own_ne h' ho (by decide))) (fun _ _ _ h' => k.kept h' (own_own_ne h' ho (by decide)))
theorem FaO.snoc {F : FactS} {v0 v1 v2 : Value} (h : FaO w base l xs) (o0 : w.ownsRow base 3 1 v0 F.codes.length (i64s F.codes)) (o1 : w.ownsRow base 2 1 v1 F.ints.length (i64s F.ints))
    (o2 : w.ownsRow base 57 1 v2 F.nums.length (f64s F.nums)) : FaO w base (l ++ [F]) (xs ++ [v0, v1, v2]) := by
  induction l generalizing xs with
  | nil => cases h; exact ⟨v0, v1, v2, [], rfl, o0, o1, o2, rfl⟩
  | cons F' l ih =>
    obtain ⟨u0, u1, u2, rest, rfl, p0, p1, p2, hr⟩ := h
    exact ⟨u0, u1, u2, rest ++ [v0, v1, v2], rfl, p0, p1, p2, ih hr⟩
theorem FaO.chunk (h : FaO w base l xs) (ho : ∀ F ∈ l, FactOk F) : Chunk factR w w.heap.size l xs := by
  induction l generalizing xs with
  | nil => exact h
  | cons F l ih =>
    obtain ⟨v0, v1, v2, rest, rfl, o0, o1, o2, hr⟩ := h
    obtain ⟨A0, c0, rfl, a0, b0, _⟩ := own_form o0
    obtain ⟨A1, c1, rfl, a1, b1, _⟩ := own_form o1
    obtain ⟨A2, c2, rfl, a2, b2, _⟩ := own_form o2
    refine ⟨[_, _, _], rest, rfl, factR_mk ⟨A0, c0, A1, c1, A2, c2, rfl, rfl, rfl, Rd.own o0, Rd.own o1, Rd.own o2, ⟨a0, b0⟩, ⟨a1, b1⟩, a2, b2⟩ (ho F (by simp)), ih hr fun F' hF => ho F' (by simp [hF])⟩
end
theorem sch_manyOk {S : Sch} (h : checkN S = 0) : S.dims.length ≤ 6 ∧ S.ints.length ≤ 3 ∧ S.nums.length ≤ 2 ∧ ∀ k, k < S.dims.length → 1 ≤ szAt S k ∧ szAt S k ≤ 4096 := by
  obtain ⟨hm, p, hp⟩ := checkN_zero h
  unfold manyOk at hm
  exact ⟨by omega, by omega, by omega, keysTo_some S _ p hp⟩
/-- the facts read so far -/
structure GetRel (w wr : World) (g : Nat) (t : List UInt8) (SV : Array Value) (ov : Value) (m : List FactS) (p e : Nat) : Prop where
  s : Blk wr w.heap.size 26 SV
  o : ∃ xs, wr.ownsRow (g + 1) 86 3 ov m.length xs ∧ FaO wr (g + 1) m xs
  i : InS wr g t p e
  b : Below w.heap.size w wr
theorem GetRel.one {w wr w2 w3 : World} {g : Nat} {t : List UInt8} {SV : Array Value} {ov ov' : Value} {m : List FactS} {F : FactS} {p' e' : Nat} {v0 v1 v2 : Value} {xs : List Value} (hg : w.heap.size + 1 ≤ g)
    (s : Blk wr w.heap.size 26 SV) (b : Below w.heap.size w wr) (o : wr.ownsRow (g + 1) 86 3 ov m.length xs) (f : FaO wr (g + 1) m xs) (hgl : g < wr.heap.size)
    (o0 : w2.ownsRow wr.heap.size 3 1 v0 F.codes.length (i64s F.codes)) (o1 : w2.ownsRow wr.heap.size 2 1 v1 F.ints.length (i64s F.ints)) (o2 : w2.ownsRow wr.heap.size 57 1 v2 F.nums.length (f64s F.nums))
    (i : InS w2 g t p' e') (k : Only g wr w2) (ho : w3.ownsRow (g + 1) 86 3 ov' (m.length + 1) (xs ++ [v0, v1, v2])) (hap : Appd w2 w3 ov ov') : GetRel w w3 g t SV ov' (m ++ [F]) p' e' := by
  have ow2 := k.own o (own_far o (by omega))
  have hz := k.size
  have hb3 : Below (g + 1) w2 w3 := hap.below (by omega) ow2
  have hzb := b.size
  refine ⟨(k.blk s (by omega)).below hb3 (by omega), ⟨_, by rw [List.length_append]; exact ho, ?_⟩, i.below hb3 (by omega), (b.trans (k.below (by omega) (by omega))).trans (hb3.mono (by omega))⟩
  exact ((f.only k (by omega)).appd hap ow2).snoc (own_mono (hap.kept o0 (own_own_ne o0 ow2 (by decide))) (by omega)) (own_mono (hap.kept o1 (own_own_ne o1 ow2 (by decide))) (by omega)) (own_mono (hap.kept o2 (own_own_ne o2 ow2 (by decide))) (by omega))
theorem GetRel.drw {w wr w2 : World} {g : Nat} {t : List UInt8} {SV : Array Value} {ov : Value} {m : List FactS} {p e : Nat} (h : GetRel w wr g t SV ov m p e) (k : Drw wr w2) : GetRel w w2 g t SV ov m p e := by
  obtain ⟨n, rfl⟩ := k
  obtain ⟨xs, h1, h2⟩ := h.o
  exact ⟨h.s, ⟨xs, h1, h2.drewN n⟩, h.i, below_drewN h.b n⟩
end Go.Proofs.YtfhmaincnlaapaaGreat
namespace Go.Proofs.YtfhmaincnlaapaaGreat
open Go.ChangeShapes Go.WideShapes Go.ChangeAt Go.RowKit
set_option linter.unusedVariables false

def headN (n x0 x1 x2 : Nat) : Nat :=
  if 0 < n ∧ (63 < x0 ∨ (x0 / 32 % 2 = 1 ∧ x0 / 16 % 2 = 0)) then 6
  else if 1 < n ∧ (69 < x1 ∨ (0 < x1 ∧ x0 / 16 % 2 = 0)) then 6
  else if 2 < n ∧ (70 < x1 + x2 ∨ (0 < x2 ∧ x0 / 16 % 2 = 0) ∨ (x2 = 0 ∧ (0 < x1 ∨ x0 / 32 % 2 = 1))) then 6
  else 0
theorem headE_eq (b : List UInt8) : headE b = headN b.length (hd b 0) (hd b 1) (hd b 2) := rfl
theorem hd_get (b : List UInt8) (i : Nat) (h : i < b.length) : hd b i = (b[i]).toNat := by
  unfold hd; rw [List.getD_eq_getElem?_getD, List.getElem?_eq_getElem h]; rfl
set_option maxRecDepth 20000 in
theorem head_nil (w : World) (A : Option Addr) (c : Nat) : Calls Tryz.prog 132 #[.slice A 0 c] w fun y w' => y = .returned (.int .i64 0) ∧ Drw w w' := by
  go_enter Tryz.func132, Tryz.ntmps132
  go_wp2
  go_quiet (fail)
  go_wp2
  go_ret
  exact ⟨rfl, ⟨_, rfl⟩⟩
set_option maxRecDepth 20000 in
set_option maxHeartbeats 8000000 in
theorem head_some (w : World) (a : Addr) (n c x0 x1 x2 : Nat) (h1 : 1 ≤ n) (hx0 : x0 < 256) (hx1 : x1 < 256) (hx2 : x2 < 256) (k0 : w.cell? a = some (.int .u8 (x0 : Int)))
    (k1 : 2 ≤ n → w.cell? (a.add 1) = some (.int .u8 (x1 : Int)) ∧ w.cell? ⟨a.block, a.off + 1, none⟩ = some (.int .u8 (x1 : Int)))
    (k2 : 3 ≤ n → w.cell? (a.add 2) = some (.int .u8 (x2 : Int)) ∧ w.cell? ⟨a.block, a.off + 2, none⟩ = some (.int .u8 (x2 : Int))) :
    Calls Tryz.prog 132 #[.slice (some a) n c] w fun y w' => y = .returned (.int .i64 (headN n x0 x1 x2 : Int)) ∧ Drw w w' := by
  have a32 : bits .and .u8 (x0 : Int) 32 = ((x0 / 32 % 2 * 32 : Nat) : Int) := by
    have := u8_and_nat x0 32 hx0 (by decide)
    rw [show x0 &&& 32 = x0 / 32 % 2 * 32 from and32 ⟨x0, hx0⟩] at this
    exact this
  have a16 : bits .and .u8 (x0 : Int) 16 = ((x0 / 16 % 2 * 16 : Nat) : Int) := by
    have := u8_and_nat x0 16 hx0 (by decide)
    rw [show x0 &&& 16 = x0 / 16 % 2 * 16 from and16 ⟨x0, hx0⟩] at this
    exact this
  have p0 : x0 / 32 % 2 = 0 ∨ x0 / 32 % 2 = 1 := by omega
  have q0 : x0 / 16 % 2 = 0 ∨ x0 / 16 % 2 = 1 := by omega
  have g0 : decide ((0 : Int) < (n : Int)) = true := decide_eq_true (by omega)
  by_cases c0 : 63 < x0
  · have t0 : decide ((63 : Int) < (x0 : Int)) = true := decide_eq_true (by omega)
    have e : headN n x0 x1 x2 = 6 := by unfold headN; (repeat' split) <;> omega
    rw [e]
    clear e
    go_enter Tryz.func132, Tryz.ntmps132
    go_wp2
    go_ret
    exact ⟨rfl, Drw.refl _⟩
  have t0 : decide ((63 : Int) < (x0 : Int)) = false := decide_eq_false (by omega)
  rcases p0 with hp | hp
  · rcases q0 with hq | hq
    · have b32 : bits .and .u8 (x0 : Int) 32 = 0 := by rw [a32, hp]; rfl
      have b16 : bits .and .u8 (x0 : Int) 16 = 0 := by rw [a16, hq]; rfl
      clear a32 a16
      by_cases n2 : 2 ≤ n
      case neg =>
        obtain rfl : n = 1 := by omega
        have e : headN 1 x0 x1 x2 = 0 := by unfold headN; (repeat' split) <;> omega
        rw [e]
        clear e
        go_enter Tryz.func132, Tryz.ntmps132
        go_wp2
        go_quiet (fail)
        go_wp2
        go_ret
        exact ⟨rfl, ⟨_, rfl⟩⟩
      obtain ⟨k1a, k1b⟩ := k1 n2
      have g1 : decide ((1 : Int) < (n : Int)) = true := decide_eq_true (by omega)
      by_cases c1 : 69 < x1
      · have t1 : decide ((69 : Int) < (x1 : Int)) = true := decide_eq_true (by omega)
        have e : headN n x0 x1 x2 = 6 := by unfold headN; (repeat' split) <;> omega
        rw [e]
        clear e
        go_enter Tryz.func132, Tryz.ntmps132
        go_wp2
        go_ret
        exact ⟨rfl, Drw.refl _⟩
      have t1 : decide ((69 : Int) < (x1 : Int)) = false := decide_eq_false (by omega)
      have d1 : x1 = 0 ∨ 0 < x1 := by omega
      rcases d1 with rfl | d1
      · simp only [show ((0 : Nat) : Int) = 0 from rfl] at *
        by_cases n3 : 3 ≤ n
        case neg =>
          obtain rfl : n = 2 := by omega
          have e : headN 2 x0 0 x2 = 0 := by unfold headN; (repeat' split) <;> omega
          rw [e]
          clear e
          go_enter Tryz.func132, Tryz.ntmps132
          go_wp2
          go_quiet (fail)
          go_wp2
          go_ret
          exact ⟨rfl, ⟨_, rfl⟩⟩
        obtain ⟨k2a, k2b⟩ := k2 n3
        have g2 : decide ((2 : Int) < (n : Int)) = true := decide_eq_true (by omega)
        by_cases c2 : 70 < x2
        · have t2 : decide ((70 : Int) < (x2 : Int)) = true := decide_eq_true (by omega)
          have e : headN n x0 0 x2 = 6 := by unfold headN; (repeat' split) <;> omega
          rw [e]
          clear e
          go_enter Tryz.func132, Tryz.ntmps132
          go_wp2
          go_quiet (fail)
          go_wp2
          go_ret
          exact ⟨rfl, ⟨_, rfl⟩⟩
        have t2 : decide ((70 : Int) < (x2 : Int)) = false := decide_eq_false (by omega)
        have d2 : x2 = 0 ∨ 0 < x2 := by omega
        rcases d2 with rfl | d2
        · simp only [show ((0 : Nat) : Int) = 0 from rfl] at *
          have e : headN n x0 0 0 = 0 := by unfold headN; (repeat' split) <;> omega
          rw [e]
          clear e
          go_enter Tryz.func132, Tryz.ntmps132
          go_wp2
          go_quiet (fail)
          go_wp2
          go_ret
          exact ⟨rfl, ⟨_, rfl⟩⟩
        · have s2 : decide ((0 : Int) < (x2 : Int)) = true := decide_eq_true (by omega)
          have s3 : ((x2 : Int) == 0) = false := by rw [beq_eq_false_iff_ne]; omega
          have e : headN n x0 0 x2 = 6 := by unfold headN; (repeat' split) <;> omega
          rw [e]
          clear e
          go_enter Tryz.func132, Tryz.ntmps132
          go_wp2
          go_quiet (fail)
          go_wp2
          go_ret
          exact ⟨rfl, ⟨_, rfl⟩⟩
      · have s1 : decide ((0 : Int) < (x1 : Int)) = true := decide_eq_true (by omega)
        have e : headN n x0 x1 x2 = 6 := by unfold headN; (repeat' split) <;> omega
        rw [e]
        clear e
        go_enter Tryz.func132, Tryz.ntmps132
        go_wp2
        go_ret
        exact ⟨rfl, Drw.refl _⟩
    · have b32 : bits .and .u8 (x0 : Int) 32 = 0 := by rw [a32, hp]; rfl
      have b16 : bits .and .u8 (x0 : Int) 16 = 16 := by rw [a16, hq]; rfl
      clear a32 a16
      by_cases n2 : 2 ≤ n
      case neg =>
        obtain rfl : n = 1 := by omega
        have e : headN 1 x0 x1 x2 = 0 := by unfold headN; (repeat' split) <;> omega
        rw [e]
        clear e
        go_enter Tryz.func132, Tryz.ntmps132
        go_wp2
        go_quiet (fail)
        go_wp2
        go_ret
        exact ⟨rfl, ⟨_, rfl⟩⟩
      obtain ⟨k1a, k1b⟩ := k1 n2
      have g1 : decide ((1 : Int) < (n : Int)) = true := decide_eq_true (by omega)
      by_cases c1 : 69 < x1
      · have t1 : decide ((69 : Int) < (x1 : Int)) = true := decide_eq_true (by omega)
        have e : headN n x0 x1 x2 = 6 := by unfold headN; (repeat' split) <;> omega
        rw [e]
        clear e
        go_enter Tryz.func132, Tryz.ntmps132
        go_wp2
        go_ret
        exact ⟨rfl, Drw.refl _⟩
      have t1 : decide ((69 : Int) < (x1 : Int)) = false := decide_eq_false (by omega)
      have d1 : x1 = 0 ∨ 0 < x1 := by omega
      rcases d1 with rfl | d1
      · simp only [show ((0 : Nat) : Int) = 0 from rfl] at *
        by_cases n3 : 3 ≤ n
        case neg =>
          obtain rfl : n = 2 := by omega
          have e : headN 2 x0 0 x2 = 0 := by unfold headN; (repeat' split) <;> omega
          rw [e]
          clear e
          go_enter Tryz.func132, Tryz.ntmps132
          go_wp2
          go_quiet (fail)
          go_wp2
          go_ret
          exact ⟨rfl, ⟨_, rfl⟩⟩
        obtain ⟨k2a, k2b⟩ := k2 n3
        have g2 : decide ((2 : Int) < (n : Int)) = true := decide_eq_true (by omega)
        by_cases c2 : 70 < x2
        · have t2 : decide ((70 : Int) < (x2 : Int)) = true := decide_eq_true (by omega)
          have e : headN n x0 0 x2 = 6 := by unfold headN; (repeat' split) <;> omega
          rw [e]
          clear e
          go_enter Tryz.func132, Tryz.ntmps132
          go_wp2
          go_quiet (fail)
          go_wp2
          go_ret
          exact ⟨rfl, ⟨_, rfl⟩⟩
        have t2 : decide ((70 : Int) < (x2 : Int)) = false := decide_eq_false (by omega)
        have d2 : x2 = 0 ∨ 0 < x2 := by omega
        rcases d2 with rfl | d2
        · simp only [show ((0 : Nat) : Int) = 0 from rfl] at *
          have e : headN n x0 0 0 = 0 := by unfold headN; (repeat' split) <;> omega
          rw [e]
          clear e
          go_enter Tryz.func132, Tryz.ntmps132
          go_wp2
          go_quiet (fail)
          go_wp2
          go_ret
          exact ⟨rfl, ⟨_, rfl⟩⟩
        · have s2 : decide ((0 : Int) < (x2 : Int)) = true := decide_eq_true (by omega)
          have s3 : ((x2 : Int) == 0) = false := by rw [beq_eq_false_iff_ne]; omega
          have e : headN n x0 0 x2 = 0 := by unfold headN; (repeat' split) <;> omega
          rw [e]
          clear e
          go_enter Tryz.func132, Tryz.ntmps132
          go_wp2
          go_quiet (fail)
          go_wp2
          go_ret
          exact ⟨rfl, ⟨_, rfl⟩⟩
      · have s1 : decide ((0 : Int) < (x1 : Int)) = true := decide_eq_true (by omega)
        by_cases n3 : 3 ≤ n
        case neg =>
          obtain rfl : n = 2 := by omega
          have e : headN 2 x0 x1 x2 = 0 := by unfold headN; (repeat' split) <;> omega
          rw [e]
          clear e
          go_enter Tryz.func132, Tryz.ntmps132
          go_wp2
          go_quiet (fail)
          go_wp2
          go_ret
          exact ⟨rfl, ⟨_, rfl⟩⟩
        obtain ⟨k2a, k2b⟩ := k2 n3
        have g2 : decide ((2 : Int) < (n : Int)) = true := decide_eq_true (by omega)
        by_cases c2 : 70 < x1 + x2
        · have t2 : decide ((70 : Int) < (x1 : Int) + (x2 : Int)) = true := decide_eq_true (by omega)
          have e : headN n x0 x1 x2 = 6 := by unfold headN; (repeat' split) <;> omega
          rw [e]
          clear e
          go_enter Tryz.func132, Tryz.ntmps132
          go_wp2
          go_quiet (fail)
          go_wp2
          go_ret
          exact ⟨rfl, ⟨_, rfl⟩⟩
        have t2 : decide ((70 : Int) < (x1 : Int) + (x2 : Int)) = false := decide_eq_false (by omega)
        have d2 : x2 = 0 ∨ 0 < x2 := by omega
        rcases d2 with rfl | d2
        · simp only [show ((0 : Nat) : Int) = 0 from rfl] at *
          have t3 : decide ((70 : Int) < (x1 : Int)) = false := decide_eq_false (by omega)
          have e : headN n x0 x1 0 = 6 := by unfold headN; (repeat' split) <;> omega
          rw [e]
          clear e
          go_enter Tryz.func132, Tryz.ntmps132
          go_wp2
          go_quiet (fail)
          go_wp2
          go_ret
          exact ⟨rfl, ⟨_, rfl⟩⟩
        · have s2 : decide ((0 : Int) < (x2 : Int)) = true := decide_eq_true (by omega)
          have s3 : ((x2 : Int) == 0) = false := by rw [beq_eq_false_iff_ne]; omega
          have e : headN n x0 x1 x2 = 0 := by unfold headN; (repeat' split) <;> omega
          rw [e]
          clear e
          go_enter Tryz.func132, Tryz.ntmps132
          go_wp2
          go_quiet (fail)
          go_wp2
          go_ret
          exact ⟨rfl, ⟨_, rfl⟩⟩
  · rcases q0 with hq | hq
    · have b32 : bits .and .u8 (x0 : Int) 32 = 32 := by rw [a32, hp]; rfl
      have b16 : bits .and .u8 (x0 : Int) 16 = 0 := by rw [a16, hq]; rfl
      clear a32 a16
      have e : headN n x0 x1 x2 = 6 := by unfold headN; (repeat' split) <;> omega
      rw [e]
      clear e
      go_enter Tryz.func132, Tryz.ntmps132
      go_wp2
      go_ret
      exact ⟨rfl, Drw.refl _⟩
    · have b32 : bits .and .u8 (x0 : Int) 32 = 32 := by rw [a32, hp]; rfl
      have b16 : bits .and .u8 (x0 : Int) 16 = 16 := by rw [a16, hq]; rfl
      clear a32 a16
      by_cases n2 : 2 ≤ n
      case neg =>
        obtain rfl : n = 1 := by omega
        have e : headN 1 x0 x1 x2 = 0 := by unfold headN; (repeat' split) <;> omega
        rw [e]
        clear e
        go_enter Tryz.func132, Tryz.ntmps132
        go_wp2
        go_quiet (fail)
        go_wp2
        go_ret
        exact ⟨rfl, ⟨_, rfl⟩⟩
      obtain ⟨k1a, k1b⟩ := k1 n2
      have g1 : decide ((1 : Int) < (n : Int)) = true := decide_eq_true (by omega)
      by_cases c1 : 69 < x1
      · have t1 : decide ((69 : Int) < (x1 : Int)) = true := decide_eq_true (by omega)
        have e : headN n x0 x1 x2 = 6 := by unfold headN; (repeat' split) <;> omega
        rw [e]
        clear e
        go_enter Tryz.func132, Tryz.ntmps132
        go_wp2
        go_ret
        exact ⟨rfl, Drw.refl _⟩
      have t1 : decide ((69 : Int) < (x1 : Int)) = false := decide_eq_false (by omega)
      have d1 : x1 = 0 ∨ 0 < x1 := by omega
      rcases d1 with rfl | d1
      · simp only [show ((0 : Nat) : Int) = 0 from rfl] at *
        by_cases n3 : 3 ≤ n
        case neg =>
          obtain rfl : n = 2 := by omega
          have e : headN 2 x0 0 x2 = 0 := by unfold headN; (repeat' split) <;> omega
          rw [e]
          clear e
          go_enter Tryz.func132, Tryz.ntmps132
          go_wp2
          go_quiet (fail)
          go_wp2
          go_ret
          exact ⟨rfl, ⟨_, rfl⟩⟩
        obtain ⟨k2a, k2b⟩ := k2 n3
        have g2 : decide ((2 : Int) < (n : Int)) = true := decide_eq_true (by omega)
        by_cases c2 : 70 < x2
        · have t2 : decide ((70 : Int) < (x2 : Int)) = true := decide_eq_true (by omega)
          have e : headN n x0 0 x2 = 6 := by unfold headN; (repeat' split) <;> omega
          rw [e]
          clear e
          go_enter Tryz.func132, Tryz.ntmps132
          go_wp2
          go_quiet (fail)
          go_wp2
          go_ret
          exact ⟨rfl, ⟨_, rfl⟩⟩
        have t2 : decide ((70 : Int) < (x2 : Int)) = false := decide_eq_false (by omega)
        have d2 : x2 = 0 ∨ 0 < x2 := by omega
        rcases d2 with rfl | d2
        · simp only [show ((0 : Nat) : Int) = 0 from rfl] at *
          have e : headN n x0 0 0 = 6 := by unfold headN; (repeat' split) <;> omega
          rw [e]
          clear e
          go_enter Tryz.func132, Tryz.ntmps132
          go_wp2
          go_quiet (fail)
          go_wp2
          go_ret
          exact ⟨rfl, ⟨_, rfl⟩⟩
        · have s2 : decide ((0 : Int) < (x2 : Int)) = true := decide_eq_true (by omega)
          have s3 : ((x2 : Int) == 0) = false := by rw [beq_eq_false_iff_ne]; omega
          have e : headN n x0 0 x2 = 0 := by unfold headN; (repeat' split) <;> omega
          rw [e]
          clear e
          go_enter Tryz.func132, Tryz.ntmps132
          go_wp2
          go_quiet (fail)
          go_wp2
          go_ret
          exact ⟨rfl, ⟨_, rfl⟩⟩
      · have s1 : decide ((0 : Int) < (x1 : Int)) = true := decide_eq_true (by omega)
        by_cases n3 : 3 ≤ n
        case neg =>
          obtain rfl : n = 2 := by omega
          have e : headN 2 x0 x1 x2 = 0 := by unfold headN; (repeat' split) <;> omega
          rw [e]
          clear e
          go_enter Tryz.func132, Tryz.ntmps132
          go_wp2
          go_quiet (fail)
          go_wp2
          go_ret
          exact ⟨rfl, ⟨_, rfl⟩⟩
        obtain ⟨k2a, k2b⟩ := k2 n3
        have g2 : decide ((2 : Int) < (n : Int)) = true := decide_eq_true (by omega)
        by_cases c2 : 70 < x1 + x2
        · have t2 : decide ((70 : Int) < (x1 : Int) + (x2 : Int)) = true := decide_eq_true (by omega)
          have e : headN n x0 x1 x2 = 6 := by unfold headN; (repeat' split) <;> omega
          rw [e]
          clear e
          go_enter Tryz.func132, Tryz.ntmps132
          go_wp2
          go_quiet (fail)
          go_wp2
          go_ret
          exact ⟨rfl, ⟨_, rfl⟩⟩
        have t2 : decide ((70 : Int) < (x1 : Int) + (x2 : Int)) = false := decide_eq_false (by omega)
        have d2 : x2 = 0 ∨ 0 < x2 := by omega
        rcases d2 with rfl | d2
        · simp only [show ((0 : Nat) : Int) = 0 from rfl] at *
          have t3 : decide ((70 : Int) < (x1 : Int)) = false := decide_eq_false (by omega)
          have e : headN n x0 x1 0 = 6 := by unfold headN; (repeat' split) <;> omega
          rw [e]
          clear e
          go_enter Tryz.func132, Tryz.ntmps132
          go_wp2
          go_quiet (fail)
          go_wp2
          go_ret
          exact ⟨rfl, ⟨_, rfl⟩⟩
        · have s2 : decide ((0 : Int) < (x2 : Int)) = true := decide_eq_true (by omega)
          have s3 : ((x2 : Int) == 0) = false := by rw [beq_eq_false_iff_ne]; omega
          have e : headN n x0 x1 x2 = 0 := by unfold headN; (repeat' split) <;> omega
          rw [e]
          clear e
          go_enter Tryz.func132, Tryz.ntmps132
          go_wp2
          go_quiet (fail)
          go_wp2
          go_ret
          exact ⟨rfl, ⟨_, rfl⟩⟩
theorem head_any (w : World) (B : Nat) (A : Option Addr) (c : Nat) (b : List UInt8) (hR : Rd w B 1 A b.length (u8s b)) :
    Calls Tryz.prog 132 #[.slice A b.length c] w fun y w' => y = .returned (.int .i64 (headE b : Int)) ∧ Drw w w' := by
  rw [headE_eq]
  cases b with
  | nil => exact head_nil w A c
  | cons x t =>
    obtain ⟨a, rfl, hab, k0⟩ := hR.byte (k := 0) (by simp)
    rw [add_zero'] at k0
    have hl : ∀ i, hd (x :: t) i < 256 := fun i => UInt8.toNat_lt _
    have hc : ∀ i (h : i < (x :: t).length), w.cell? (a.add i) = some (.int .u8 ((hd (x :: t) i : Nat) : Int)) := fun i h => by
      obtain ⟨a', e, _, hx⟩ := hR.byte h
      injection e with e; subst e
      rw [hd_get _ _ h]; exact hx
    exact head_some w a _ c _ _ _ (by simp) (hl 0) (hl 1) (hl 2) (by have := hc 0 (by simp); rwa [add_zero'] at this)
      (fun h => ⟨hc 1 (by omega), by have := hc 1 (by omega); rw [show (1 : Nat) = 0 + 1 from rfl, add_succ] at this; exact this⟩)
      (fun h => ⟨hc 2 (by omega), by have := hc 2 (by omega); rw [show (2 : Nat) = 1 + 1 from rfl, add_succ] at this; exact this⟩)
end Go.Proofs.YtfhmaincnlaapaaGreat
