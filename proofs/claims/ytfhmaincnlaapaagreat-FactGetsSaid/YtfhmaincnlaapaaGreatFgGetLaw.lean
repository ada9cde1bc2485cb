/-
  Facts alike: the same codes and whole numbers, numbers of the same keys.
  What is got has the bytes that it is put as.
  fact.one.
  What fact.Get comes to; what is put is got.
-/
import Derived.Deep.RegionLawGrows
import Derived.Test.YtfhmaincnlaapaaGreatFgRefReadI
import Derived.Test.YtfhmaincnlaapaaGreatFgRefNodesW
import Derived.Test.YtfhmaincnlaapaaGreatFgFactLight
namespace Go.Proofs.YtfhmaincnlaapaaGreat
open Go.ChangeShapes Go.WideShapes Go.ChangeAt Go.RowKit
set_option linter.unusedVariables false

/-- things read one behind the other: what was read, the place, the fault -/
def runN {V : Type} (f : Nat → Nat → Nat → List V × Nat × Nat) (p e : Nat) : Nat → List V × Nat × Nat
  | 0 => ([], p, e)
  | k + 1 => ((runN f p e k).1 ++ (f k (runN f p e k).2.1 (runN f p e k).2.2).1, (f k (runN f p e k).2.1 (runN f p e k).2.2).2)
theorem runN_succ {V : Type} (f : Nat → Nat → Nat → List V × Nat × Nat) (p e k : Nat) : runN f p e (k + 1) = ((runN f p e k).1 ++ (f k (runN f p e k).2.1 (runN f p e k).2.2).1, (f k (runN f p e k).2.1 (runN f p e k).2.2).2) := rfl
theorem runN_len {V : Type} {f : Nat → Nat → Nat → List V × Nat × Nat} (h : ∀ k p e, (f k p e).1.length = 1) (p e k : Nat) : (runN f p e k).1.length = k := by
  induction k with
  | zero => rfl
  | succ k ih => rw [runN_succ, List.length_append, ih, h]
theorem runN_all {V : Type} {P : V → Prop} {f : Nat → Nat → Nat → List V × Nat × Nat} (h : ∀ k p e, ∀ x ∈ (f k p e).1, P x) (p e k : Nat) : ∀ x ∈ (runN f p e k).1, P x := by
  induction k with
  | zero => intro x hx; cases hx
  | succ k ih =>
    rw [runN_succ]; intro x hx
    rcases List.mem_append.1 hx with hx | hx
    · exact ih x hx
    · exact h _ _ _ x hx
theorem runN_stuck {V : Type} {f : Nat → Nat → Nat → List V × Nat × Nat} (h : ∀ k p e, e ≠ 0 → (f k p e).2 = (p, e)) (p e k : Nat) (he : e ≠ 0) : (runN f p e k).2 = (p, e) := by
  induction k with
  | zero => rfl
  | succ k ih => rw [runN_succ]; simp only [ih]; exact h _ _ _ he
/-- from a fault on nothing turns -/
theorem runN_late {V : Type} {f : Nat → Nat → Nat → List V × Nat × Nat} (h : ∀ k p e, e ≠ 0 → (f k p e).2 = (p, e)) (p e k n : Nat) (hk : k ≤ n) (he : (runN f p e k).2.2 ≠ 0) : (runN f p e n).2 = (runN f p e k).2 := by
  induction n with
  | zero =>
    obtain rfl : k = 0 := (by omega)
    rfl
  | succ n ih =>
    by_cases hn : k ≤ n
    · rw [runN_succ]; simp only [ih hn]; exact h _ _ _ he
    · obtain rfl : k = n + 1 := (by omega)
      rfl
theorem stepE_bad {e : Nat} (he : e ≠ 0) (a b : Nat) : stepE e a b = e := if_pos he
theorem stepP_bad {e : Nat} (he : e ≠ 0) (p n : Nat) : stepP p n e = p := if_neg he

def uF (t : List UInt8) (sz : Nat → Int) (k p e : Nat) : List Int × Nat × Nat := ([((inU t p e (sz k - 1).toNat).1 : Int)], (inU t p e (sz k - 1).toNat).2)
def iF (t : List UInt8) (_ p e : Nat) : List Int × Nat × Nat := ([stepV (0 : Int) (getI (t.drop p)).1 (stepE e (getI (t.drop p)).2.2 0)], stepP p (getI (t.drop p)).2.1 (stepE e (getI (t.drop p)).2.2 0), stepE e (getI (t.drop p)).2.2 0)
def fF (t : List UInt8) (_ p e : Nat) : List Nat × Nat × Nat := ([stepV (0 : Nat) (getF (t.drop p)).1 (stepE e (getF (t.drop p)).2.2 0)], stepP p (getF (t.drop p)).2.1 (stepE e (getF (t.drop p)).2.2 0), stepE e (getF (t.drop p)).2.2 0)
theorem inU_stuck (t : List UInt8) (p e most : Nat) (he : e ≠ 0) : (inU t p e most).2 = (p, e) := by unfold inU; simp only [stepE_bad he, stepP_bad he]
theorem uF_stuck (t : List UInt8) (sz : Nat → Int) (k p e : Nat) (he : e ≠ 0) : (uF t sz k p e).2 = (p, e) := inU_stuck _ _ _ _ he
theorem iF_stuck (t : List UInt8) (k p e : Nat) (he : e ≠ 0) : (iF t k p e).2 = (p, e) := by unfold iF; simp only [stepE_bad he, stepP_bad he]
theorem fF_stuck (t : List UInt8) (k p e : Nat) (he : e ≠ 0) : (fF t k p e).2 = (p, e) := by unfold fF; simp only [stepE_bad he, stepP_bad he]
/-- one fact -/
def onesA (S : Sch) (t : List UInt8) (p e : Nat) : List Int × Nat × Nat := runN (uF t (szAt S)) p e S.dims.length
def onesB (S : Sch) (t : List UInt8) (p e : Nat) : List Int × Nat × Nat := runN (iF t) (onesA S t p e).2.1 (onesA S t p e).2.2 S.ints.length
def onesC (S : Sch) (t : List UInt8) (p e : Nat) : List Nat × Nat × Nat := runN (fF t) (onesB S t p e).2.1 (onesB S t p e).2.2 S.nums.length
def oneS (S : Sch) (t : List UInt8) (p e : Nat) : FactS × Nat × Nat := (⟨(onesA S t p e).1, (onesB S t p e).1, (onesC S t p e).1⟩, (onesC S t p e).2)
theorem oneS_stuck (S : Sch) (t : List UInt8) (p e : Nat) (he : e ≠ 0) : (oneS S t p e).2 = (p, e) := by
  have h1 : (onesA S t p e).2 = (p, e) := runN_stuck (uF_stuck t _) p e _ he
  have h2 : (onesB S t p e).2 = (p, e) := by unfold onesB; rw [h1]; exact runN_stuck (iF_stuck t) p e _ he
  show (onesC S t p e).2 = (p, e)
  unfold onesC; rw [h2]; exact runN_stuck (fF_stuck t) p e _ he
def factF (S : Sch) (t : List UInt8) (_ p e : Nat) : List FactS × Nat × Nat := ([(oneS S t p e).1], (oneS S t p e).2)
theorem factF_stuck (S : Sch) (t : List UInt8) (k p e : Nat) (he : e ≠ 0) : (factF S t k p e).2 = (p, e) := oneS_stuck S t p e he
def factsS (S : Sch) (t : List UInt8) (k : Nat) : List FactS × Nat × Nat := runN (factF S t) (inU t 0 0 200).2.1 (inU t 0 0 200).2.2 k
/-- the batch, and the error -/
def getB (S : Sch) (t : List UInt8) : List FactS × Nat :=
  if checkN S = 0 then
    if (inU t 0 0 200).2.2 = 0 ∧ (inU t 0 0 200).1 = 0 then ([], 3)
    else if endE t (factsS S t (inU t 0 0 200).1).2.1 (factsS S t (inU t 0 0 200).1).2.2 = 0 then ((factsS S t (inU t 0 0 200).1).1, 0)
    else ([], endE t (factsS S t (inU t 0 0 200).1).2.1 (factsS S t (inU t 0 0 200).1).2.2)
  else ([], 1)
theorem getB_arg {S : Sch} (t : List UInt8) (h : checkN S ≠ 0) : getB S t = ([], 1) := if_neg h
theorem getB_many {S : Sch} {t : List UInt8} (h : checkN S = 0) (h1 : (inU t 0 0 200).2.2 = 0) (h2 : (inU t 0 0 200).1 = 0) : getB S t = ([], 3) := by
  unfold getB; rw [if_pos h, if_pos ⟨h1, h2⟩]
theorem getB_ok {S : Sch} {t : List UInt8} (h : checkN S = 0) (h1 : ¬ ((inU t 0 0 200).2.2 = 0 ∧ (inU t 0 0 200).1 = 0)) (h2 : endE t (factsS S t (inU t 0 0 200).1).2.1 (factsS S t (inU t 0 0 200).1).2.2 = 0) :
    getB S t = ((factsS S t (inU t 0 0 200).1).1, 0) := by
  unfold getB; rw [if_pos h, if_neg h1, if_pos h2]
theorem getB_end {S : Sch} {t : List UInt8} (h : checkN S = 0) (h1 : ¬ ((inU t 0 0 200).2.2 = 0 ∧ (inU t 0 0 200).1 = 0)) (h2 : endE t (factsS S t (inU t 0 0 200).1).2.1 (factsS S t (inU t 0 0 200).1).2.2 ≠ 0) :
    getB S t = ([], endE t (factsS S t (inU t 0 0 200).1).2.1 (factsS S t (inU t 0 0 200).1).2.2) := by
  unfold getB; rw [if_pos h, if_neg h1, if_neg h2]
/-- a fault on the way -/
theorem getB_early {S : Sch} {t : List UInt8} (h : checkN S = 0) (k : Nat) (hk : k ≤ (inU t 0 0 200).1) (h1 : ¬ ((inU t 0 0 200).2.2 = 0 ∧ (inU t 0 0 200).1 = 0)) (he : (factsS S t k).2.2 ≠ 0) : getB S t = ([], (factsS S t k).2.2) := by
  have hl : (factsS S t (inU t 0 0 200).1).2 = (factsS S t k).2 := runN_late (factF_stuck S t) _ _ _ _ hk he
  have he2 : endE t (factsS S t (inU t 0 0 200).1).2.1 (factsS S t (inU t 0 0 200).1).2.2 = (factsS S t k).2.2 := by
    rw [hl]; unfold endE; rw [if_neg he]
  rw [getB_end h h1 (by rw [he2]; exact he), he2]
theorem inU_le (t : List UInt8) (p e most : Nat) : (inU t p e most).1 ≤ most := by
  unfold inU
  simp only
  unfold stepV
  split
  · rename_i h
    unfold stepE at h
    split at h
    · omega
    · split at h
      · omega
      · unfold overE at h; split at h <;> omega
  · omega
/-- what the fact's parts are -/
theorem oneS_len (S : Sch) (t : List UInt8) (p e : Nat) : (oneS S t p e).1.codes.length = S.dims.length ∧ (oneS S t p e).1.ints.length = S.ints.length ∧ (oneS S t p e).1.nums.length = S.nums.length :=
  ⟨runN_len (fun _ _ _ => rfl) _ _ _, runN_len (fun _ _ _ => rfl) _ _ _, runN_len (fun _ _ _ => rfl) _ _ _⟩
theorem getI_bounds (t : List UInt8) : -9223372036854775808 ≤ (getI t).1 ∧ (getI t).1 ≤ 9223372036854775807 := by
  cases t with
  | nil => simp [getI]
  | cons c t =>
    unfold getI
    simp only
    split
    · simp
    · rename_i h1
      split
      · simp
      · rename_i h2
        split
        · have := numB_lt63 (prt c t) (sgn c).1 (by omega) (fun h => by
            by_cases hh : 127 < ((prt c t).headD 0).toNat
            · exact absurd ⟨h, hh⟩ h2
            · omega)
          split <;> (simp only; omega)
        · simp
theorem getF_lt (t : List UInt8) : (getF t).1 < 18446744073709551616 := by
  obtain ⟨h1, h2, h3⟩ := getF_doc t
  by_cases h : (rgetF t).2 = 0
  · exact (h3 h).2.2
  · rw [h2 h]; show 0 < _; decide

/-- two lists of facts alike -/
def allB (l m : List FactS) : Bool := decide (l.length = m.length) && (List.range l.length).all fun k => sameB (l.getD k ⟨[], [], []⟩) (m.getD k ⟨[], [], []⟩)
theorem getD_mem {α : Type} {z : α} {l : List α} {k : Nat} (h : k < l.length) : l.getD k z ∈ l := by simp [List.getD, h]
theorem encTo_zero (l : List FactS) : encTo l 0 = encU l.length := by unfold encTo; simp
end Go.Proofs.YtfhmaincnlaapaaGreat
namespace Go.Proofs.YtfhmaincnlaapaaGreat
open Go.ChangeShapes Go.WideShapes Go.ChangeAt Go.RowKit
set_option linter.unusedVariables false

theorem info_int : (Tryz.prog.info? 3).map (fun i => (i.zero, i.size, i.bytes)) = some (some (.int .i64 0), 1, 8) := by kernel_rfl
theorem info_i64 : (Tryz.prog.info? 2).map (fun i => (i.zero, i.size, i.bytes)) = some (some (.int .i64 0), 1, 8) := by kernel_rfl
theorem info_f64 : (Tryz.prog.info? 57).map (fun i => (i.zero, i.size, i.bytes)) = some (some (.float .f64 0), 1, 8) := by kernel_rfl
theorem i64s_one (l : List Int) : ∀ u ∈ i64s l, u.oneCell' = true := by intro u hu; obtain ⟨x, _, rfl⟩ := List.mem_map.1 hu; rfl
theorem f64s_one (l : List Nat) : ∀ u ∈ f64s l, u.oneCell' = true := by intro u hu; obtain ⟨x, _, rfl⟩ := List.mem_map.1 hu; rfl
/-- the element that an append lays behind -/
theorem rd_new (w : World) (t : TypeId) (u : Value) : Rd (w.alloc (.cells #[u] t)) (w.heap.size + 1) 1 (some ⟨w.heap.size, 0, none⟩) 1 [u] :=
  ⟨rfl, fun _ => ⟨_, rfl, Nat.lt_succ_self _, fun j x hj => by
    cases j with
    | zero => rw [add_zero', World.cell?_alloc_mark w #[u] t (0, 0) 0]; simpa using hj
    | succ j => simp at hj⟩⟩
/-- a fact that is being read -/
structure OneRel (w wr : World) (g : Nat) (t : List UInt8) (SV : Array Value) (v0 v1 v2 : Value) (a b : List Int) (c : List Nat) (p e : Nat) : Prop where
  s : Blk wr w.heap.size 26 SV
  r : Blk wr (w.heap.size + 1) 86 #[.slice none 0 0, .slice none 0 0, .slice none 0 0]
  f : Blk wr (w.heap.size + 1 + 1) 86 #[v0, v1, v2]
  o0 : wr.ownsRow (w.heap.size + 1 + 1 + 1) 3 1 v0 a.length (i64s a)
  o1 : wr.ownsRow (w.heap.size + 1 + 1 + 1) 2 1 v1 b.length (i64s b)
  o2 : wr.ownsRow (w.heap.size + 1 + 1 + 1) 57 1 v2 c.length (f64s c)
  i : InS wr g t p e
  n : Only g w wr
section
variable {w wr w2 w3 : World} {g : Nat} {t : List UInt8} {SV : Array Value} {v0 v1 v2 v' : Value} {a b : List Int} {c : List Nat} {p e p' e' : Nat}
theorem OneRel.lt (h : OneRel w wr g t SV v0 v1 v2 a b c p e) : w.heap.size + 1 + 1 + 1 ≤ wr.heap.size := h.f.lt
theorem OneRel.drew (h : OneRel w wr g t SV v0 v1 v2 a b c p e) : OneRel w wr.drew g t SV v0 v1 v2 a b c p e :=
  ⟨h.s, h.r, h.f, own_drewN h.o0 1, own_drewN h.o1 1, own_drewN h.o2 1, h.i, h.n.drew⟩
theorem OneRel.alloc (h : OneRel w wr g t SV v0 v1 v2 a b c p e) (o : Obj) : OneRel w (wr.alloc o) g t SV v0 v1 v2 a b c p e :=
  ⟨h.s.alloc o, h.r.alloc o, h.f.alloc o, h.o0.alloc o, h.o1.alloc o, h.o2.alloc o, h.i.below (belA (belR wr) o) h.i.lt, h.n.alloc o⟩
theorem own_far {w : World} {base n g : Nat} {e : TypeId} {size : Nat} {v : Value} {xs : List Value} (h : w.ownsRow base e size v n xs) (hg : g < base) : v.ownBlock ≠ some g := fun he => by have := (h.lt g he).1; omega
theorem OneRel.only (h : OneRel w wr g t SV v0 v1 v2 a b c p e) (hg : g < w.heap.size) (k : Only g wr w2) (hi : InS w2 g t p' e') : OneRel w w2 g t SV v0 v1 v2 a b c p' e' :=
  ⟨k.blk h.s (by omega), k.blk h.r (by omega), k.blk h.f (by omega), k.own h.o0 (own_far h.o0 (by omega)), k.own h.o1 (own_far h.o1 (by omega)), k.own h.o2 (own_far h.o2 (by omega)), hi, h.n.trans k⟩
theorem OneRel.appd (h : OneRel w wr g t SV v0 v1 v2 a b c p e) (hg : g < w.heap.size) {u : Value} (k : Appd wr w3 u v') (hu : ∀ j, u.ownBlock = some j → w.heap.size + 1 + 1 + 1 ≤ j) :
    Blk w3 w.heap.size 26 SV ∧ Blk w3 (w.heap.size + 1) 86 #[.slice none 0 0, .slice none 0 0, .slice none 0 0] ∧ Blk w3 (w.heap.size + 1 + 1) 86 #[v0, v1, v2] ∧ InS w3 g t p e ∧ Only g w w3 := by
  have hb : Below (w.heap.size + 1 + 1 + 1) wr w3 := (Below.refl _ _).grown k.1 h.lt hu
  exact ⟨h.s.below hb (by omega), h.r.below hb (by omega), h.f.below hb (by omega), h.i.below hb (by omega), h.n.appd k fun j hj => .inr (by have := hu j hj; omega)⟩
theorem OneRel.put0 (h : OneRel w wr g t SV v0 v1 v2 a b c p e) (hg : g < w.heap.size) (x : Int) (ho : w3.ownsRow (w.heap.size + 1 + 1 + 1) 3 1 v' (a.length + 1) (i64s a ++ [.int .i64 x])) (k : Appd wr w3 v0 v') :
    Blk w3 (w.heap.size + 1 + 1) 86 #[v0, v1, v2] ∧ OneRel w (w3.setCell ⟨w.heap.size + 1 + 1, 0, none⟩ v') g t SV v' v1 v2 (a ++ [x]) b c p e := by
  obtain ⟨hs, hr, hf, hi, hn⟩ := h.appd hg k fun j hj => (h.o0.lt j hj).1
  have h1 := k.kept h.o1 (own_own_ne h.o1 h.o0 (by decide)); have h2 := k.kept h.o2 (own_own_ne h.o2 h.o0 (by decide))
  have hset := Only.set1 w3 (w.heap.size + 1 + 1) 0 v'
  have hbel : Below (w.heap.size + 1 + 1) w3 (w3.setCell ⟨w.heap.size + 1 + 1, 0, none⟩ v') := (Below.refl (w.heap.size + 1 + 1) w3).setCell (p := ⟨w.heap.size + 1 + 1, 0, none⟩) (Nat.le_refl _) v'
  refine ⟨hf, hset.blk hs (by omega), hset.blk hr (by omega), by simpa using hf.set_ 0 v', ?_, hset.own h1 (own_far h1 (by omega)), hset.own h2 (own_far h2 (by omega)), hi.below hbel (by omega), hn.set_ (.inr (by simp only; omega)) _⟩
  have := hset.own ho (own_far ho (by omega))
  simpa [i64s] using this
theorem OneRel.put1 (h : OneRel w wr g t SV v0 v1 v2 a b c p e) (hg : g < w.heap.size) (x : Int) (ho : w3.ownsRow (w.heap.size + 1 + 1 + 1) 2 1 v' (b.length + 1) (i64s b ++ [.int .i64 x])) (k : Appd wr w3 v1 v') :
    Blk w3 (w.heap.size + 1 + 1) 86 #[v0, v1, v2] ∧ OneRel w (w3.setCell ⟨w.heap.size + 1 + 1, 1, none⟩ v') g t SV v0 v' v2 a (b ++ [x]) c p e := by
  obtain ⟨hs, hr, hf, hi, hn⟩ := h.appd hg k fun j hj => (h.o1.lt j hj).1
  have h1 := k.kept h.o0 (own_own_ne h.o0 h.o1 (by decide)); have h2 := k.kept h.o2 (own_own_ne h.o2 h.o1 (by decide))
  have hset := Only.set1 w3 (w.heap.size + 1 + 1) 1 v'
  have hbel : Below (w.heap.size + 1 + 1) w3 (w3.setCell ⟨w.heap.size + 1 + 1, 1, none⟩ v') := (Below.refl (w.heap.size + 1 + 1) w3).setCell (p := ⟨w.heap.size + 1 + 1, 1, none⟩) (Nat.le_refl _) v'
  refine ⟨hf, hset.blk hs (by omega), hset.blk hr (by omega), by simpa using hf.set_ 1 v', hset.own h1 (own_far h1 (by omega)), ?_, hset.own h2 (own_far h2 (by omega)), hi.below hbel (by omega), hn.set_ (.inr (by simp only; omega)) _⟩
  have := hset.own ho (own_far ho (by omega))
  simpa [i64s] using this
theorem OneRel.put2 (h : OneRel w wr g t SV v0 v1 v2 a b c p e) (hg : g < w.heap.size) (x : Nat) (ho : w3.ownsRow (w.heap.size + 1 + 1 + 1) 57 1 v' (c.length + 1) (f64s c ++ [.float .f64 x])) (k : Appd wr w3 v2 v') :
    Blk w3 (w.heap.size + 1 + 1) 86 #[v0, v1, v2] ∧ OneRel w (w3.setCell ⟨w.heap.size + 1 + 1, 2, none⟩ v') g t SV v0 v1 v' a b (c ++ [x]) p e := by
  obtain ⟨hs, hr, hf, hi, hn⟩ := h.appd hg k fun j hj => (h.o2.lt j hj).1
  have h1 := k.kept h.o0 (own_own_ne h.o0 h.o2 (by decide)); have h2 := k.kept h.o1 (own_own_ne h.o1 h.o2 (by decide))
  have hset := Only.set1 w3 (w.heap.size + 1 + 1) 2 v'
  have hbel : Below (w.heap.size + 1 + 1) w3 (w3.setCell ⟨w.heap.size + 1 + 1, 2, none⟩ v') := (Below.refl (w.heap.size + 1 + 1) w3).setCell (p := ⟨w.heap.size + 1 + 1, 2, none⟩) (Nat.le_refl _) v'
  refine ⟨hf, hset.blk hs (by omega), hset.blk hr (by omega), by simpa using hf.set_ 2 v', hset.own h1 (own_far h1 (by omega)), hset.own h2 (own_far h2 (by omega)), ?_, hi.below hbel (by omega), hn.set_ (.inr (by simp only; omega)) _⟩
  have := hset.own ho (own_far ho (by omega))
  simpa [f64s] using this
theorem OneRel.fin (h : OneRel w wr g t SV v0 v1 v2 a b c p e) (hg : g < w.heap.size) :
    (((wr.setCell ⟨w.heap.size + 1, 0, none⟩ v0).setCell ⟨w.heap.size + 1, 1, none⟩ v1).setCell ⟨w.heap.size + 1, 2, none⟩ v2).ownsRow w.heap.size 3 1 v0 a.length (i64s a) ∧
    (((wr.setCell ⟨w.heap.size + 1, 0, none⟩ v0).setCell ⟨w.heap.size + 1, 1, none⟩ v1).setCell ⟨w.heap.size + 1, 2, none⟩ v2).ownsRow w.heap.size 2 1 v1 b.length (i64s b) ∧
    (((wr.setCell ⟨w.heap.size + 1, 0, none⟩ v0).setCell ⟨w.heap.size + 1, 1, none⟩ v1).setCell ⟨w.heap.size + 1, 2, none⟩ v2).ownsRow w.heap.size 57 1 v2 c.length (f64s c) ∧
    InS (((wr.setCell ⟨w.heap.size + 1, 0, none⟩ v0).setCell ⟨w.heap.size + 1, 1, none⟩ v1).setCell ⟨w.heap.size + 1, 2, none⟩ v2) g t p e ∧
    Only g w (((wr.setCell ⟨w.heap.size + 1, 0, none⟩ v0).setCell ⟨w.heap.size + 1, 1, none⟩ v1).setCell ⟨w.heap.size + 1, 2, none⟩ v2) := by
  have hset := ((Only.set1 wr (w.heap.size + 1) 0 v0).trans (Only.set1 (wr.setCell ⟨w.heap.size + 1, 0, none⟩ v0) (w.heap.size + 1) 1 v1)).trans (Only.set1 ((wr.setCell ⟨w.heap.size + 1, 0, none⟩ v0).setCell ⟨w.heap.size + 1, 1, none⟩ v1) (w.heap.size + 1) 2 v2)
  have hz := h.lt
  exact ⟨own_mono (hset.own h.o0 (own_far h.o0 (by omega))) (by omega), own_mono (hset.own h.o1 (own_far h.o1 (by omega))) (by omega), own_mono (hset.own h.o2 (own_far h.o2 (by omega))) (by omega),
    h.i.below (hset.below (B := w.heap.size + 1) (Nat.le_refl _) (by omega)) (by omega), ((h.n.set_ (.inr (by simp only; omega)) _).set_ (.inr (by simp only; omega)) _).set_ (.inr (by simp only; omega)) _⟩
end
set_option maxRecDepth 20000 in
set_option maxHeartbeats 4000000 in
theorem one_any (w : World) (B g : Nat) (v : Value) (S : Sch) (t : List UInt8) (p e : Nat) (h : SchAt w B v S) (hB : B ≤ g) (hm : S.dims.length ≤ 1000 ∧ S.ints.length ≤ 1000 ∧ S.nums.length ≤ 1000) (hz : ∀ k, k < S.dims.length → 1 ≤ szAt S k ∧ szAt S k ≤ 4096) (hi : InS w g t p e) :
    Calls Tryz.prog 43 #[v, .pointer (some ⟨g, 0, none⟩)] w fun y w' => ∃ v0 v1 v2, y = .returned (.agg #[v0, v1, v2]) ∧ w'.ownsRow w.heap.size 3 1 v0 S.dims.length (i64s (oneS S t p e).1.codes) ∧
      w'.ownsRow w.heap.size 2 1 v1 S.ints.length (i64s (oneS S t p e).1.ints) ∧ w'.ownsRow w.heap.size 57 1 v2 S.nums.length (f64s (oneS S t p e).1.nums) ∧
      InS w' g t (oneS S t p e).2.1 (oneS S t p e).2.2 ∧ Only g w w' := by
  obtain ⟨A0, c0, A1, c1, A2, c2, A3, c3, rfl, r0, r1, r2, r3, b0, b1, b2, b3⟩ := h
  have hgl := hi.lt
  obtain ⟨m0, m1, m2⟩ := hm
  obtain ⟨SV, hSV⟩ : ∃ SV : Array Value, #[.slice A0 S.dims.length c0, .slice A1 S.ints.length c1, .slice A2 S.nums.length c2, .slice A3 S.views.length c3] = SV := ⟨_, rfl⟩
  have hst : OneRel w (((w.alloc (.cells #[.slice A0 S.dims.length c0, .slice A1 S.ints.length c1, .slice A2 S.nums.length c2, .slice A3 S.views.length c3] 26)).alloc (.cells #[.slice none 0 0, .slice none 0 0, .slice none 0 0] 86)).alloc (.cells #[.slice none 0 0, .slice none 0 0, .slice none 0 0] 86)) g t SV (.slice none 0 0) (.slice none 0 0) (.slice none 0 0) [] [] [] p e := by
    rw [← hSV]
    have hb := belA (belA (belA (belR w) (.cells #[.slice A0 S.dims.length c0, .slice A1 S.ints.length c1, .slice A2 S.nums.length c2, .slice A3 S.views.length c3] 26)) (.cells #[.slice none 0 0, .slice none 0 0, .slice none 0 0] 86)) (.cells #[.slice none 0 0, .slice none 0 0, .slice none 0 0] 86)
    exact ⟨((Blk.new w _ _).alloc _).alloc _, (blk_at _ _ _ _ (by simp)).alloc _, blk_at _ _ _ _ (by simp), World.ownsRow_nil _ _ _ 1, World.ownsRow_nil _ _ _ 1, World.ownsRow_nil _ _ _ 1, hi.below hb hgl, Only.of_below hb g⟩
  have HST := Lib.hid hst; have R0 := Lib.hid r0; have HZ := Lib.hid hz
  clear r1 r2 r3 b0 b1 b2 b3 hst r0 hz hi
  have HSV := Lib.hid hSV
  clear hSV
  go_enter Tryz.func43, Tryz.ntmps43
  go_wp2
  generalize hW0 : ((w.alloc (.cells #[.slice A0 S.dims.length c0, .slice A1 S.ints.length c1, .slice A2 S.nums.length c2, .slice A3 S.views.length c3] 26)).alloc (.cells #[.slice none 0 0, .slice none 0 0, .slice none 0 0] 86)).alloc (.cells #[.slice none 0 0, .slice none 0 0, .slice none 0 0] 86) = W0 at *
  clear hW0
  go_loopw [11] (fun i wr => ∃ (k : Nat) (v0 : Value), k ≤ S.dims.length ∧ i = .int .i64 (k : Int) ∧ Hid (OneRel w wr g t SV v0 (.slice none 0 0) (.slice none 0 0) (runN (uF t (szAt S)) p e k).1 [] [] (runN (uF t (szAt S)) p e k).2.1 (runN (uF t (szAt S)) p e k).2.2)) (fun i _ => S.dims.length - (intOf i).toNat)
  case atStart => exact ⟨0, _, by omega, rfl, HST.out⟩
  case round =>
    obtain ⟨k, v0, hk, rfl, HR⟩ := hrel
    have hll := runN_len (f := uF t (szAt S)) (fun _ _ _ => rfl) p e k
    by_cases hlt : k < S.dims.length
    · obtain ⟨a, rfl, hab, x0, x1⟩ := (R0.out.below (HR.out.n.below hB (by omega))).dim hlt
      have q1 : (0 : Int) ≤ (k : Int) := by omega
      have q2 : (k : Int) < (S.dims.length : Int) := by omega
      have hs := runN_succ (uF t (szAt S)) p e k
      have hzk := HZ.out k hlt
      have hsz : szAt S k = S.dims[k].2 := by unfold szAt; simp [List.getD, hlt]
      generalize S.dims[k] = d at *
      obtain ⟨nm, sz⟩ := d
      simp only at x0 x1 hsz
      subst hsz
      generalize runN (uF t (szAt S)) p e k = st at *
      obtain ⟨aa, p1, e1⟩ := st
      simp only at hs hll HR
      have er : uF t (szAt S) k p1 e1 = ([((inU t p1 e1 (szAt S k - 1).toNat).1 : Int)], (inU t p1 e1 (szAt S k - 1).toNat).2) := rfl
      rw [er] at hs
      clear er
      obtain ⟨n, hn⟩ : ∃ n : Nat, szAt S k - 1 = (n : Int) := ⟨(szAt S k - 1).toNat, by omega⟩
      have hn2 : szAt S k = (n : Int) + 1 := by omega
      have hux := inU_le t p1 e1 n
      have hcu := fun W hW => inU_any W g t p1 e1 n hW
      rw [hn, Int.toNat_natCast] at hs
      rw [hn2] at x1
      generalize inU t p1 e1 n = r at *
      obtain ⟨x, p2, e2⟩ := r
      simp only at hs hux hcu
      have w1 : IntKind.i64.wrap ((n : Int) + 1 - 1) = (n : Int) := by rw [show (n : Int) + 1 - 1 = (n : Int) from by omega]; exact IntWalk.i64_in _ (by omega)
      have w1' : IntKind.i64.wrap (n : Int) = (n : Int) := IntWalk.i64_in _ (by omega)
      have w2 : IntKind.u64.wrap (n : Int) = (n : Int) := by rw [IntKind.wrap_u64]; omega
      have w3 : IntKind.i64.wrap (x : Int) = (x : Int) := IntWalk.i64_in _ (by omega)
      have HL := HR.out.alloc (.cells #[.string nm, .int .i64 ((n : Int) + 1)] 79)
      have hzz := HR.out.lt
      have hdb := Blk.new wr 79 #[.string nm, .int .i64 ((n : Int) + 1)]
      have hzw : (wr.alloc (.cells #[.string nm, .int .i64 ((n : Int) + 1)] 79)).heap.size = wr.heap.size + 1 := by simp
      have HLN := Lib.hid hll; have HCU := Lib.hid hcu; have HS := Lib.hid hs; have HDB := Lib.hid hdb
      clear hcu hs hdb hzk
      go_upto_region 5 with (fail)
      generalize hW : wr.alloc (.cells #[.string nm, .int .i64 ((n : Int) + 1)] 79) = W at *
      have HD := Lib.hid HL.drew
      have d1 : W.drew.cell? ⟨wr.heap.size, 1, none⟩ = some (.int .i64 ((n : Int) + 1)) := HDB.out.cell 1
      have f0 : W.drew.cell? ⟨w.heap.size + 1 + 1, 0, none⟩ = some v0 := HD.out.f.cell 0
      have HDD : Hid (Blk W.drew wr.heap.size 79 #[.string nm, .int .i64 ((n : Int) + 1)]) := Lib.hid HDB.out.drew
      clear HL hW x0 x1
      go_region_law (first
        | (refine step_appSD (some 25) (by rfl) (by rfl) (.tmp 16) (.tmp 24) 82 (by rfl) (w.heap.size + 1 + 1 + 1) 3 (.int .i64 0) 1 8 info_int rfl (by decide) Tryz.underlying82 v0 aa.length (i64s aa) HA.out.o0 _ (some ⟨w4.heap.size, 0, none⟩) 1 1 [.int .i64 (x : Int)] HRD.out (by rfl) (by rfl) (i64s_one [(x : Int)]) (by omega) (by omega) hz5 ?_; intro v5 w5 ho5 hap5; have HDB6 := Lib.hid (hap5.blk HDB5.out (own_blk_ne HA.out.o0 HDB5.out (by decide))); obtain ⟨hf5, hr5⟩ := HA.out.put0 hgl (x : Int) ho5 hap5; have c5 := hf5.cell 0; have fr5 := hf5.frozen 0; simp at c5; have HR5 := Lib.hid hr5; obtain ⟨A9, c9, rfl, _, _, _⟩ := own_form ho5; clear ho5 hap5 hf5 hr5)
        | (go_simp; go_at_call 41; (with_reducible refine (HCU.out _ HD.out.i).mono ?_); rintro y w4 ⟨rfl, hi4, ho4⟩; have HR4 := Lib.hid (HD.out.only hgl ho4 hi4); have HA := Lib.hid (HR4.out.alloc (.cells #[.int .i64 (x : Int)] 3)); have HRD := Lib.hid (rd_new w4 3 (.int .i64 (x : Int))); have f4 : w4.cell? ⟨w.heap.size + 1 + 1, 0, none⟩ = some v0 := HR4.out.f.cell 0; have f5 : (w4.alloc (.cells #[.int .i64 (x : Int)] 3)).cell? ⟨w.heap.size + 1 + 1, 0, none⟩ = some v0 := HA.out.f.cell 0; have hz5 : w.heap.size + 1 + 1 + 1 ≤ (w4.alloc (.cells #[.int .i64 (x : Int)] 3)).heap.size := HA.out.lt; have HDB4 := Lib.hid (ho4.blk HDD.out (by omega)); have d4 : w4.cell? ⟨wr.heap.size, 1, none⟩ = some (.int .i64 ((n : Int) + 1)) := HDB4.out.cell 1; have HDB5 := Lib.hid (HDB4.out.alloc (.cells #[.int .i64 (x : Int)] 3)); clear hi4 ho4))
      all_goals
        go_wp2
        go_roundw
        case rel => exact ⟨k + 1, _, by omega, by go_num, by rw [HS.out]; have hx := HR5.out; rw [hll] at hx; exact Lib.hid hx⟩
        case measure => simp [intOf]; omega
    · obtain rfl : k = S.dims.length := by omega
      generalize hra : runN (uF t (szAt S)) p e S.dims.length = ra at *
      obtain ⟨aa, pa, ea⟩ := ra
      simp only at HR
      have HRA := Lib.hid (show onesA S t p e = (aa, pa, ea) from hra)
      have k1 : wr.cell? ⟨w.heap.size, 1, none⟩ = some (.slice A1 S.ints.length c1) := by have := HR.out.s.cell 1; rw [← HSV.out] at this; exact this
      clear hra hll
      go_wp2
      clear k1
      go_loopw [31] (fun i ws => ∃ (k : Nat) (v1 : Value), k ≤ S.ints.length ∧ i = .int .i64 (k : Int) ∧ Hid (OneRel w ws g t SV v0 v1 (.slice none 0 0) aa (runN (iF t) pa ea k).1 [] (runN (iF t) pa ea k).2.1 (runN (iF t) pa ea k).2.2)) (fun i _ => S.ints.length - (intOf i).toNat)
      case atStart => exact ⟨0, _, by omega, rfl, HR.out⟩
      case round =>
        obtain ⟨k, v1, hk, rfl, HR⟩ := hrel
        have hll := runN_len (f := iF t) (fun _ _ _ => rfl) pa ea k
        by_cases hlt : k < S.ints.length
        · have q1 : (0 : Int) ≤ (k : Int) := by omega
          have q2 : (k : Int) < (S.ints.length : Int) := by omega
          have hs := runN_succ (iF t) pa ea k
          generalize runN (iF t) pa ea k = st at *
          obtain ⟨bs, p1, e1⟩ := st
          simp only at hs hll HR
          have hcu := fun W hW => inI_any W g t p1 e1 hW
          have er : iF t k p1 e1 = ([stepV (0 : Int) (getI (t.drop p1)).1 (stepE e1 (getI (t.drop p1)).2.2 0)], stepP p1 (getI (t.drop p1)).2.1 (stepE e1 (getI (t.drop p1)).2.2 0), stepE e1 (getI (t.drop p1)).2.2 0) := rfl
          rw [er] at hs
          generalize stepV (0 : Int) (getI (t.drop p1)).1 (stepE e1 (getI (t.drop p1)).2.2 0) = x at *
          generalize stepP p1 (getI (t.drop p1)).2.1 (stepE e1 (getI (t.drop p1)).2.2 0) = p2 at *
          generalize stepE e1 (getI (t.drop p1)).2.2 0 = e2 at *
          have HD := Lib.hid HR.out.drew
          have f0 : wr.drew.cell? ⟨w.heap.size + 1 + 1, 1, none⟩ = some v1 := HD.out.f.cell 1
          have HCU := Lib.hid hcu; have HS := Lib.hid hs
          clear hcu hs er
          go_upto_region 9 with (fail)
          go_region_law (first
            | (refine step_appSD (some 38) (by rfl) (by rfl) (.tmp 34) (.tmp 37) 83 (by rfl) (w.heap.size + 1 + 1 + 1) 2 (.int .i64 0) 1 8 info_i64 rfl (by decide) Tryz.underlying83 v1 bs.length (i64s bs) HA.out.o1 _ (some ⟨w4.heap.size, 0, none⟩) 1 1 [.int .i64 x] HRD.out (by rfl) (by rfl) (i64s_one [x]) (by omega) (by omega) hz5 ?_; intro v5 w5 ho5 hap5; obtain ⟨hf5, hr5⟩ := HA.out.put1 hgl x ho5 hap5; have c5 := hf5.cell 1; have fr5 := hf5.frozen 1; simp at c5; have HR5 := Lib.hid hr5; obtain ⟨A9, c9, rfl, _, _, _⟩ := own_form ho5; clear ho5 hap5 hf5 hr5)
            | (go_simp; go_at_call 87; (with_reducible refine (HCU.out _ HD.out.i).mono ?_); rintro y w4 ⟨rfl, hi4, ho4⟩; have HR4 := Lib.hid (HD.out.only hgl ho4 hi4); have HA := Lib.hid (HR4.out.alloc (.cells #[.int .i64 x] 2)); have HRD := Lib.hid (rd_new w4 2 (.int .i64 x)); have f4 : w4.cell? ⟨w.heap.size + 1 + 1, 1, none⟩ = some v1 := HR4.out.f.cell 1; have f5 : (w4.alloc (.cells #[.int .i64 x] 2)).cell? ⟨w.heap.size + 1 + 1, 1, none⟩ = some v1 := HA.out.f.cell 1; have hz5 : w.heap.size + 1 + 1 + 1 ≤ (w4.alloc (.cells #[.int .i64 x] 2)).heap.size := HA.out.lt; clear hi4 ho4))
          all_goals
            go_wp2
            go_roundw
            case rel => exact ⟨k + 1, _, by omega, by go_num, by rw [HS.out]; have hx := HR5.out; rw [hll] at hx; exact Lib.hid hx⟩
            case measure => simp [intOf]; omega
        · obtain rfl : k = S.ints.length := by omega
          generalize hrb : runN (iF t) pa ea S.ints.length = rb at *
          obtain ⟨bs, pb, eb⟩ := rb
          simp only at HR
          have HRB := Lib.hid (show onesB S t p e = (bs, pb, eb) from by unfold onesB; rw [HRA.out]; exact hrb)
          have k2 : wr.cell? ⟨w.heap.size, 2, none⟩ = some (.slice A2 S.nums.length c2) := by have := HR.out.s.cell 2; rw [← HSV.out] at this; exact this
          clear hrb hll
          go_wp2
          clear k2
          go_loopw [44] (fun i ws => ∃ (k : Nat) (v2 : Value), k ≤ S.nums.length ∧ i = .int .i64 (k : Int) ∧ Hid (OneRel w ws g t SV v0 v1 v2 aa bs (runN (fF t) pb eb k).1 (runN (fF t) pb eb k).2.1 (runN (fF t) pb eb k).2.2)) (fun i _ => S.nums.length - (intOf i).toNat)
          case atStart => exact ⟨0, _, by omega, rfl, HR.out⟩
          case round =>
            obtain ⟨k, v2, hk, rfl, HR⟩ := hrel
            have hll := runN_len (f := fF t) (fun _ _ _ => rfl) pb eb k
            by_cases hlt : k < S.nums.length
            · have q1 : (0 : Int) ≤ (k : Int) := by omega
              have q2 : (k : Int) < (S.nums.length : Int) := by omega
              have hs := runN_succ (fF t) pb eb k
              generalize runN (fF t) pb eb k = st at *
              obtain ⟨cs, p1, e1⟩ := st
              simp only at hs hll HR
              have hcu := fun W hW => inF_any W g t p1 e1 hW
              have er : fF t k p1 e1 = ([stepV (0 : Nat) (getF (t.drop p1)).1 (stepE e1 (getF (t.drop p1)).2.2 0)], stepP p1 (getF (t.drop p1)).2.1 (stepE e1 (getF (t.drop p1)).2.2 0), stepE e1 (getF (t.drop p1)).2.2 0) := rfl
              rw [er] at hs
              generalize stepV (0 : Nat) (getF (t.drop p1)).1 (stepE e1 (getF (t.drop p1)).2.2 0) = x at *
              generalize stepP p1 (getF (t.drop p1)).2.1 (stepE e1 (getF (t.drop p1)).2.2 0) = p2 at *
              generalize stepE e1 (getF (t.drop p1)).2.2 0 = e2 at *
              have HD := Lib.hid HR.out.drew
              have f0 : wr.drew.cell? ⟨w.heap.size + 1 + 1, 2, none⟩ = some v2 := HD.out.f.cell 2
              have HCU := Lib.hid hcu; have HS := Lib.hid hs
              clear hcu hs er
              go_upto_region 13 with (fail)
              go_region_law (first
                | (refine step_appSD (some 51) (by rfl) (by rfl) (.tmp 47) (.tmp 50) 84 (by rfl) (w.heap.size + 1 + 1 + 1) 57 (.float .f64 0) 1 8 info_f64 rfl (by decide) Tryz.underlying84 v2 cs.length (f64s cs) HA.out.o2 _ (some ⟨w4.heap.size, 0, none⟩) 1 1 [.float .f64 x] HRD.out (by rfl) (by rfl) (f64s_one [x]) (by omega) (by omega) hz5 ?_; intro v5 w5 ho5 hap5; obtain ⟨hf5, hr5⟩ := HA.out.put2 hgl x ho5 hap5; have c5 := hf5.cell 2; have fr5 := hf5.frozen 2; simp at c5; have HR5 := Lib.hid hr5; obtain ⟨A9, c9, rfl, _, _, _⟩ := own_form ho5; clear ho5 hap5 hf5 hr5)
                | (go_simp; go_at_call 90; (with_reducible refine (HCU.out _ HD.out.i).mono ?_); rintro y w4 ⟨rfl, hi4, ho4⟩; have HR4 := Lib.hid (HD.out.only hgl ho4 hi4); have HA := Lib.hid (HR4.out.alloc (.cells #[.float .f64 x] 57)); have HRD := Lib.hid (rd_new w4 57 (.float .f64 x)); have f4 : w4.cell? ⟨w.heap.size + 1 + 1, 2, none⟩ = some v2 := HR4.out.f.cell 2; have f5 : (w4.alloc (.cells #[.float .f64 x] 57)).cell? ⟨w.heap.size + 1 + 1, 2, none⟩ = some v2 := HA.out.f.cell 2; have hz5 : w.heap.size + 1 + 1 + 1 ≤ (w4.alloc (.cells #[.float .f64 x] 57)).heap.size := HA.out.lt; clear hi4 ho4))
              all_goals
                go_wp2
                go_roundw
                case rel => exact ⟨k + 1, _, by omega, by go_num, by rw [HS.out]; have hx := HR5.out; rw [hll] at hx; exact Lib.hid hx⟩
                case measure => simp [intOf]; omega
            · obtain rfl : k = S.nums.length := by omega
              generalize hrc : runN (fF t) pb eb S.nums.length = rc at *
              obtain ⟨cs, pc, ec⟩ := rc
              simp only at HR
              have HRC := Lib.hid (show onesC S t p e = (cs, pc, ec) from by unfold onesC; rw [HRB.out]; exact hrc)
              have hone : oneS S t p e = (⟨aa, bs, cs⟩, pc, ec) := by unfold oneS; rw [HRA.out, HRB.out, HRC.out]
              obtain ⟨l0, l1, l2⟩ := oneS_len S t p e
              rw [hone] at l0 l1 l2
              obtain ⟨A7, c7, rfl, _, _, _⟩ := own_form HR.out.o0
              obtain ⟨A8, c8, rfl, _, _, _⟩ := own_form HR.out.o1
              obtain ⟨A9, c9, rfl, _, _, _⟩ := own_form HR.out.o2
              have z0 := HR.out.f.cell 0; have z1 := HR.out.f.cell 1; have z2 := HR.out.f.cell 2
              have y0 := HR.out.r.cell 0; have y1 := HR.out.r.cell 1; have y2 := HR.out.r.cell 2
              have g0 := HR.out.r.frozen 0; have g1 := HR.out.r.frozen 1; have g2 := HR.out.r.frozen 2
              simp at z0 z1 z2 y0 y1 y2
              have HONE := Lib.hid hone; have L0 := Lib.hid l0; have L1 := Lib.hid l1; have L2 := Lib.hid l2
              clear hrc hll hone l0 l1 l2
              have hfin := HR.out.fin hgl
              have HF := Lib.hid hfin
              clear hfin
              go_wp2
              refine bodyPost_ret (v := .agg #[.slice A7 aa.length c7, .slice A8 bs.length c8, .slice A9 cs.length c9]) ?_ rfl ?_
              · simp [results, Tryz.results43, go_sem, *]
              · refine ⟨_, _, _, rfl, ?_⟩
                rw [HONE.out, ← L0.out, ← L1.out, ← L2.out]
                exact HF.out
end Go.Proofs.YtfhmaincnlaapaaGreat
namespace Go.Proofs.YtfhmaincnlaapaaGreat
open Go.ChangeShapes Go.WideShapes Go.ChangeAt Go.RowKit
set_option linter.unusedVariables false

theorem bv_cons (c : UInt8) (l : List UInt8) : bv (c :: l) = c.toNat * 256 ^ l.length + bv l := by
  have key : ∀ (l : List UInt8) (x : Nat), l.foldl (fun x b => x * 256 + b.toNat) x = x * 256 ^ l.length + bv l := by
    intro l
    induction l with
    | nil => intro x; simp [bv]
    | cons d l ih =>
      intro x
      rw [List.foldl_cons, ih]
      have := ih (0 * 256 + d.toNat)
      rw [show bv (d :: l) = l.foldl (fun x b => x * 256 + b.toNat) (0 * 256 + d.toNat) from rfl, this]
      rw [List.length_cons, Nat.pow_succ, Nat.zero_mul, Nat.zero_add, Nat.add_mul, Nat.mul_assoc, Nat.mul_comm 256, Nat.add_assoc]
  show l.foldl (fun x b => x * 256 + b.toNat) (0 * 256 + c.toNat) = _
  rw [key, Nat.zero_mul, Nat.zero_add]
theorem wd_of (x n : Nat) (h0 : 0 < n) (h1 : 256 ^ (n - 1) ≤ x) (h2 : x < 256 ^ n) (hx : x < 18446744073709551616) : wd x = n := by
  have hp : 0 < x := Nat.lt_of_lt_of_le (Nat.pow_pos (by decide)) h1
  have a := wd_lt x hx
  have b := wd_ge x hp hx
  rcases Nat.lt_trichotomy (wd x) n with h | h | h
  · have : 256 ^ wd x ≤ 256 ^ (n - 1) := Nat.pow_le_pow_right (by decide) (by omega)
    omega
  · exact h
  · have : 256 ^ n ≤ 256 ^ (wd x - 1) := Nat.pow_le_pow_right (by decide) (by omega)
    omega
theorem numB_back (t : List UInt8) (n : Nat) (hn : n ≤ 8) (h : (numB t n).2 = 0) : n ≤ t.length ∧ t.take n = be n (numB t n).1 ∧ wd (numB t n).1 = n := by
  unfold numB at h ⊢
  by_cases h0 : n = 0
  · subst h0; simp [be, wd_zero]
  · rw [if_neg h0] at h ⊢
    cases t with
    | nil => simp at h
    | cons c u =>
      simp only at h ⊢
      split at h
      · simp at h
      · rename_i hc
        rw [if_neg hc]
        split at h
        · simp at h
        · rename_i hl
          rw [if_neg hl]
          simp only
          have hlen : ((c :: u).take n).length = n := by rw [List.length_take]; omega
          have hb := be_bv ((c :: u).take n)
          rw [hlen] at hb
          refine ⟨by omega, hb.symm, ?_⟩
          have hlt := bv_lt ((c :: u).take n)
          rw [hlen] at hlt
          obtain ⟨m, rfl⟩ : ∃ m, n = m + 1 := ⟨n - 1, by omega⟩
          rw [List.take_succ_cons] at hlt ⊢
          have hge : 256 ^ m ≤ bv (c :: u.take m) := by
            rw [bv_cons]
            have hm : (u.take m).length = m := by rw [List.take_succ_cons, List.length_cons] at hlen; omega
            rw [hm]
            have hc1 : 1 ≤ c.toNat := by
              rcases Nat.eq_zero_or_pos c.toNat with h | h
              · exact absurd (UInt8.toNat_inj.1 (by rw [h]; rfl)) hc
              · exact h
            have : 1 * 256 ^ m ≤ c.toNat * 256 ^ m := Nat.mul_le_mul_right _ hc1
            omega
          have h8 : 256 ^ (m + 1) ≤ 256 ^ 8 := Nat.pow_le_pow_right (by decide) hn
          have e8 : (256 : Nat) ^ 8 = 18446744073709551616 := by decide
          exact wd_of _ _ (by omega) (by simpa using hge) hlt (by omega)
theorem getU_back (t : List UInt8) (h : (getU t).2.2 = 0) : t.take (getU t).2.1 = encU (getU t).1 ∧ (getU t).2.1 ≤ t.length := by
  refine ⟨?_, getU_fits t h⟩
  cases t with
  | nil => simp [getU] at h
  | cons c t =>
    unfold getU at h ⊢
    simp only at h ⊢
    split at h
    · simp at h
    · rename_i h1
      rw [if_neg h1]
      split at h
      · rename_i h2
        rw [if_pos h2]
        obtain ⟨a, b, d⟩ := numB_back t c.toNat (by omega) h2
        simp only
        rw [List.take_succ_cons, b]
        unfold encU
        rw [d]
        congr 1
        apply UInt8.toNat_inj.1
        rw [UInt8.toNat_ofNat']; omega
      · rename_i h2; exact absurd h h2
theorem getI_back (t : List UInt8) (h : (getI t).2.2 = 0) : t.take (getI t).2.1 = encI (getI t).1 ∧ (getI t).2.1 ≤ t.length := by
  refine ⟨?_, getI_fits t h⟩
  cases t with
  | nil => simp [getI] at h
  | cons c t =>
    unfold getI at h ⊢
    simp only at h ⊢
    split at h
    · simp at h
    · rename_i h1
      rw [if_neg h1]
      split at h
      · simp at h
      · rename_i h2
        rw [if_neg h2]
        split at h
        · rename_i h3
          rw [if_pos h3]
          obtain ⟨a, b, d⟩ := numB_back (prt c t) (sgn c).1 (by omega) h3
          have hlt := numB_lt63 (prt c t) (sgn c).1 (by omega) (fun h => by
            by_cases hh : 127 < ((prt c t).headD 0).toNat
            · exact absurd ⟨h, hh⟩ h2
            · omega)
          generalize (numB (prt c t) (sgn c).1).1 = x at *
          simp only
          rw [List.take_succ_cons]
          have hcl := c.toNat_lt
          by_cases hc : c.toNat < 9
          · have hs : sgn c = (8 - c.toNat, true) := by unfold sgn; rw [if_pos hc]
            rw [hs] at a b d h1 ⊢
            simp only at a b d h1 ⊢
            have hp : prt c t = (t.take (8 - c.toNat)).map (255 - ·) := by unfold prt; rw [hs]; rfl
            rw [hp] at a b
            rw [List.length_map, List.length_take] at a
            rw [List.take_of_length_le (by rw [List.length_map, List.length_take]; omega)] at b
            simp only [if_true]
            unfold encI
            rw [if_neg (by omega)]
            have e1 : (-(-(x : Int) - 1 + 1)).toNat = x := by omega
            rw [e1, d]
            have hbl : (be (8 - c.toNat) x).length = 8 - c.toNat := be_length _ _
            have e2 : t.take (8 - c.toNat) = (be (8 - c.toNat) x).map (255 - ·) := by
              rw [← b, List.map_map]
              have : ((fun y : UInt8 => 255 - y) ∘ fun y : UInt8 => 255 - y) = id := by
                funext y
                simp only [Function.comp, id_eq]
                apply UInt8.toNat_inj.1
                have := y.toNat_lt
                simp [UInt8.toNat_sub]
                omega
              rw [this, List.map_id]
            rw [e2]
            congr 1
            · apply UInt8.toNat_inj.1
              rw [UInt8.toNat_ofNat']; omega
            · have := be_flip (8 - c.toNat) (18446744073709551615 - x) (by omega) (by omega)
              rw [show 18446744073709551615 - (18446744073709551615 - x) = x from by omega] at this
              rw [this, List.map_map]
              have h2 : ((fun y : UInt8 => 255 - y) ∘ fun y : UInt8 => 255 - y) = id := by
                funext y
                simp only [Function.comp, id_eq]
                apply UInt8.toNat_inj.1
                have := y.toNat_lt
                simp [UInt8.toNat_sub]
                omega
              rw [h2, List.map_id]
          · have hs : sgn c = (c.toNat - 9, false) := by unfold sgn; rw [if_neg hc]
            rw [hs] at a b d h1 ⊢
            simp only at a b d h1 ⊢
            have hp : prt c t = t.take (c.toNat - 9) := by unfold prt; rw [hs]; rfl
            rw [hp] at a b
            rw [List.length_take] at a
            rw [List.take_of_length_le (by rw [List.length_take]; omega)] at b
            simp only [Bool.false_eq_true, if_false]
            unfold encI
            rw [if_pos (by omega), Int.toNat_natCast, d, b]
            congr 1
            apply UInt8.toNat_inj.1
            rw [UInt8.toNat_ofNat']; omega
        · rename_i h3; exact absurd h h3
theorem getF_back (t : List UInt8) (h : (getF t).2.2 = 0) : t.take (getF t).2.1 = be 8 (keyB (getF t).1) ∧ (getF t).2.1 ≤ t.length := by
  refine ⟨?_, getF_fits t h⟩
  unfold getF at h ⊢
  split at h
  · split at h <;> simp at h
  · rename_i h8
    rw [if_neg h8]
    cases hf : fromB (bv (t.take 8)) with
    | none => rw [hf] at h; simp at h
    | some b =>
      simp only
      have hl : (t.take 8).length = 8 := by rw [List.length_take]; omega
      have hlt := bv_lt (t.take 8)
      rw [hl] at hlt
      have e8 : (256 : Nat) ^ 8 = 18446744073709551616 := by decide
      rw [fromB_key _ b (by omega) hf]
      have := be_bv (t.take 8)
      rw [hl] at this
      exact this.symm
/-- one thing read without a fault: the bytes behind the place are its bytes -/
structure Back {V : Type} (t : List UInt8) (g : V → List UInt8) (f : Nat → Nat → Nat → List V × Nat × Nat) : Prop where
  inb : ∀ k p e, p ≤ t.length → (f k p e).2.1 ≤ t.length
  bk : ∀ k p e, p ≤ t.length → (f k p e).2.2 = 0 → e = 0 ∧ t.take (f k p e).2.1 = t.take p ++ (f k p e).1.flatMap g
theorem Back.runI {V : Type} {t : List UInt8} {g : V → List UInt8} {f : Nat → Nat → Nat → List V × Nat × Nat} (h : Back t g f) (n p e : Nat) (hp : p ≤ t.length) : (runN f p e n).2.1 ≤ t.length := by
  induction n with
  | zero => exact hp
  | succ n ih => rw [runN_succ]; exact h.inb _ _ _ ih
theorem Back.run {V : Type} {t : List UInt8} {g : V → List UInt8} {f : Nat → Nat → Nat → List V × Nat × Nat} (h : Back t g f) (n p e : Nat) (hp : p ≤ t.length) (he : (runN f p e n).2.2 = 0) :
    e = 0 ∧ t.take (runN f p e n).2.1 = t.take p ++ (runN f p e n).1.flatMap g := by
  induction n with
  | zero => exact ⟨he, by simp [runN]⟩
  | succ n ih =>
    rw [runN_succ] at he ⊢
    simp only at he ⊢
    obtain ⟨h0, d2⟩ := h.bk n _ _ (h.runI n p e hp) he
    obtain ⟨a, d⟩ := ih h0
    exact ⟨a, by rw [d2, d, List.flatMap_append, List.append_assoc]⟩
theorem stepE_zero {e a b : Nat} (h : stepE e a b = 0) : e = 0 ∧ a = 0 ∧ b = 0 := by
  unfold stepE at h
  split at h
  · omega
  · split at h
    · omega
    · exact ⟨by omega, by omega, h⟩
theorem stepP_in (t : List UInt8) (p n k : Nat) (hp : p ≤ t.length) (h : k = 0 → n ≤ (t.drop p).length) : stepP p n k ≤ t.length := by
  unfold stepP
  split
  · rename_i h0; have := h h0; rw [List.length_drop] at this; omega
  · exact hp
theorem back_one {t : List UInt8} {p n : Nat} {x : List UInt8} (h : (t.drop p).take n = x) : t.take (p + n) = t.take p ++ x := by rw [List.take_add, h]
theorem uF_back (t : List UInt8) (sz : Nat → Int) : Back t (fun c : Int => encU c.toNat) (uF t sz) := by
  refine ⟨fun k p e hp => ?_, fun k p e hp h => ?_⟩
  · exact stepP_in t p _ _ hp fun h0 => getU_fits _ (stepE_zero h0).2.1
  · have h' : stepE e (getU (t.drop p)).2.2 (overE (getU (t.drop p)).1 (sz k - 1).toNat) = 0 := h
    obtain ⟨h0, h1, h2⟩ := stepE_zero h'
    refine ⟨h0, ?_⟩
    have e1 : uF t sz k p e = ([((getU (t.drop p)).1 : Int)], p + (getU (t.drop p)).2.1, 0) := by
      unfold uF inU; simp only [h']; unfold stepV stepP; simp
    rw [e1]
    simp only [List.flatMap_cons, List.flatMap_nil, List.append_nil, Int.toNat_natCast]
    exact back_one (getU_back _ h1).1
theorem iF_back (t : List UInt8) : Back t encI (iF t) := by
  refine ⟨fun k p e hp => ?_, fun k p e hp h => ?_⟩
  · exact stepP_in t p _ _ hp fun h0 => getI_fits _ (stepE_zero h0).2.1
  · have h' : stepE e (getI (t.drop p)).2.2 0 = 0 := h
    obtain ⟨h0, h1, h2⟩ := stepE_zero h'
    refine ⟨h0, ?_⟩
    have e1 : iF t k p e = ([(getI (t.drop p)).1], p + (getI (t.drop p)).2.1, 0) := by
      unfold iF; simp only [h']; unfold stepV stepP; simp
    rw [e1]
    simp only [List.flatMap_cons, List.flatMap_nil, List.append_nil]
    exact back_one (getI_back _ h1).1
theorem fF_back (t : List UInt8) : Back t (fun b => be 8 (keyB b)) (fF t) := by
  refine ⟨fun k p e hp => ?_, fun k p e hp h => ?_⟩
  · exact stepP_in t p _ _ hp fun h0 => getF_fits _ (stepE_zero h0).2.1
  · have h' : stepE e (getF (t.drop p)).2.2 0 = 0 := h
    obtain ⟨h0, h1, h2⟩ := stepE_zero h'
    refine ⟨h0, ?_⟩
    have e1 : fF t k p e = ([(getF (t.drop p)).1], p + (getF (t.drop p)).2.1, 0) := by
      unfold fF; simp only [h']; unfold stepV stepP; simp
    rw [e1]
    simp only [List.flatMap_cons, List.flatMap_nil, List.append_nil]
    exact back_one (getF_back _ h1).1
theorem factF_back (S : Sch) (t : List UInt8) : Back t encFact (factF S t) := by
  have ia : ∀ p e, p ≤ t.length → (onesA S t p e).2.1 ≤ t.length := fun p e hp => (uF_back t _).runI _ _ _ hp
  have ib : ∀ p e, p ≤ t.length → (onesB S t p e).2.1 ≤ t.length := fun p e hp => (iF_back t).runI _ _ _ (ia p e hp)
  refine ⟨fun k p e hp => (fF_back t).runI _ _ _ (ib p e hp), fun k p e hp h => ?_⟩
  obtain ⟨h2, t2⟩ := (fF_back t).run _ _ _ (ib p e hp) (show (runN (fF t) (onesB S t p e).2.1 (onesB S t p e).2.2 S.nums.length).2.2 = 0 from h)
  obtain ⟨h1, t1⟩ := (iF_back t).run _ _ _ (ia p e hp) (show (runN (iF t) (onesA S t p e).2.1 (onesA S t p e).2.2 S.ints.length).2.2 = 0 from h2)
  obtain ⟨h0, t0⟩ := (uF_back t (szAt S)).run _ _ _ hp (show (runN (uF t (szAt S)) p e S.dims.length).2.2 = 0 from h1)
  refine ⟨h0, ?_⟩
  have e1 : (factF S t k p e).2.1 = (runN (fF t) (onesB S t p e).2.1 (onesB S t p e).2.2 S.nums.length).2.1 := rfl
  have e2 : (onesB S t p e).2.1 = (runN (iF t) (onesA S t p e).2.1 (onesA S t p e).2.2 S.ints.length).2.1 := rfl
  have e3 : (onesA S t p e).2.1 = (runN (uF t (szAt S)) p e S.dims.length).2.1 := rfl
  rw [e1, t2, e2, t1, e3, t0]
  show _ = t.take p ++ (encFact (oneS S t p e).1 ++ [])
  unfold encFact oneS encCodes encIs encFs onesC
  simp only [List.append_assoc, List.append_nil]
  rfl
/-- what is got has these bytes -/
theorem getB_back (S : Sch) (t : List UInt8) (h : (getB S t).2 = 0) : encBatch (getB S t).1 = t := by
  by_cases h0 : checkN S = 0
  · by_cases h1 : (inU t 0 0 200).2.2 = 0 ∧ (inU t 0 0 200).1 = 0
    · rw [getB_many h0 h1.1 h1.2] at h; cases h
    · by_cases h2 : endE t (factsS S t (inU t 0 0 200).1).2.1 (factsS S t (inU t 0 0 200).1).2.2 = 0
      · rw [getB_ok h0 h1 h2]
        simp only
        unfold endE at h2
        split at h2
        · rename_i h3
          split at h2
          · omega
          · rename_i h4
            have hp : (inU t 0 0 200).2.1 ≤ t.length := stepP_in t 0 _ _ (Nat.zero_le _) fun h0 => getU_fits _ (stepE_zero h0).2.1
            obtain ⟨h5, h6⟩ := (factF_back S t).run _ _ _ hp h3
            have hi := (factF_back S t).runI (inU t 0 0 200).1 (inU t 0 0 200).2.1 (inU t 0 0 200).2.2 hp
            have h7 : (factsS S t (inU t 0 0 200).1).2.1 = t.length := by
              have : (factsS S t (inU t 0 0 200).1).2.1 ≤ t.length := hi
              omega
            have h8 : t.take (runN (factF S t) (inU t 0 0 200).2.1 (inU t 0 0 200).2.2 (inU t 0 0 200).1).2.1 = t := by
              have : (runN (factF S t) (inU t 0 0 200).2.1 (inU t 0 0 200).2.2 (inU t 0 0 200).1).2.1 = t.length := h7
              rw [this, List.take_length]
            have h9 : stepE 0 (getU (t.drop 0)).2.2 (overE (getU (t.drop 0)).1 200) = 0 := h5
            obtain ⟨_, ha, hb⟩ := stepE_zero h9
            have hc : inU t 0 0 200 = ((getU t).1, (getU t).2.1, 0) := by
              unfold inU; simp only [h9]; unfold stepV stepP; simp
            have hd := (getU_back t (by simpa using ha)).1
            have hl : (factsS S t (inU t 0 0 200).1).1.length = (getU t).1 := by
              rw [show (factsS S t (inU t 0 0 200).1).1.length = (inU t 0 0 200).1 from runN_len (fun _ _ _ => rfl) _ _ _, hc]
            unfold encBatch
            have hn : (inU t 0 0 200).2.1 = (getU t).2.1 := by rw [hc]
            rw [h8] at h6
            rw [hl, ← hd, ← hn]
            exact h6.symm
        · omega
      · rw [getB_end h0 h1 h2] at h; exact absurd h h2
  · rw [getB_arg t h0] at h; cases h
end Go.Proofs.YtfhmaincnlaapaaGreat
namespace Go.Proofs.YtfhmaincnlaapaaGreat
set_option linter.unusedVariables false
def keyFact (F : FactS) : List Int × List Int × List Nat := (F.codes, F.ints, keysF F.nums)
def AlF (l m : List FactS) : Prop := l.map keyFact = m.map keyFact
theorem keyFact_iff {F G : FactS} : keyFact F = keyFact G ↔ F.codes = G.codes ∧ F.ints = G.ints ∧ keysF F.nums = keysF G.nums := by
  unfold keyFact; rw [Prod.mk.injEq, Prod.mk.injEq]
theorem AlF.len {l m : List FactS} (h : AlF l m) : l.length = m.length := by
  have := congrArg List.length h
  simpa using this
theorem AlF.get {l m : List FactS} (h : AlF l m) (k : Nat) (hl : k < l.length) (hm : k < m.length) : keyFact l[k] = keyFact m[k] := by
  have h1 : (l.map keyFact)[k]? = (m.map keyFact)[k]? := by rw [show l.map keyFact = m.map keyFact from h]
  simpa [hl, hm] using h1
theorem AlF.getD {l m : List FactS} (h : AlF l m) (k : Nat) : keyFact (l.getD k ⟨[], [], []⟩) = keyFact (m.getD k ⟨[], [], []⟩) := by
  have hn := h.len
  by_cases hk : k < l.length
  · have hm : k < m.length := by omega
    have := h.get k hk hm
    simpa [List.getD, hk, hm] using this
  · have hm : ¬ k < m.length := by omega
    simp [List.getD, hk, hm]
theorem AlF.all {l m : List FactS} (h : AlF l m) : allB l m = true := by
  unfold allB
  rw [decide_eq_true h.len, Bool.true_and, List.all_eq_true]
  intro k hk
  obtain ⟨h1, h2, h3⟩ := keyFact_iff.1 (h.getD k)
  exact sameB_yes h1 h2 h3
theorem encFs_al {a b : List Nat} (h : keysF a = keysF b) : encFs a = encFs b := by
  have e : ∀ l : List Nat, encFs l = (keysF l).flatMap (be 8) := fun l => by
    unfold encFs keysF; rw [List.flatMap_map]
  rw [e, e, h]
theorem encFact_al {F G : FactS} (h : keyFact F = keyFact G) : encFact F = encFact G := by
  obtain ⟨h1, h2, h3⟩ := keyFact_iff.1 h
  unfold encFact
  rw [h1, h2, encFs_al h3]
theorem encFacts_al : ∀ {l m : List FactS}, AlF l m → l.flatMap encFact = m.flatMap encFact
  | [], [], _ => rfl
  | [], _ :: _, h => by cases h
  | _ :: _, [], h => by cases h
  | F :: l, G :: m, h => by
    unfold AlF at h
    rw [List.map_cons, List.map_cons, List.cons.injEq] at h
    rw [List.flatMap_cons, List.flatMap_cons, encFact_al h.1, encFacts_al (l := l) (m := m) h.2]
theorem AlF.enc {l m : List FactS} (h : AlF l m) : encBatch l = encBatch m := by
  unfold encBatch
  rw [h.len, encFacts_al h]
end Go.Proofs.YtfhmaincnlaapaaGreat
