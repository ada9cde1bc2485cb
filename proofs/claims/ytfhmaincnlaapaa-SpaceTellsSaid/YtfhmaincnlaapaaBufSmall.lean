/-
  bushellaw08.small, awake; bushelref08.Read and bushellaw08.read of any thing.
  bushellaw08.read: a thing is asked for, and is what must be.
-/
import Derived.Test.YtfhmaincnlaapaaBufInB
import Derived.Test.YtfhmaincnlaapaaReadPure
import Derived.Deep.RegionHeld
import Derived.Test.YtfhmaincnlaapaaBufOut
namespace Go.Proofs.Ytfhmaincnlaapaa
open Go.ChangeShapes Go.WideShapes Go.ChangeAt Go.RowKit
set_option linter.unusedVariables false

/-- a thing that is asked for -/
structure AskS where
  d : Int
  u : Nat
  i : Int
  f : Nat
  s : ByteArray
  m : Int
def askC (a : AskS) : List Value := [.int .i64 a.d, .int .u64 (a.u : Int), .int .i64 a.i, .float .f64 a.f, .string a.s, .int .i64 a.m]
structure AskOk (a : AskS) : Prop where
  u : a.u < 18446744073709551616
  i1 : -9223372036854775808 ≤ a.i
  i2 : a.i ≤ 9223372036854775807
  f : a.f < 18446744073709551616
  s : a.s.size ≤ maxLen
  m : a.m ≤ 9223372036854775807
/-- what the document says of it -/
def askG (a : AskS) (t : List UInt8) : GotS :=
  if a.d = 0 then rdU a.u t else if a.d = 1 then rdI t else if a.d = 2 then rdF t else if a.d = 3 then rdT a.m t else rdB a.m t
/-- the state behind it -/
def nextP (e p : Nat) (G : GotS) : Nat := if e = 0 then p + G.n else p
def nextE (e : Nat) (G : GotS) : Nat := if e = 0 then G.e else e
theorem Only.cell_far {g : Nat} {a b : World} (h : Only g a b) {p : Addr} (hp : p.block < a.heap.size) (hne : p.block ≠ g) : b.cell? p = a.cell? p := by
  have := h.block p.block hp (by intro e; injection e with e; exact hne e)
  unfold World.cell?
  rw [this]
theorem inU_got (t : List UInt8) (p e u : Nat) (G : GotS) (hG : G = if e = 0 then rdU u (t.drop p) else got0S 0) : inU t p e u = (G.u, nextP e p G, nextE e G) := by
  unfold nextP nextE
  by_cases he : e = 0
  · subst he
    rw [if_pos rfl] at hG
    rw [if_pos rfl, if_pos rfl]
    unfold inU
    unfold rdU at hG
    generalize getU (t.drop p) = r at *
    obtain ⟨x, n, er⟩ := r
    simp only at hG ⊢
    unfold stepE overE
    rw [if_neg (by omega)]
    by_cases h1 : er ≠ 0
    · rw [if_pos h1] at hG ⊢
      subst hG
      unfold stepV stepP
      rw [if_neg h1, if_neg h1]; rfl
    · rw [if_neg h1] at hG ⊢
      by_cases h2 : u < x
      · rw [if_pos h2] at hG ⊢
        subst hG; rfl
      · rw [if_neg h2] at hG ⊢
        subst hG; rfl
  · rw [if_neg he] at hG
    rw [if_neg he, if_neg he, inU_bad _ _ _ _ he, hG]; rfl
theorem inI_got (t : List UInt8) (p e : Nat) (G : GotS) (hG : G = if e = 0 then rdI (t.drop p) else got0S 0) :
    stepV (0 : Int) (getI (t.drop p)).1 (stepE e (getI (t.drop p)).2.2 0) = G.i ∧ stepP p (getI (t.drop p)).2.1 (stepE e (getI (t.drop p)).2.2 0) = nextP e p G ∧ stepE e (getI (t.drop p)).2.2 0 = nextE e G := by
  unfold nextP nextE
  unfold rdI at hG
  generalize getI (t.drop p) = r at *
  obtain ⟨x, n, er⟩ := r
  simp only at hG ⊢
  unfold stepE stepV stepP
  by_cases he : e = 0
  · subst he
    rw [if_pos rfl] at hG
    by_cases h1 : er = 0
    · subst h1; rw [if_neg (by omega)] at hG; subst hG; simp
    · rw [if_pos h1] at hG; subst hG; simp [h1, got0S]
  · rw [if_neg he] at hG; subst hG; simp [he, got0S]
theorem inF_got (t : List UInt8) (p e : Nat) (G : GotS) (hG : G = if e = 0 then rdF (t.drop p) else got0S 0) :
    stepP p (getF (t.drop p)).2.1 (stepE e (getF (t.drop p)).2.2 0) = nextP e p G ∧ stepE e (getF (t.drop p)).2.2 0 = nextE e G ∧
      ((G.n = 0 ∧ stepV (0 : Nat) (getF (t.drop p)).1 (stepE e (getF (t.drop p)).2.2 0) = 0) ∨ (G.n = 8 ∧ keyB (stepV (0 : Nat) (getF (t.drop p)).1 (stepE e (getF (t.drop p)).2.2 0)) = G.u ∧ stepV (0 : Nat) (getF (t.drop p)).1 (stepE e (getF (t.drop p)).2.2 0) < 18446744073709551616)) := by
  have hd := getF_doc (t.drop p)
  unfold nextP nextE
  unfold rdF at hG
  generalize getF (t.drop p) = r at *
  generalize rgetF (t.drop p) = q at *
  obtain ⟨x, n, er⟩ := r
  obtain ⟨k, er'⟩ := q
  simp only at hG hd ⊢
  obtain ⟨rfl, hd1, hd2⟩ := hd
  unfold stepE stepV stepP
  by_cases he : e = 0
  · subst he
    rw [if_pos rfl] at hG
    by_cases h1 : er = 0
    · obtain ⟨rfl, h3, h4⟩ := hd2 h1
      subst h1; rw [if_neg (by omega)] at hG; subst hG; simp [h3, h4]
    · have := hd1 h1
      rw [if_pos h1] at hG; subst hG; simp [h1, got0S]
  · rw [if_neg he] at hG; subst hG; simp [he, got0S]
theorem inT_got (t : List UInt8) (p e : Nat) (ms : Int) (G : GotS) (hG : G = if e = 0 then rdT ms (t.drop p) else got0S 0) :
    stepV (⟨#[]⟩ : ByteArray) ⟨(getT (t.drop p)).1.toArray⟩ (stepE e (getT (t.drop p)).2.2 (longE (getT (t.drop p)).1.length ms)) = ⟨G.t.toArray⟩ ∧
      stepP p (getT (t.drop p)).2.1 (stepE e (getT (t.drop p)).2.2 (longE (getT (t.drop p)).1.length ms)) = nextP e p G ∧ stepE e (getT (t.drop p)).2.2 (longE (getT (t.drop p)).1.length ms) = nextE e G := by
  unfold nextP nextE
  unfold rdT at hG
  generalize getT (t.drop p) = r at *
  obtain ⟨x, n, er⟩ := r
  simp only at hG ⊢
  unfold stepE stepV stepP longE
  by_cases he : e = 0
  · subst he
    rw [if_pos rfl] at hG
    by_cases h1 : er = 0
    · subst h1
      rw [if_neg (by omega)] at hG
      by_cases h2 : mx ms < x.length
      · rw [if_pos h2] at hG; subst hG; simp [h2, got0S]
      · rw [if_neg h2] at hG; subst hG; simp [h2]
    · rw [if_pos h1] at hG; subst hG; simp [h1, got0S]
  · rw [if_neg he] at hG; subst hG; simp [he, got0S]

end Go.Proofs.Ytfhmaincnlaapaa
namespace Go.Proofs.Ytfhmaincnlaapaa
open Go.ChangeShapes Go.WideShapes Go.ChangeAt Go.RowKit
set_option linter.unusedVariables false

abbrev asksC (l : List AskS) : List Value := l.flatMap askC
theorem asksC_len (l : List AskS) : (asksC l).length = l.length * 6 := flat_len _ 6 (fun _ => rfl) l
section
variable {w : World} {B n : Nat} {A : Option Addr} {l : List AskS}
theorem Rd.ask_len (h : Rd w B 6 A n (asksC l)) : n = l.length := by have := h.1; rw [asksC_len] at this; omega
theorem Rd.ask (h : Rd w B 6 A n (asksC l)) {k : Nat} (hk : k < l.length) : ∃ a, A = some a ∧ a.block < B ∧ w.cell? (a.add (k * 6)) = some (.int .i64 l[k].d) ∧ w.cell? ⟨(a.add (k * 6)).block, (a.add (k * 6)).off + 1, none⟩ = some (.int .u64 (l[k].u : Int)) ∧
    w.cell? ⟨(a.add (k * 6)).block, (a.add (k * 6)).off + 2, none⟩ = some (.int .i64 l[k].i) ∧ w.cell? ⟨(a.add (k * 6)).block, (a.add (k * 6)).off + 3, none⟩ = some (.float .f64 l[k].f) ∧ w.cell? ⟨(a.add (k * 6)).block, (a.add (k * 6)).off + 4, none⟩ = some (.string l[k].s) ∧
    w.cell? ⟨(a.add (k * 6)).block, (a.add (k * 6)).off + 5, none⟩ = some (.int .i64 l[k].m) := by
  obtain ⟨a, e, hb, hc⟩ := h.2 (by rw [h.ask_len]; omega)
  have key : ∀ j, j < 6 → w.cell? (a.add (k * 6 + j)) = (askC l[k])[j]? := fun j hj => by
    have := flat_get askC 6 (fun _ => rfl) l k j hk hj
    have hl : j < (askC l[k]).length := hj
    rw [List.getElem?_eq_getElem hl] at this ⊢
    exact hc _ _ this
  have k2 : ∀ j, j + 1 < 6 → w.cell? ⟨(a.add (k * 6)).block, (a.add (k * 6)).off + (j + 1), none⟩ = (askC l[k])[j + 1]? := fun j hj => by
    have := key (j + 1) hj
    rw [← add_add', add_succ] at this
    exact this
  exact ⟨a, e, hb, key 0 (by decide), k2 0 (by decide), k2 1 (by decide), k2 2 (by decide), k2 3 (by decide), k2 4 (by decide)⟩
end
def smallA (a : AskS) : Bool := decide (a.s.size ≤ 200) && decide (0 ≤ a.d) && decide (a.d ≤ 4)
def smallB (l : List AskS) : Bool := decide (l.length ≤ 40) && l.all smallA
theorem smallB_no (l : List AskS) (k : Nat) (hk : k < l.length) (h : smallA l[k] = false) : smallB l = false := by
  unfold smallB
  rw [Bool.and_eq_false_iff]
  right
  rw [List.all_eq_false]
  exact ⟨l[k], List.getElem_mem hk, by rw [h]; decide⟩
end Go.Proofs.Ytfhmaincnlaapaa
