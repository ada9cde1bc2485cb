/-
  fact.Same, bushelref12.Same.
  fact.Same, bushelref12.Same (slices.Equal, slices.EqualFunc with flo.Same).
-/
import Derived.Test.YtfhmaincnlaapaaFactFits
import Derived.Test.YtfhmaincnlaapaaFloLess
import Derived.Deep.RegionHeld3
import Derived.Deep.DeepCutAuto
namespace Go.Proofs.Ytfhmaincnlaapaa
open Go.ChangeShapes Go.WideShapes Go.ChangeAt Go.RowKit
set_option linter.unusedVariables false

def eqTo {α : Type} (z : α) (l m : List α) (k : Nat) : Prop := ∀ j, j < k → l.getD j z = m.getD j z
theorem eqTo.snoc {α : Type} {z : α} {l m : List α} {k : Nat} (h : eqTo z l m k) (hk : l.getD k z = m.getD k z) : eqTo z l m (k + 1) := fun j hj => by
  by_cases e : j = k
  · subst e; exact hk
  · exact h j (by omega)
theorem eqTo.all {α : Type} {z : α} {l m : List α} (hl : l.length = m.length) (h : eqTo z l m l.length) : l = m := by
  apply List.ext_getElem hl
  intro j h1 h2
  have := h j h1
  simpa [List.getD, h1, h2] using this
theorem ne_of_getD {α : Type} {z : α} {l m : List α} {k : Nat} (h : l.getD k z ≠ m.getD k z) : l ≠ m := fun e => h (by rw [e])
theorem Rd.f64 {w : World} {B : Nat} {A : Option Addr} {l : List Nat} (h : Rd w B 1 A l.length (f64s l)) {k : Nat} (hk : k < l.length) : ∃ a, A = some a ∧ a.block < B ∧ w.cell? (a.add k) = some (.float .f64 (l.getD k 0)) := by
  obtain ⟨a, u, rfl, hb, hx, hc⟩ := h.at1 hk
  refine ⟨a, rfl, hb, ?_⟩
  rw [show (f64s l)[k]? = some (.float .f64 (l.getD k 0)) from by simp [f64s, List.getD, hk]] at hx
  rw [hc]; exact hx.symm
theorem drws_drw {w w' : World} (h : Drws w w') : Drw w w' := h
/-- lists of numbers that are the same -/
def keysF (l : List Nat) : List Nat := l.map keyB
theorem keysF_getD (l : List Nat) (k : Nat) (hk : k < l.length) : (keysF l).getD k 0 = keyB (l.getD k 0) := by simp [keysF, List.getD, hk]
theorem keysF_len (l : List Nat) : (keysF l).length = l.length := by simp [keysF]
def sameB (F G : FactS) : Bool := decide (F.codes = G.codes) && decide (F.ints = G.ints) && decide (keysF F.nums = keysF G.nums)
end Go.Proofs.Ytfhmaincnlaapaa
namespace Go.Proofs.Ytfhmaincnlaapaa
open Go.ChangeShapes Go.WideShapes Go.ChangeAt Go.RowKit
set_option linter.unusedVariables false

theorem sameB_codes {F G : FactS} (h : F.codes ≠ G.codes) : sameB F G = false := by unfold sameB; rw [decide_eq_false h]; rfl
theorem sameB_ints {F G : FactS} (h : F.ints ≠ G.ints) : sameB F G = false := by unfold sameB; rw [decide_eq_false h, Bool.and_false]; rfl
theorem sameB_nums {F G : FactS} (h : keysF F.nums ≠ keysF G.nums) : sameB F G = false := by unfold sameB; rw [decide_eq_false h, Bool.and_false]
theorem sameB_yes {F G : FactS} (h0 : F.codes = G.codes) (h1 : F.ints = G.ints) (h2 : keysF F.nums = keysF G.nums) : sameB F G = true := by
  unfold sameB; rw [decide_eq_true h0, decide_eq_true h1, decide_eq_true h2]; rfl
theorem len_ne {α : Type} {l m : List α} (h : l.length ≠ m.length) : l ≠ m := fun e => h (by rw [e])
theorem keys_len_ne {l m : List Nat} (h : l.length ≠ m.length) : keysF l ≠ keysF m := fun e => h (by rw [← keysF_len l, ← keysF_len m, e])
end Go.Proofs.Ytfhmaincnlaapaa
