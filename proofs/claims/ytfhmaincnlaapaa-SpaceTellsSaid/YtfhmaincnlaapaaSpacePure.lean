/-
  space: Sectors, Most; the document's.
-/
import Derived.Test.YtfhmaincnlaapaaFactLight
import Derived.IntWalk
namespace Go.Proofs.Ytfhmaincnlaapaa
open Go.ChangeShapes Go.WideShapes Go.ChangeAt Go.RowKit
set_option linter.unusedVariables false

def secN (x : Int) : Int := if x < 1 then 0 else (x - 1) / 991 + 1
def mostOk (x : Int) : Bool := decide (0 ≤ x) && decide (x ≤ 2147483647)
theorem secN_le (x : Int) (h0 : 0 ≤ x) (h : x ≤ 2147483647) : 0 ≤ secN x ∧ secN x ≤ 2147483647 := by
  unfold secN; split <;> omega
theorem sectors_any (w : World) (x : Int) (h1 : -9223372036854775808 ≤ x) (h2 : x ≤ 9223372036854775807) : Calls Try.prog 27 #[.int .i64 x] w fun y w' => y = .returned (.int .i64 (secN x)) ∧ w = w' := by
  by_cases h : x < 1
  · have e : secN x = 0 := if_pos h
    rw [e]
    go_enter Try.func27, Try.ntmps27
    go_wp2
    go_ret
    exact ⟨rfl, rfl⟩
  · have e : secN x = (x - 1) / 991 + 1 := if_neg h
    have e1 : IntKind.i64.wrap (x - 1) = x - 1 := IntWalk.i64_in _ (by omega)
    have e2 : (x - 1).tdiv 991 = (x - 1) / 991 := Int.tdiv_eq_ediv_of_nonneg (by omega)
    have e3 : IntKind.i64.wrap ((x - 1) / 991) = (x - 1) / 991 := IntWalk.i64_in _ (by omega)
    have e4 : IntKind.i64.wrap ((x - 1) / 991 + 1) = (x - 1) / 991 + 1 := IntWalk.i64_in _ (by omega)
    rw [e]
    clear e
    go_enter Try.func27, Try.ntmps27
    go_wp2
    go_ret
    exact ⟨rfl, rfl⟩
theorem refSectors_any (w : World) (x : Int) (h1 : -9223372036854775808 ≤ x) (h2 : x ≤ 9223372036854775807) : Calls Try.prog 28 #[.int .i64 x] w fun y w' => y = .returned (.int .i64 (secN x)) ∧ w = w' := by
  have hb : -9223372036854775808 ≤ x.tdiv 991 ∧ x.tdiv 991 ≤ 9223372036854775807 := by
    by_cases hx : x < 0
    · have e1 : (-x).tdiv 991 = (-x) / 991 := Int.tdiv_eq_ediv_of_nonneg (by omega)
      have e2 : x.tdiv 991 = -((-x).tdiv 991) := by rw [Int.neg_tdiv, Int.neg_neg]
      omega
    · have e1 : x.tdiv 991 = x / 991 := Int.tdiv_eq_ediv_of_nonneg (by omega)
      omega
  have e3 : IntKind.i64.wrap (x.tdiv 991) = x.tdiv 991 := IntWalk.i64_in _ (by omega)
  clear hb
  by_cases h : x < 1
  · have e : secN x = 0 := if_pos h
    rw [e]
    go_enter Try.func28, Try.ntmps28
    go_wp2
    go_ret
    exact ⟨rfl, rfl⟩
  · have e : secN x = (x - 1) / 991 + 1 := if_neg h
    have e2 : x.tdiv 991 = x / 991 := Int.tdiv_eq_ediv_of_nonneg (by omega)
    have e5 : x.tmod 991 = x % 991 := Int.tmod_eq_emod_of_nonneg (by omega)
    rw [e2] at e3
    have e4 : IntKind.i64.wrap (x / 991 + 1) = x / 991 + 1 := IntWalk.i64_in _ (by omega)
    have e6 : IntKind.i64.wrap (x % 991) = x % 991 := IntWalk.i64_in _ (by omega)
    by_cases hm : 0 < x % 991
    · have e' : secN x = x / 991 + 1 := by rw [e]; omega
      have t1 : decide (0 < x % 991) = true := decide_eq_true hm
      rw [e']
      clear e e'
      go_enter Try.func28, Try.ntmps28
      go_wp2
      go_ret
      exact ⟨rfl, rfl⟩
    · have e' : secN x = x / 991 := by rw [e]; omega
      have t1 : decide (0 < x % 991) = false := decide_eq_false hm
      rw [e']
      clear e e'
      go_enter Try.func28, Try.ntmps28
      go_wp2
      go_ret
      exact ⟨rfl, rfl⟩
theorem most_any (w : World) (x : Int) (h1 : -9223372036854775808 ≤ x) (h2 : x ≤ 9223372036854775807) :
    Calls Try.prog 18 #[.int .i64 x] w fun y w' => y = .returned (.tuple #[.int .i64 (if mostOk x then 3 * x else 0), .int .i64 (if mostOk x then 0 else 2)]) ∧ w = w' := by
  by_cases h : x < 0
  · have e : mostOk x = false := by unfold mostOk; rw [decide_eq_false (by omega)]; rfl
    rw [e]
    go_enter Try.func18, Try.ntmps18
    go_wp2
    go_ret2
    exact ⟨rfl, rfl⟩
  · by_cases h' : 2147483647 < x
    · have e : mostOk x = false := by unfold mostOk; rw [decide_eq_false (show ¬ x ≤ 2147483647 by omega), Bool.and_false]
      rw [e]
      go_enter Try.func18, Try.ntmps18
      go_wp2
      go_ret2
      exact ⟨rfl, rfl⟩
    · have e : mostOk x = true := by unfold mostOk; rw [decide_eq_true (show 0 ≤ x by omega), decide_eq_true (show x ≤ 2147483647 by omega)]; rfl
      have e4 : IntKind.i64.wrap (3 * x) = 3 * x := IntWalk.i64_in _ (by omega)
      rw [e]
      go_enter Try.func18, Try.ntmps18
      go_wp2
      go_ret2
      exact ⟨rfl, rfl⟩
theorem refMost_any (w : World) (x : Int) (h1 : 0 ≤ x) (h2 : x ≤ 2147483647) :
    Calls Try.prog 29 #[.int .i64 x] w fun y w' => y = .returned (.int .i64 (3 * x)) ∧ w = w' := by
  have e3 : IntKind.i64.wrap (x + x) = x + x := IntWalk.i64_in _ (by omega)
  have e4 : IntKind.i64.wrap (x + x + x) = x + x + x := IntWalk.i64_in _ (by omega)
  have e : 3 * x = x + x + x := by omega
  rw [e]
  clear e
  go_enter Try.func29, Try.ntmps29
  go_wp2
  go_ret
  exact ⟨rfl, rfl⟩
/-- the pages so far -/
def pagesTo (cs : List Int) (k : Nat) : Int := 3 + 3 * (cs.take k).sum
def boundP (S : Sch) (cs : List Int) (x : Int) : Int × Nat :=
  if checkN S ≠ 0 then (0, 1) else if cs.length ≠ S.views.length + 1 then (0, 3) else if cs.all mostOk = false then (0, 2) else if mostOk x = false then (0, 2) else (pagesTo cs cs.length + secN x, 0)
theorem pagesTo_zero (cs : List Int) : pagesTo cs 0 = 3 := rfl
theorem pagesTo_succ (cs : List Int) (k : Nat) (h : k < cs.length) : pagesTo cs (k + 1) = pagesTo cs k + 3 * cs.getD k 0 := by
  unfold pagesTo
  rw [List.take_succ_eq_append_getElem h, List.sum_append]
  have : cs.getD k 0 = cs[k] := by simp [List.getD, h]
  rw [this]; simp; omega
def mostTo (cs : List Int) (k : Nat) : Prop := ∀ j, j < k → mostOk (cs.getD j 0) = true
theorem mostTo.snoc {cs : List Int} {k : Nat} (h : mostTo cs k) (hk : mostOk (cs.getD k 0) = true) : mostTo cs (k + 1) := fun j hj => by
  by_cases e : j = k
  · subst e; exact hk
  · exact h j (by omega)
theorem mostOk_iff (x : Int) : mostOk x = true ↔ 0 ≤ x ∧ x ≤ 2147483647 := by unfold mostOk; simp
theorem mostTo_bd {cs : List Int} : ∀ k, k ≤ cs.length → mostTo cs k → 3 ≤ pagesTo cs k ∧ pagesTo cs k ≤ 3 + 6442450941 * (k : Int)
  | 0, _, _ => by rw [pagesTo_zero]; omega
  | k + 1, hk, h => by
    have ih := mostTo_bd k (by omega) fun j hj => h j (by omega)
    have h1 := (mostOk_iff _).1 (h k (by omega))
    rw [pagesTo_succ cs k (by omega)]
    omega
theorem mostTo_all {cs : List Int} (h : mostTo cs cs.length) : cs.all mostOk = true := by
  rw [List.all_eq_true]
  intro x hx
  obtain ⟨j, hj, rfl⟩ := List.getElem_of_mem hx
  have := h j hj
  simpa [List.getD, hj] using this
theorem most_no {cs : List Int} (k : Nat) (hk : k < cs.length) (h : mostOk (cs.getD k 0) = false) : cs.all mostOk = false := by
  rw [List.all_eq_false]
  exact ⟨cs[k], List.getElem_mem hk, by simp [List.getD, hk] at h; simp [h]⟩
end Go.Proofs.Ytfhmaincnlaapaa
