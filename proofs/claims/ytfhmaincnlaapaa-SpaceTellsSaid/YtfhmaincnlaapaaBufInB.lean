/-
  THE READER's B.
  THE READER's I, F, T.
-/
import Derived.Test.YtfhmaincnlaapaaBufInU
import Derived.Test.YtfhmaincnlaapaaRefReadI
namespace Go.Proofs.Ytfhmaincnlaapaa
open Go.ChangeShapes Go.WideShapes Go.ChangeAt Go.RowKit
set_option linter.unusedVariables false

theorem getI_fits (t : List UInt8) (h : (getI t).2.2 = 0) : (getI t).2.1 ≤ t.length := by
  cases t with
  | nil => simp [getI]
  | cons c t =>
    unfold getI at h ⊢
    simp only at h ⊢
    split at h
    · simp at h
    · rename_i h1
      rw [if_neg h1]
      split at h
      · simp at h
      · rename_i h2
        rw [if_neg h2]
        split at h
        · rename_i h3
          rw [if_pos h3]
          simp only [List.length_cons]
          have hp : (prt c t).length ≤ t.length := by unfold prt; split <;> simp <;> omega
          have := numB_fits (prt c t) _ h3
          omega
        · rename_i h3; exact absurd h h3
theorem getT_fits (t : List UInt8) (h : (getT t).2.2 = 0) : (getT t).2.1 ≤ t.length := by
  have key : ∀ n, ∀ t : List UInt8, t.length ≤ n → (getT t).2.2 = 0 → (getT t).2.1 ≤ t.length := by
    intro n
    induction n with
    | zero => intro t hl h; obtain rfl : t = [] := List.eq_nil_of_length_eq_zero (by omega); simp [getT]
    | succ n ih =>
      intro t hl h
      cases t with
      | nil => simp [getT]
      | cons c t =>
        unfold getT at h ⊢
        by_cases hc : c ≠ 0
        · rw [if_pos hc] at h ⊢
          by_cases h2 : (getT t).2.2 = 0
          · rw [if_pos h2]; have := ih t (by simpa using hl) h2; simp; exact this
          · rw [if_neg h2] at h; exact absurd h h2
        · rw [if_neg hc] at h ⊢
          cases t with
          | nil => simp
          | cons d u =>
            simp only at h ⊢
            by_cases hd : d = 0
            · rw [if_pos hd]; simp
            · rw [if_neg hd] at h ⊢
              by_cases hd1 : d = 1
              · rw [if_pos hd1] at h ⊢
                by_cases h2 : (getT u).2.2 = 0
                · rw [if_pos h2]; have := ih u (by simp at hl; omega) h2; simp; exact this
                · rw [if_neg h2] at h; exact absurd h h2
              · rw [if_neg hd1] at h; simp at h
  exact key _ t (Nat.le_refl _) h
theorem getF_fits (t : List UInt8) (h : (getF t).2.2 = 0) : (getF t).2.1 ≤ t.length := by
  unfold getF at h ⊢
  split at h
  · split at h <;> simp at h
  · rename_i h8
    rw [if_neg h8]
    split <;> simp <;> omega

/-- what a reader's I, F, T come to: the place, the fault -/
def inE (e er er2 : Nat) : Nat := stepE e er er2
/-- what the closure of In.T tells -/
def longE (n : Nat) (ms : Int) : Nat := if mx ms < n then 4 else 0
end Go.Proofs.Ytfhmaincnlaapaa
namespace Go.Proofs.Ytfhmaincnlaapaa
open Go.ChangeShapes Go.WideShapes Go.ChangeAt Go.RowKit
set_option linter.unusedVariables false

theorem rd_cut {w : World} {B n k N : Nat} {a : Addr} {t : List UInt8} (h : Rd w B 1 (some a) n (u8s t)) (hk : k ≤ n) (hN : k + N ≤ n) : Rd w B 1 (some (a.add k)) N (u8s ((t.drop k).take N)) := by
  have h1 := h.cut (k := k) (c := n + 1) (by omega) (by omega)
  rw [if_neg (by omega), Nat.mul_one, u8s_drop] at h1
  have h2 := h1.take (k := N) (by omega)
  simpa only [Option.map_some, Nat.mul_one] using h2
end Go.Proofs.Ytfhmaincnlaapaa
