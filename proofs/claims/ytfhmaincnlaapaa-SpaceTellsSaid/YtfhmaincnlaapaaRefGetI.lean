/-
  bushelref07.GetI: the document's number with a sign of any bytes is the same.
-/
import Derived.Test.YtfhmaincnlaapaaRefCode
import Derived.Test.YtfhmaincnlaapaaGetIWalks
import Derived.Deep.DeepCutAuto
namespace Go.Proofs.Ytfhmaincnlaapaa
open Go.ChangeShapes Go.WideShapes Go.ChangeAt Go.RowKit
set_option linter.unusedVariables false

theorem numB_take2 (u : List UInt8) (n : Nat) : numB (u.take n) n = numB u n := by
  unfold numB
  by_cases h0 : n = 0
  · rw [if_pos h0, if_pos h0]
  · rw [if_neg h0, if_neg h0]
    cases u with
    | nil => simp
    | cons c u =>
      obtain ⟨k, rfl⟩ : ∃ k, n = k + 1 := ⟨n - 1, by omega⟩
      have e1 : (c :: u).take (k + 1) = c :: u.take k := rfl
      rw [e1]
      simp only [List.length_cons, List.length_take]
      by_cases hc : c = 0
      · rw [if_pos hc, if_pos hc]
      · rw [if_neg hc, if_neg hc]
        by_cases hl : u.length + 1 < k + 1
        · rw [if_pos hl, if_pos (by omega)]
        · rw [if_neg hl, if_neg (by omega), ← e1, List.take_take, Nat.min_self]
/-- by U, of what is turned about -/
def tailI (b : Bool) (d : UInt8) (u : List UInt8) : Int × Nat × Nat :=
  if d.toNat = 8 ∧ 127 < (u.headD 0).toNat then (0, 0, 6) else
  if (getU (d :: u)).2.2 = 0 then (if b then -1 - ((getU (d :: u)).1 : Int) else (getU (d :: u)).1, (getU (d :: u)).2.1, 0) else (0, 0, (getU (d :: u)).2.2)
theorem tailI_of (x d : UInt8) (t u p : List UInt8) (b : Bool) (n : Nat) (hs : sgn x = (n, b)) (hp : prt x t = p) (hd : d.toNat = n) (hu : p = u.take n) : getI (x :: t) = tailI b d u := by
  unfold getI tailI
  simp only
  rw [hs, hp, hd, hu]
  simp only
  unfold getU
  simp only
  rw [hd]
  by_cases h8 : 8 < n
  · rw [if_pos h8, if_neg (by omega), if_pos h8]; rfl
  · rw [if_neg h8, if_neg h8, numB_take2]
    have hh : n = 8 → (u.take n).headD 0 = u.headD 0 := fun e => by subst e; cases u <;> rfl
    by_cases h9 : n = 8 ∧ 127 < (u.headD 0).toNat
    · rw [if_pos h9, if_pos ⟨h9.1, by rw [hh h9.1]; exact h9.2⟩]
    · rw [if_neg h9, if_neg (fun h => h9 ⟨h.1, by rw [← hh h.1]; exact h.2⟩)]
      by_cases h10 : (numB u n).2 = 0
      · rw [if_pos h10, if_pos h10]
        cases b
        · rfl
        · simp; omega
      · rw [if_neg h10, if_neg h10]
        simp [h10]
theorem tailI_pos (x : UInt8) (t : List UInt8) (h : ¬ x.toNat < 9) : getI (x :: t) = tailI false (x - 9) t := by
  have hx := x.toNat_lt
  refine tailI_of x (x - 9) t t (t.take (x.toNat - 9)) false (x.toNat - 9) (by unfold sgn; rw [if_neg h]) (by unfold prt sgn; rw [if_neg h]; rfl) ?_ rfl
  rw [UInt8.toNat_sub_of_le _ _ (by rw [UInt8.le_iff_toNat_le]; simp; omega)]; rfl
theorem tailI_neg (x : UInt8) (t : List UInt8) (h : x.toNat < 9) : getI (x :: t) = tailI true (8 - x) (t.map (255 - ·)) := by
  refine tailI_of x (8 - x) t (t.map (255 - ·)) ((t.take (8 - x.toNat)).map (255 - ·)) true (8 - x.toNat) (by unfold sgn; rw [if_pos h]) (by unfold prt sgn; rw [if_pos h]; rfl) ?_ (by rw [List.map_take])
  rw [UInt8.toNat_sub_of_le _ _ (by rw [UInt8.le_iff_toNat_le]; simp; omega)]; rfl
def GIcut (w wx : World) (x : UInt8) (t : List UInt8) (A : Option Addr) (n c : Nat) (s6 : Value) : Prop :=
  ∃ (b : Bool) (d : UInt8) (u : List UInt8), s6 = .bool b ∧ wx.ownsRow w.heap.size 5 1 (.slice A n c) n (u8s (d :: u)) ∧ getI (x :: t) = tailI b d u ∧ Below w.heap.size w wx
end Go.Proofs.Ytfhmaincnlaapaa
