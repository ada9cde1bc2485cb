/-
  THE LAST NODE: what one entry more does to the list of nodes.
-/
import Derived.Test.YtpnolgghbenekaaNodesPure
namespace Go.Proofs.Ytpnolgghbenekaa
set_option linter.unusedVariables false

theorem nst_last (lv : Nat) (l : List (Nat × Int)) (h : l ≠ []) : ∃ ss n d, nst lv l = (ss, n, d) ∧ 0 < n ∧ nodes lv l = ss ++ [⟨4, n, lv, d⟩] := by
  have hp : 0 < (nst lv l).2.1 := by
    obtain ⟨l0, x, rfl⟩ : ∃ l0 x, l = l0 ++ [x] := ⟨l.dropLast, l.getLast h, (List.dropLast_concat_getLast h).symm⟩
    rw [nst_snoc]
    unfold nstep pput
    split
    · exact Nat.one_pos
    · exact Nat.succ_pos _
  refine ⟨(nst lv l).1, (nst lv l).2.1, (nst lv l).2.2, rfl, hp, ?_⟩
  unfold nodes pend
  rw [if_pos hp]
theorem nodes_first (lv : Nat) (l : List (Nat × Int)) (h : 0 < l.length) : nodes lv (l.take 0) = [] ∧ nodes lv (l.take 1) = [⟨4, 0 + 1, lv, [] ++ encE l[0]⟩] := by
  refine ⟨rfl, ?_⟩
  unfold nodes
  rw [nst_take lv l 0 h]
  have e : nstep lv (nst lv (l.take 0)) l[0] = ([], 1, encE l[0]) := by
    rw [List.take_zero]
    show pput 4 lv ([], 0, []) (encE l[0]) (decide (2 ≤ 0) && brkB l[0].1 lv) = _
    unfold pput
    split
    · rfl
    · rfl
  rw [e]
  rfl
theorem nodes_cut (lv : Nat) (l : List (Nat × Int)) (k : Nat) (h : k < l.length) (ss : List Sht) (n : Nat) (d : List UInt8) (e : nst lv (l.take k) = (ss, n, d)) (h0 : 0 < n)
    (hc : (decide (2 ≤ n) && brkB l[k].1 lv) = true ∨ 1001 < d.length + (encE l[k]).length) : nodes lv (l.take (k + 1)) = (ss ++ [⟨4, n, lv, d⟩]) ++ [⟨4, 0 + 1, lv, [] ++ encE l[k]⟩] := by
  unfold nodes
  rw [nst_take lv l k h, e]
  unfold nstep pput
  rw [if_pos hc]
  show pend 4 lv ((if 0 < n then ss ++ [⟨4, n, lv, d⟩] else ss), 1, encE l[k]) = _
  rw [if_pos h0]
  rfl
theorem nodes_more (lv : Nat) (l : List (Nat × Int)) (k : Nat) (h : k < l.length) (ss : List Sht) (n : Nat) (d : List UInt8) (e : nst lv (l.take k) = (ss, n, d))
    (hc : ¬ ((decide (2 ≤ n) && brkB l[k].1 lv) = true ∨ 1001 < d.length + (encE l[k]).length)) : nodes lv (l.take (k + 1)) = ss ++ [⟨4, n + 1, lv, d ++ encE l[k]⟩] := by
  unfold nodes
  rw [nst_take lv l k h, e]
  unfold nstep pput
  rw [if_neg hc]
  show pend 4 lv (ss, n + 1, d ++ encE l[k]) = _
  unfold pend
  rw [if_pos (Nat.succ_pos _)]
end Go.Proofs.Ytpnolgghbenekaa
