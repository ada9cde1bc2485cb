/-
  THE WALK of bushellaw07.CodeLess.
-/
import Derived.Test.YtlnjohbmdckgkaaCodeAwake
namespace Go.Proofs.Ytlnjohbmdckgkaa
open Go.ChangeShapes Go.WideShapes Go.ChangeAt Go.RowKit
set_option linter.unusedVariables false

theorem codeLess_walk (A A' : Option Addr) (n c n' c' : Nat) (l l' : List UInt8) (w : World) (h : Rd w w.heap.size 1 A n (u8s l)) (h' : Rd w w.heap.size 1 A' n' (u8s l')) (hn : n ≤ maxLen) (hn' : n' ≤ maxLen) :
    Calls Try.prog 6 #[.slice A n c, .slice A' n' c'] w fun e w' => e = .returned (.bool true) ∧ Below w.heap.size w w' := by
  have hnn := hn
  have hnn' := hn'
  unfold maxLen at hnn hnn'
  by_cases h1 : 5000 < n
  · go_enter Try.func6, Try.ntmps6
    go_wp2_with (go_at_call 16; (with_reducible refine (awake07_any _).mono ?_); rintro e w1 ⟨rfl, hb1⟩)
    go_ret
    exact ⟨rfl, hb1⟩
  · by_cases h2 : 5000 < n'
    · have h1' : n ≤ 5000 := by omega
      go_enter Try.func6, Try.ntmps6
      go_wp2_with (go_at_call 16; (with_reducible refine (awake07_any _).mono ?_); rintro e w1 ⟨rfl, hb1⟩)
      go_ret
      exact ⟨rfl, hb1⟩
    · have h1' : n ≤ 5000 := by omega
      have h2' : n' ≤ 5000 := by omega
      have hs := ltB_self l
      go_enter Try.func6, Try.ntmps6
      go_wp2_with (first
        | (go_at_call 17; (first | (with_reducible refine (less_any _ _ _ _ _ _ _ l l' _ h h' hn hn').mono ?_) | (with_reducible refine (less_any _ _ _ _ _ _ _ l l _ (h.drewN _) (h.drewN _) hn hn).mono ?_)); rintro e w1 ⟨rfl, k1, rfl⟩)
        | (go_at_call 23; (with_reducible refine (refLess_any _ _ _ _ _ _ _ l l' _ (h.drewN _) (h'.drewN _) hn hn').mono ?_); rintro e w1 ⟨rfl, k1, rfl⟩)
        | (go_at_call 16; (with_reducible refine (awake07_any _).mono ?_); rintro e w1 ⟨rfl, hb1⟩))
      go_ret
      exact ⟨rfl, belT (belD (belR w) _) hb1⟩
end Go.Proofs.Ytlnjohbmdckgkaa
