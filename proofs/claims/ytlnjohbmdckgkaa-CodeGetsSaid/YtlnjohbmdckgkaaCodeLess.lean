/-
  code.Less and bushelref07.Less: the bytes' order, for any two slices.
-/
import Derived.Test.YtlnjohbmdckgkaaWords
namespace Go.Proofs.Ytlnjohbmdckgkaa
open Go.ChangeShapes Go.WideShapes Go.ChangeAt Go.RowKit
set_option linter.unusedVariables false

theorem less_any (A A' : Option Addr) (n c n' c' B : Nat) (l l' : List UInt8) (w : World) (h : Rd w B 1 A n (u8s l)) (h' : Rd w B 1 A' n' (u8s l')) (hn : n ≤ maxLen) (hn' : n' ≤ maxLen) :
    Calls Try.prog 17 #[.slice A n c, .slice A' n' c'] w fun e w' => e = .returned (.bool (ltB l l')) ∧ ∃ k, w' = w.drewN k := by
  obtain rfl : n = l.length := h.u8.symm
  obtain rfl : n' = l'.length := h'.u8.symm
  unfold maxLen at hn hn'
  have H := Lib.hid h; clear h
  have H' := Lib.hid h'; clear h'
  go_enter Try.func17, Try.ntmps17
  go_wp2
  all_goals
    go_loopw [11] (fun i wr => ∃ k : Nat, k ≤ l.length ∧ k ≤ l'.length ∧ i = .int .i64 k ∧ ltB l l' = ltB (l.drop k) (l'.drop k) ∧ ∃ q, wr = w.drewN q) (fun i _ => l.length - (intOf i).toNat)
    case atStart => exact ⟨0, by omega, by omega, rfl, by simp, 0, rfl⟩
    case round =>
      obtain ⟨k, hk, hk', rfl, e, q, rfl⟩ := hrel
      have E := Lib.hid e; clear e
      by_cases hlt : k < l.length ∧ k < l'.length
      · obtain ⟨hlt, hlt'⟩ := hlt
        obtain ⟨a, rfl, hb, hc⟩ := H.out.byte hlt
        obtain ⟨a', rfl, hb', hc'⟩ := H'.out.byte hlt'
        have d := ltB_drop l l' k hlt hlt'
        generalize hx : l[k] = x at *
        generalize hx' : l'[k] = x' at *
        by_cases hxx : x = x'
        · rw [if_pos hxx] at d
          have D := Lib.hid d; clear d
          have t1 : ((x.toNat : Int) != (x'.toNat : Int)) = false := by simp [hxx]
          clear hx hx' hxx
          go_wp2
          go_quiet (fail)
          go_wp2
          go_roundw
          case rel => exact ⟨k + 1, by omega, by omega, by go_num, E.out.trans D.out, _, rfl⟩
          case measure => simp [intOf]; omega
        · rw [if_neg hxx] at d
          have D := Lib.hid d; clear d
          have t1 : ((x.toNat : Int) != (x'.toNat : Int)) = true := by
            have := u8_eq x x'; rw [decide_eq_false hxx] at this
            simp only [bne, this]; rfl
          clear hx hx' hxx
          go_wp2
          go_quiet (fail)
          go_wp2
          go_quiet (fail)
          go_wp2
          go_ret
          exact ⟨by rw [E.out, D.out, u8_ltN]; rfl, drew3 _ _ _ _⟩
      · have d := ltB_end l l' k (by omega)
        have D := Lib.hid d; clear d
        go_wp2
        go_ret
        exact ⟨by rw [E.out, D.out]; simp, _, rfl⟩
theorem refLess_any (A A' : Option Addr) (n c n' c' B : Nat) (l l' : List UInt8) (w : World) (h : Rd w B 1 A n (u8s l)) (h' : Rd w B 1 A' n' (u8s l')) (hn : n ≤ maxLen) (hn' : n' ≤ maxLen) :
    Calls Try.prog 23 #[.slice A n c, .slice A' n' c'] w fun e w' => e = .returned (.bool (ltB l l')) ∧ ∃ k, w' = w.drewN k := by
  obtain rfl : n = l.length := h.u8.symm
  obtain rfl : n' = l'.length := h'.u8.symm
  unfold maxLen at hn hn'
  have H := Lib.hid h; clear h
  have H' := Lib.hid h'; clear h'
  go_enter Try.func23, Try.ntmps23
  go_wp2
  go_loopw [5] (fun i wr => ∃ k : Nat, k ≤ l.length ∧ k ≤ l'.length ∧ i = .int .i64 k ∧ ltB l l' = ltB (l.drop k) (l'.drop k) ∧ ∃ q, wr = w.drewN q) (fun i _ => l.length - (intOf i).toNat)
  case atStart => exact ⟨0, by omega, by omega, rfl, by simp, 0, rfl⟩
  case round =>
    obtain ⟨k, hk, hk', rfl, e, q, rfl⟩ := hrel
    have E := Lib.hid e; clear e
    by_cases hlt : k < l.length ∧ k < l'.length
    · obtain ⟨hlt, hlt'⟩ := hlt
      obtain ⟨a, rfl, hb, hc⟩ := H.out.byte hlt
      obtain ⟨a', rfl, hb', hc'⟩ := H'.out.byte hlt'
      have d := ltB_drop l l' k hlt hlt'
      generalize hx : l[k] = x at *
      generalize hx' : l'[k] = x' at *
      by_cases hxx : x = x'
      · rw [if_pos hxx] at d
        have D := Lib.hid d; clear d
        have t1 : ((x.toNat : Int) != (x'.toNat : Int)) = false := by simp [hxx]
        clear hx hx' hxx
        go_wp2
        go_quiet (fail)
        go_wp2
        go_roundw
        case rel => exact ⟨k + 1, by omega, by omega, by go_num, E.out.trans D.out, _, rfl⟩
        case measure => simp [intOf]; omega
      · rw [if_neg hxx] at d
        have D := Lib.hid d; clear d
        have t1 : ((x.toNat : Int) != (x'.toNat : Int)) = true := by
          have := u8_eq x x'; rw [decide_eq_false hxx] at this
          simp only [bne, this]; rfl
        clear hx hx' hxx
        go_wp2
        go_quiet (fail)
        go_wp2
        go_quiet (fail)
        go_wp2
        go_ret
        exact ⟨by rw [E.out, D.out, u8_ltN]; rfl, drew3 _ _ _ _⟩
    · have d := ltB_end l l' k (by omega)
      have D := Lib.hid d; clear d
      by_cases hlt1 : k < l.length
      all_goals
        go_wp2
        go_ret
        exact ⟨by rw [E.out, D.out]; simp, _, rfl⟩
end Go.Proofs.Ytlnjohbmdckgkaa
