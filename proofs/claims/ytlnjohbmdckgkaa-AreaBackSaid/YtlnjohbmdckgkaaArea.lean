/-
  WHAT area's FUNCTIONS AND bushelref21's ANSWER, for every size that is an int.
-/
import Derived.Test.YtlnjohbmdckgkaaRows
import Derived.WalkKit
import Derived.ProofKit
import Derived.OpenShut
import Derived.WalkLawsBesides
import Derived.WalkSpells
import Derived.Handy
import Derived.Lib.Hide
namespace Go.Proofs.Ytlnjohbmdckgkaa
open Go.ChangeShapes Go.WideShapes Go.ChangeAt Go.RowKit
theorem right_yes (s : Int) (w : World) (h1 : 16 ≤ s) (h2 : s ≤ 8192) : Calls Try.prog 14 #[.int .i64 s] w fun e w' => e = .returned (.bool true) ∧ w = w' := by
  go_enter Try.func14, Try.ntmps14
  go_wp2
  go_ret
  exact ⟨rfl, rfl⟩
theorem right_no (s : Int) (w : World) (h : s < 16 ∨ 8192 < s) : Calls Try.prog 14 #[.int .i64 s] w fun e w' => e = .returned (.bool false) ∧ w = w' := by
  rcases h with h | h
  · go_enter Try.func14, Try.ntmps14
    go_wp2
    go_ret
    exact ⟨rfl, rfl⟩
  · have h' : ¬ s ≤ 8192 := by omega
    have h3 : 16 ≤ s := by omega
    go_enter Try.func14, Try.ntmps14
    go_wp2
    go_ret
    exact ⟨rfl, rfl⟩

/-- the log's length -/
def lq (s : Int) : Int := s / 4
theorem log_yes (s : Int) (w : World) (h1 : 16 ≤ s) (h2 : s ≤ 8192) : Calls Try.prog 10 #[.int .i64 s] w fun e w' => e = .returned (.tuple #[.int .i64 2, .int .i64 (s / 4)]) ∧ w = w' := by
  go_enter Try.func10, Try.ntmps10
  go_wp2_with (go_at_call 14; refine (right_yes _ _ h1 h2).mono ?_; rintro e w' ⟨rfl, rfl⟩)
  go_ret2
  exact ⟨rfl, rfl⟩
theorem log_no (s : Int) (w : World) (h : s < 16 ∨ 8192 < s) : Calls Try.prog 10 #[.int .i64 s] w fun e w' => e = .returned (.tuple #[.int .i64 0, .int .i64 0]) ∧ w = w' := by
  go_enter Try.func10, Try.ntmps10
  go_wp2_with (go_at_call 14; refine (right_no _ _ h).mono ?_; rintro e w' ⟨rfl, rfl⟩)
  go_ret2
  exact ⟨rfl, rfl⟩
theorem data_yes (s : Int) (w : World) (h1 : 16 ≤ s) (h2 : s ≤ 8192) : Calls Try.prog 11 #[.int .i64 s] w fun e w' => e = .returned (.tuple #[.int .i64 (2 + s / 4), .int .i64 (s - 2 - s / 4)]) ∧ w = w' := by
  go_enter Try.func11, Try.ntmps11
  go_wp2_with (first | (go_at_call 14; refine (right_yes _ _ h1 h2).mono ?_; rintro e w' ⟨rfl, rfl⟩) | (go_at_call 10; refine (log_yes _ _ h1 h2).mono ?_; rintro e w' ⟨rfl, rfl⟩))
  go_ret2
  exact ⟨rfl, rfl⟩
theorem data_no (s : Int) (w : World) (h : s < 16 ∨ 8192 < s) : Calls Try.prog 11 #[.int .i64 s] w fun e w' => e = .returned (.tuple #[.int .i64 0, .int .i64 0]) ∧ w = w' := by
  go_enter Try.func11, Try.ntmps11
  go_wp2_with (go_at_call 14; refine (right_no _ _ h).mono ?_; rintro e w' ⟨rfl, rfl⟩)
  go_ret2
  exact ⟨rfl, rfl⟩
theorem sector_yes (s x : Int) (w : World) (h1 : 16 ≤ s) (h2 : s ≤ 8192) (hx : 1 ≤ x) (hx2 : x ≤ s - 2 - s / 4) : Calls Try.prog 12 #[.int .i64 s, .int .i64 x] w fun e w' => e = .returned (.tuple #[.int .i64 (2 + s / 4 + x - 1), .bool true]) ∧ w = w' := by
  go_enter Try.func12, Try.ntmps12
  go_wp2_with (go_at_call 11; refine (data_yes _ _ h1 h2).mono ?_; rintro e w' ⟨rfl, rfl⟩)
  go_ret2
  exact ⟨rfl, rfl⟩
theorem sector_no (s x : Int) (w : World) (h1 : 16 ≤ s) (h2 : s ≤ 8192) (hx : x < 1 ∨ s - 2 - s / 4 < x) : Calls Try.prog 12 #[.int .i64 s, .int .i64 x] w fun e w' => e = .returned (.tuple #[.int .i64 0, .bool false]) ∧ w = w' := by
  rcases hx with hx | hx
  · go_enter Try.func12, Try.ntmps12
    go_wp2_with (go_at_call 11; refine (data_yes _ _ h1 h2).mono ?_; rintro e w' ⟨rfl, rfl⟩)
    go_ret2
    exact ⟨rfl, rfl⟩
  · have hx3 : 1 ≤ x := by omega
    go_enter Try.func12, Try.ntmps12
    go_wp2_with (go_at_call 11; refine (data_yes _ _ h1 h2).mono ?_; rintro e w' ⟨rfl, rfl⟩)
    go_ret2
    exact ⟨rfl, rfl⟩
theorem sector_off (s x : Int) (w : World) (h : s < 16 ∨ 8192 < s) : Calls Try.prog 12 #[.int .i64 s, .int .i64 x] w fun e w' => e = .returned (.tuple #[.int .i64 0, .bool false]) ∧ w = w' := by
  by_cases hx : x < 1
  · go_enter Try.func12, Try.ntmps12
    go_wp2_with (go_at_call 11; refine (data_no _ _ h).mono ?_; rintro e w' ⟨rfl, rfl⟩)
    go_ret2
    exact ⟨rfl, rfl⟩
  · have hx3 : 1 ≤ x := by omega
    have hx4 : 0 < x := by omega
    go_enter Try.func12, Try.ntmps12
    go_wp2_with (go_at_call 11; refine (data_no _ _ h).mono ?_; rintro e w' ⟨rfl, rfl⟩)
    go_ret2
    exact ⟨rfl, rfl⟩
theorem page_yes (s x : Int) (w : World) (h1 : 16 ≤ s) (h2 : s ≤ 8192) (hx : 2 + s / 4 ≤ x) (hx2 : x < s) : Calls Try.prog 13 #[.int .i64 s, .int .i64 x] w fun e w' => e = .returned (.tuple #[.int .i64 (x - (2 + s / 4) + 1), .bool true]) ∧ w = w' := by
  go_enter Try.func13, Try.ntmps13
  go_wp2_with (go_at_call 11; refine (data_yes _ _ h1 h2).mono ?_; rintro e w' ⟨rfl, rfl⟩)
  go_ret2
  exact ⟨rfl, rfl⟩
theorem page_no (s x : Int) (w : World) (h1 : 16 ≤ s) (h2 : s ≤ 8192) (hx : x < 2 + s / 4 ∨ s ≤ x) : Calls Try.prog 13 #[.int .i64 s, .int .i64 x] w fun e w' => e = .returned (.tuple #[.int .i64 0, .bool false]) ∧ w = w' := by
  rcases hx with hx | hx
  · go_enter Try.func13, Try.ntmps13
    go_wp2_with (go_at_call 11; refine (data_yes _ _ h1 h2).mono ?_; rintro e w' ⟨rfl, rfl⟩)
    go_ret2
    exact ⟨rfl, rfl⟩
  · have hx3 : 2 + s / 4 ≤ x := by omega
    have hx4 : 2 + s / 4 + (s - 2 - s / 4) ≤ x := by omega
    go_enter Try.func13, Try.ntmps13
    go_wp2_with (go_at_call 11; refine (data_yes _ _ h1 h2).mono ?_; rintro e w' ⟨rfl, rfl⟩)
    go_ret2
    exact ⟨rfl, rfl⟩
theorem page_off (s x : Int) (w : World) (h : s < 16 ∨ 8192 < s) : Calls Try.prog 13 #[.int .i64 s, .int .i64 x] w fun e w' => e = .returned (.tuple #[.int .i64 0, .bool false]) ∧ w = w' := by
  by_cases hx : x < 0
  · go_enter Try.func13, Try.ntmps13
    go_wp2_with (go_at_call 11; refine (data_no _ _ h).mono ?_; rintro e w' ⟨rfl, rfl⟩)
    go_ret2
    exact ⟨rfl, rfl⟩
  · have hx3 : 0 ≤ x := by omega
    go_enter Try.func13, Try.ntmps13
    go_wp2_with (go_at_call 11; refine (data_no _ _ h).mono ?_; rintro e w' ⟨rfl, rfl⟩)
    go_ret2
    exact ⟨rfl, rfl⟩

def kindB (n s : Int) : Int := if s < 2 then 0 else if s < 2 + n / 4 then 1 else 2
theorem kind_any (n s : Int) (w : World) (h1 : 16 ≤ n) (h2 : n ≤ 8192) : Calls Try.prog 38 #[.int .i64 n, .int .i64 s] w fun e w' => e = .returned (.int .i64 (kindB n s)) ∧ w = w' := by
  by_cases h : s < 2
  · go_enter Try.func38, Try.ntmps38
    go_wp2
    go_ret
    exact ⟨by simp [kindB, h], rfl⟩
  · go_enter Try.func38, Try.ntmps38
    go_wp2
    go_loop [5] (fun q => ∃ k : Int, 4 ≤ k ∧ 4 * k ≤ n ∧ q = .int .i64 k) (fun q => (n - 4 * intOf q).toNat)
    case atStart => exact ⟨4, by omega, by omega, rfl⟩
    case round =>
      obtain ⟨k, hk1, hk2, rfl⟩ := hrel
      by_cases hlt : 4 * k + 4 ≤ n
      · go_wp2
        go_round
        case rel => exact ⟨k + 1, by omega, by omega, rfl⟩
        case measure => simp [intOf]; omega
      · have hk : k = n / 4 := by omega
        have hk3 : ¬ (4 * k + 4 ≤ n) := hlt
        by_cases hs : s < 2 + k
        · have hs' : s < 2 + n / 4 := by omega
          have H := Lib.hid hk; clear hk
          go_wp2
          go_ret
          exact ⟨by unfold kindB; rw [if_neg (by omega)]; first | (rw [if_pos (by omega)]; rfl) | (rw [if_neg (by omega)]; rfl), rfl⟩
        · have hs' : ¬ s < 2 + n / 4 := by omega
          have H := Lib.hid hk; clear hk
          go_wp2
          go_ret
          exact ⟨by unfold kindB; rw [if_neg (by omega)]; first | (rw [if_pos (by omega)]; rfl) | (rw [if_neg (by omega)]; rfl), rfl⟩
theorem first_any (n k lo hi : Int) (w : World) (h1 : 16 ≤ n) (h2 : n ≤ 8192) (hlo : 0 ≤ lo) (hhi : lo < hi) (hhn : hi ≤ n) (hk : ∀ i, 0 ≤ i → i < n → ((kindB n i == k) = decide (lo ≤ i ∧ i < hi))) :
    Calls Try.prog 15 #[.int .i64 n, .int .i64 k] w fun e w' => e = .returned (.tuple #[.int .i64 lo, .int .i64 (hi - lo)]) ∧ w = w' := by
  have H := Lib.hid hk; clear hk
  go_enter Try.func15, Try.ntmps15
  go_wp2
  go_loop [6, 7, 8] (fun f c i => ∃ j : Int, -1 ≤ j ∧ j ≤ n - 1 ∧ i = .int .i64 j ∧ f = .int .i64 (if hi ≤ j + 1 then 0 else max (j + 1) lo) ∧ c = .int .i64 (if hi ≤ j + 1 then 0 else hi - max (j + 1) lo)) (fun _ _ i => (intOf i + 1).toNat)
  case atStart => exact ⟨n - 1, by omega, by omega, rfl, by rw [if_pos (by omega)], by rw [if_pos (by omega)]⟩
  case round =>
    obtain ⟨j, hj1, hj2, rfl, rfl, rfl⟩ := hrel
    by_cases hj : 0 ≤ j
    · have hkj := H.out j hj (by omega)
      by_cases hin : lo ≤ j ∧ j < hi
      · rw [decide_eq_true hin] at hkj
        obtain ⟨hin1, hin2⟩ := hin
        obtain ⟨f, hf⟩ : ∃ f, (if hi ≤ j + 1 then 0 else max (j + 1) lo) = f := ⟨_, rfl⟩
        obtain ⟨c, hc⟩ : ∃ c, (if hi ≤ j + 1 then 0 else hi - max (j + 1) lo) = c := ⟨_, rfl⟩
        have hc0 : 0 ≤ c ∧ c ≤ 8192 := by split at hc <;> omega
        obtain ⟨hc1, hc2⟩ := hc0
        rw [hf, hc]
        have Hf := Lib.hid hf; clear hf
        have Hc := Lib.hid hc; clear hc
        go_wp2_with (go_at_call 38; refine (kind_any _ _ _ h1 h2).mono ?_; rintro e w' ⟨rfl, rfl⟩)
        go_round
        case rel =>
          refine ⟨j - 1, by omega, by omega, rfl, ?_, ?_⟩
          · rw [if_neg (by omega), Int.max_eq_left (by omega)]; congr 1; omega
          · rw [if_neg (by omega), Int.max_eq_left (by omega)]; congr 1; have := Hc.out; split at this <;> omega
        case measure => simp [intOf]; omega
      · rw [decide_eq_false hin] at hkj
        have e1 : (if hi ≤ j - 1 + 1 then 0 else max (j - 1 + 1) lo) = (if hi ≤ j + 1 then 0 else max (j + 1) lo) := by
          by_cases ha : hi ≤ j
          · rw [if_pos (by omega), if_pos (by omega)]
          · rw [if_neg (by omega), if_neg (by omega)]; omega
        have e2 : (if hi ≤ j - 1 + 1 then 0 else hi - max (j - 1 + 1) lo) = (if hi ≤ j + 1 then 0 else hi - max (j + 1) lo) := by
          by_cases ha : hi ≤ j
          · rw [if_pos (by omega), if_pos (by omega)]
          · rw [if_neg (by omega), if_neg (by omega)]; omega
        generalize hf : (if hi ≤ j + 1 then 0 else max (j + 1) lo) = f at *
        generalize hc : (if hi ≤ j + 1 then 0 else hi - max (j + 1) lo) = c at *
        have E1 := Lib.hid e1; clear e1
        have E2 := Lib.hid e2; clear e2
        clear hf hc
        go_wp2_with (go_at_call 38; refine (kind_any _ _ _ h1 h2).mono ?_; rintro e w' ⟨rfl, rfl⟩)
        go_round
        case rel =>
          exact ⟨j - 1, by omega, by omega, rfl, by rw [E1.out], by rw [E2.out]⟩
        case measure => simp [intOf]; omega
    · obtain rfl : j = -1 := by omega
      rw [if_neg (by omega), if_neg (by omega), Int.max_eq_right (by omega)]
      go_wp2
      go_ret2
      exact ⟨rfl, rfl⟩
theorem first_one (n : Int) (w : World) (h1 : 16 ≤ n) (h2 : n ≤ 8192) : Calls Try.prog 15 #[.int .i64 n, .int .i64 1] w fun e w' => e = .returned (.tuple #[.int .i64 2, .int .i64 (n / 4)]) ∧ w = w' := by
  have := first_any n 1 2 (2 + n / 4) w h1 h2 (by omega) (by omega) (by omega) (fun i h1 h2 => by
    unfold kindB; rw [Bool.eq_iff_iff]; simp; split <;> (try split) <;> omega)
  rwa [show 2 + n / 4 - 2 = n / 4 from by omega] at this
theorem first_two (n : Int) (w : World) (h1 : 16 ≤ n) (h2 : n ≤ 8192) : Calls Try.prog 15 #[.int .i64 n, .int .i64 2] w fun e w' => e = .returned (.tuple #[.int .i64 (2 + n / 4), .int .i64 (n - 2 - n / 4)]) ∧ w = w' := by
  have := first_any n 2 (2 + n / 4) n w h1 h2 (by omega) (by omega) (by omega) (fun i h1 h2 => by
    unfold kindB; rw [Bool.eq_iff_iff]; simp; split <;> (try split) <;> omega)
  rwa [show n - (2 + n / 4) = n - 2 - n / 4 from by omega] at this
theorem awake_any (w : World) : Calls Try.prog 9 #[] w fun e w' => e = .returned (.bool true) ∧ w = w' := by
  go_enter Try.func9, Try.ntmps9
  go_wp2_with (first | (go_at_call 10; refine (log_yes _ _ (by omega) (by omega)).mono ?_; rintro e w' ⟨rfl, rfl⟩) | (go_at_call 11; refine (data_yes _ _ (by omega) (by omega)).mono ?_; rintro e w' ⟨rfl, rfl⟩) | (go_at_call 12; refine (sector_yes _ _ _ (by omega) (by omega) (by omega) (by omega)).mono ?_; rintro e w' ⟨rfl, rfl⟩))
  go_ret
  exact ⟨rfl, rfl⟩
end Go.Proofs.Ytlnjohbmdckgkaa
