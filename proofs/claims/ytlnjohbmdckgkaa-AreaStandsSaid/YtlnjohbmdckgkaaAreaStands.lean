/-
  THE WALK of bushellaw21.AreaStands: it answers true and leaves the world as it is.
-/
import Derived.Test.YtlnjohbmdckgkaaArea
namespace Go.Proofs.Ytlnjohbmdckgkaa
open Go.ChangeShapes Go.WideShapes Go.ChangeAt Go.RowKit
set_option maxRecDepth 100000

set_option maxHeartbeats 1000000 in
theorem stands_big (s x : Int) (w : World) (h1 : 600 < s) (h2 : s ≤ 8192) : Calls Try.prog 3 #[.int .i64 s, .int .i64 x] w fun e w' => e = .returned (.bool true) ∧ w = w' := by
  go_enter Try.func3, Try.ntmps3
  go_wp2_with (first | (go_at_call 9; (with_reducible refine (awake_any _).mono ?_); rintro e w' ⟨rfl, rfl⟩) | (go_at_call 14; (with_reducible refine (right_yes _ _ (by omega) (by omega)).mono ?_); rintro e w' ⟨rfl, rfl⟩) | (go_at_call 10; (with_reducible refine (log_yes _ _ (by omega) (by omega)).mono ?_); rintro e w' ⟨rfl, rfl⟩) | (go_at_call 11; (with_reducible refine (data_yes _ _ (by omega) (by omega)).mono ?_); rintro e w' ⟨rfl, rfl⟩) | (go_at_call 12; (with_reducible refine (sector_no _ _ _ (by omega) (by omega) (by omega)).mono ?_); rintro e w' ⟨rfl, rfl⟩) | (go_at_call 13; (with_reducible refine (page_no _ _ _ (by omega) (by omega) (by omega)).mono ?_); rintro e w' ⟨rfl, rfl⟩) | (go_at_call 15; (with_reducible refine (first_one _ _ (by omega) (by omega)).mono ?_); rintro e w' ⟨rfl, rfl⟩) | (go_at_call 15; (with_reducible refine (first_two _ _ (by omega) (by omega)).mono ?_); rintro e w' ⟨rfl, rfl⟩))
  go_ret
  exact ⟨rfl, rfl⟩
set_option maxHeartbeats 1000000 in
theorem stands_small (s x : Int) (w : World) (h : s < 16) : Calls Try.prog 3 #[.int .i64 s, .int .i64 x] w fun e w' => e = .returned (.bool true) ∧ w = w' := by
  have hoff : s < 16 ∨ 8192 < s := .inl h
  have H := Lib.hid hoff; clear hoff
  go_enter Try.func3, Try.ntmps3
  go_wp2_with (first | (go_at_call 9; (with_reducible refine (awake_any _).mono ?_); rintro e w' ⟨rfl, rfl⟩) | (go_at_call 14; (with_reducible refine (right_no _ _ H.out).mono ?_); rintro e w' ⟨rfl, rfl⟩) | (go_at_call 10; (with_reducible refine (log_no _ _ H.out).mono ?_); rintro e w' ⟨rfl, rfl⟩) | (go_at_call 11; (with_reducible refine (data_no _ _ H.out).mono ?_); rintro e w' ⟨rfl, rfl⟩) | (go_at_call 12; (with_reducible refine (sector_off _ _ _ H.out).mono ?_); rintro e w' ⟨rfl, rfl⟩) | (go_at_call 13; (with_reducible refine (page_off _ _ _ H.out).mono ?_); rintro e w' ⟨rfl, rfl⟩))
  go_ret
  exact ⟨rfl, rfl⟩
set_option maxHeartbeats 1000000 in
theorem stands_great (s x : Int) (w : World) (h : 8192 < s) : Calls Try.prog 3 #[.int .i64 s, .int .i64 x] w fun e w' => e = .returned (.bool true) ∧ w = w' := by
  have hoff : s < 16 ∨ 8192 < s := .inr h
  have h3 : ¬ s ≤ 8192 := by omega
  have H := Lib.hid hoff; clear hoff
  go_enter Try.func3, Try.ntmps3
  go_wp2_with (first | (go_at_call 9; (with_reducible refine (awake_any _).mono ?_); rintro e w' ⟨rfl, rfl⟩) | (go_at_call 14; (with_reducible refine (right_no _ _ H.out).mono ?_); rintro e w' ⟨rfl, rfl⟩) | (go_at_call 10; (with_reducible refine (log_no _ _ H.out).mono ?_); rintro e w' ⟨rfl, rfl⟩) | (go_at_call 11; (with_reducible refine (data_no _ _ H.out).mono ?_); rintro e w' ⟨rfl, rfl⟩) | (go_at_call 12; (with_reducible refine (sector_off _ _ _ H.out).mono ?_); rintro e w' ⟨rfl, rfl⟩) | (go_at_call 13; (with_reducible refine (page_off _ _ _ H.out).mono ?_); rintro e w' ⟨rfl, rfl⟩))
  go_ret
  exact ⟨rfl, rfl⟩
set_option maxHeartbeats 1000000 in
theorem stands_nn (s x : Int) (w : World) (h1 : 16 ≤ s) (h2 : s ≤ 600) (hx1 : -9223372036854775808 ≤ x) (hx2 : x ≤ 9223372036854775807) (hc1 : x < 1) : Calls Try.prog 3 #[.int .i64 s, .int .i64 x] w fun e w' => e = .returned (.bool true) ∧ w = w' := by
  go_enter Try.func3, Try.ntmps3
  go_wp2_with (first | (go_at_call 9; (with_reducible refine (awake_any _).mono ?_); rintro e w' ⟨rfl, rfl⟩) | (go_at_call 14; (with_reducible refine (right_yes _ _ (by omega) (by omega)).mono ?_); rintro e w' ⟨rfl, rfl⟩) | (go_at_call 10; (with_reducible refine (log_yes _ _ (by omega) (by omega)).mono ?_); rintro e w' ⟨rfl, rfl⟩) | (go_at_call 11; (with_reducible refine (data_yes _ _ (by omega) (by omega)).mono ?_); rintro e w' ⟨rfl, rfl⟩) | (go_at_call 12; (with_reducible refine (sector_no _ _ _ (by omega) (by omega) (by omega)).mono ?_); rintro e w' ⟨rfl, rfl⟩) | (go_at_call 13; (with_reducible refine (page_no _ _ _ (by omega) (by omega) (by omega)).mono ?_); rintro e w' ⟨rfl, rfl⟩) | (go_at_call 15; (with_reducible refine (first_one _ _ (by omega) (by omega)).mono ?_); rintro e w' ⟨rfl, rfl⟩) | (go_at_call 15; (with_reducible refine (first_two _ _ (by omega) (by omega)).mono ?_); rintro e w' ⟨rfl, rfl⟩))
  go_ret
  exact ⟨rfl, rfl⟩
set_option maxHeartbeats 1000000 in
theorem stands_yy (s x : Int) (w : World) (h1 : 16 ≤ s) (h2 : s ≤ 600) (hx1 : -9223372036854775808 ≤ x) (hx2 : x ≤ 9223372036854775807) (hc1 : 1 ≤ x) (hc2 : x ≤ s - 2 - s / 4) (hc3 : 2 + s / 4 ≤ x) : Calls Try.prog 3 #[.int .i64 s, .int .i64 x] w fun e w' => e = .returned (.bool true) ∧ w = w' := by
  have hd3 : x < s := by omega
  go_enter Try.func3, Try.ntmps3
  go_wp2_with (first | (go_at_call 9; (with_reducible refine (awake_any _).mono ?_); rintro e w' ⟨rfl, rfl⟩) | (go_at_call 14; (with_reducible refine (right_yes _ _ (by omega) (by omega)).mono ?_); rintro e w' ⟨rfl, rfl⟩) | (go_at_call 10; (with_reducible refine (log_yes _ _ (by omega) (by omega)).mono ?_); rintro e w' ⟨rfl, rfl⟩) | (go_at_call 11; (with_reducible refine (data_yes _ _ (by omega) (by omega)).mono ?_); rintro e w' ⟨rfl, rfl⟩) | (go_at_call 12; (with_reducible refine (sector_yes _ _ _ (by omega) (by omega) (by omega) (by omega)).mono ?_); rintro e w' ⟨rfl, rfl⟩) | (go_at_call 13; (with_reducible refine (page_yes _ _ _ (by omega) (by omega) (by omega) (by omega)).mono ?_); rintro e w' ⟨rfl, rfl⟩) | (go_at_call 15; (with_reducible refine (first_one _ _ (by omega) (by omega)).mono ?_); rintro e w' ⟨rfl, rfl⟩) | (go_at_call 15; (with_reducible refine (first_two _ _ (by omega) (by omega)).mono ?_); rintro e w' ⟨rfl, rfl⟩))
  go_ret
  exact ⟨rfl, rfl⟩
set_option maxHeartbeats 1000000 in
theorem stands_yn (s x : Int) (w : World) (h1 : 16 ≤ s) (h2 : s ≤ 600) (hx1 : -9223372036854775808 ≤ x) (hx2 : x ≤ 9223372036854775807) (hc1 : 1 ≤ x) (hc2 : x ≤ s - 2 - s / 4) (hc3 : x < 2 + s / 4) : Calls Try.prog 3 #[.int .i64 s, .int .i64 x] w fun e w' => e = .returned (.bool true) ∧ w = w' := by
  go_enter Try.func3, Try.ntmps3
  go_wp2_with (first | (go_at_call 9; (with_reducible refine (awake_any _).mono ?_); rintro e w' ⟨rfl, rfl⟩) | (go_at_call 14; (with_reducible refine (right_yes _ _ (by omega) (by omega)).mono ?_); rintro e w' ⟨rfl, rfl⟩) | (go_at_call 10; (with_reducible refine (log_yes _ _ (by omega) (by omega)).mono ?_); rintro e w' ⟨rfl, rfl⟩) | (go_at_call 11; (with_reducible refine (data_yes _ _ (by omega) (by omega)).mono ?_); rintro e w' ⟨rfl, rfl⟩) | (go_at_call 12; (with_reducible refine (sector_yes _ _ _ (by omega) (by omega) (by omega) (by omega)).mono ?_); rintro e w' ⟨rfl, rfl⟩) | (go_at_call 13; (with_reducible refine (page_no _ _ _ (by omega) (by omega) (by omega)).mono ?_); rintro e w' ⟨rfl, rfl⟩) | (go_at_call 15; (with_reducible refine (first_one _ _ (by omega) (by omega)).mono ?_); rintro e w' ⟨rfl, rfl⟩) | (go_at_call 15; (with_reducible refine (first_two _ _ (by omega) (by omega)).mono ?_); rintro e w' ⟨rfl, rfl⟩))
  go_ret
  exact ⟨rfl, rfl⟩
set_option maxHeartbeats 1000000 in
theorem stands_ny (s x : Int) (w : World) (h1 : 16 ≤ s) (h2 : s ≤ 600) (hx1 : -9223372036854775808 ≤ x) (hx2 : x ≤ 9223372036854775807) (hc1 : 1 ≤ x) (hc2 : s - 2 - s / 4 < x) (hc3 : x < s) : Calls Try.prog 3 #[.int .i64 s, .int .i64 x] w fun e w' => e = .returned (.bool true) ∧ w = w' := by
  have hd3 : 2 + s / 4 ≤ x := by omega
  go_enter Try.func3, Try.ntmps3
  go_wp2_with (first | (go_at_call 9; (with_reducible refine (awake_any _).mono ?_); rintro e w' ⟨rfl, rfl⟩) | (go_at_call 14; (with_reducible refine (right_yes _ _ (by omega) (by omega)).mono ?_); rintro e w' ⟨rfl, rfl⟩) | (go_at_call 10; (with_reducible refine (log_yes _ _ (by omega) (by omega)).mono ?_); rintro e w' ⟨rfl, rfl⟩) | (go_at_call 11; (with_reducible refine (data_yes _ _ (by omega) (by omega)).mono ?_); rintro e w' ⟨rfl, rfl⟩) | (go_at_call 12; (with_reducible refine (sector_no _ _ _ (by omega) (by omega) (by omega)).mono ?_); rintro e w' ⟨rfl, rfl⟩) | (go_at_call 13; (with_reducible refine (page_yes _ _ _ (by omega) (by omega) (by omega) (by omega)).mono ?_); rintro e w' ⟨rfl, rfl⟩) | (go_at_call 15; (with_reducible refine (first_one _ _ (by omega) (by omega)).mono ?_); rintro e w' ⟨rfl, rfl⟩) | (go_at_call 15; (with_reducible refine (first_two _ _ (by omega) (by omega)).mono ?_); rintro e w' ⟨rfl, rfl⟩))
  go_ret
  exact ⟨rfl, rfl⟩
set_option maxHeartbeats 1000000 in
theorem stands_nno (s x : Int) (w : World) (h1 : 16 ≤ s) (h2 : s ≤ 600) (hx1 : -9223372036854775808 ≤ x) (hx2 : x ≤ 9223372036854775807) (hc1 : 1 ≤ x) (hc2 : s - 2 - s / 4 < x) (hc3 : s ≤ x) : Calls Try.prog 3 #[.int .i64 s, .int .i64 x] w fun e w' => e = .returned (.bool true) ∧ w = w' := by
  have hd4 : decide (x < s) = false := by simp; omega
  have hd3 : 2 + s / 4 ≤ x := by omega
  go_enter Try.func3, Try.ntmps3
  go_wp2_with (first | (go_at_call 9; (with_reducible refine (awake_any _).mono ?_); rintro e w' ⟨rfl, rfl⟩) | (go_at_call 14; (with_reducible refine (right_yes _ _ (by omega) (by omega)).mono ?_); rintro e w' ⟨rfl, rfl⟩) | (go_at_call 10; (with_reducible refine (log_yes _ _ (by omega) (by omega)).mono ?_); rintro e w' ⟨rfl, rfl⟩) | (go_at_call 11; (with_reducible refine (data_yes _ _ (by omega) (by omega)).mono ?_); rintro e w' ⟨rfl, rfl⟩) | (go_at_call 12; (with_reducible refine (sector_no _ _ _ (by omega) (by omega) (by omega)).mono ?_); rintro e w' ⟨rfl, rfl⟩) | (go_at_call 13; (with_reducible refine (page_no _ _ _ (by omega) (by omega) (by omega)).mono ?_); rintro e w' ⟨rfl, rfl⟩) | (go_at_call 15; (with_reducible refine (first_one _ _ (by omega) (by omega)).mono ?_); rintro e w' ⟨rfl, rfl⟩) | (go_at_call 15; (with_reducible refine (first_two _ _ (by omega) (by omega)).mono ?_); rintro e w' ⟨rfl, rfl⟩))
  go_ret
  exact ⟨rfl, rfl⟩
theorem stands (s x : Int) (w : World) (hx1 : -9223372036854775808 ≤ x) (hx2 : x ≤ 9223372036854775807) : Calls Try.prog 3 #[.int .i64 s, .int .i64 x] w fun e w' => e = .returned (.bool true) ∧ w = w' := by
  by_cases h1 : s < 16
  · exact stands_small s x w h1
  · by_cases h2 : 8192 < s
    · exact stands_great s x w h2
    · by_cases h3 : 600 < s
      · exact stands_big s x w h3 (by omega)
      · by_cases hc1 : x < 1
        · exact stands_nn s x w (by omega) (by omega) hx1 hx2 hc1
        · by_cases hc2 : x ≤ s - 2 - s / 4
          · by_cases hc3 : 2 + s / 4 ≤ x
            · exact stands_yy s x w (by omega) (by omega) hx1 hx2 (by omega) hc2 hc3
            · exact stands_yn s x w (by omega) (by omega) hx1 hx2 (by omega) hc2 (by omega)
          · by_cases hc3 : x < s
            · exact stands_ny s x w (by omega) (by omega) hx1 hx2 (by omega) (by omega) hc3
            · exact stands_nno s x w (by omega) (by omega) hx1 hx2 (by omega) (by omega) (by omega)
end Go.Proofs.Ytlnjohbmdckgkaa
