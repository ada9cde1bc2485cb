/-
  THE WALK of bushellaw21.AreaBack: it answers true and leaves the world as it is.
-/
import Derived.Test.YtlnjohbmdckgkaaArea
namespace Go.Proofs.Ytlnjohbmdckgkaa
open Go.ChangeShapes Go.WideShapes Go.ChangeAt Go.RowKit
set_option maxRecDepth 100000

set_option maxHeartbeats 1000000 in
theorem back_off (s x y : Int) (w : World) (h : s < 16 ∨ 8192 < s) : Calls Try.prog 4 #[.int .i64 s, .int .i64 x, .int .i64 y] w fun e w' => e = .returned (.bool true) ∧ w = w' := by
  have H := Lib.hid h; clear h
  go_enter Try.func4, Try.ntmps4
  go_wp2_with (first | (go_at_call 9; (with_reducible refine (awake_any _).mono ?_); rintro e w' ⟨rfl, rfl⟩) | (go_at_call 12; (with_reducible refine (sector_off s x _ H.out).mono ?_); rintro e w' ⟨rfl, rfl⟩) | (go_at_call 12; (with_reducible refine (sector_off s y _ H.out).mono ?_); rintro e w' ⟨rfl, rfl⟩))
  go_ret
  exact ⟨rfl, rfl⟩
set_option maxHeartbeats 1000000 in
theorem back_nx (s x y : Int) (w : World) (h1 : 16 ≤ s) (h2 : s ≤ 8192)  (hx : x < 1 ∨ s - 2 - s / 4 < x) (hy1 : 1 ≤ y) (hy2 : y ≤ s - 2 - s / 4) : Calls Try.prog 4 #[.int .i64 s, .int .i64 x, .int .i64 y] w fun e w' => e = .returned (.bool true) ∧ w = w' := by
  have H := Lib.hid hx; clear hx
  go_enter Try.func4, Try.ntmps4
  go_wp2_with (first | (go_at_call 9; (with_reducible refine (awake_any _).mono ?_); rintro e w' ⟨rfl, rfl⟩) | (go_at_call 12; (with_reducible refine (sector_no s x _ h1 h2 H.out).mono ?_); rintro e w' ⟨rfl, rfl⟩) | (go_at_call 12; (with_reducible refine (sector_yes s y _ (by omega) (by omega) (by omega) (by omega)).mono ?_); rintro e w' ⟨rfl, rfl⟩))
  go_ret
  exact ⟨rfl, rfl⟩
set_option maxHeartbeats 1000000 in
theorem back_nn (s x y : Int) (w : World) (h1 : 16 ≤ s) (h2 : s ≤ 8192)  (hx : x < 1 ∨ s - 2 - s / 4 < x) (hy : y < 1 ∨ s - 2 - s / 4 < y) : Calls Try.prog 4 #[.int .i64 s, .int .i64 x, .int .i64 y] w fun e w' => e = .returned (.bool true) ∧ w = w' := by
  have H := Lib.hid hx; clear hx
  have J := Lib.hid hy; clear hy
  go_enter Try.func4, Try.ntmps4
  go_wp2_with (first | (go_at_call 9; (with_reducible refine (awake_any _).mono ?_); rintro e w' ⟨rfl, rfl⟩) | (go_at_call 12; (with_reducible refine (sector_no s x _ h1 h2 H.out).mono ?_); rintro e w' ⟨rfl, rfl⟩) | (go_at_call 12; (with_reducible refine (sector_no s y _ h1 h2 J.out).mono ?_); rintro e w' ⟨rfl, rfl⟩))
  go_ret
  exact ⟨rfl, rfl⟩
set_option maxHeartbeats 1000000 in
theorem back_ny (s x y : Int) (w : World) (h1 : 16 ≤ s) (h2 : s ≤ 8192)  (hx1 : 1 ≤ x) (hx2 : x ≤ s - 2 - s / 4) (hy : y < 1 ∨ s - 2 - s / 4 < y) : Calls Try.prog 4 #[.int .i64 s, .int .i64 x, .int .i64 y] w fun e w' => e = .returned (.bool true) ∧ w = w' := by
  have H := Lib.hid hy; clear hy
  go_enter Try.func4, Try.ntmps4
  go_wp2_with (first | (go_at_call 9; (with_reducible refine (awake_any _).mono ?_); rintro e w' ⟨rfl, rfl⟩) | (go_at_call 12; (with_reducible refine (sector_yes s x _ (by omega) (by omega) (by omega) (by omega)).mono ?_); rintro e w' ⟨rfl, rfl⟩) | (go_at_call 12; (with_reducible refine (sector_no s y _ h1 h2 H.out).mono ?_); rintro e w' ⟨rfl, rfl⟩))
  go_ret
  exact ⟨rfl, rfl⟩
set_option maxHeartbeats 1000000 in
theorem back_eq (s x y : Int) (w : World) (h1 : 16 ≤ s) (h2 : s ≤ 8192)  (hx1 : 1 ≤ x) (hx2 : x ≤ s - 2 - s / 4) (hy1 : 1 ≤ y) (hy2 : y ≤ s - 2 - s / 4) (he : x = y) : Calls Try.prog 4 #[.int .i64 s, .int .i64 x, .int .i64 y] w fun e w' => e = .returned (.bool true) ∧ w = w' := by
  subst he
  have b1 : 2 + s / 4 ≤ 2 + s / 4 + x - 1 := by omega
  have b2 : 2 + s / 4 + x - 1 < s := by omega
  have e1 : (2 + s / 4 + x - 1 - (2 + s / 4) + 1 == x) = true := by rw [beq_iff_eq]; omega
  have e2 : (2 + s / 4 + (s - 2 - s / 4) == s) = true := by rw [beq_iff_eq]; omega
  go_enter Try.func4, Try.ntmps4
  go_wp2_with (first | (go_at_call 9; (with_reducible refine (awake_any _).mono ?_); rintro e w' ⟨rfl, rfl⟩) | (go_at_call 12; (with_reducible refine (sector_yes s x _ (by omega) (by omega) (by omega) (by omega)).mono ?_); rintro e w' ⟨rfl, rfl⟩) | (go_at_call 13; (with_reducible refine (page_yes _ _ _ h1 h2 (by omega) (by omega)).mono ?_); rintro e w' ⟨rfl, rfl⟩) | (go_at_call 10; (with_reducible refine (log_yes _ _ h1 h2).mono ?_); rintro e w' ⟨rfl, rfl⟩) | (go_at_call 11; (with_reducible refine (data_yes _ _ h1 h2).mono ?_); rintro e w' ⟨rfl, rfl⟩))
  go_ret
  exact ⟨rfl, rfl⟩
set_option maxHeartbeats 1000000 in
theorem back_other (s x y : Int) (w : World) (h1 : 16 ≤ s) (h2 : s ≤ 8192)  (hx1 : 1 ≤ x) (hx2 : x ≤ s - 2 - s / 4) (hy1 : 1 ≤ y) (hy2 : y ≤ s - 2 - s / 4) (he : x ≠ y) : Calls Try.prog 4 #[.int .i64 s, .int .i64 x, .int .i64 y] w fun e w' => e = .returned (.bool true) ∧ w = w' := by
  have b1 : 2 + s / 4 ≤ 2 + s / 4 + x - 1 := by omega
  have b2 : 2 + s / 4 + x - 1 < s := by omega
  have e1 : (2 + s / 4 + x - 1 - (2 + s / 4) + 1 == x) = true := by rw [beq_iff_eq]; omega
  have e2 : (2 + s / 4 + (s - 2 - s / 4) == s) = true := by rw [beq_iff_eq]; omega
  have e3 : (2 + s / 4 + x - 1 == 2 + s / 4 + y - 1) = false := by rw [beq_eq_false_iff_ne]; omega
  have e4 : (x == y) = false := by rw [beq_eq_false_iff_ne]; exact he
  clear he
  go_enter Try.func4, Try.ntmps4
  go_wp2_with (first | (go_at_call 9; (with_reducible refine (awake_any _).mono ?_); rintro e w' ⟨rfl, rfl⟩) | (go_at_call 12; (with_reducible refine (sector_yes s x _ (by omega) (by omega) (by omega) (by omega)).mono ?_); rintro e w' ⟨rfl, rfl⟩) | (go_at_call 12; (with_reducible refine (sector_yes s y _ (by omega) (by omega) (by omega) (by omega)).mono ?_); rintro e w' ⟨rfl, rfl⟩) | (go_at_call 13; (with_reducible refine (page_yes _ _ _ h1 h2 (by omega) (by omega)).mono ?_); rintro e w' ⟨rfl, rfl⟩) | (go_at_call 10; (with_reducible refine (log_yes _ _ h1 h2).mono ?_); rintro e w' ⟨rfl, rfl⟩) | (go_at_call 11; (with_reducible refine (data_yes _ _ h1 h2).mono ?_); rintro e w' ⟨rfl, rfl⟩))
  go_ret
  exact ⟨rfl, rfl⟩
theorem back (s x y : Int) (w : World) : Calls Try.prog 4 #[.int .i64 s, .int .i64 x, .int .i64 y] w fun e w' => e = .returned (.bool true) ∧ w = w' := by
  by_cases h : s < 16 ∨ 8192 < s
  · exact back_off s x y w h
  · by_cases hx : x < 1 ∨ s - 2 - s / 4 < x
    · by_cases hy : y < 1 ∨ s - 2 - s / 4 < y
      · exact back_nn s x y w (by omega) (by omega) hx hy
      · exact back_nx s x y w (by omega) (by omega) hx (by omega) (by omega)
    · by_cases hy : y < 1 ∨ s - 2 - s / 4 < y
      · exact back_ny s x y w (by omega) (by omega) (by omega) (by omega) hy
      · by_cases he : x = y
        · exact back_eq s x y w (by omega) (by omega) (by omega) (by omega) (by omega) (by omega) he
        · exact back_other s x y w (by omega) (by omega) (by omega) (by omega) (by omega) (by omega) he
end Go.Proofs.Ytlnjohbmdckgkaa
