/-
  bushelref03.Less and Same: they stand to one another as the keys do.
-/
import Derived.Test.YtpnolgghbenekaaFloKey
namespace Go.Proofs.Ytpnolgghbenekaa
open Go.ChangeShapes Go.WideShapes Go.ChangeAt Go.RowKit
set_option linter.unusedVariables false
theorem kindF_nan (b : Nat) (h : nanB b = true) : kindF b = 3 := by unfold kindF; rw [h]; rfl
theorem kindF_num (b : Nat) (h : nanB b = false) : kindF b ≠ 3 := by unfold kindF; rw [h]; split <;> (try split) <;> (try split) <;> simp_all
theorem keyB_nan (b : Nat) (h : nanB b = true) : keyB b = 18446744073709551615 := by unfold keyB; rw [h]; rfl
theorem keyB_num (b : Nat) (h : nanB b = false) : keyB b < 18446744073709551615 := by
  have hr : rg b ≤ irg := by unfold nanB at h; simpa using h
  unfold irg at hr
  unfold keyB; rw [h]; simp only [Bool.false_eq_true, if_false]; split <;> omega
theorem key_eq (a b : Nat) (ha : nanB a = false) (hb : nanB b = false) : decide (keyB a = keyB b) = (decide (sv a = sv b) && (ng a == ng b)) := by
  have h1 : rg a ≤ irg := by unfold nanB at ha; simpa using ha
  have h2 : rg b ≤ irg := by unfold nanB at hb; simpa using hb
  unfold irg at h1 h2
  simp only [keyB, ha, hb]
  unfold sv
  have hl : vl (rg a) = vl (rg b) → rg a = rg b := vl_inj
  have z1 : 0 < rg a → 0 < vl (rg a) := vl_pos
  have z2 : 0 < rg b → 0 < vl (rg b) := vl_pos
  have e3 : rg a = rg b → vl (rg a) = vl (rg b) := fun h => by rw [h]
  generalize vl (rg a) = x at *
  generalize vl (rg b) = y at *
  generalize rg a = r at *
  generalize rg b = s at *
  rw [Bool.eq_iff_iff]
  cases ng a <;> cases ng b <;> simp <;> omega
/-- some draws, however they are written -/
def Drws (w w' : World) : Prop := ∃ k, w' = w.drewN k
theorem drws_refl (w : World) : Drws w w := ⟨0, rfl⟩
theorem drws_step {w w' : World} (h : Drws w w') (n : Nat) : Drws w (w'.drewN n) := by
  obtain ⟨k, rfl⟩ := h; exact ⟨k + n, World.drewN_drewN _ _ _⟩
theorem drws_drew {w w' : World} (h : Drws w w') : Drws w w'.drew := by
  obtain ⟨k, rfl⟩ := h; exact ⟨k + 1, rfl⟩

theorem refFSame_any (a b : Nat) (w : World) (ha : a < 18446744073709551616) (hb : b < 18446744073709551616) :
    Calls Try.prog 69 #[.float .f64 a, .float .f64 b] w fun e w' => e = .returned (.bool (decide (keyB a = keyB b))) ∧ Drws w w' := by
  cases na : nanB a
  · have t1 : ((kindF a : Int) == 3) = false := by rw [beq_eq_false_iff_ne]; have := kindF_num a na; omega
    have t1' : ((kindF a : Int) != 3) = true := by rw [bne_iff_ne]; have := kindF_num a na; omega
    cases nb : nanB b
    · have t2 : ((kindF b : Int) == 3) = false := by rw [beq_eq_false_iff_ne]; have := kindF_num b nb; omega
      have hl := order_lt a b na nb
      have he := order_eq a b na nb
      rw [key_eq a b na nb]
      have NA := Lib.hid na; have NB := Lib.hid nb; clear na nb
      have A := Lib.hid hl; have E := Lib.hid he; clear hl he
      by_cases c1 : sv a < sv b
      · have hl : (FloatKind.f64.format.order a b == some .lt) = true := by rw [A.out]; simp [c1]
        have he : (FloatKind.f64.format.order a b == some .eq) = false := by rw [E.out]; simp; omega
        have C := Lib.hid c1; clear c1
        go_enter Try.func69, Try.ntmps69
        go_wp2_with (first | (go_at_call 103; (first | (with_reducible refine (refKind_any a _ ha).mono ?_) | (with_reducible refine (refKind_any b _ hb).mono ?_)); rintro e w' ⟨rfl, n, rfl⟩) | (go_at_call 104; (first | (with_reducible refine (below_any a _ ha NA.out).mono ?_) | (with_reducible refine (below_any b _ hb NB.out).mono ?_)); rintro e w' ⟨rfl, rfl⟩))
        go_ret
        exact ⟨by have := C.out; simp; omega, by first | exact drws_refl _ | exact drws_step (drws_refl _) _ | exact drws_step (drws_step (drws_refl _) _) _ | exact drws_step (drws_step (drws_step (drws_refl _) _) _) _ | exact drws_step (drws_step (drws_step (drws_step (drws_refl _) _) _) _) _⟩
      · have hl : (FloatKind.f64.format.order a b == some .lt) = false := by rw [A.out]; simp [c1]
        by_cases c2 : sv a = sv b
        · have he : (FloatKind.f64.format.order a b == some .eq) = true := by rw [E.out]; simp [c2]
          have C := Lib.hid c1; have D := Lib.hid c2; clear c1 c2
          cases ga : ng a
          all_goals
            cases gb : ng b
            all_goals
              skip
              go_enter Try.func69, Try.ntmps69
              go_wp2_with (first | (go_at_call 103; (first | (with_reducible refine (refKind_any a _ ha).mono ?_) | (with_reducible refine (refKind_any b _ hb).mono ?_)); rintro e w' ⟨rfl, n, rfl⟩) | (go_at_call 104; (first | (with_reducible refine (below_any a _ ha NA.out).mono ?_) | (with_reducible refine (below_any b _ hb NB.out).mono ?_)); rintro e w' ⟨rfl, rfl⟩))
              go_ret
              exact ⟨by simp [D.out, ga, gb], by first | exact drws_refl _ | exact drws_step (drws_refl _) _ | exact drws_step (drws_step (drws_refl _) _) _ | exact drws_step (drws_step (drws_step (drws_refl _) _) _) _ | exact drws_step (drws_step (drws_step (drws_step (drws_refl _) _) _) _) _⟩
        · have he : (FloatKind.f64.format.order a b == some .eq) = false := by rw [E.out]; simp [c2]
          have C := Lib.hid c1; have D := Lib.hid c2; clear c1 c2
          go_enter Try.func69, Try.ntmps69
          go_wp2_with (first | (go_at_call 103; (first | (with_reducible refine (refKind_any a _ ha).mono ?_) | (with_reducible refine (refKind_any b _ hb).mono ?_)); rintro e w' ⟨rfl, n, rfl⟩) | (go_at_call 104; (first | (with_reducible refine (below_any a _ ha NA.out).mono ?_) | (with_reducible refine (below_any b _ hb NB.out).mono ?_)); rintro e w' ⟨rfl, rfl⟩))
          go_ret
          exact ⟨by simp [D.out], by first | exact drws_refl _ | exact drws_step (drws_refl _) _ | exact drws_step (drws_step (drws_refl _) _) _ | exact drws_step (drws_step (drws_step (drws_refl _) _) _) _ | exact drws_step (drws_step (drws_step (drws_step (drws_refl _) _) _) _) _⟩
    · have t2 : ((kindF b : Int) == 3) = true := by rw [kindF_nan b nb]; rfl
      have t3 : ((kindF a : Int) == (kindF b : Int)) = false := by rw [beq_eq_false_iff_ne, kindF_nan b nb]; have := kindF_num a na; omega
      have hlt : decide (keyB a = keyB b) = false := by have := keyB_num a na; rw [keyB_nan b nb]; simp; omega
      rw [hlt]
      have NA := Lib.hid na; have NB := Lib.hid nb; have HL := Lib.hid hlt; clear na nb hlt
      go_enter Try.func69, Try.ntmps69
      go_wp2_with (go_at_call 103; (first | (with_reducible refine (refKind_any a _ ha).mono ?_) | (with_reducible refine (refKind_any b _ hb).mono ?_)); rintro e w' ⟨rfl, n, rfl⟩)
      go_ret
      exact ⟨rfl, by first | exact drws_refl _ | exact drws_step (drws_refl _) _ | exact drws_step (drws_step (drws_refl _) _) _ | exact drws_step (drws_step (drws_step (drws_refl _) _) _) _ | exact drws_step (drws_step (drws_step (drws_step (drws_refl _) _) _) _) _⟩
  · have t1 : ((kindF a : Int) == 3) = true := by rw [kindF_nan a na]; rfl
    have t3 : ((kindF a : Int) == (kindF b : Int)) = decide (keyB a = keyB b) := by
      rw [kindF_nan a na, keyB_nan a na]
      cases nb : nanB b
      · have h1 := kindF_num b nb; have h2 := keyB_num b nb
        rw [decide_eq_false (by omega), beq_eq_false_iff_ne]; omega
      · rw [kindF_nan b nb, keyB_nan b nb]; rfl
    generalize decide (keyB a = keyB b) = r at *
    have NA := Lib.hid na; clear na
    go_enter Try.func69, Try.ntmps69
    go_wp2_with (go_at_call 103; (first | (with_reducible refine (refKind_any a _ ha).mono ?_) | (with_reducible refine (refKind_any b _ hb).mono ?_)); rintro e w' ⟨rfl, n, rfl⟩)
    go_ret
    exact ⟨rfl, by first | exact drws_refl _ | exact drws_step (drws_refl _) _ | exact drws_step (drws_step (drws_refl _) _) _ | exact drws_step (drws_step (drws_step (drws_refl _) _) _) _ | exact drws_step (drws_step (drws_step (drws_step (drws_refl _) _) _) _) _⟩
end Go.Proofs.Ytpnolgghbenekaa
