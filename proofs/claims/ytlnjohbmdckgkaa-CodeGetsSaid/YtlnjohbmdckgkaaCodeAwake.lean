/-
  bushellaw07.awake: the chapter's examples hold.
-/
import Derived.Test.YtlnjohbmdckgkaaCodeLess
import Derived.Test.YtlnjohbmdckgkaaFloLess
namespace Go.Proofs.Ytlnjohbmdckgkaa
open Go.ChangeShapes Go.WideShapes Go.ChangeAt Go.RowKit
set_option linter.unusedVariables false

theorem lit1 : (⟨(encU 300).toArray⟩ : ByteArray) = ⟨#[2, 1, 44]⟩ := by decide
theorem lit2 : (⟨(encI (-1)).toArray⟩ : ByteArray) = ⟨#[8]⟩ := by decide
theorem lit3 : (⟨(encI (-300)).toArray⟩ : ByteArray) = ⟨#[6, 254, 212]⟩ := by decide
theorem lit4 : (⟨(encT [97, 0, 98]).toArray⟩ : ByteArray) = ⟨#[97, 0, 1, 98, 0, 0]⟩ := by decide
theorem lit7 : ltB (be 8 (keyB 13830554455654793216)) (be 8 (keyB 4611686018427387904)) = true := by decide
theorem u300 (w : World) : Calls Try.prog 18 #[.int .u64 300] w fun e w' => ∃ v', e = .returned v' ∧ w'.ownsRow w.heap.size 5 1 v' (wd 300 + 1) (u8s (encU 300)) ∧ Below w.heap.size w w' := codeU_any 300 w (by omega)
set_option maxRecDepth 20000 in
theorem awake07_any (w : World) : Calls Try.prog 16 #[] w fun e w' => e = .returned (.bool true) ∧ Below w.heap.size w w' := by
  have h7 := lit7
  go_enter Try.func16, Try.ntmps16
  go_wp2_with (first
    | (go_at_call 18; (with_reducible refine (u300 _).mono ?_); rintro e w1 ⟨v1, rfl, ho1, hb1⟩; have hc1 := run_str_own (P := Try.prog) (src := 36) (dst := 9) ho1 Try.underlying36 Try.underlying5 Try.underlying9; rw [lit1] at hc1; clear ho1)
    | (go_at_call 19; (with_reducible refine (codeI_any (-1) _ (by omega) (by omega)).mono ?_); rintro e w2 ⟨v2, rfl, ho2, hb2⟩; have hc2 := run_str_own (P := Try.prog) (src := 36) (dst := 9) ho2 Try.underlying36 Try.underlying5 Try.underlying9; rw [lit2] at hc2; clear ho2)
    | (go_at_call 19; (with_reducible refine (codeI_any (-300) _ (by omega) (by omega)).mono ?_); rintro e w3 ⟨v3, rfl, ho3, hb3⟩; have hc3 := run_str_own (P := Try.prog) (src := 36) (dst := 9) ho3 Try.underlying36 Try.underlying5 Try.underlying9; rw [lit3] at hc3; clear ho3)
    | (go_at_call 22; (with_reducible refine (codeT_any _ _ (by decide)).mono ?_); rintro e w4 ⟨v4, rfl, ho4, hb4⟩; have hc4 := run_str_own (P := Try.prog) (src := 36) (dst := 9) ho4 Try.underlying36 Try.underlying5 Try.underlying9; rw [lit4] at hc4; clear ho4)
    | (go_at_call 20; (with_reducible refine (codeF_any 13830554455654793216 _ (by omega)).mono ?_); rintro e w5 ⟨v5, rfl, ho5, hb5⟩; obtain ⟨A5, c5, rfl, hc5, hm5, hn5⟩ := own_form ho5)
    | (go_at_call 20; (with_reducible refine (codeF_any 4611686018427387904 _ (by omega)).mono ?_); rintro e w6 ⟨v6, rfl, ho6, hb6⟩; obtain ⟨A6, c6, rfl, hc6, hm6, hn6⟩ := own_form ho6; have ho5' := Rd.own (own_below ho5 hb6 (Nat.le_refl _)); have ho6' := Rd.own ho6)
    | (go_at_call 17; (with_reducible refine (less_any _ _ _ _ _ _ _ _ _ _ ho5' ho6' hn5 hn6).mono ?_); rintro e w7 ⟨rfl, n7, rfl⟩))
  go_ret
  exact ⟨by rw [← h7]; rfl, belD (belT (belT (belT (belT (belT hb1 hb2) hb3) hb4) hb5) hb6) _⟩
end Go.Proofs.Ytlnjohbmdckgkaa
