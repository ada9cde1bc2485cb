/-
  THE READER's U, I, T.
-/
import Derived.Test.YtpnolgghbenekaaBufReadT
namespace Go.Proofs.Ytpnolgghbenekaa
open Go.ChangeShapes Go.WideShapes Go.ChangeAt Go.RowKit
set_option linter.unusedVariables false

/-- what a reader's U comes to: the number, the place, the fault -/
def inU (t : List UInt8) (p e most : Nat) : Nat × Nat × Nat :=
  (stepV 0 (getU (t.drop p)).1 (stepE e (getU (t.drop p)).2.2 (overE (getU (t.drop p)).1 most)),
   stepP p (getU (t.drop p)).2.1 (stepE e (getU (t.drop p)).2.2 (overE (getU (t.drop p)).1 most)), stepE e (getU (t.drop p)).2.2 (overE (getU (t.drop p)).1 most))

theorem inU_any (w : World) (g : Nat) (t : List UInt8) (p e most : Nat) (h : InS w g t p e) :
    Calls Try.prog 55 #[.pointer (some ⟨g, 0, none⟩), .int .u64 (most : Int)] w
      fun y w' => y = .returned (.int .u64 ((inU t p e most).1 : Int)) ∧ InS w' g t (inU t p e most).2.1 (inU t p e most).2.2 ∧ Only g w w' := by
  have hgl := h.lt
  have hi : InS (w.alloc (.cells #[.int .u64 (most : Int)] 35)) g t p e := by
    exact h.below ((Below.refl _ w).alloc (Nat.le_refl _) _) hgl
  have hc : (w.alloc (.cells #[.int .u64 (most : Int)] 35)).cell? ⟨w.heap.size, 0, none⟩ = some (.int .u64 (most : Int)) := by simp [go_sem]
  have hr := readU_any _ g w.heap.size t p e (getU (t.drop p)).1 (getU (t.drop p)).2.1 (getU (t.drop p)).2.2 (overE (getU (t.drop p)).1 most) hi _ hc (by simp)
    (fun _ W A c hgW hR h1 h2 => (getU_any A (t.length - p) c g (t.drop p) W hR h1 h2).mono fun y w' ⟨hy, k⟩ => ⟨hy, Drw.below k (Below.refl _ _)⟩)
    (fun W hW => inU1_any W _ _ _ hW) (fun _ h0 => by have := getU_fits (t.drop p) h0; rwa [List.length_drop] at this)
  have HR := Lib.hid hr; clear hr hc
  go_enter Try.func55, Try.ntmps55
  go_wp2_with (go_at_call 92; (with_reducible refine HR.out.mono ?_); rintro y w1 ⟨rfl, hi1, ho1⟩)
  go_ret
  exact ⟨rfl, hi1, (((Only.refl g w).alloc _).trans ho1)⟩

theorem all64_any (x : Int) (w : World) : Calls Try.prog 111 #[.int .i64 x] w fun y w' => y = .returned (.int .i64 ((0 : Nat) : Int)) ∧ w = w' := by
  go_enter Try.func111, Try.ntmps111
  go_wp2
  go_ret
  exact ⟨rfl, rfl⟩
end Go.Proofs.Ytpnolgghbenekaa
