/-
  tree.Break, bushelref25.Break: the same test of a key; seal.Room.
-/
import Derived.Test.YtpnolgghbenekaaBlk
namespace Go.Proofs.Ytpnolgghbenekaa
open Go.ChangeShapes Go.WideShapes Go.ChangeAt Go.RowKit
set_option linter.unusedVariables false

theorem room_any (w : World) : Calls Try.prog 54 #[] w fun e w' => e = .returned (.int .i64 1001) ∧ w = w' := by
  go_enter Try.func54, Try.ntmps54
  go_wp2
  go_ret
  exact ⟨rfl, rfl⟩
/-- a key's hash at a level -/
def hashI (key : Nat) (level : Int) : Int := IntKind.u64.wrap (IntKind.u64.wrap (IntKind.u64.wrap ((key : Int) + IntKind.u64.wrap level) + 1) * 11400714819323198485)
def brkB (key : Nat) (level : Int) : Bool := decide (hashI key level < 2305843009213693952)
theorem div_test (x : Int) (h : 0 ≤ x) : (x / 2305843009213693952 == 0) = decide (x < 2305843009213693952) := by
  rw [Bool.eq_iff_iff]; simp; omega
theorem hashI_nonneg (key : Nat) (level : Int) : 0 ≤ hashI key level := by
  unfold hashI; rw [IntKind.wrap_u64]; exact Int.emod_nonneg _ (by decide)
theorem break_any (key : Nat) (level : Int) (w : World) :
    Calls Try.prog 19 #[.int .u64 (key : Int), .int .i64 level] w fun e w' => e = .returned (.bool (brkB key level)) ∧ w = w' := by
  go_enter Try.func19, Try.ntmps19
  go_wp2
  go_ret
  exact ⟨congrArg (fun b => Ending.returned (Value.bool b)) (div_test (hashI key level) (hashI_nonneg key level)), rfl⟩
theorem refBreak_any (key : Nat) (level : Int) (w : World) :
    Calls Try.prog 20 #[.int .u64 (key : Int), .int .i64 level] w fun e w' => e = .returned (.bool (brkB key level)) ∧ w = w' := by
  go_enter Try.func20, Try.ntmps20
  go_wp2
  go_ret
  exact ⟨rfl, rfl⟩
end Go.Proofs.Ytpnolgghbenekaa
