/-
  bushellaw07.awake: the chapter's examples hold.
-/
import Derived.Test.YtpnolgghbenekaaCodeLess
import Derived.Test.YtpnolgghbenekaaFloLess
namespace Go.Proofs.Ytpnolgghbenekaa
open Go.ChangeShapes Go.WideShapes Go.ChangeAt Go.RowKit
set_option linter.unusedVariables false

theorem lit1 : (⟨(encU 300).toArray⟩ : ByteArray) = ⟨#[2, 1, 44]⟩ := by decide
theorem lit2 : (⟨(encI (-1)).toArray⟩ : ByteArray) = ⟨#[8]⟩ := by decide
theorem lit3 : (⟨(encI (-300)).toArray⟩ : ByteArray) = ⟨#[6, 254, 212]⟩ := by decide
theorem lit4 : (⟨(encT [97, 0, 98]).toArray⟩ : ByteArray) = ⟨#[97, 0, 1, 98, 0, 0]⟩ := by decide
theorem lit7 : ltB (be 8 (keyB 13830554455654793216)) (be 8 (keyB 4611686018427387904)) = true := by decide
theorem u300 (w : World) : Calls Try.prog 106 #[.int .u64 300] w fun e w' => ∃ v', e = .returned v' ∧ w'.ownsRow w.heap.size 5 1 v' (wd 300 + 1) (u8s (encU 300)) ∧ Below w.heap.size w w' := codeU_any 300 w (by omega)
end Go.Proofs.Ytpnolgghbenekaa
