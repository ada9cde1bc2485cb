/-
  bushelref08.Read of a number with a sign; of bytes.
  bushelref08.Read of things of every kind.
  bushelref07.GetT: the document's text of any bytes is the same.
-/
import Derived.Test.YtfhmaincnlaapaaGetWalks
import Derived.Test.YtfhmaincnlaapaaBlk
import Derived.Test.YtfhmaincnlaapaaRefRead
import Derived.Test.YtfhmaincnlaapaaRefGetI
import Derived.Test.YtfhmaincnlaapaaGetFAny
namespace Go.Proofs.Ytfhmaincnlaapaa
open Go.ChangeShapes Go.WideShapes Go.ChangeAt Go.RowKit
set_option linter.unusedVariables false

theorem str_app (l m : List UInt8) : (⟨l.toArray⟩ : ByteArray) ++ ⟨m.toArray⟩ = ⟨(l ++ m).toArray⟩ := by
  apply ByteArray.ext
  rw [ByteArray.data_append]
  simp
/-- string(b[i:i+1]) -/
theorem conv1 {w : World} {a : Addr} {B p k c : Nat} {x : UInt8} (h : w.cell? (a.add p) = some (.int .u8 (x.toNat : Int))) (hb : a.block < B) : (convert 53 9 (.slice (some (a.add p)) 1 (c - k))).run Try.prog w = .ok (.string ⟨[x].toArray⟩) w := by
  refine run_str (B := B) (l := [x]) ⟨rfl, fun _ => ⟨_, rfl, by rw [block_add]; exact hb, fun j u hu => ?_⟩⟩ Try.underlying53 Try.underlying5 Try.underlying9
  cases j with
  | zero => rw [add_zero', h]; exact hu
  | succ j => simp [u8s] at hu
def TRel (t : List UInt8) (w : World) (v i : Value) (wr : World) : Prop := ∃ (p : Nat) (acc : List UInt8), p ≤ t.length ∧ acc.length ≤ p ∧ i = .int .i64 (p : Int) ∧ v = .string ⟨acc.toArray⟩ ∧ Drw w wr ∧ Hid (getT t = comb acc p (getT (t.drop p)))
end Go.Proofs.Ytfhmaincnlaapaa
namespace Go.Proofs.Ytfhmaincnlaapaa
open Go.ChangeShapes Go.WideShapes Go.ChangeAt Go.RowKit
set_option linter.unusedVariables false

/-- what was read -/
structure GotS where
  u : Nat
  i : Int
  t : List UInt8
  n : Nat
  e : Nat
def GotS.v (g : GotS) : Value := .agg #[.int .u64 (g.u : Int), .int .i64 g.i, .string ⟨g.t.toArray⟩, .int .i64 (g.n : Int), .int .i64 (g.e : Int)]
def got0S (e : Nat) : GotS := ⟨0, 0, [], 0, e⟩
def mx (ms : Int) : Nat := (max ms 0).toNat
/-- what the document's Read says -/
def rdU (mu : Nat) (t : List UInt8) : GotS := if (getU t).2.2 ≠ 0 then got0S (getU t).2.2 else if mu < (getU t).1 then got0S 2 else ⟨(getU t).1, 0, [], (getU t).2.1, 0⟩
def rdI (t : List UInt8) : GotS := if (getI t).2.2 ≠ 0 then got0S (getI t).2.2 else ⟨0, (getI t).1, [], (getI t).2.1, 0⟩
def rdF (t : List UInt8) : GotS := if (rgetF t).2 ≠ 0 then got0S (rgetF t).2 else ⟨(rgetF t).1, 0, [], 8, 0⟩
def rdT (ms : Int) (t : List UInt8) : GotS := if (getT t).2.2 ≠ 0 then got0S (getT t).2.2 else if mx ms < (getT t).1.length then got0S 4 else ⟨0, 0, (getT t).1, (getT t).2.1, 0⟩
def rdB (ms : Int) (t : List UInt8) : GotS :=
  if (getU t).2.2 ≠ 0 then got0S (getU t).2.2 else if mx ms < (getU t).1 then got0S 4 else if t.length - (getU t).2.1 < (getU t).1 then got0S 5
  else ⟨0, 0, (t.drop (getU t).2.1).take (getU t).1, (getU t).2.1 + (getU t).1, 0⟩

abbrev askV (d : Int) (mu : Nat) (ai : Int) (f : Nat) (s : ByteArray) (ms : Int) : Value := .agg #[.int .i64 d, .int .u64 (mu : Int), .int .i64 ai, .float .f64 f, .string s, .int .i64 ms]
section
variable (mu : Nat) (ai : Int) (f : Nat) (s : ByteArray) (ms : Int) (A : Option Addr) (m c B : Nat) (t : List UInt8) (w : World)

theorem mx_lt (ms : Int) (n : Nat) : decide (max ms 0 < (n : Int)) = decide (mx ms < n) := by
  unfold mx
  exact decide_eq_decide.2 (by omega)
end
end Go.Proofs.Ytfhmaincnlaapaa
namespace Go.Proofs.Ytfhmaincnlaapaa
open Go.ChangeShapes Go.WideShapes Go.ChangeAt Go.RowKit
set_option linter.unusedVariables false

section
variable (mu : Nat) (ai : Int) (f : Nat) (s : ByteArray) (ms : Int) (A : Option Addr) (m c B : Nat) (t : List UInt8) (w : World)
/-- a cut of bytes reads as a cut of the list -/
theorem conv_cut {w : World} {B n k N : Nat} {a : Addr} {t : List UInt8} (h : Rd w B 1 (some a) n (u8s t)) (hk : k < n) (hN : k + N ≤ n) : ∀ cc, (convert 53 9 (.slice (some (a.add k)) N cc)).run Try.prog w = .ok (.string ⟨((t.drop k).take N).toArray⟩) w := by
  intro cc
  have h1 := h.cut (k := k) (c := n + 1) (by omega) (by omega)
  rw [if_neg (by omega), Nat.mul_one, u8s_drop] at h1
  have h2 := h1.take (k := N) (by omega)
  simp only [Option.map_some] at h2
  exact run_str h2 Try.underlying53 Try.underlying5 Try.underlying9
theorem mx_eq (ms : Int) : (if ms < 0 then 0 else ms) = (mx ms : Int) := by
  unfold mx
  split <;> omega
/-- an empty cut -/
theorem conv_nil {w : World} (A : Option Addr) (cc : Nat) : (convert 53 9 (.slice A 0 cc)).run Try.prog w = .ok (.string ⟨#[]⟩) w := by
  exact run_str (B := 0) (l := []) ⟨rfl, fun h => absurd h (by omega)⟩ Try.underlying53 Try.underlying5 Try.underlying9
end
end Go.Proofs.Ytfhmaincnlaapaa
