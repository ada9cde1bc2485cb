/-
  code.GetI: the number with a sign that any bytes begin with.
-/
import Derived.Test.YtfhmaincnlaapaaGetWalks
namespace Go.Proofs.Ytfhmaincnlaapaa
open Go.ChangeShapes Go.WideShapes Go.ChangeAt Go.RowKit
set_option linter.unusedVariables false

theorem getI_cons (x : UInt8) (t : List UInt8) (n : Nat) (b : Bool) (p : List UInt8) (hs : sgn x = (n, b)) (hp : prt x t = p) (hn : n ≤ 8) :
    getI (x :: t) = if n = 8 ∧ 127 < (p.headD 0).toNat then (0, 0, 6) else if (numB p n).2 = 0 then (if b then -((numB p n).1 : Int) - 1 else (numB p n).1, n + 1, 0) else (0, 0, (numB p n).2) := by
  unfold getI
  simp only [hs, hp]
  rw [if_neg (by omega)]
theorem i64_small (x : Nat) (h : x < 9223372036854775808) : IntKind.i64.wrap (x : Int) = (x : Int) := IntWalk.i64_in _ (by omega)
theorem bits_not8 (y : Nat) (h : y < 256) : bits .xor .u8 IntKind.u8.max (y : Int) = ((255 - y : Nat) : Int) := by
  have e : IntKind.u8.max = ((255 : Nat) : Int) := by decide
  rw [e, u8_xor_nat _ _ (by omega) h]
  congr 1
  have e : (BitVec.allOnes 8 ^^^ BitVec.ofNat 8 y).toNat = 255 - y := by
    rw [BitVec.allOnes_xor, BitVec.toNat_not, BitVec.toNat_ofNat, Nat.mod_eq_of_lt (by omega)]
  rw [BitVec.toNat_xor, BitVec.toNat_ofNat, Nat.mod_eq_of_lt (by omega)] at e
  simpa using e
/-- the number's contract, by the case of its error -/
theorem number_case (A : Option Addr) (m c n : Nat) (t : List UInt8) (w : World) (h : Rd w w.heap.size 1 A m (u8s t)) (hn : n ≤ 8) (hm : m ≤ 8) (N : Nat × Nat) (hN : numB t n = N) :
    Calls Try.prog 178 #[.slice A m c, .int .i64 (n : Int)] w fun e w' => e = .returned (.tuple #[.int .u64 (N.1 : Nat), .int .i64 (N.2 : Nat)]) ∧ ∃ k, w' = w.drewN k := by
  have := number_any A m c n w.heap.size t w h hn (by unfold maxLen; omega)
  rw [hN] at this
  exact this

theorem flip_cell (b : UInt8) (u : Value) (h : u = .int .u8 (bits .xor .u8 IntKind.u8.max (b.toNat : Int))) : u = .int .u8 (((255 - b : UInt8)).toNat : Int) := by
  have hb := b.toNat_lt
  rw [h, bits_not8 _ hb, UInt8.toNat_sub_of_le _ _ (by rw [UInt8.le_iff_toNat_le]; simp; omega)]
  rfl
theorem map_take_snoc (l : List UInt8) (j : Nat) (h : j < l.length) : (l.map (255 - ·)).take (j + 1) = (l.map (255 - ·)).take j ++ [255 - l[j]] := by
  rw [List.take_succ_eq_append_getElem (by simpa using h), List.getElem_map]
theorem rd_zero (w : World) (B size : Nat) (A : Option Addr) : Rd w B size A 0 (u8s []) := ⟨by simp [u8s], fun h => absurd h (by omega)⟩
end Go.Proofs.Ytfhmaincnlaapaa
