/-
  bushelref08.Read (U), bushelref11.Reader: Ask, U, End.
-/
import Derived.Test.YtfhmaincnlaapaaRefCode
import Derived.Test.YtfhmaincnlaapaaBufInU
import Derived.StillTailTactics
namespace Go.Proofs.Ytfhmaincnlaapaa
open Go.ChangeShapes Go.WideShapes Go.ChangeAt Go.RowKit
set_option linter.unusedVariables false

section
variable {w w' : World} {g p e : Nat} {t : List UInt8}
end

/-- three new blocks, and some draws -/
def Lit3 (w w' : World) : Prop := ∃ c1 t1 c2 t2 c3 t3 k, w' = (((w.alloc (.cells c1 t1)).alloc (.cells c2 t2)).alloc (.cells c3 t3)).drewN k
theorem Lit3.below {w w' : World} (h : Lit3 w w') : Below w.heap.size w w' := by
  obtain ⟨_, _, _, _, _, _, k, rfl⟩ := h; exact belD (belA (belA (belA (belR w) _) _) _) k
theorem ask_keep {W W' : World} {g s mu f : Nat} {d ai ms : Int} {at_ : ByteArray} {v0 v1 : Value} {n : Nat} (hg : g < s) (hb : Below n W W') (hn : s + 2 ≤ n) (h : W.cell? ⟨s, 0, none⟩ = some (.int .i64 d) ∧ W.cell? ⟨s, 1, none⟩ = some (.int .u64 (mu : Int)) ∧ W.cell? ⟨s, 2, none⟩ = some (.int .i64 ai) ∧ W.cell? ⟨s, 3, none⟩ = some (.float .f64 f) ∧ W.cell? ⟨s, 4, none⟩ = some (.string at_) ∧ W.cell? ⟨s, 5, none⟩ = some (.int .i64 ms) ∧ W.cell? ⟨g, 0, none⟩ = some v0 ∧ W.cell? ⟨g, 1, none⟩ = some v1 ∧ s + 2 ≤ W.heap.size) :
    W'.cell? ⟨s, 0, none⟩ = some (.int .i64 d) ∧ W'.cell? ⟨s, 1, none⟩ = some (.int .u64 (mu : Int)) ∧ W'.cell? ⟨s, 2, none⟩ = some (.int .i64 ai) ∧ W'.cell? ⟨s, 3, none⟩ = some (.float .f64 f) ∧ W'.cell? ⟨s, 4, none⟩ = some (.string at_) ∧ W'.cell? ⟨s, 5, none⟩ = some (.int .i64 ms) ∧ W'.cell? ⟨g, 0, none⟩ = some v0 ∧ W'.cell? ⟨g, 1, none⟩ = some v1 ∧ s + 2 ≤ W'.heap.size := by
  obtain ⟨h0, h1, h2, h3, h4, h5, h6, h7, hz⟩ := h
  have k := hb.size
  exact ⟨(hb.cell (by simp only; omega)).trans h0, (hb.cell (by simp only; omega)).trans h1, (hb.cell (by simp only; omega)).trans h2, (hb.cell (by simp only; omega)).trans h3, (hb.cell (by simp only; omega)).trans h4, (hb.cell (by simp only; omega)).trans h5, (hb.cell (by simp only; omega)).trans h6, (hb.cell (by simp only; omega)).trans h7, by omega⟩
theorem ask_keepS {W : World} {g s mu f : Nat} {d ai ms : Int} {at_ : ByteArray} {v0 v1 : Value} {p : Addr} {u : Value} (hg : g < s) (hp : s + 2 ≤ p.block) (h : W.cell? ⟨s, 0, none⟩ = some (.int .i64 d) ∧ W.cell? ⟨s, 1, none⟩ = some (.int .u64 (mu : Int)) ∧ W.cell? ⟨s, 2, none⟩ = some (.int .i64 ai) ∧ W.cell? ⟨s, 3, none⟩ = some (.float .f64 f) ∧ W.cell? ⟨s, 4, none⟩ = some (.string at_) ∧ W.cell? ⟨s, 5, none⟩ = some (.int .i64 ms) ∧ W.cell? ⟨g, 0, none⟩ = some v0 ∧ W.cell? ⟨g, 1, none⟩ = some v1 ∧ s + 2 ≤ W.heap.size) :
    (W.setCell p u).cell? ⟨s, 0, none⟩ = some (.int .i64 d) ∧ (W.setCell p u).cell? ⟨s, 1, none⟩ = some (.int .u64 (mu : Int)) ∧ (W.setCell p u).cell? ⟨s, 2, none⟩ = some (.int .i64 ai) ∧ (W.setCell p u).cell? ⟨s, 3, none⟩ = some (.float .f64 f) ∧ (W.setCell p u).cell? ⟨s, 4, none⟩ = some (.string at_) ∧ (W.setCell p u).cell? ⟨s, 5, none⟩ = some (.int .i64 ms) ∧ (W.setCell p u).cell? ⟨g, 0, none⟩ = some v0 ∧ (W.setCell p u).cell? ⟨g, 1, none⟩ = some v1 ∧ s + 2 ≤ (W.setCell p u).heap.size :=
  ask_keep hg ((Below.refl (s + 2) W).setCell hp u) (Nat.le_refl _) h
theorem bel_lit3 (W : World) (a b c : Obj) (k : Nat) : Below W.heap.size W ((((W.alloc a).alloc b).alloc c).drewN k) := belD (belA (belA (belA (belR _) _) _) _) _
theorem bel_lit4 (W : World) (a b c d : Obj) (k : Nat) : Below W.heap.size W (((((W.alloc a).alloc b).alloc c).alloc d).drewN k) := belD (belA (belA (belA (belA (belR _) _) _) _) _) _
theorem ask_start {w : World} {g mu f : Nat} {d ai ms : Int} {at_ : ByteArray} {v0 v1 : Value} {T : TypeId} {o : Obj} (hg : g < w.heap.size) (h0 : w.cell? ⟨g, 0, none⟩ = some v0) (h1 : w.cell? ⟨g, 1, none⟩ = some v1) :
    ((w.alloc (.cells #[.int .i64 d, .int .u64 (mu : Int), .int .i64 ai, .float .f64 f, .string at_, .int .i64 ms] T)).alloc o).drew.cell? ⟨w.heap.size, 0, none⟩ = some (.int .i64 d) ∧ ((w.alloc (.cells #[.int .i64 d, .int .u64 (mu : Int), .int .i64 ai, .float .f64 f, .string at_, .int .i64 ms] T)).alloc o).drew.cell? ⟨w.heap.size, 1, none⟩ = some (.int .u64 (mu : Int)) ∧ ((w.alloc (.cells #[.int .i64 d, .int .u64 (mu : Int), .int .i64 ai, .float .f64 f, .string at_, .int .i64 ms] T)).alloc o).drew.cell? ⟨w.heap.size, 2, none⟩ = some (.int .i64 ai) ∧ ((w.alloc (.cells #[.int .i64 d, .int .u64 (mu : Int), .int .i64 ai, .float .f64 f, .string at_, .int .i64 ms] T)).alloc o).drew.cell? ⟨w.heap.size, 3, none⟩ = some (.float .f64 f) ∧ ((w.alloc (.cells #[.int .i64 d, .int .u64 (mu : Int), .int .i64 ai, .float .f64 f, .string at_, .int .i64 ms] T)).alloc o).drew.cell? ⟨w.heap.size, 4, none⟩ = some (.string at_) ∧ ((w.alloc (.cells #[.int .i64 d, .int .u64 (mu : Int), .int .i64 ai, .float .f64 f, .string at_, .int .i64 ms] T)).alloc o).drew.cell? ⟨w.heap.size, 5, none⟩ = some (.int .i64 ms) ∧ ((w.alloc (.cells #[.int .i64 d, .int .u64 (mu : Int), .int .i64 ai, .float .f64 f, .string at_, .int .i64 ms] T)).alloc o).drew.cell? ⟨g, 0, none⟩ = some v0 ∧ ((w.alloc (.cells #[.int .i64 d, .int .u64 (mu : Int), .int .i64 ai, .float .f64 f, .string at_, .int .i64 ms] T)).alloc o).drew.cell? ⟨g, 1, none⟩ = some v1 ∧ w.heap.size + 2 ≤ ((w.alloc (.cells #[.int .i64 d, .int .u64 (mu : Int), .int .i64 ai, .float .f64 f, .string at_, .int .i64 ms] T)).alloc o).drew.heap.size := by
  have hb := belA (belA (belR w) (.cells #[.int .i64 d, .int .u64 (mu : Int), .int .i64 ai, .float .f64 f, .string at_, .int .i64 ms] T)) o
  have B := (Blk.new w T #[.int .i64 d, .int .u64 (mu : Int), .int .i64 ai, .float .f64 f, .string at_, .int .i64 ms]).alloc o
  exact ⟨(B.cell 0).trans rfl, (B.cell 1).trans rfl, (B.cell 2).trans rfl, (B.cell 3).trans rfl, (B.cell 4).trans rfl, (B.cell 5).trans rfl, (hb.cell (by simp only; omega)).trans h0, (hb.cell (by simp only; omega)).trans h1, by simp⟩
end Go.Proofs.Ytfhmaincnlaapaa
