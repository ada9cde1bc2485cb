/-
  THE WALK of bushellaw07.CodePuts.
-/
import Derived.Test.YtpnolgghbenekaaCodeAwake
import Derived.Test.YtpnolgghbenekaaGetFWalks
import Derived.Test.YtpnolgghbenekaaGetIWalks
import Derived.Deep.RegionHeld
import Derived.Deep.DeepCutAuto
namespace Go.Proofs.Ytpnolgghbenekaa
open Go.ChangeShapes Go.WideShapes Go.ChangeAt Go.RowKit
set_option linter.unusedVariables false

theorem one_start (w : World) (a b c d : Value) (e : TypeId) : (w.alloc (.cells #[a, b, c, d] e)).drew.cell? ⟨w.heap.size, 0, none⟩ = some (a) ∧ (w.alloc (.cells #[a, b, c, d] e)).drew.cell? ⟨w.heap.size, 1, none⟩ = some (b) ∧ (w.alloc (.cells #[a, b, c, d] e)).drew.cell? ⟨w.heap.size, 2, none⟩ = some (c) ∧ (w.alloc (.cells #[a, b, c, d] e)).drew.cell? ⟨w.heap.size, 3, none⟩ = some (d) ∧ Below w.heap.size w (w.alloc (.cells #[a, b, c, d] e)).drew ∧ w.heap.size + 1 ≤ (w.alloc (.cells #[a, b, c, d] e)).drew.heap.size := by
  have hsz : (w.alloc (.cells #[a, b, c, d] e)).drew.heap.size = w.heap.size + 1 := by simp
  refine ⟨?_, ?_, ?_, ?_, ?_, by omega⟩
  · simp [go_sem]
  · simp [go_sem]
  · simp [go_sem]
  · simp [go_sem]
  · exact ((Below.refl _ w).alloc (Nat.le_refl _) _).drew
theorem one_keep2 {w W W' : World} {n : Nat} {a b c d : Value} (hb : Below n W W') (hn : w.heap.size + 1 ≤ n) (h : W.cell? ⟨w.heap.size, 0, none⟩ = some (a) ∧ W.cell? ⟨w.heap.size, 1, none⟩ = some (b) ∧ W.cell? ⟨w.heap.size, 2, none⟩ = some (c) ∧ W.cell? ⟨w.heap.size, 3, none⟩ = some (d) ∧ Below w.heap.size w W ∧ w.heap.size + 1 ≤ W.heap.size) : W'.cell? ⟨w.heap.size, 0, none⟩ = some (a) ∧ W'.cell? ⟨w.heap.size, 1, none⟩ = some (b) ∧ W'.cell? ⟨w.heap.size, 2, none⟩ = some (c) ∧ W'.cell? ⟨w.heap.size, 3, none⟩ = some (d) ∧ Below w.heap.size w W' ∧ w.heap.size + 1 ≤ W'.heap.size := by
  obtain ⟨h0, h1, h2, h3, hB, hz⟩ := h
  exact ⟨(hb.cell (by simp only; omega)).trans h0, (hb.cell (by simp only; omega)).trans h1, (hb.cell (by simp only; omega)).trans h2, (hb.cell (by simp only; omega)).trans h3, hB.trans (hb.mono (by omega)), by have := hb.size; omega⟩
theorem one_keep {w W W' : World} {a b c d : Value} (hb : Below W.heap.size W W') (h : W.cell? ⟨w.heap.size, 0, none⟩ = some (a) ∧ W.cell? ⟨w.heap.size, 1, none⟩ = some (b) ∧ W.cell? ⟨w.heap.size, 2, none⟩ = some (c) ∧ W.cell? ⟨w.heap.size, 3, none⟩ = some (d) ∧ Below w.heap.size w W ∧ w.heap.size + 1 ≤ W.heap.size) : W'.cell? ⟨w.heap.size, 0, none⟩ = some (a) ∧ W'.cell? ⟨w.heap.size, 1, none⟩ = some (b) ∧ W'.cell? ⟨w.heap.size, 2, none⟩ = some (c) ∧ W'.cell? ⟨w.heap.size, 3, none⟩ = some (d) ∧ Below w.heap.size w W' ∧ w.heap.size + 1 ≤ W'.heap.size := one_keep2 hb h.2.2.2.2.2 h
theorem four_keep2 {w W W' : World} {n : Nat} {a b c d : Value} {A1 A2 A3 A4 : Option Addr} {n1 n2 n3 n4 c1 c2 c3 c4 : Nat} {l1 l2 l3 l4 : List UInt8} (hb : Below n W W') (hn : W.heap.size ≤ n) (h : W.cell? ⟨w.heap.size, 0, none⟩ = some (a) ∧ W.cell? ⟨w.heap.size, 1, none⟩ = some (b) ∧ W.cell? ⟨w.heap.size, 2, none⟩ = some (c) ∧ W.cell? ⟨w.heap.size, 3, none⟩ = some (d) ∧ Below w.heap.size w W ∧ w.heap.size + 1 ≤ W.heap.size ∧ W.ownsRow w.heap.size 5 1 (.slice A1 n1 c1) n1 (u8s l1) ∧ W.ownsRow w.heap.size 5 1 (.slice A2 n2 c2) n2 (u8s l2) ∧ W.ownsRow w.heap.size 5 1 (.slice A3 n3 c3) n3 (u8s l3) ∧ W.ownsRow w.heap.size 5 1 (.slice A4 n4 c4) n4 (u8s l4) ∧ (convert 36 9 (.slice A1 n1 c1)).run Try.prog W = .ok (.string ⟨(l1).toArray⟩) W ∧ (convert 36 9 (.slice A2 n2 c2)).run Try.prog W = .ok (.string ⟨(l2).toArray⟩) W ∧ (convert 36 9 (.slice A3 n3 c3)).run Try.prog W = .ok (.string ⟨(l3).toArray⟩) W ∧ (convert 36 9 (.slice A4 n4 c4)).run Try.prog W = .ok (.string ⟨(l4).toArray⟩) W) : W'.cell? ⟨w.heap.size, 0, none⟩ = some (a) ∧ W'.cell? ⟨w.heap.size, 1, none⟩ = some (b) ∧ W'.cell? ⟨w.heap.size, 2, none⟩ = some (c) ∧ W'.cell? ⟨w.heap.size, 3, none⟩ = some (d) ∧ Below w.heap.size w W' ∧ w.heap.size + 1 ≤ W'.heap.size ∧ W'.ownsRow w.heap.size 5 1 (.slice A1 n1 c1) n1 (u8s l1) ∧ W'.ownsRow w.heap.size 5 1 (.slice A2 n2 c2) n2 (u8s l2) ∧ W'.ownsRow w.heap.size 5 1 (.slice A3 n3 c3) n3 (u8s l3) ∧ W'.ownsRow w.heap.size 5 1 (.slice A4 n4 c4) n4 (u8s l4) ∧ (convert 36 9 (.slice A1 n1 c1)).run Try.prog W' = .ok (.string ⟨(l1).toArray⟩) W' ∧ (convert 36 9 (.slice A2 n2 c2)).run Try.prog W' = .ok (.string ⟨(l2).toArray⟩) W' ∧ (convert 36 9 (.slice A3 n3 c3)).run Try.prog W' = .ok (.string ⟨(l3).toArray⟩) W' ∧ (convert 36 9 (.slice A4 n4 c4)).run Try.prog W' = .ok (.string ⟨(l4).toArray⟩) W' := by
  obtain ⟨h0, h1, h2, h3, hB, hz, o1, o2, o3, o4, _, _, _, _⟩ := h
  have p1 := own_below o1 hb hn
  have p2 := own_below o2 hb hn
  have p3 := own_below o3 hb hn
  have p4 := own_below o4 hb hn
  exact ⟨(hb.cell (by simp only; omega)).trans h0, (hb.cell (by simp only; omega)).trans h1, (hb.cell (by simp only; omega)).trans h2, (hb.cell (by simp only; omega)).trans h3, hB.trans (hb.mono (by omega)), by have := hb.size; omega, p1, p2, p3, p4,
    run_str_own p1 Try.underlying36 Try.underlying5 Try.underlying9, run_str_own p2 Try.underlying36 Try.underlying5 Try.underlying9,
    run_str_own p3 Try.underlying36 Try.underlying5 Try.underlying9, run_str_own p4 Try.underlying36 Try.underlying5 Try.underlying9⟩
theorem four_keep {w W W' : World} {a b c d : Value} {A1 A2 A3 A4 : Option Addr} {n1 n2 n3 n4 c1 c2 c3 c4 : Nat} {l1 l2 l3 l4 : List UInt8} (hb : Below W.heap.size W W') (h : W.cell? ⟨w.heap.size, 0, none⟩ = some (a) ∧ W.cell? ⟨w.heap.size, 1, none⟩ = some (b) ∧ W.cell? ⟨w.heap.size, 2, none⟩ = some (c) ∧ W.cell? ⟨w.heap.size, 3, none⟩ = some (d) ∧ Below w.heap.size w W ∧ w.heap.size + 1 ≤ W.heap.size ∧ W.ownsRow w.heap.size 5 1 (.slice A1 n1 c1) n1 (u8s l1) ∧ W.ownsRow w.heap.size 5 1 (.slice A2 n2 c2) n2 (u8s l2) ∧ W.ownsRow w.heap.size 5 1 (.slice A3 n3 c3) n3 (u8s l3) ∧ W.ownsRow w.heap.size 5 1 (.slice A4 n4 c4) n4 (u8s l4) ∧ (convert 36 9 (.slice A1 n1 c1)).run Try.prog W = .ok (.string ⟨(l1).toArray⟩) W ∧ (convert 36 9 (.slice A2 n2 c2)).run Try.prog W = .ok (.string ⟨(l2).toArray⟩) W ∧ (convert 36 9 (.slice A3 n3 c3)).run Try.prog W = .ok (.string ⟨(l3).toArray⟩) W ∧ (convert 36 9 (.slice A4 n4 c4)).run Try.prog W = .ok (.string ⟨(l4).toArray⟩) W) : W'.cell? ⟨w.heap.size, 0, none⟩ = some (a) ∧ W'.cell? ⟨w.heap.size, 1, none⟩ = some (b) ∧ W'.cell? ⟨w.heap.size, 2, none⟩ = some (c) ∧ W'.cell? ⟨w.heap.size, 3, none⟩ = some (d) ∧ Below w.heap.size w W' ∧ w.heap.size + 1 ≤ W'.heap.size ∧ W'.ownsRow w.heap.size 5 1 (.slice A1 n1 c1) n1 (u8s l1) ∧ W'.ownsRow w.heap.size 5 1 (.slice A2 n2 c2) n2 (u8s l2) ∧ W'.ownsRow w.heap.size 5 1 (.slice A3 n3 c3) n3 (u8s l3) ∧ W'.ownsRow w.heap.size 5 1 (.slice A4 n4 c4) n4 (u8s l4) ∧ (convert 36 9 (.slice A1 n1 c1)).run Try.prog W' = .ok (.string ⟨(l1).toArray⟩) W' ∧ (convert 36 9 (.slice A2 n2 c2)).run Try.prog W' = .ok (.string ⟨(l2).toArray⟩) W' ∧ (convert 36 9 (.slice A3 n3 c3)).run Try.prog W' = .ok (.string ⟨(l3).toArray⟩) W' ∧ (convert 36 9 (.slice A4 n4 c4)).run Try.prog W' = .ok (.string ⟨(l4).toArray⟩) W' := by
  exact four_keep2 hb (Nat.le_refl _) h

theorem four_of {w W : World} {a b c d : Value} {A1 A2 A3 A4 : Option Addr} {n1 n2 n3 n4 c1 c2 c3 c4 : Nat} {l1 l2 l3 l4 : List UInt8} (h : W.cell? ⟨w.heap.size, 0, none⟩ = some (a) ∧ W.cell? ⟨w.heap.size, 1, none⟩ = some (b) ∧ W.cell? ⟨w.heap.size, 2, none⟩ = some (c) ∧ W.cell? ⟨w.heap.size, 3, none⟩ = some (d) ∧ Below w.heap.size w W ∧ w.heap.size + 1 ≤ W.heap.size) (p1 : W.ownsRow w.heap.size 5 1 (.slice A1 n1 c1) n1 (u8s l1)) (p2 : W.ownsRow w.heap.size 5 1 (.slice A2 n2 c2) n2 (u8s l2)) (p3 : W.ownsRow w.heap.size 5 1 (.slice A3 n3 c3) n3 (u8s l3)) (p4 : W.ownsRow w.heap.size 5 1 (.slice A4 n4 c4) n4 (u8s l4)) : W.cell? ⟨w.heap.size, 0, none⟩ = some (a) ∧ W.cell? ⟨w.heap.size, 1, none⟩ = some (b) ∧ W.cell? ⟨w.heap.size, 2, none⟩ = some (c) ∧ W.cell? ⟨w.heap.size, 3, none⟩ = some (d) ∧ Below w.heap.size w W ∧ w.heap.size + 1 ≤ W.heap.size ∧ W.ownsRow w.heap.size 5 1 (.slice A1 n1 c1) n1 (u8s l1) ∧ W.ownsRow w.heap.size 5 1 (.slice A2 n2 c2) n2 (u8s l2) ∧ W.ownsRow w.heap.size 5 1 (.slice A3 n3 c3) n3 (u8s l3) ∧ W.ownsRow w.heap.size 5 1 (.slice A4 n4 c4) n4 (u8s l4) ∧ (convert 36 9 (.slice A1 n1 c1)).run Try.prog W = .ok (.string ⟨(l1).toArray⟩) W ∧ (convert 36 9 (.slice A2 n2 c2)).run Try.prog W = .ok (.string ⟨(l2).toArray⟩) W ∧ (convert 36 9 (.slice A3 n3 c3)).run Try.prog W = .ok (.string ⟨(l3).toArray⟩) W ∧ (convert 36 9 (.slice A4 n4 c4)).run Try.prog W = .ok (.string ⟨(l4).toArray⟩) W := by
  obtain ⟨h0, h1, h2, h3, hB, hz⟩ := h
  exact ⟨h0, h1, h2, h3, hB, hz, p1, p2, p3, p4,
    run_str_own p1 Try.underlying36 Try.underlying5 Try.underlying9, run_str_own p2 Try.underlying36 Try.underlying5 Try.underlying9,
    run_str_own p3 Try.underlying36 Try.underlying5 Try.underlying9, run_str_own p4 Try.underlying36 Try.underlying5 Try.underlying9⟩


/-- a slice of the call's own whose block lies between a and b -/
def OwnB (W : World) (a b : Nat) (v : Value) (n : Nat) (l : List UInt8) : Prop := W.ownsRow a 5 1 v n (u8s l) ∧ ∀ k, v.ownBlock = some k → k < b
theorem OwnB.below {W W' : World} {a b n B : Nat} {v : Value} {l : List UInt8} (h : OwnB W a b v n l) (hb : Below B W W') (hB : b ≤ B) : OwnB W' a b v n l := by
  refine ⟨?_, h.2⟩
  refine ⟨h.1.1, ?_⟩
  rcases h.1.2 with h2 | ⟨g, cap, cur, rfl, hg, hh, r⟩
  · exact .inl h2
  · exact .inr ⟨g, cap, cur, rfl, hg, by rw [hb.block g (by have := h.2 g rfl; omega)]; exact hh, r⟩
theorem OwnB.app {W W' : World} {a b a' b' n n' : Nat} {v x v' : Value} {l l' : List UInt8} (h : OwnB W a b v n l) (h' : OwnB W a' b' x n' l') (hap : Appd W W' x v') (hab : b' ≤ a) : OwnB W' a b v n l := by
  refine ⟨hap.kept h.1 ?_, h.2⟩
  cases hv : v.ownBlock with
  | none => exact .inl rfl
  | some k => exact .inr fun q => by have := (h.1.lt k hv).1; have := h'.2 k q.symm; omega
/-- the law's own block, and what has happened so far -/
def Bx (w W : World) (X : Nat) (I : Int) (F : Nat) (T : ByteArray) : Prop := W.cell? ⟨w.heap.size, 0, none⟩ = some (.int .u64 (X : Int)) ∧ W.cell? ⟨w.heap.size, 1, none⟩ = some (.int .i64 I) ∧ W.cell? ⟨w.heap.size, 2, none⟩ = some (.float .f64 F) ∧ W.cell? ⟨w.heap.size, 3, none⟩ = some (.string T) ∧ Below w.heap.size w W ∧ w.heap.size + 1 ≤ W.heap.size
theorem Bx.keep {w W W' : World} {X F n : Nat} {I : Int} {T : ByteArray} (h : Bx w W X I F T) (hb : Below n W W') (hn : w.heap.size + 1 ≤ n) : Bx w W' X I F T := one_keep2 hb hn h
/-- the four codes -/
def Four (w W : World) (X : Nat) (I : Int) (F : Nat) (T : ByteArray) (z : Nat → Nat) (v1 v2 v3 v4 : Value) : Prop :=
  Bx w W X I F T ∧ w.heap.size + 1 ≤ z 0 ∧ z 0 ≤ z 1 ∧ z 1 ≤ z 2 ∧ z 2 ≤ z 3 ∧ z 3 ≤ z 4 ∧ z 4 ≤ W.heap.size ∧ OwnB W (z 0) (z 1) v1 (wd X + 1) (encU X) ∧ OwnB W (z 1) (z 2) v2 (encI I).length (encI I) ∧ OwnB W (z 2) (z 3) v3 8 (be 8 (keyB F)) ∧ OwnB W (z 3) (z 4) v4 (encT T.data.toList).length (encT T.data.toList)
theorem OwnB.dr {W : World} {a b n : Nat} {v : Value} {l : List UInt8} (h : OwnB W a b v n l) (j : Nat) : OwnB (W.drewN j) a b v n l := ⟨own_drewN h.1 j, h.2⟩
theorem encI_len9 (I : Int) (h1 : -9223372036854775808 ≤ I) (h2 : I ≤ 9223372036854775807) : (encI I).length ≤ 9 := by
  have := wd_le I.toNat; have := wd_le (-(I + 1)).toNat
  unfold encI
  split <;> simp [be_length] <;> omega
theorem str_back (T : ByteArray) : (⟨T.data.toList.toArray⟩ : ByteArray) = T := by cases T; simp
theorem encT_len2 (l : List UInt8) : (encT l).length ≤ 2 * l.length + 2 := by
  induction l with
  | nil => simp [encT]
  | cons b l ih =>
    simp only [encT]
    split <;> simp only [List.length_cons] <;> omega
theorem encT_len602 (T : ByteArray) (h : T.size ≤ 300) : (encT T.data.toList).length ≤ 602 := by
  have := encT_len2 T.data.toList
  have e : T.data.toList.length = T.size := rfl
  omega
theorem getF8_enc (F cF : Nat) (l : List UInt8) (h : fromB (keyB F) = some cF) : getF8 (be 8 (keyB F) ++ l) = .tuple #[.float .f64 cF, .int .i64 8, .int .i64 0] := by
  have hk := keyB_lt F
  have e : (be 8 (keyB F) ++ l).take 8 = be 8 (keyB F) := List.take_left' (be_length _ _)
  have e2 : bv (be 8 (keyB F)) = keyB F := by rw [bv_be]; exact Nat.mod_eq_of_lt (Nat.lt_of_lt_of_le hk (by decide))
  unfold getF8
  rw [e, e2, h]
def five (a b c d e : Nat) : Nat → Nat
  | 0 => a
  | 1 => b
  | 2 => c
  | 3 => d
  | _ => e
end Go.Proofs.Ytpnolgghbenekaa
