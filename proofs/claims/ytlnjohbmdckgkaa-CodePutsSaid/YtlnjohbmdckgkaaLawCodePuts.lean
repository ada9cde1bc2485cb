/-
  THE WALK of bushellaw07.CodePuts.
-/
import Derived.Test.YtlnjohbmdckgkaaCodeAwake
import Derived.Test.YtlnjohbmdckgkaaGetFWalks
import Derived.Test.YtlnjohbmdckgkaaGetIWalks
import Derived.Deep.RegionHeld
import Derived.Deep.DeepCutAuto
namespace Go.Proofs.Ytlnjohbmdckgkaa
open Go.ChangeShapes Go.WideShapes Go.ChangeAt Go.RowKit
set_option linter.unusedVariables false

theorem one_start (w : World) (a b c d : Value) (e : TypeId) : (w.alloc (.cells #[a, b, c, d] e)).drew.cell? ⟨w.heap.size, 0, none⟩ = some (a) ∧ (w.alloc (.cells #[a, b, c, d] e)).drew.cell? ⟨w.heap.size, 1, none⟩ = some (b) ∧ (w.alloc (.cells #[a, b, c, d] e)).drew.cell? ⟨w.heap.size, 2, none⟩ = some (c) ∧ (w.alloc (.cells #[a, b, c, d] e)).drew.cell? ⟨w.heap.size, 3, none⟩ = some (d) ∧ Below w.heap.size w (w.alloc (.cells #[a, b, c, d] e)).drew ∧ w.heap.size + 1 ≤ (w.alloc (.cells #[a, b, c, d] e)).drew.heap.size := by
  have hsz : (w.alloc (.cells #[a, b, c, d] e)).drew.heap.size = w.heap.size + 1 := by simp
  refine ⟨?_, ?_, ?_, ?_, ?_, by omega⟩
  · simp [go_sem]
  · simp [go_sem]
  · simp [go_sem]
  · simp [go_sem]
  · exact ((Below.refl _ w).alloc (Nat.le_refl _) _).drew
theorem one_keep2 {w W W' : World} {n : Nat} {a b c d : Value} (hb : Below n W W') (hn : w.heap.size + 1 ≤ n) (h : W.cell? ⟨w.heap.size, 0, none⟩ = some (a) ∧ W.cell? ⟨w.heap.size, 1, none⟩ = some (b) ∧ W.cell? ⟨w.heap.size, 2, none⟩ = some (c) ∧ W.cell? ⟨w.heap.size, 3, none⟩ = some (d) ∧ Below w.heap.size w W ∧ w.heap.size + 1 ≤ W.heap.size) : W'.cell? ⟨w.heap.size, 0, none⟩ = some (a) ∧ W'.cell? ⟨w.heap.size, 1, none⟩ = some (b) ∧ W'.cell? ⟨w.heap.size, 2, none⟩ = some (c) ∧ W'.cell? ⟨w.heap.size, 3, none⟩ = some (d) ∧ Below w.heap.size w W' ∧ w.heap.size + 1 ≤ W'.heap.size := by
  obtain ⟨h0, h1, h2, h3, hB, hz⟩ := h
  exact ⟨(hb.cell (by simp only; omega)).trans h0, (hb.cell (by simp only; omega)).trans h1, (hb.cell (by simp only; omega)).trans h2, (hb.cell (by simp only; omega)).trans h3, hB.trans (hb.mono (by omega)), by have := hb.size; omega⟩
theorem one_keep {w W W' : World} {a b c d : Value} (hb : Below W.heap.size W W') (h : W.cell? ⟨w.heap.size, 0, none⟩ = some (a) ∧ W.cell? ⟨w.heap.size, 1, none⟩ = some (b) ∧ W.cell? ⟨w.heap.size, 2, none⟩ = some (c) ∧ W.cell? ⟨w.heap.size, 3, none⟩ = some (d) ∧ Below w.heap.size w W ∧ w.heap.size + 1 ≤ W.heap.size) : W'.cell? ⟨w.heap.size, 0, none⟩ = some (a) ∧ W'.cell? ⟨w.heap.size, 1, none⟩ = some (b) ∧ W'.cell? ⟨w.heap.size, 2, none⟩ = some (c) ∧ W'.cell? ⟨w.heap.size, 3, none⟩ = some (d) ∧ Below w.heap.size w W' ∧ w.heap.size + 1 ≤ W'.heap.size := one_keep2 hb h.2.2.2.2.2 h
theorem four_keep2 {w W W' : World} {n : Nat} {a b c d : Value} {A1 A2 A3 A4 : Option Addr} {n1 n2 n3 n4 c1 c2 c3 c4 : Nat} {l1 l2 l3 l4 : List UInt8} (hb : Below n W W') (hn : W.heap.size ≤ n) (h : W.cell? ⟨w.heap.size, 0, none⟩ = some (a) ∧ W.cell? ⟨w.heap.size, 1, none⟩ = some (b) ∧ W.cell? ⟨w.heap.size, 2, none⟩ = some (c) ∧ W.cell? ⟨w.heap.size, 3, none⟩ = some (d) ∧ Below w.heap.size w W ∧ w.heap.size + 1 ≤ W.heap.size ∧ W.ownsRow w.heap.size 5 1 (.slice A1 n1 c1) n1 (u8s l1) ∧ W.ownsRow w.heap.size 5 1 (.slice A2 n2 c2) n2 (u8s l2) ∧ W.ownsRow w.heap.size 5 1 (.slice A3 n3 c3) n3 (u8s l3) ∧ W.ownsRow w.heap.size 5 1 (.slice A4 n4 c4) n4 (u8s l4) ∧ (convert 36 9 (.slice A1 n1 c1)).run Try.prog W = .ok (.string ⟨(l1).toArray⟩) W ∧ (convert 36 9 (.slice A2 n2 c2)).run Try.prog W = .ok (.string ⟨(l2).toArray⟩) W ∧ (convert 36 9 (.slice A3 n3 c3)).run Try.prog W = .ok (.string ⟨(l3).toArray⟩) W ∧ (convert 36 9 (.slice A4 n4 c4)).run Try.prog W = .ok (.string ⟨(l4).toArray⟩) W) : W'.cell? ⟨w.heap.size, 0, none⟩ = some (a) ∧ W'.cell? ⟨w.heap.size, 1, none⟩ = some (b) ∧ W'.cell? ⟨w.heap.size, 2, none⟩ = some (c) ∧ W'.cell? ⟨w.heap.size, 3, none⟩ = some (d) ∧ Below w.heap.size w W' ∧ w.heap.size + 1 ≤ W'.heap.size ∧ W'.ownsRow w.heap.size 5 1 (.slice A1 n1 c1) n1 (u8s l1) ∧ W'.ownsRow w.heap.size 5 1 (.slice A2 n2 c2) n2 (u8s l2) ∧ W'.ownsRow w.heap.size 5 1 (.slice A3 n3 c3) n3 (u8s l3) ∧ W'.ownsRow w.heap.size 5 1 (.slice A4 n4 c4) n4 (u8s l4) ∧ (convert 36 9 (.slice A1 n1 c1)).run Try.prog W' = .ok (.string ⟨(l1).toArray⟩) W' ∧ (convert 36 9 (.slice A2 n2 c2)).run Try.prog W' = .ok (.string ⟨(l2).toArray⟩) W' ∧ (convert 36 9 (.slice A3 n3 c3)).run Try.prog W' = .ok (.string ⟨(l3).toArray⟩) W' ∧ (convert 36 9 (.slice A4 n4 c4)).run Try.prog W' = .ok (.string ⟨(l4).toArray⟩) W' := by
  obtain ⟨h0, h1, h2, h3, hB, hz, o1, o2, o3, o4, _, _, _, _⟩ := h
  have p1 := own_below o1 hb hn
  have p2 := own_below o2 hb hn
  have p3 := own_below o3 hb hn
  have p4 := own_below o4 hb hn
  exact ⟨(hb.cell (by simp only; omega)).trans h0, (hb.cell (by simp only; omega)).trans h1, (hb.cell (by simp only; omega)).trans h2, (hb.cell (by simp only; omega)).trans h3, hB.trans (hb.mono (by omega)), by have := hb.size; omega, p1, p2, p3, p4,
    run_str_own p1 Try.underlying36 Try.underlying5 Try.underlying9, run_str_own p2 Try.underlying36 Try.underlying5 Try.underlying9,
    run_str_own p3 Try.underlying36 Try.underlying5 Try.underlying9, run_str_own p4 Try.underlying36 Try.underlying5 Try.underlying9⟩
theorem four_keep {w W W' : World} {a b c d : Value} {A1 A2 A3 A4 : Option Addr} {n1 n2 n3 n4 c1 c2 c3 c4 : Nat} {l1 l2 l3 l4 : List UInt8} (hb : Below W.heap.size W W') (h : W.cell? ⟨w.heap.size, 0, none⟩ = some (a) ∧ W.cell? ⟨w.heap.size, 1, none⟩ = some (b) ∧ W.cell? ⟨w.heap.size, 2, none⟩ = some (c) ∧ W.cell? ⟨w.heap.size, 3, none⟩ = some (d) ∧ Below w.heap.size w W ∧ w.heap.size + 1 ≤ W.heap.size ∧ W.ownsRow w.heap.size 5 1 (.slice A1 n1 c1) n1 (u8s l1) ∧ W.ownsRow w.heap.size 5 1 (.slice A2 n2 c2) n2 (u8s l2) ∧ W.ownsRow w.heap.size 5 1 (.slice A3 n3 c3) n3 (u8s l3) ∧ W.ownsRow w.heap.size 5 1 (.slice A4 n4 c4) n4 (u8s l4) ∧ (convert 36 9 (.slice A1 n1 c1)).run Try.prog W = .ok (.string ⟨(l1).toArray⟩) W ∧ (convert 36 9 (.slice A2 n2 c2)).run Try.prog W = .ok (.string ⟨(l2).toArray⟩) W ∧ (convert 36 9 (.slice A3 n3 c3)).run Try.prog W = .ok (.string ⟨(l3).toArray⟩) W ∧ (convert 36 9 (.slice A4 n4 c4)).run Try.prog W = .ok (.string ⟨(l4).toArray⟩) W) : W'.cell? ⟨w.heap.size, 0, none⟩ = some (a) ∧ W'.cell? ⟨w.heap.size, 1, none⟩ = some (b) ∧ W'.cell? ⟨w.heap.size, 2, none⟩ = some (c) ∧ W'.cell? ⟨w.heap.size, 3, none⟩ = some (d) ∧ Below w.heap.size w W' ∧ w.heap.size + 1 ≤ W'.heap.size ∧ W'.ownsRow w.heap.size 5 1 (.slice A1 n1 c1) n1 (u8s l1) ∧ W'.ownsRow w.heap.size 5 1 (.slice A2 n2 c2) n2 (u8s l2) ∧ W'.ownsRow w.heap.size 5 1 (.slice A3 n3 c3) n3 (u8s l3) ∧ W'.ownsRow w.heap.size 5 1 (.slice A4 n4 c4) n4 (u8s l4) ∧ (convert 36 9 (.slice A1 n1 c1)).run Try.prog W' = .ok (.string ⟨(l1).toArray⟩) W' ∧ (convert 36 9 (.slice A2 n2 c2)).run Try.prog W' = .ok (.string ⟨(l2).toArray⟩) W' ∧ (convert 36 9 (.slice A3 n3 c3)).run Try.prog W' = .ok (.string ⟨(l3).toArray⟩) W' ∧ (convert 36 9 (.slice A4 n4 c4)).run Try.prog W' = .ok (.string ⟨(l4).toArray⟩) W' := by
  exact four_keep2 hb (Nat.le_refl _) h

theorem four_of {w W : World} {a b c d : Value} {A1 A2 A3 A4 : Option Addr} {n1 n2 n3 n4 c1 c2 c3 c4 : Nat} {l1 l2 l3 l4 : List UInt8} (h : W.cell? ⟨w.heap.size, 0, none⟩ = some (a) ∧ W.cell? ⟨w.heap.size, 1, none⟩ = some (b) ∧ W.cell? ⟨w.heap.size, 2, none⟩ = some (c) ∧ W.cell? ⟨w.heap.size, 3, none⟩ = some (d) ∧ Below w.heap.size w W ∧ w.heap.size + 1 ≤ W.heap.size) (p1 : W.ownsRow w.heap.size 5 1 (.slice A1 n1 c1) n1 (u8s l1)) (p2 : W.ownsRow w.heap.size 5 1 (.slice A2 n2 c2) n2 (u8s l2)) (p3 : W.ownsRow w.heap.size 5 1 (.slice A3 n3 c3) n3 (u8s l3)) (p4 : W.ownsRow w.heap.size 5 1 (.slice A4 n4 c4) n4 (u8s l4)) : W.cell? ⟨w.heap.size, 0, none⟩ = some (a) ∧ W.cell? ⟨w.heap.size, 1, none⟩ = some (b) ∧ W.cell? ⟨w.heap.size, 2, none⟩ = some (c) ∧ W.cell? ⟨w.heap.size, 3, none⟩ = some (d) ∧ Below w.heap.size w W ∧ w.heap.size + 1 ≤ W.heap.size ∧ W.ownsRow w.heap.size 5 1 (.slice A1 n1 c1) n1 (u8s l1) ∧ W.ownsRow w.heap.size 5 1 (.slice A2 n2 c2) n2 (u8s l2) ∧ W.ownsRow w.heap.size 5 1 (.slice A3 n3 c3) n3 (u8s l3) ∧ W.ownsRow w.heap.size 5 1 (.slice A4 n4 c4) n4 (u8s l4) ∧ (convert 36 9 (.slice A1 n1 c1)).run Try.prog W = .ok (.string ⟨(l1).toArray⟩) W ∧ (convert 36 9 (.slice A2 n2 c2)).run Try.prog W = .ok (.string ⟨(l2).toArray⟩) W ∧ (convert 36 9 (.slice A3 n3 c3)).run Try.prog W = .ok (.string ⟨(l3).toArray⟩) W ∧ (convert 36 9 (.slice A4 n4 c4)).run Try.prog W = .ok (.string ⟨(l4).toArray⟩) W := by
  obtain ⟨h0, h1, h2, h3, hB, hz⟩ := h
  exact ⟨h0, h1, h2, h3, hB, hz, p1, p2, p3, p4,
    run_str_own p1 Try.underlying36 Try.underlying5 Try.underlying9, run_str_own p2 Try.underlying36 Try.underlying5 Try.underlying9,
    run_str_own p3 Try.underlying36 Try.underlying5 Try.underlying9, run_str_own p4 Try.underlying36 Try.underlying5 Try.underlying9⟩


/-- a slice of the call's own whose block lies between a and b -/
def OwnB (W : World) (a b : Nat) (v : Value) (n : Nat) (l : List UInt8) : Prop := W.ownsRow a 5 1 v n (u8s l) ∧ ∀ k, v.ownBlock = some k → k < b
theorem OwnB.below {W W' : World} {a b n B : Nat} {v : Value} {l : List UInt8} (h : OwnB W a b v n l) (hb : Below B W W') (hB : b ≤ B) : OwnB W' a b v n l := by
  refine ⟨?_, h.2⟩
  refine ⟨h.1.1, ?_⟩
  rcases h.1.2 with h2 | ⟨g, cap, cur, rfl, hg, hh, r⟩
  · exact .inl h2
  · exact .inr ⟨g, cap, cur, rfl, hg, by rw [hb.block g (by have := h.2 g rfl; omega)]; exact hh, r⟩
theorem OwnB.app {W W' : World} {a b a' b' n n' : Nat} {v x v' : Value} {l l' : List UInt8} (h : OwnB W a b v n l) (h' : OwnB W a' b' x n' l') (hap : Appd W W' x v') (hab : b' ≤ a) : OwnB W' a b v n l := by
  refine ⟨hap.kept h.1 ?_, h.2⟩
  cases hv : v.ownBlock with
  | none => exact .inl rfl
  | some k => exact .inr fun q => by have := (h.1.lt k hv).1; have := h'.2 k q.symm; omega
/-- the law's own block, and what has happened so far -/
def Bx (w W : World) (X : Nat) (I : Int) (F : Nat) (T : ByteArray) : Prop := W.cell? ⟨w.heap.size, 0, none⟩ = some (.int .u64 (X : Int)) ∧ W.cell? ⟨w.heap.size, 1, none⟩ = some (.int .i64 I) ∧ W.cell? ⟨w.heap.size, 2, none⟩ = some (.float .f64 F) ∧ W.cell? ⟨w.heap.size, 3, none⟩ = some (.string T) ∧ Below w.heap.size w W ∧ w.heap.size + 1 ≤ W.heap.size
theorem Bx.keep {w W W' : World} {X F n : Nat} {I : Int} {T : ByteArray} (h : Bx w W X I F T) (hb : Below n W W') (hn : w.heap.size + 1 ≤ n) : Bx w W' X I F T := one_keep2 hb hn h
/-- the four codes -/
def Four (w W : World) (X : Nat) (I : Int) (F : Nat) (T : ByteArray) (z : Nat → Nat) (v1 v2 v3 v4 : Value) : Prop :=
  Bx w W X I F T ∧ w.heap.size + 1 ≤ z 0 ∧ z 0 ≤ z 1 ∧ z 1 ≤ z 2 ∧ z 2 ≤ z 3 ∧ z 3 ≤ z 4 ∧ z 4 ≤ W.heap.size ∧ OwnB W (z 0) (z 1) v1 (wd X + 1) (encU X) ∧ OwnB W (z 1) (z 2) v2 (encI I).length (encI I) ∧ OwnB W (z 2) (z 3) v3 8 (be 8 (keyB F)) ∧ OwnB W (z 3) (z 4) v4 (encT T.data.toList).length (encT T.data.toList)
theorem OwnB.dr {W : World} {a b n : Nat} {v : Value} {l : List UInt8} (h : OwnB W a b v n l) (j : Nat) : OwnB (W.drewN j) a b v n l := ⟨own_drewN h.1 j, h.2⟩
theorem encI_len9 (I : Int) (h1 : -9223372036854775808 ≤ I) (h2 : I ≤ 9223372036854775807) : (encI I).length ≤ 9 := by
  have := wd_le I.toNat; have := wd_le (-(I + 1)).toNat
  unfold encI
  split <;> simp [be_length] <;> omega
theorem str_back (T : ByteArray) : (⟨T.data.toList.toArray⟩ : ByteArray) = T := by cases T; simp
theorem encT_len2 (l : List UInt8) : (encT l).length ≤ 2 * l.length + 2 := by
  induction l with
  | nil => simp [encT]
  | cons b l ih =>
    simp only [encT]
    split <;> simp only [List.length_cons] <;> omega
theorem encT_len602 (T : ByteArray) (h : T.size ≤ 300) : (encT T.data.toList).length ≤ 602 := by
  have := encT_len2 T.data.toList
  have e : T.data.toList.length = T.size := rfl
  omega
theorem getF8_enc (F cF : Nat) (l : List UInt8) (h : fromB (keyB F) = some cF) : getF8 (be 8 (keyB F) ++ l) = .tuple #[.float .f64 cF, .int .i64 8, .int .i64 0] := by
  have hk := keyB_lt F
  have e : (be 8 (keyB F) ++ l).take 8 = be 8 (keyB F) := List.take_left' (be_length _ _)
  have e2 : bv (be 8 (keyB F)) = keyB F := by rw [bv_be]; exact Nat.mod_eq_of_lt (Nat.lt_of_lt_of_le hk (by decide))
  unfold getF8
  rw [e, e2, h]
def five (a b c d e : Nat) : Nat → Nat
  | 0 => a
  | 1 => b
  | 2 => c
  | 3 => d
  | _ => e
set_option maxRecDepth 100000 in
set_option maxHeartbeats 8000000 in
theorem codePuts_walk (X : Nat) (I : Int) (F : Nat) (T : ByteArray) (A : Option Addr) (n c : Nat) (l : List UInt8) (w : World) (hX : X < 18446744073709551616)
    (hI1 : -9223372036854775808 ≤ I) (hI2 : I ≤ 9223372036854775807) (hF : F < 18446744073709551616) (hT : T.size ≤ 300) (hR : Rd w w.heap.size 1 A n (u8s l)) (hn : n ≤ 300) (hnc : n ≤ c) (hc : c ≤ maxLen) :
    Calls Try.prog 7 #[.agg #[.int .u64 (X : Int), .int .i64 I, .float .f64 F, .string T], .slice A n c] w fun e w' => e = .returned (.bool true) ∧ Below w.heap.size w w' := by
  have hT' : T.size ≤ 1000000 := by omega
  have hst := one_start w (.int .u64 (X : Int)) (.int .i64 I) (.float .f64 F) (.string T) 34
  have HST := Lib.hid hst; have HR := Lib.hid hR; clear hst hR
  go_enter Try.func7, Try.ntmps7
  go_upto_region 3 with (fail)
  go_cut [5, 6, 7, 8] (fun s5 s6 s7 s8 wx => ∃ z, Four w wx X I F T z s5 s6 s7 s8)
  case first =>
    go_region_held3 (fun W => (W.cell? ⟨w.heap.size, 0, none⟩ = some (.int .u64 (X : Int)) ∧ W.cell? ⟨w.heap.size, 1, none⟩ = some (.int .i64 I) ∧ W.cell? ⟨w.heap.size, 2, none⟩ = some (.float .f64 F) ∧ W.cell? ⟨w.heap.size, 3, none⟩ = some (.string T) ∧ Below w.heap.size w W ∧ w.heap.size + 1 ≤ W.heap.size)) (first | (with_reducible exact HST.out) | (with_reducible (refine one_keep ?_ ?_; assumption; assumption)) | (refine one_keep2 (by assumption) ?_ ?_; (first | omega | (simp; done) | (simp; omega)); assumption))
      (first
     | (go_at_call 18; (with_reducible refine (codeU_any X _ hX).mono ?_); rintro e w1 ⟨v1, rfl, ho1, hb1⟩)
     | (go_at_call 19; (with_reducible refine (codeI_any I _ hI1 hI2).mono ?_); rintro e w2 ⟨v2, rfl, ho2, hb2⟩)
     | (go_at_call 20; (with_reducible refine (codeF_any F _ hF).mono ?_); rintro e w3 ⟨v3, rfl, ho3, hb3⟩)
     | (go_at_call 22; (with_reducible refine (codeT_any T _ hT').mono ?_); rintro e w4 ⟨v4, rfl, ho4, hb4⟩))
    have B0 : w.heap.size + 1 ≤ (w.alloc (.cells #[.int .u64 (X : Int), .int .i64 I, .float .f64 F, .string T] 34)).drew.heap.size := by simp
    have s4 : Bx w w4 X I F T := one_keep hb4 (one_keep hb3 (one_keep hb2 (one_keep hb1 HST.out)))
    have z1 := hb1.size; have z2 := hb2.size; have z3 := hb3.size; have z4 := hb4.size
    have p1 : OwnB w1 _ w1.heap.size v1 (wd X + 1) (encU X) := ⟨ho1, fun k hk => (ho1.lt k hk).2⟩
    have p2 : OwnB w2 _ w2.heap.size v2 (encI I).length (encI I) := ⟨ho2, fun k hk => (ho2.lt k hk).2⟩
    have p3 : OwnB w3 _ w3.heap.size v3 8 (be 8 (keyB F)) := ⟨ho3, fun k hk => (ho3.lt k hk).2⟩
    have p4 : OwnB w4 _ w4.heap.size v4 (encT T.data.toList).length (encT T.data.toList) := ⟨ho4, fun k hk => (ho4.lt k hk).2⟩
    have P1 := Lib.hid (((p1.below hb2 (Nat.le_refl _)).below hb3 z2).below hb4 (Nat.le_trans z2 z3))
    have P2 := Lib.hid ((p2.below hb3 (Nat.le_refl _)).below hb4 z3)
    have P3 := Lib.hid (p3.below hb4 (Nat.le_refl _)); have P4 := Lib.hid p4; have S4 := Lib.hid s4
    clear p1 p2 p3 p4 s4 ho1 ho2 ho3 ho4 hb1 hb2 hb3 hb4 HST
    go_wp2
    go_meet
    case rel => exact ⟨five _ _ _ _ _, S4.out, B0, z1, z2, z3, z4, Nat.le_refl _, P1.out, P2.out, P3.out, P4.out⟩
  obtain ⟨z, hfour⟩ := hcut
  have HF4 := Lib.hid hfour; clear hfour HST
  generalize wc = w4 at *
  obtain ⟨A1, c1, rfl, hc1, hm1, _⟩ := own_form HF4.out.2.2.2.2.2.2.2.1.1
  obtain ⟨A2, c2, rfl, hc2, hm2, _⟩ := own_form HF4.out.2.2.2.2.2.2.2.2.1.1
  obtain ⟨A3, c3, rfl, hc3, hm3, _⟩ := own_form HF4.out.2.2.2.2.2.2.2.2.2.1.1
  obtain ⟨A4, c4, rfl, hc4, hm4, _⟩ := own_form HF4.out.2.2.2.2.2.2.2.2.2.2.1
  have HC1 := Lib.hid hc1; have HC2 := Lib.hid hc2; have HC3 := Lib.hid hc3; have HC4 := Lib.hid hc4
  clear hc1 hc2 hc3 hc4
  go_upto_region 4 with (fail)
  go_cut [76] (fun s76 wx => s76 = .bool false ∧ Four w wx X I F T z (.slice A1 (wd X + 1) c1) (.slice A2 (encI I).length c2) (.slice A3 8 c3) (.slice A4 (encT T.data.toList).length c4))
  case first =>
    obtain ⟨s4, zz0, zz1, zz2, zz3, zz4, zz5, p1, p2, p3, p4⟩ := HF4.out
    have hs4 := four_of s4 (own_mono (base' := w.heap.size) p1.1 (by omega)) (own_mono (base' := w.heap.size) p2.1 (by omega)) (own_mono (base' := w.heap.size) p3.1 (by omega)) (own_mono (base' := w.heap.size) p4.1 (by omega))
    have hs4d := four_keep (Below.refl w4.heap.size w4).drew hs4
    have hbel4 : Below w.heap.size w w4 := s4.2.2.2.2.1
    have hz4 : w.heap.size + 1 ≤ w4.heap.size := s4.2.2.2.2.2
    have HS4 := Lib.hid hs4; have HS4D := Lib.hid hs4d
    clear hs4 hs4d s4 p1 p2 p3 p4
    have HT := Lib.hid hT; clear hT
    go_region_held (fun W => (W.cell? ⟨w.heap.size, 0, none⟩ = some (.int .u64 (X : Int)) ∧ W.cell? ⟨w.heap.size, 1, none⟩ = some (.int .i64 I) ∧ W.cell? ⟨w.heap.size, 2, none⟩ = some (.float .f64 F) ∧ W.cell? ⟨w.heap.size, 3, none⟩ = some (.string T) ∧ Below w.heap.size w W ∧ w.heap.size + 1 ≤ W.heap.size ∧ W.ownsRow w.heap.size 5 1 (.slice A1 (wd X + 1) c1) (wd X + 1) (u8s (encU X)) ∧ W.ownsRow w.heap.size 5 1 (.slice A2 (encI I).length c2) (encI I).length (u8s (encI I)) ∧ W.ownsRow w.heap.size 5 1 (.slice A3 8 c3) 8 (u8s (be 8 (keyB F))) ∧ W.ownsRow w.heap.size 5 1 (.slice A4 (encT T.data.toList).length c4) (encT T.data.toList).length (u8s (encT T.data.toList)) ∧ (convert 36 9 (.slice A1 (wd X + 1) c1)).run Try.prog W = .ok (.string ⟨((encU X)).toArray⟩) W ∧ (convert 36 9 (.slice A2 (encI I).length c2)).run Try.prog W = .ok (.string ⟨((encI I)).toArray⟩) W ∧ (convert 36 9 (.slice A3 8 c3)).run Try.prog W = .ok (.string ⟨((be 8 (keyB F))).toArray⟩) W ∧ (convert 36 9 (.slice A4 (encT T.data.toList).length c4)).run Try.prog W = .ok (.string ⟨((encT T.data.toList)).toArray⟩) W)) (first | assumption | (with_reducible exact HS4D.out) | (with_reducible (refine four_keep ?_ ?_; assumption; assumption)) | (refine four_keep2 (by assumption) ?_ ?_; exact Nat.le_refl _; assumption))
      (first
       | (go_at_call 24; (with_reducible refine (refU_any X _ hX).mono ?_); rintro e w5 ⟨v5, rfl, ho5, hb5⟩; have hc5 := run_str_own (P := Try.prog) (src := 36) (dst := 9) ho5 Try.underlying36 Try.underlying5 Try.underlying9)
       | (go_at_call 25; (with_reducible refine (refI_any I _ hI1 hI2).mono ?_); rintro e w6 ⟨v6, rfl, ho6, hb6⟩; have hc6 := run_str_own (P := Try.prog) (src := 36) (dst := 9) ho6 Try.underlying36 Try.underlying5 Try.underlying9)
       | (go_at_call 26; (with_reducible refine (refF_any F _ hF).mono ?_); rintro e w7 ⟨v7, rfl, ho7, hb7⟩; have hc7 := run_str_own (P := Try.prog) (src := 36) (dst := 9) ho7 Try.underlying36 Try.underlying5 Try.underlying9)
       | (go_at_call 27; (with_reducible refine (refT_any T _ hT').mono ?_); rintro e w8 ⟨v8, rfl, ho8, hb8⟩; have hc8 := run_str_own (P := Try.prog) (src := 36) (dst := 9) ho8 Try.underlying36 Try.underlying5 Try.underlying9))
    have y5 : Below w4.heap.size w4 w5 := (Below.refl _ w4).drew.trans hb5
    have y8 := belT (belT (belT y5 hb6) hb7) hb8
    have HY := Lib.hid y8
    clear y5 y8 hb5 hb6 hb7 hb8 ho5 ho6 ho7 ho8 hc5 hc6 hc7 hc8 HS4 HS4D
    obtain ⟨s4, zz0, zz1, zz2, zz3, zz4, zz5, p1, p2, p3, p4⟩ := HF4.out
    have hfin : Four w w8 X I F T z (.slice A1 (wd X + 1) c1) (.slice A2 (encI I).length c2) (.slice A3 8 c3) (.slice A4 (encT T.data.toList).length c4) :=
      ⟨s4.keep HY.out s4.2.2.2.2.2, zz0, zz1, zz2, zz3, zz4, Nat.le_trans zz5 HY.out.size, p1.below HY.out (by omega), p2.below HY.out (by omega), p3.below HY.out (by omega), p4.below HY.out zz5⟩
    have HFIN := Lib.hid hfin; clear hfin s4 p1 p2 p3 p4
    go_wp2
    go_meet
    case rel => exact ⟨rfl, HFIN.out⟩
  obtain ⟨rfl, hfour⟩ := hcut
  have HF5 := Lib.hid hfour; clear hfour HF4
  obtain ⟨s5, zz0, zz1, zz2, zz3, zz4, zz5, p1, p2, p3, p4⟩ := HF5.out
  have hbx := s5.2.2.2.2.1
  have hz5 := s5.2.2.2.2.2
  have rl := HR.out.below hbx
  have hw8 := wd_le X
  obtain ⟨cF, hcF, hcFl, hcFk⟩ := fromB_of_key F
  have HCF := Lib.hid hcF; have HCK := Lib.hid hcFk; clear hcF hcFk
  have hi9 := encI_len9 I hI1 hI2
  have ht6 := encT_len602 T hT
  have Q0 := Lib.hid hbx; have S0 := Lib.hid s5; have L0 := Lib.hid rl; have P10 := Lib.hid p1; have P20 := Lib.hid p2; have P30 := Lib.hid p3; have P40 := Lib.hid p4
  clear hbx s5 rl p1 p2 p3 p4 HF5
  generalize wc = w0 at *
  go_upto_region 7 with (first
    | (at_builtin; (refine wpList_appS _ rfl (.tmp 78) (.tmp 79) 36 rfl (z 0) 5 (.int .u8 0) 1 1 info_u8 rfl (by decide) Try.underlying36 (.slice A1 (wd X + 1) c1) (wd X + 1) (u8s (encU X)) P10.out.1 ?_ _ A n c (u8s l) L0.out ?_ (u8s_one _) ?_ ?_ ?_ ?_); rfl; rfl; omega; omega; omega; intro y6 w6 ho6 hap6; obtain ⟨A6, c6, rfl, hc6, hm6, _⟩ := own_form ho6; have hb6 := hap6.below (B := w.heap.size + 1) (by omega) (own_mono P10.out.1 (by omega)); have hq6 := hb6.size; have p2 := (P20.out.app P10.out hap6 (by omega)); have P29 := Lib.hid p2; clear p2; have p3 := (P30.out.app P10.out hap6 (by omega)); have P39 := Lib.hid p3; clear p3; have p4 := (P40.out.app P10.out hap6 (by omega)); have P49 := Lib.hid p4; clear p4;
        have hg := getU_any A6 (wd X + 1 + n) c6 _ (encU X ++ l) w6 (by rw [u8s_append]; exact Rd.own ho6) hc6 hm6; rw [getU_enc X hX l] at hg; simp only at hg; rw [show ((0 : Nat) : Int) = 0 from rfl] at hg; have HG6 := Lib.hid hg; have HB6 := Lib.hid hb6; clear hg ho6 hap6 hb6)
    | (go_at_call 28; (with_reducible refine HG6.out.mono ?_); rintro y x6 ⟨rfl, j6, rfl⟩))
  have hb := below_drewN HB6.out j6
  have hs6 := hb.size
  have Q1 := Lib.hid (Q0.out.trans (hb.mono (by omega))); have S1 := Lib.hid (S0.out.keep hb (Nat.le_refl _)); have L1 := Lib.hid (L0.out.below (hb.mono (by omega))); have P21 := Lib.hid (P29.out.dr j6); have P31 := Lib.hid (P39.out.dr j6); have P41 := Lib.hid (P49.out.dr j6)
  clear hb HB6 Q0 S0 L0 HG6
  go_upto_region 8 with (first
    | (at_builtin; (refine wpList_appS _ rfl (.tmp 86) (.tmp 87) 36 rfl (z 1) 5 (.int .u8 0) 1 1 info_u8 rfl (by decide) Try.underlying36 (.slice A2 ((encI I).length) c2) ((encI I).length) (u8s (encI I)) P21.out.1 ?_ _ A n c (u8s l) L1.out ?_ (u8s_one _) ?_ ?_ ?_ ?_); rfl; rfl; omega; omega; omega; intro y7 w7 ho7 hap7; obtain ⟨A7, c7, rfl, hc7, hm7, _⟩ := own_form ho7; have hb7 := hap7.below (B := w.heap.size + 1) (by omega) (own_mono P21.out.1 (by omega)); have hq7 := hb7.size; have p3 := (P31.out.app P21.out hap7 (by omega)); have P310 := Lib.hid p3; clear p3; have p4 := (P41.out.app P21.out hap7 (by omega)); have P410 := Lib.hid p4; clear p4;
        have hg := getI_any A7 ((encI I).length + n) c7 (encI I ++ l) w7 (by rw [u8s_append]; exact Rd.own ho7) hc7 hm7; rw [getI_enc I hI1 hI2 l] at hg; simp only at hg; rw [show ((0 : Nat) : Int) = 0 from rfl] at hg; have HG7 := Lib.hid hg; have HB7 := Lib.hid hb7; clear hg ho7 hap7 hb7)
    | (go_at_call 29; (with_reducible refine HG7.out.mono ?_); rintro y x7 ⟨rfl, hbb⟩))
  have hb := HB7.out.trans (hbb.mono (by omega))
  have hq := hbb.size
  have hs7 := hb.size
  have Q2 := Lib.hid (Q1.out.trans (hb.mono (by omega))); have S2 := Lib.hid (S1.out.keep hb (Nat.le_refl _)); have L2 := Lib.hid (L1.out.below (hb.mono (by omega))); have P32 := Lib.hid (P310.out.below hbb (by omega)); have P42 := Lib.hid (P410.out.below hbb (by omega))
  clear hb hbb HB7 Q1 S1 L1 HG7
  go_upto_region 9 with (first
    | (at_builtin; (refine wpList_appS _ rfl (.tmp 94) (.tmp 95) 36 rfl (z 2) 5 (.int .u8 0) 1 1 info_u8 rfl (by decide) Try.underlying36 (.slice A3 (8) c3) (8) (u8s (be 8 (keyB F))) P32.out.1 ?_ _ A n c (u8s l) L2.out ?_ (u8s_one _) ?_ ?_ ?_ ?_); rfl; rfl; omega; omega; omega; intro y8 w8 ho8 hap8; obtain ⟨A8, c8, rfl, hc8, hm8, _⟩ := own_form ho8; have hb8 := hap8.below (B := w.heap.size + 1) (by omega) (own_mono P32.out.1 (by omega)); have hq8 := hb8.size; have p4 := (P42.out.app P32.out hap8 (by omega)); have P411 := Lib.hid p4; clear p4;
        have hg := getF8_any A8 (8 + n) c8 _ (be 8 (keyB F) ++ l) w8 (by rw [u8s_append]; exact Rd.own ho8) (by omega) hc8 hm8; rw [getF8_enc F cF l HCF.out] at hg; have HG8 := Lib.hid hg; have HB8 := Lib.hid hb8; clear hg ho8 hap8 hb8)
    | (go_at_call 30; (with_reducible refine HG8.out.mono ?_); rintro y x8 ⟨rfl, j8, rfl⟩))
  have hb := below_drewN HB8.out j8
  have hs8 := hb.size
  have Q3 := Lib.hid (Q2.out.trans (hb.mono (by omega))); have S3 := Lib.hid (S2.out.keep hb (Nat.le_refl _)); have L3 := Lib.hid (L2.out.below (hb.mono (by omega))); have P43 := Lib.hid (P411.out.dr j8)
  clear hb HB8 Q2 S2 L2 HG8
  go_upto_region 10 with (first
    | (at_builtin; (refine wpList_appS _ rfl (.tmp 102) (.tmp 103) 36 rfl (z 3) 5 (.int .u8 0) 1 1 info_u8 rfl (by decide) Try.underlying36 (.slice A4 ((encT T.data.toList).length) c4) ((encT T.data.toList).length) (u8s (encT T.data.toList)) P43.out.1 ?_ _ A n c (u8s l) L3.out ?_ (u8s_one _) ?_ ?_ ?_ ?_); rfl; rfl; omega; omega; omega; intro y9 w9 ho9 hap9; obtain ⟨A9, c9, rfl, hc9, hm9, _⟩ := own_form ho9; have hb9 := hap9.below (B := w.heap.size + 1) (by omega) (own_mono P43.out.1 (by omega)); have hq9 := hb9.size;
        have hg := getT_any A9 ((encT T.data.toList).length + n) c9 (encT T.data.toList ++ l) w9 (by rw [u8s_append]; exact Rd.own ho9) (by omega); rw [getT_enc T.data.toList l] at hg; simp only at hg; rw [str_back T] at hg; rw [show ((0 : Nat) : Int) = 0 from rfl] at hg; have HG9 := Lib.hid hg; have HB9 := Lib.hid hb9; clear hg ho9 hap9 hb9)
    | (go_at_call 31; (with_reducible refine HG9.out.mono ?_); rintro y x9 ⟨rfl, hbb⟩))
  have hb := HB9.out.trans (hbb.mono (by omega))
  have hq := hbb.size
  have hs9 := hb.size
  have Q4 := Lib.hid (Q3.out.trans (hb.mono (by omega))); have S4 := Lib.hid (S3.out.keep hb (Nat.le_refl _)); have L4 := Lib.hid (L3.out.below (hb.mono (by omega)))
  clear hb hbb HB9 Q3 S3 L3 HG9
  obtain ⟨y0, y1, y2, y3, _, _⟩ := S4.out
  have hsm := fun W => refFSame_any cF F W hcFl hF
  rw [HCK.out, decide_eq_true (rfl : keyB F = keyB F)] at hsm
  have HSM := Lib.hid hsm; clear hsm
  go_wp2_with (first
    | (go_at_call 32; (with_reducible refine (HSM.out _).mono ?_); rintro y x10 ⟨rfl, j10, rfl⟩)
    | (go_at_call 16; (with_reducible refine (awake07_any _).mono ?_); rintro y x11 ⟨rfl, hb11⟩))
  go_ret
  exact ⟨rfl, belT (belD Q4.out _) hb11⟩
end Go.Proofs.Ytlnjohbmdckgkaa
