/-
  THE WALK of bushellaw07.CodeOrders.
-/
import Derived.Test.YtlnjohbmdckgkaaCodeAwake
import Derived.Test.YtlnjohbmdckgkaaOrdersPure
namespace Go.Proofs.Ytlnjohbmdckgkaa
open Go.ChangeShapes Go.WideShapes Go.ChangeAt Go.RowKit
set_option linter.unusedVariables false

theorem two_start (w : World) (a b c d a' b' c' d' : Value) (e : TypeId) :
    ((w.alloc (.cells #[a, b, c, d] e)).alloc (.cells #[a', b', c', d'] e)).drew.cell? ⟨w.heap.size, 0, none⟩ = some (a) ∧ ((w.alloc (.cells #[a, b, c, d] e)).alloc (.cells #[a', b', c', d'] e)).drew.cell? ⟨w.heap.size, 1, none⟩ = some (b) ∧ ((w.alloc (.cells #[a, b, c, d] e)).alloc (.cells #[a', b', c', d'] e)).drew.cell? ⟨w.heap.size, 2, none⟩ = some (c) ∧ ((w.alloc (.cells #[a, b, c, d] e)).alloc (.cells #[a', b', c', d'] e)).drew.cell? ⟨w.heap.size, 3, none⟩ = some (d) ∧ ((w.alloc (.cells #[a, b, c, d] e)).alloc (.cells #[a', b', c', d'] e)).drew.cell? ⟨w.heap.size + 1, 0, none⟩ = some (a') ∧ ((w.alloc (.cells #[a, b, c, d] e)).alloc (.cells #[a', b', c', d'] e)).drew.cell? ⟨w.heap.size + 1, 1, none⟩ = some (b') ∧ ((w.alloc (.cells #[a, b, c, d] e)).alloc (.cells #[a', b', c', d'] e)).drew.cell? ⟨w.heap.size + 1, 2, none⟩ = some (c') ∧ ((w.alloc (.cells #[a, b, c, d] e)).alloc (.cells #[a', b', c', d'] e)).drew.cell? ⟨w.heap.size + 1, 3, none⟩ = some (d') ∧ Below w.heap.size w ((w.alloc (.cells #[a, b, c, d] e)).alloc (.cells #[a', b', c', d'] e)).drew ∧ w.heap.size + 2 ≤ ((w.alloc (.cells #[a, b, c, d] e)).alloc (.cells #[a', b', c', d'] e)).drew.heap.size := by
  have hsz : ((w.alloc (.cells #[a, b, c, d] e)).alloc (.cells #[a', b', c', d'] e)).drew.heap.size = w.heap.size + 2 := by simp
  refine ⟨?_, ?_, ?_, ?_, ?_, ?_, ?_, ?_, ?_, by omega⟩
  · simp [go_sem]
  · simp [go_sem]
  · simp [go_sem]
  · simp [go_sem]
  · simp [go_sem]
  · simp [go_sem]
  · simp [go_sem]
  · simp [go_sem]
  · exact ((((Below.refl _ w).alloc (Nat.le_refl _) _).alloc (by simp) _)).drew
theorem two_keep {w W W' : World} {a b c d a' b' c' d' : Value} (hb : Below W.heap.size W W') (h : W.cell? ⟨w.heap.size, 0, none⟩ = some (a) ∧ W.cell? ⟨w.heap.size, 1, none⟩ = some (b) ∧ W.cell? ⟨w.heap.size, 2, none⟩ = some (c) ∧ W.cell? ⟨w.heap.size, 3, none⟩ = some (d) ∧ W.cell? ⟨w.heap.size + 1, 0, none⟩ = some (a') ∧ W.cell? ⟨w.heap.size + 1, 1, none⟩ = some (b') ∧ W.cell? ⟨w.heap.size + 1, 2, none⟩ = some (c') ∧ W.cell? ⟨w.heap.size + 1, 3, none⟩ = some (d') ∧ Below w.heap.size w W ∧ w.heap.size + 2 ≤ W.heap.size) : W'.cell? ⟨w.heap.size, 0, none⟩ = some (a) ∧ W'.cell? ⟨w.heap.size, 1, none⟩ = some (b) ∧ W'.cell? ⟨w.heap.size, 2, none⟩ = some (c) ∧ W'.cell? ⟨w.heap.size, 3, none⟩ = some (d) ∧ W'.cell? ⟨w.heap.size + 1, 0, none⟩ = some (a') ∧ W'.cell? ⟨w.heap.size + 1, 1, none⟩ = some (b') ∧ W'.cell? ⟨w.heap.size + 1, 2, none⟩ = some (c') ∧ W'.cell? ⟨w.heap.size + 1, 3, none⟩ = some (d') ∧ Below w.heap.size w W' ∧ w.heap.size + 2 ≤ W'.heap.size := by
  obtain ⟨h0, h1, h2, h3, k0, k1, k2, k3, hB, hz⟩ := h
  exact ⟨(hb.cell (by simp only; omega)).trans h0, (hb.cell (by simp only; omega)).trans h1, (hb.cell (by simp only; omega)).trans h2, (hb.cell (by simp only; omega)).trans h3,
    (hb.cell (by simp only; omega)).trans k0, (hb.cell (by simp only; omega)).trans k1, (hb.cell (by simp only; omega)).trans k2, (hb.cell (by simp only; omega)).trans k3, hB.trans (hb.mono (by omega)), by have := hb.size; omega⟩
theorem two_keep2 {w W W' : World} {n : Nat} {a b c d a' b' c' d' : Value} (hb : Below n W W') (hn : w.heap.size + 2 ≤ n) (h : W.cell? ⟨w.heap.size, 0, none⟩ = some (a) ∧ W.cell? ⟨w.heap.size, 1, none⟩ = some (b) ∧ W.cell? ⟨w.heap.size, 2, none⟩ = some (c) ∧ W.cell? ⟨w.heap.size, 3, none⟩ = some (d) ∧ W.cell? ⟨w.heap.size + 1, 0, none⟩ = some (a') ∧ W.cell? ⟨w.heap.size + 1, 1, none⟩ = some (b') ∧ W.cell? ⟨w.heap.size + 1, 2, none⟩ = some (c') ∧ W.cell? ⟨w.heap.size + 1, 3, none⟩ = some (d') ∧ Below w.heap.size w W ∧ w.heap.size + 2 ≤ W.heap.size) : W'.cell? ⟨w.heap.size, 0, none⟩ = some (a) ∧ W'.cell? ⟨w.heap.size, 1, none⟩ = some (b) ∧ W'.cell? ⟨w.heap.size, 2, none⟩ = some (c) ∧ W'.cell? ⟨w.heap.size, 3, none⟩ = some (d) ∧ W'.cell? ⟨w.heap.size + 1, 0, none⟩ = some (a') ∧ W'.cell? ⟨w.heap.size + 1, 1, none⟩ = some (b') ∧ W'.cell? ⟨w.heap.size + 1, 2, none⟩ = some (c') ∧ W'.cell? ⟨w.heap.size + 1, 3, none⟩ = some (d') ∧ Below w.heap.size w W' ∧ w.heap.size + 2 ≤ W'.heap.size := by
  obtain ⟨h0, h1, h2, h3, k0, k1, k2, k3, hB, hz⟩ := h
  exact ⟨(hb.cell (by simp only; omega)).trans h0, (hb.cell (by simp only; omega)).trans h1, (hb.cell (by simp only; omega)).trans h2, (hb.cell (by simp only; omega)).trans h3,
    (hb.cell (by simp only; omega)).trans k0, (hb.cell (by simp only; omega)).trans k1, (hb.cell (by simp only; omega)).trans k2, (hb.cell (by simp only; omega)).trans k3, hB.trans (hb.mono (by omega)), by have := hb.size; omega⟩
theorem two_keepD {w W : World} {a b c d a' b' c' d' : Value} (h : W.cell? ⟨w.heap.size, 0, none⟩ = some (a) ∧ W.cell? ⟨w.heap.size, 1, none⟩ = some (b) ∧ W.cell? ⟨w.heap.size, 2, none⟩ = some (c) ∧ W.cell? ⟨w.heap.size, 3, none⟩ = some (d) ∧ W.cell? ⟨w.heap.size + 1, 0, none⟩ = some (a') ∧ W.cell? ⟨w.heap.size + 1, 1, none⟩ = some (b') ∧ W.cell? ⟨w.heap.size + 1, 2, none⟩ = some (c') ∧ W.cell? ⟨w.heap.size + 1, 3, none⟩ = some (d') ∧ Below w.heap.size w W ∧ w.heap.size + 2 ≤ W.heap.size) (k : Nat) : (W.drewN k).cell? ⟨w.heap.size, 0, none⟩ = some (a) ∧ (W.drewN k).cell? ⟨w.heap.size, 1, none⟩ = some (b) ∧ (W.drewN k).cell? ⟨w.heap.size, 2, none⟩ = some (c) ∧ (W.drewN k).cell? ⟨w.heap.size, 3, none⟩ = some (d) ∧ (W.drewN k).cell? ⟨w.heap.size + 1, 0, none⟩ = some (a') ∧ (W.drewN k).cell? ⟨w.heap.size + 1, 1, none⟩ = some (b') ∧ (W.drewN k).cell? ⟨w.heap.size + 1, 2, none⟩ = some (c') ∧ (W.drewN k).cell? ⟨w.heap.size + 1, 3, none⟩ = some (d') ∧ Below w.heap.size w (W.drewN k) ∧ w.heap.size + 2 ≤ (W.drewN k).heap.size := two_keep (belD (belR W) k) h
theorem two_keepE {w W : World} {j k : Nat} {a b c d a' b' c' d' : Value} (h : (W.drewN j).cell? ⟨w.heap.size, 0, none⟩ = some (a) ∧ (W.drewN j).cell? ⟨w.heap.size, 1, none⟩ = some (b) ∧ (W.drewN j).cell? ⟨w.heap.size, 2, none⟩ = some (c) ∧ (W.drewN j).cell? ⟨w.heap.size, 3, none⟩ = some (d) ∧ (W.drewN j).cell? ⟨w.heap.size + 1, 0, none⟩ = some (a') ∧ (W.drewN j).cell? ⟨w.heap.size + 1, 1, none⟩ = some (b') ∧ (W.drewN j).cell? ⟨w.heap.size + 1, 2, none⟩ = some (c') ∧ (W.drewN j).cell? ⟨w.heap.size + 1, 3, none⟩ = some (d') ∧ Below w.heap.size w (W.drewN j) ∧ w.heap.size + 2 ≤ (W.drewN j).heap.size) : (W.drewN (j + k)).cell? ⟨w.heap.size, 0, none⟩ = some (a) ∧ (W.drewN (j + k)).cell? ⟨w.heap.size, 1, none⟩ = some (b) ∧ (W.drewN (j + k)).cell? ⟨w.heap.size, 2, none⟩ = some (c) ∧ (W.drewN (j + k)).cell? ⟨w.heap.size, 3, none⟩ = some (d) ∧ (W.drewN (j + k)).cell? ⟨w.heap.size + 1, 0, none⟩ = some (a') ∧ (W.drewN (j + k)).cell? ⟨w.heap.size + 1, 1, none⟩ = some (b') ∧ (W.drewN (j + k)).cell? ⟨w.heap.size + 1, 2, none⟩ = some (c') ∧ (W.drewN (j + k)).cell? ⟨w.heap.size + 1, 3, none⟩ = some (d') ∧ Below w.heap.size w (W.drewN (j + k)) ∧ w.heap.size + 2 ≤ (W.drewN (j + k)).heap.size := by
  rw [← World.drewN_drewN]; exact two_keepD h k

theorem bel2 (w : World) (a b : Obj) : Below w.heap.size w ((w.alloc a).alloc b).drew := ((((Below.refl _ w).alloc (Nat.le_refl _) _).alloc (by simp) _)).drew

set_option maxRecDepth 100000 in
set_option maxHeartbeats 4000000 in
theorem codeOrders_walk (X Y : Nat) (I J : Int) (F G : Nat) (S T : ByteArray) (w : World) (hX : X < 18446744073709551616) (hY : Y < 18446744073709551616)
    (hI1 : -9223372036854775808 ≤ I) (hI2 : I ≤ 9223372036854775807) (hJ1 : -9223372036854775808 ≤ J) (hJ2 : J ≤ 9223372036854775807)
    (hF : F < 18446744073709551616) (hG : G < 18446744073709551616) (hS : S.size ≤ 300) (hT : T.size ≤ 300) :
    Calls Try.prog 5 #[.agg #[.int .u64 (X : Int), .int .i64 I, .float .f64 F, .string S], .agg #[.int .u64 (Y : Int), .int .i64 J, .float .f64 G, .string T]] w fun e w' => e = .returned (.bool true) ∧ Below w.heap.size w w' := by
  have e1 := ltB_encU X Y hX hY
  have e2 := ltB_encI I J hI1 hI2 hJ1 hJ2
  have e3 := ltB_be 8 (keyB F) (keyB G) (by simpa using keyB_lt F) (by simpa using keyB_lt G)
  have e4 : ltB (encT S.data.toList) (encT T.data.toList) = Op.bytesLess S.toList T.toList := by rw [ltB_encT, ltB_bytesLess, ByteArray.toList_eq, ByteArray.toList_eq]
  have hS' : S.size ≤ 1000000 := by omega
  have hT' : T.size ≤ 1000000 := by omega
  have hst := two_start w (.int .u64 (X : Int)) (.int .i64 I) (.float .f64 F) (.string S) (.int .u64 (Y : Int)) (.int .i64 J) (.float .f64 G) (.string T) 34
  have HST := Lib.hid hst; clear hst
  go_enter Try.func5, Try.ntmps5
  go_wp2_with fail
  go_region_held3 (fun W => (W.cell? ⟨w.heap.size, 0, none⟩ = some (.int .u64 (X : Int)) ∧ W.cell? ⟨w.heap.size, 1, none⟩ = some (.int .i64 I) ∧ W.cell? ⟨w.heap.size, 2, none⟩ = some (.float .f64 F) ∧ W.cell? ⟨w.heap.size, 3, none⟩ = some (.string S) ∧ W.cell? ⟨w.heap.size + 1, 0, none⟩ = some (.int .u64 (Y : Int)) ∧ W.cell? ⟨w.heap.size + 1, 1, none⟩ = some (.int .i64 J) ∧ W.cell? ⟨w.heap.size + 1, 2, none⟩ = some (.float .f64 G) ∧ W.cell? ⟨w.heap.size + 1, 3, none⟩ = some (.string T) ∧ Below w.heap.size w W ∧ w.heap.size + 2 ≤ W.heap.size)) (first | (with_reducible exact HST.out) | (with_reducible (refine two_keep ?_ ?_; assumption; assumption)) | (with_reducible (refine two_keepD ?_ _; assumption)) | (with_reducible (refine two_keepE ?_; assumption)) | (refine two_keep2 (by assumption) ?_ ?_; (first | omega | (simp; done) | (simp; omega)); assumption))
    (first
     | (go_at_call 18; (with_reducible refine (codeU_any X _ hX).mono ?_); rintro e w1 ⟨v1, rfl, ho1, hb1⟩; obtain ⟨A1, c1, rfl, hc1, hm1, hn1⟩ := own_form ho1)
     | (go_at_call 18; (with_reducible refine (codeU_any Y _ hY).mono ?_); rintro e w2 ⟨v2, rfl, ho2, hb2⟩; obtain ⟨A2, c2, rfl, hc2, hm2, hn2⟩ := own_form ho2)
     | (go_at_call 17; (with_reducible refine (less_any A1 A2 _ _ _ _ _ _ _ _ (Rd.own (own_below ho1 hb2 (Nat.le_refl _))) (Rd.own ho2) hn1 hn2).mono ?_); rintro e w20 ⟨rfl, k2, rfl⟩)
     | (go_at_call 19; (with_reducible refine (codeI_any I _ hI1 hI2).mono ?_); rintro e w3 ⟨v3, rfl, ho3, hb3⟩; obtain ⟨A3, c3, rfl, hc3, hm3, hn3⟩ := own_form ho3)
     | (go_at_call 19; (with_reducible refine (codeI_any J _ hJ1 hJ2).mono ?_); rintro e w4 ⟨v4, rfl, ho4, hb4⟩; obtain ⟨A4, c4, rfl, hc4, hm4, hn4⟩ := own_form ho4)
     | (go_at_call 17; (with_reducible refine (less_any A3 A4 _ _ _ _ _ _ _ _ (Rd.own (own_below ho3 hb4 (Nat.le_refl _))) (Rd.own ho4) hn3 hn4).mono ?_); rintro e w40 ⟨rfl, k4, rfl⟩)
     | (go_at_call 20; (with_reducible refine (codeF_any F _ hF).mono ?_); rintro e w5 ⟨v5, rfl, ho5, hb5⟩; obtain ⟨A5, c5, rfl, hc5, hm5, hn5⟩ := own_form ho5)
     | (go_at_call 20; (with_reducible refine (codeF_any G _ hG).mono ?_); rintro e w6 ⟨v6, rfl, ho6, hb6⟩; obtain ⟨A6, c6, rfl, hc6, hm6, hn6⟩ := own_form ho6)
     | (go_at_call 17; (with_reducible refine (less_any A5 A6 _ _ _ _ _ _ _ _ (Rd.own (own_below ho5 hb6 (Nat.le_refl _))) (Rd.own ho6) hn5 hn6).mono ?_); rintro e w60 ⟨rfl, k6, rfl⟩)
     | (go_at_call 21; (with_reducible refine (refFLess_any F G _ hF hG).mono ?_); rintro e w60 ⟨rfl, hd6⟩; obtain ⟨k60, rfl⟩ := hd6)
     | (go_at_call 22; (with_reducible refine (codeT_any S _ hS').mono ?_); rintro e w7 ⟨v7, rfl, ho7, hb7⟩; obtain ⟨A7, c7, rfl, hc7, hm7, hn7⟩ := own_form ho7)
     | (go_at_call 22; (with_reducible refine (codeT_any T _ hT').mono ?_); rintro e w8 ⟨v8, rfl, ho8, hb8⟩; obtain ⟨A8, c8, rfl, hc8, hm8, hn8⟩ := own_form ho8)
     | (go_at_call 17; (with_reducible refine (less_any A7 A8 _ _ _ _ _ _ _ _ (Rd.own (own_below ho7 hb8 (Nat.le_refl _))) (Rd.own ho8) hn7 hn8).mono ?_); rintro e w80 ⟨rfl, k8, rfl⟩)
     | (go_at_call 16; (with_reducible refine (awake07_any _).mono ?_); rintro e w9 ⟨rfl, hb9⟩))
  go_wp2
  go_ret
  exact ⟨rfl, belT (belT (belD (belT (belT (belD (belT (belT (belD (belT (belT (bel2 w _ _) hb1) hb2) _) hb3) hb4) _) hb5) hb6) _) hb7) (belT hb8 (belT (belD (belR _) _) hb9))⟩
set_option maxRecDepth 100000 in
theorem codeOrders_all (X Y : Nat) (I J : Int) (F G : Nat) (S T : ByteArray) (w : World) (hX : X < 18446744073709551616) (hY : Y < 18446744073709551616)
    (hI1 : -9223372036854775808 ≤ I) (hI2 : I ≤ 9223372036854775807) (hJ1 : -9223372036854775808 ≤ J) (hJ2 : J ≤ 9223372036854775807)
    (hF : F < 18446744073709551616) (hG : G < 18446744073709551616) :
    Calls Try.prog 5 #[.agg #[.int .u64 (X : Int), .int .i64 I, .float .f64 F, .string S], .agg #[.int .u64 (Y : Int), .int .i64 J, .float .f64 G, .string T]] w fun e w' => e = .returned (.bool true) ∧ Below w.heap.size w w' := by
  by_cases h1 : S.size ≤ 300
  · by_cases h2 : T.size ≤ 300
    · exact codeOrders_walk X Y I J F G S T w hX hY hI1 hI2 hJ1 hJ2 hF hG h1 h2
    · have h2' : 300 < T.size := by omega
      go_enter Try.func5, Try.ntmps5
      go_wp2_with (go_at_call 16; (with_reducible refine (awake07_any _).mono ?_); rintro e w9 ⟨rfl, hb9⟩)
      go_ret
      exact ⟨rfl, belT (((Below.refl _ w).alloc (Nat.le_refl _) _).alloc (by simp) _) hb9⟩
  · have h1' : 300 < S.size := by omega
    go_enter Try.func5, Try.ntmps5
    go_wp2_with (go_at_call 16; (with_reducible refine (awake07_any _).mono ?_); rintro e w9 ⟨rfl, hb9⟩)
    go_ret
    exact ⟨rfl, belT (((Below.refl _ w).alloc (Nat.le_refl _) _).alloc (by simp) _) hb9⟩
end Go.Proofs.Ytlnjohbmdckgkaa
