/-
  THE WALK of bushellaw07.CodeGets.
-/
import Derived.Test.YtlnjohbmdckgkaaCodeAwake
import Derived.Test.YtlnjohbmdckgkaaGetFAny
import Derived.Test.YtlnjohbmdckgkaaRefGetI
import Derived.Test.YtlnjohbmdckgkaaRefGetT
namespace Go.Proofs.Ytlnjohbmdckgkaa
open Go.ChangeShapes Go.WideShapes Go.ChangeAt Go.RowKit
set_option linter.unusedVariables false

set_option maxRecDepth 20000 in
set_option maxHeartbeats 4000000 in
theorem codeGets_walk (A : Option Addr) (n c : Nat) (t : List UInt8) (w : World) (h : Rd w w.heap.size 1 A n (u8s t)) (hn : n ≤ 300) (hnc : n ≤ c) (hc : c ≤ maxLen) :
    Calls Try.prog 8 #[.slice A n c] w fun e w' => e = .returned (.bool true) ∧ Below w.heap.size w w' := by
  obtain rfl : n = t.length := h.u8.symm
  have g1 := fun (W : World) (hW : Below w.heap.size w W) => getU_any A t.length c _ t W (h.below hW) hnc hc
  have g2 := fun (W : World) (hW : Below w.heap.size w W) => refGetU_any A t.length c _ t W (h.below hW) (Nat.le_trans hnc hc)
  have g3 := fun (W : World) (hW : Below w.heap.size w W) => getI_any A t.length c t W ((h.below hW).more hW.size) hnc hc
  have g4 := fun (W : World) (hW : Below w.heap.size w W) => refGetI_any A t.length c _ t W (h.below hW) hnc hc hW.size (by omega)
  have g5 := fun (W : World) (hW : Below w.heap.size w W) => getF_any A t.length c _ t W (h.below hW) hnc hc
  have g6 := fun (W : World) (hW : Below w.heap.size w W) => refGetF_any A t.length c _ t W (h.below hW) (Nat.le_trans hnc hc)
  have g7 := fun (W : World) (hW : Below w.heap.size w W) => getT_any A t.length c t W ((h.below hW).more hW.size) (by omega)
  have g8 := fun (W : World) (hW : Below w.heap.size w W) => refGetT_any A t.length c _ t W (h.below hW) (by omega) hnc hc
  have hd := getF_doc t
  obtain ⟨⟨X, N1, E1⟩, e1⟩ : ∃ r, getU t = r := ⟨_, rfl⟩
  obtain ⟨⟨I, N2, E2⟩, e2⟩ : ∃ r, getI t = r := ⟨_, rfl⟩
  obtain ⟨⟨F, N3, E3⟩, e3⟩ : ∃ r, getF t = r := ⟨_, rfl⟩
  obtain ⟨⟨K, E3'⟩, e3'⟩ : ∃ r, rgetF t = r := ⟨_, rfl⟩
  obtain ⟨⟨T, N4, E4⟩, e4⟩ : ∃ r, getT t = r := ⟨_, rfl⟩
  rw [e1] at g1 g2; rw [e2] at g3 g4; rw [e3] at g5 hd; rw [e3'] at g6 hd; rw [e4] at g7 g8
  simp only at g1 g2 g3 g4 g5 g6 g7 g8 hd
  obtain ⟨rfl, hd1, hd2⟩ := hd
  have G1 := Lib.hid g1; have G2 := Lib.hid g2; have G3 := Lib.hid g3; have G4 := Lib.hid g4; have G5 := Lib.hid g5; have G6 := Lib.hid g6; have G7 := Lib.hid g7; have G8 := Lib.hid g8
  clear g1 g2 g3 g4 g5 g6 g7 g8 e1 e2 e3 e3' e4 h
  have hs0 := fun W => refFSame_any 0 0 W (by decide) (by decide)
  rw [decide_eq_true (rfl : keyB 0 = keyB 0)] at hs0
  have HS0 := Lib.hid hs0; clear hs0
  have B0 := belR w
  have key : ∀ (b : Bool), ((E3 : Int) == 0) = b → ((E3 : Int) != 0) = !b → (b = true → N3 = 8 ∧ keyB F = K ∧ F < 18446744073709551616) → (b = false → F = 0 ∧ N3 = 0) →
      Calls Try.prog 8 #[.slice A t.length c] w fun e w' => e = .returned (.bool true) ∧ Below w.heap.size w w' := by
    intro b hb1 hb2 hy hno
    have pre : b = true ∧ N3 = 8 ∧ keyB F = K ∧ F < 18446744073709551616 ∨ b = false ∧ F = 0 ∧ N3 = 0 := by cases b; exact .inr ⟨rfl, hno rfl⟩; exact .inl ⟨rfl, hy rfl⟩
    clear hy hno hd1 hd2
    rcases pre with ⟨rfl, rfl, hk, hF⟩ | ⟨rfl, rfl, rfl⟩
    · have hkey := fun W => refKey_any F W hF
      rw [hk] at hkey
      have HKEY := Lib.hid hkey; clear hkey hk
      simp only [Bool.not_true] at hb2
      go_enter Try.func8, Try.ntmps8
      go_upto_region 4 with (go_at_call 28; (with_reducible refine (G1.out _ B0).mono ?_); rintro y w1 ⟨rfl, hw1⟩)
      have B1 := Drw.below hw1 B0
      clear hw1
      go_upto_region 7 with (go_at_call 33; (with_reducible refine (G2.out _ B1).mono ?_); rintro y w2 ⟨rfl, hw2⟩)
      have B2 := Drw.below hw2 B1
      clear hw2
      go_upto_region 8 with (go_at_call 29; (with_reducible refine (G3.out _ B2).mono ?_); rintro y w3 ⟨rfl, hw3⟩)
      have B3 := belT B2 hw3
      clear hw3
      go_upto_region 11 with (go_at_call 34; (with_reducible refine (G4.out _ B3).mono ?_); rintro y w4 ⟨rfl, hw4⟩)
      have B4 := belT B3 hw4
      clear hw4
      go_upto_region 12 with (go_at_call 30; (with_reducible refine (G5.out _ B4).mono ?_); rintro y w5 ⟨rfl, hw5⟩)
      have B5 := belT B4 hw5
      clear hw5
      go_upto_region 13 with (go_at_call 35; (with_reducible refine (G6.out _ B5).mono ?_); rintro y w6 ⟨rfl, hw6⟩)
      have B6 := Drw.below hw6 B5
      clear hw6
      go_upto_region 15 with (go_at_call 36; (with_reducible refine (HKEY.out _).mono ?_); rintro y w9 ⟨rfl, hw9⟩)
      have B9 := Drw.below hw9 B6
      clear hw9
      go_upto_region 16 with (go_at_call 31; (with_reducible refine (G7.out _ B9).mono ?_); rintro y w7 ⟨rfl, hw7⟩)
      have B7 := belT B9 hw7
      clear hw7
      go_upto_region 17 with (go_at_call 37; (with_reducible refine (G8.out _ B7).mono ?_); rintro y w8 ⟨rfl, hw8⟩)
      have B8 := Drw.below hw8 B7
      clear hw8
      go_wp2_with (go_at_call 16; (with_reducible refine (awake07_any _).mono ?_); rintro y w10 ⟨rfl, hw10⟩)
      go_ret
      exact ⟨rfl, belT B8 hw10⟩
    · simp only [Bool.not_false] at hb2
      go_enter Try.func8, Try.ntmps8
      go_upto_region 4 with (go_at_call 28; (with_reducible refine (G1.out _ B0).mono ?_); rintro y w1 ⟨rfl, hw1⟩)
      have B1 := Drw.below hw1 B0
      clear hw1
      go_upto_region 7 with (go_at_call 33; (with_reducible refine (G2.out _ B1).mono ?_); rintro y w2 ⟨rfl, hw2⟩)
      have B2 := Drw.below hw2 B1
      clear hw2
      go_upto_region 8 with (go_at_call 29; (with_reducible refine (G3.out _ B2).mono ?_); rintro y w3 ⟨rfl, hw3⟩)
      have B3 := belT B2 hw3
      clear hw3
      go_upto_region 11 with (go_at_call 34; (with_reducible refine (G4.out _ B3).mono ?_); rintro y w4 ⟨rfl, hw4⟩)
      have B4 := belT B3 hw4
      clear hw4
      go_upto_region 12 with (go_at_call 30; (with_reducible refine (G5.out _ B4).mono ?_); rintro y w5 ⟨rfl, hw5⟩)
      have B5 := belT B4 hw5
      clear hw5
      go_upto_region 13 with (go_at_call 35; (with_reducible refine (G6.out _ B5).mono ?_); rintro y w6 ⟨rfl, hw6⟩)
      have B6 := Drw.below hw6 B5
      clear hw6
      go_upto_region 15 with (go_at_call 32; (with_reducible refine (HS0.out _).mono ?_); rintro y w9 ⟨rfl, hw9⟩)
      have B9 := Drw.below hw9 B6
      clear hw9
      go_upto_region 16 with (go_at_call 31; (with_reducible refine (G7.out _ B9).mono ?_); rintro y w7 ⟨rfl, hw7⟩)
      have B7 := belT B9 hw7
      clear hw7
      go_upto_region 17 with (go_at_call 37; (with_reducible refine (G8.out _ B7).mono ?_); rintro y w8 ⟨rfl, hw8⟩)
      have B8 := Drw.below hw8 B7
      clear hw8
      go_wp2_with (go_at_call 16; (with_reducible refine (awake07_any _).mono ?_); rintro y w10 ⟨rfl, hw10⟩)
      go_ret
      exact ⟨rfl, belT B8 hw10⟩
  by_cases hE : E3 = 0
  · obtain ⟨h1, h2, h3⟩ := hd2 hE
    exact key true (by rw [hE]; rfl) (by rw [hE]; rfl) (fun _ => ⟨h1, h2, h3⟩) (fun h => by cases h)
  · have := hd1 hE
    simp only [Prod.mk.injEq] at this
    exact key false (by rw [beq_eq_false_iff_ne]; omega) (by show _ = true; rw [bne_iff_ne]; omega) (fun h => by cases h) (fun _ => ⟨this.1, this.2.1⟩)

theorem codeGets_all (A : Option Addr) (n c : Nat) (t : List UInt8) (w : World) (h : Rd w w.heap.size 1 A n (u8s t)) (hnc : n ≤ c) (hc : c ≤ maxLen) :
    Calls Try.prog 8 #[.slice A n c] w fun e w' => e = .returned (.bool true) ∧ Below w.heap.size w w' := by
  by_cases hn : n ≤ 300
  · exact codeGets_walk A n c t w h hn hnc hc
  · have h3 : 300 < n := by omega
    clear h
    go_enter Try.func8, Try.ntmps8
    go_wp2_with (go_at_call 16; (with_reducible refine (awake07_any _).mono ?_); rintro y w7 ⟨rfl, hb7⟩)
    go_ret
    exact ⟨rfl, hb7⟩
end Go.Proofs.Ytlnjohbmdckgkaa
