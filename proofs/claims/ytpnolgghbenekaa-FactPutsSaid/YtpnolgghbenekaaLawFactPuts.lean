/-
  The law FactPuts.
-/
import Derived.Test.YtpnolgghbenekaaFactLight
import Derived.Test.YtpnolgghbenekaaFactGet
import Derived.Test.YtpnolgghbenekaaRefPutFacts
import Derived.Test.YtpnolgghbenekaaRefAll
import Derived.Deep.RegionHeld3
import Derived.Deep.RegionLawGrows
namespace Go.Proofs.Ytpnolgghbenekaa
open Go.ChangeShapes Go.WideShapes Go.ChangeAt Go.RowKit
set_option linter.unusedVariables false

theorem facts_ok {w : World} {B c : Nat} {l : List FactS} {A : Option Addr} (h : SlR factR w B l A c) : ∀ F ∈ l, FactOk F := by
  intro F hF
  obtain ⟨k, hk, rfl⟩ := List.getElem_of_mem hF
  obtain ⟨_, _, _, _, _, _, _, _, _, _, _, _, _, ho⟩ := h.fact3 hk
  exact ho
set_option maxRecDepth 20000 in
set_option maxHeartbeats 4000000 in
theorem lawFactPuts_any (w : World) (B : Nat) (v : Value) (S : Sch) (A : Option Addr) (c : Nat) (l : List FactS) (h : SchAt w B v S) (ho : SchOk S) (g : SlR factR w B l A c) (hB : B ≤ w.heap.size) :
    Calls Try.prog 9 #[v, .slice A l.length c] w fun y w' => y = .returned (.bool true) ∧ Below w.heap.size w w' := by
  have hh := h
  obtain ⟨A0, c0, A1, c1, A2, c2, A3, c3, rfl, r0, r1, r2, r3, b0, b1, b2, b3⟩ := hh
  clear r0 r1 r2 r3 b0 b1 b2 b3
  have hw0 := belA (belR w) (.cells #[.slice A0 S.dims.length c0, .slice A1 S.ints.length c1, .slice A2 S.nums.length c2, .slice A3 S.views.length c3] 52)
  have hl := light_any (w.alloc (.cells #[.slice A0 S.dims.length c0, .slice A1 S.ints.length c1, .slice A2 S.nums.length c2, .slice A3 S.views.length c3] 52)) B _ S (h.keep (hw0.mono hB) (Nat.le_refl _)) (by simp; omega)
  have K0 := Lib.hid (Blk.new w 52 #[.slice A0 S.dims.length c0, .slice A1 S.ints.length c1, .slice A2 S.nums.length c2, .slice A3 S.views.length c3])
  have hlf : ∀ W, Below w.heap.size w W → Calls Try.prog 23 #[.slice A l.length c] W fun y w' => y = .returned (.bool (lightFs l)) ∧ W = w' := fun W hb => lightFs_any W B A c l (g.keep (hb.mono hB) (Nat.le_refl _))
  have hml : l.length ≤ 9223372036854775807 := by have h1 := g.1; have h2 := g.2.1; unfold maxLen at h2; omega
  have HW0 := Lib.hid hw0; have HL0 := Lib.hid hl; have HLF0 := Lib.hid hlf; have H := Lib.hid h; have G := Lib.hid g
  clear hw0 hl hlf h g
  cases h0 : lightB S with
  | false =>
    have hl := HL0.out
    rw [h0] at hl
    have HL := Lib.hid hl
    clear hl h0
    go_enter Try.func9, Try.ntmps9
    go_wp2_with (first | (go_at_call 22; (with_reducible refine HL.out.mono ?_); rintro y w1 ⟨rfl, hb1⟩; have HB1 := Lib.hid (HW0.out.trans (hb1.mono (show w.heap.size ≤ _ by simp))); have HK1 := Lib.hid (K0.out.below hb1 (by simp)); have k10 := HK1.out.cell 0; have k11 := HK1.out.cell 1; have k12 := HK1.out.cell 2; have k13 := HK1.out.cell 3; simp at k10 k11 k12 k13; clear hb1) | (go_at_call 24; (with_reducible refine (awake12_any _).mono ?_); rintro y w9 ⟨rfl, hb9⟩; have HB9 := Lib.hid hb9; clear hb9))
    go_ret
    exact ⟨rfl, belT HB1.out HB9.out⟩
  | true =>
    have hl := HL0.out
    rw [h0] at hl
    have HL := Lib.hid hl
    clear hl h0
    by_cases h1 : l.length ≤ 250
    case neg =>
      go_enter Try.func9, Try.ntmps9
      go_wp2_with (first | (go_at_call 22; (with_reducible refine HL.out.mono ?_); rintro y w1 ⟨rfl, hb1⟩; have HB1 := Lib.hid (HW0.out.trans (hb1.mono (show w.heap.size ≤ _ by simp))); have HK1 := Lib.hid (K0.out.below hb1 (by simp)); have k10 := HK1.out.cell 0; have k11 := HK1.out.cell 1; have k12 := HK1.out.cell 2; have k13 := HK1.out.cell 3; simp at k10 k11 k12 k13; clear hb1) | (go_at_call 24; (with_reducible refine (awake12_any _).mono ?_); rintro y w9 ⟨rfl, hb9⟩; have HB9 := Lib.hid hb9; clear hb9))
      go_ret
      exact ⟨rfl, belT HB1.out HB9.out⟩
    cases h2 : lightFs l with
    | false =>
      have hlf := HLF0.out
      rw [h2] at hlf
      have HLF := Lib.hid hlf
      clear hlf h2
      go_enter Try.func9, Try.ntmps9
      go_wp2_with (first | (go_at_call 22; (with_reducible refine HL.out.mono ?_); rintro y w1 ⟨rfl, hb1⟩; have HB1 := Lib.hid (HW0.out.trans (hb1.mono (show w.heap.size ≤ _ by simp))); have HK1 := Lib.hid (K0.out.below hb1 (by simp)); have k10 := HK1.out.cell 0; have k11 := HK1.out.cell 1; have k12 := HK1.out.cell 2; have k13 := HK1.out.cell 3; simp at k10 k11 k12 k13; clear hb1) | (go_at_call 23; (with_reducible refine (HLF.out _ HB1.out).mono ?_); rintro y w2 ⟨rfl, rfl⟩) | (go_at_call 24; (with_reducible refine (awake12_any _).mono ?_); rintro y w9 ⟨rfl, hb9⟩; have HB9 := Lib.hid hb9; clear hb9))
      go_ret
      exact ⟨rfl, belT HB1.out HB9.out⟩
    | true =>
      have hlf := HLF0.out
      rw [h2] at hlf
      have HLF := Lib.hid hlf
      clear hlf h2
      have hcr : ∀ W, Below w.heap.size w W → Calls Try.prog 26 #[.agg #[.slice A0 S.dims.length c0, .slice A1 S.ints.length c1, .slice A2 S.nums.length c2, .slice A3 S.views.length c3], .slice A l.length c] W fun y w' => y = .returned (.tuple #[.int .i64 ((batchN S l).1 : Int), .int .i64 ((batchN S l).2 : Int)]) ∧ Below W.heap.size W w' := fun W hb =>
        refBatch_any W B _ S A c l (H.out.keep (hb.mono hB) (Nat.le_refl _)) ho (G.out.keep (hb.mono hB) (Nat.le_refl _)) (Nat.le_trans hB hb.size)
      by_cases hq : (batchN S l).2 = 0
      case neg =>
        have hcp : ∀ W, Below w.heap.size w W → Calls Try.prog 45 #[.agg #[.slice A0 S.dims.length c0, .slice A1 S.ints.length c1, .slice A2 S.nums.length c2, .slice A3 S.views.length c3], .slice A l.length c] W fun y w' => y = .returned (.tuple #[.slice none 0 0, .int .i64 ((batchN S l).2 : Int)]) ∧ Below W.heap.size W w' := fun W hb =>
          put_bad W B _ S A c l (H.out.keep (hb.mono hB) (Nat.le_refl _)) ho (G.out.keep (hb.mono hB) (Nat.le_refl _)) (Nat.le_trans hB hb.size) hq
        have t0 := i64_ne0 hq
        generalize (batchN S l).1 = p at *
        generalize (batchN S l).2 = q at *
        have t1 : ((q : Int) == (q : Int)) = true := beq_self_eq_true _
        have HCP := Lib.hid hcp; have HCR := Lib.hid hcr
        clear hcp hcr hq
        go_enter Try.func9, Try.ntmps9
        go_wp2_with (first | (go_at_call 22; (with_reducible refine HL.out.mono ?_); rintro y w1 ⟨rfl, hb1⟩; have HB1 := Lib.hid (HW0.out.trans (hb1.mono (show w.heap.size ≤ _ by simp))); have HK1 := Lib.hid (K0.out.below hb1 (by simp)); have k10 := HK1.out.cell 0; have k11 := HK1.out.cell 1; have k12 := HK1.out.cell 2; have k13 := HK1.out.cell 3; simp at k10 k11 k12 k13; clear hb1) | (go_at_call 23; (with_reducible refine (HLF.out _ HB1.out).mono ?_); rintro y w2 ⟨rfl, rfl⟩) | (go_at_call 45; (with_reducible refine (HCP.out _ HB1.out).mono ?_); rintro y w3 ⟨rfl, hb3⟩; have HB3 := Lib.hid (belT HB1.out hb3); have HK3 := Lib.hid (HK1.out.below hb3 HK1.out.lt); have k30 := HK3.out.cell 0; have k31 := HK3.out.cell 1; have k32 := HK3.out.cell 2; have k33 := HK3.out.cell 3; simp at k30 k31 k32 k33; clear hb3) | (go_at_call 26; (with_reducible refine (HCR.out _ HB3.out).mono ?_); rintro y w4 ⟨rfl, hb4⟩; have HB4 := Lib.hid (belT HB3.out hb4); clear hb4) | (go_at_call 24; (with_reducible refine (awake12_any _).mono ?_); rintro y w9 ⟨rfl, hb9⟩; have HB9 := Lib.hid hb9; clear hb9))
        go_ret
        exact ⟨rfl, belT HB4.out HB9.out⟩
      case pos =>
        have hcp : ∀ W, Below w.heap.size w W → Calls Try.prog 45 #[.agg #[.slice A0 S.dims.length c0, .slice A1 S.ints.length c1, .slice A2 S.nums.length c2, .slice A3 S.views.length c3], .slice A l.length c] W fun y w' => ∃ v', y = .returned (.tuple #[v', .int .i64 0]) ∧ w'.ownsRow W.heap.size 5 1 v' (encBatch l).length (u8s (encBatch l)) ∧ Below W.heap.size W w' := fun W hb =>
          put_any W B _ S A c l (H.out.keep (hb.mono hB) (Nat.le_refl _)) ho (G.out.keep (hb.mono hB) (Nat.le_refl _)) (Nat.le_trans hB hb.size) hq
        have hcq : ∀ W, Below w.heap.size w W → Calls Try.prog 47 #[.slice A l.length c] W fun y w' => ∃ v', y = .returned v' ∧ w'.ownsRow W.heap.size 5 1 v' (encBatch l).length (u8s (encBatch l)) ∧ Below W.heap.size W w' := fun W hb =>
          refPut_any W B S A c l (G.out.keep (hb.mono hB) (Nat.le_refl _)) (Nat.le_trans hB hb.size) hq
        rw [hq] at hcr
        obtain ⟨hc0, _, hl2, hfit⟩ := batchN_zero hq
        have hle := encTo_le hc0 hfit l.length (Nat.le_refl _)
        rw [encTo_all] at hle
        obtain ⟨m, hm1, hm2⟩ := getB_put hq (facts_ok G.out)
        have hcg : ∀ W, Below w.heap.size w W → ∀ A5 c5, Rd W W.heap.size 1 A5 (encBatch l).length (u8s (encBatch l)) → Calls Try.prog 46 #[.agg #[.slice A0 S.dims.length c0, .slice A1 S.ints.length c1, .slice A2 S.nums.length c2, .slice A3 S.views.length c3], .slice A5 (encBatch l).length c5] W fun y w' => ∃ A' c', y = .returned (.tuple #[.slice A' m.length c', .int .i64 0]) ∧ SlR factR w' w'.heap.size m A' c' ∧ Below W.heap.size W w' := fun W hb A5 c5 hr => by
          have := factGet_any W W.heap.size _ S A5 (encBatch l).length c5 (encBatch l) ((H.out.keep (hb.mono hB) (Nat.le_refl _)).keep (belR W |>.mono (Nat.le_trans hB hb.size)) (Nat.le_trans hB hb.size)) ho hr (Nat.le_refl _) (by omega)
          rw [hm1] at this
          exact this
        have hca : ∀ W, Below w.heap.size w W → ∀ A5 c5, SlR factR W W.heap.size m A5 c5 → Calls Try.prog 48 #[.slice A l.length c, .slice A5 m.length c5] W fun y w' => y = .returned (.bool true) ∧ Below W.heap.size W w' := fun W hb A5 c5 hr => by
          have := refAll_any W W.heap.size A A5 c c5 l m ((G.out.keep (hb.mono hB) (Nat.le_refl _)).mono (Nat.le_trans hB hb.size)) hr (Nat.le_refl _)
          rw [hm2] at this
          exact this
        generalize encBatch l = E at *
        generalize (batchN S l).1 = p at *
        have HCP := Lib.hid hcp; have HCR := Lib.hid hcr; have HCQ := Lib.hid hcq; have HCG := Lib.hid hcg; have HCA := Lib.hid hca
        clear hcp hcr hcq hcg hca hm1 hm2 hq hc0 hfit
        go_enter Try.func9, Try.ntmps9
        go_wp2_with (first | (go_at_call 22; (with_reducible refine HL.out.mono ?_); rintro y w1 ⟨rfl, hb1⟩; have HB1 := Lib.hid (HW0.out.trans (hb1.mono (show w.heap.size ≤ _ by simp))); have HK1 := Lib.hid (K0.out.below hb1 (by simp)); have k10 := HK1.out.cell 0; have k11 := HK1.out.cell 1; have k12 := HK1.out.cell 2; have k13 := HK1.out.cell 3; simp at k10 k11 k12 k13; clear hb1) | (go_at_call 23; (with_reducible refine (HLF.out _ HB1.out).mono ?_); rintro y w2 ⟨rfl, rfl⟩))
        (with_reducible refine (HCP.out _ HB1.out).mono ?_); rintro y w3 ⟨v3, rfl, ho3, hb3⟩
        obtain ⟨A5, c5, rfl, _, _, _⟩ := own_form ho3
        have HB3 := Lib.hid (belT HB1.out hb3); have HK3 := Lib.hid (HK1.out.below hb3 HK1.out.lt)
        have k30 := HK3.out.cell 0; have k31 := HK3.out.cell 1; have k32 := HK3.out.cell 2; have k33 := HK3.out.cell 3
        simp at k30 k31 k32 k33
        have HO3 := Lib.hid ho3
        clear ho3 hb3 k10 k11 k12 k13
        go_wp2_with fail
        (with_reducible refine (HCR.out _ HB3.out).mono ?_); rintro y w4 ⟨rfl, hb4⟩
        have HB4 := Lib.hid (belT HB3.out hb4); have HK4 := Lib.hid (HK3.out.below hb4 HK3.out.lt)
        have k40 := HK4.out.cell 0; have k41 := HK4.out.cell 1; have k42 := HK4.out.cell 2; have k43 := HK4.out.cell 3
        simp at k40 k41 k42 k43
        have HO4 := Lib.hid (own_below HO3.out hb4 (Nat.le_refl _))
        clear hb4 k30 k31 k32 k33
        go_wp2_with fail
        (with_reducible refine (HCG.out _ HB4.out A5 c5 (Rd.own HO4.out)).mono ?_); rintro y w5 ⟨A6, c6, rfl, hs5, hb5⟩
        have HB5 : Hid (Below w.heap.size w w5.drew) := Lib.hid (belD (belT HB4.out hb5) 1)
        have HO5 : Hid (w5.drew.ownsRow w1.heap.size 5 1 (.slice A5 E.length c5) E.length (u8s E)) := Lib.hid (by have hx := own_below HO4.out hb5 (Nat.le_refl _); exact hx)
        have HS5 : Hid (SlR factR w5.drew w5.drew.heap.size m A6 c6) := Lib.hid (hs5.drewN 1)
        clear hb5 hs5 k40 k41 k42 k43
        have hv1 := run_str_own (P := Try.prog) (src := 36) (dst := 9) (e := 5) HO5.out Try.underlying36 Try.underlying5 Try.underlying9
        go_upto_region 8 with (fail)
        go_region_held (fun W => (convert 36 9 (.slice A5 E.length c5)).run Try.prog W = .ok (.string ⟨E.toArray⟩) W) (first | (exact hv1) | (exact hv3) | (exact hv7) | (exact hv9)) (first
          | (go_at_call 47; (with_reducible refine (HCQ.out _ HB5.out).mono ?_); rintro y w6 ⟨v6, rfl, ho6, hb6⟩; obtain ⟨A7, c7, rfl, _, _, _⟩ := own_form ho6; have hv2 := run_str_own (P := Try.prog) (src := 36) (dst := 9) (e := 5) (ho6) Try.underlying36 Try.underlying5 Try.underlying9; have HO6 := Lib.hid (own_below HO5.out hb6 (Nat.le_refl _)); have hv3 := run_str_own (P := Try.prog) (src := 36) (dst := 9) (e := 5) (HO6.out) Try.underlying36 Try.underlying5 Try.underlying9; have HB6 := Lib.hid (belT HB5.out hb6); have HS6 := Lib.hid (HS5.out.keep hb6 hb6.size); clear ho6 hb6)
          | (go_at_call 48; (with_reducible refine (HCA.out _ HB6.out A6 c6 HS6.out).mono ?_); rintro y w7 ⟨rfl, hb7⟩; have HB7 := Lib.hid (belT HB6.out hb7); have HO7 := Lib.hid (own_below HO6.out hb7 (Nat.le_refl _)); have hv7 := run_str_own (P := Try.prog) (src := 36) (dst := 9) (e := 5) (HO7.out) Try.underlying36 Try.underlying5 Try.underlying9; clear hb7)
          | (go_at_call 24; (with_reducible refine (awake12_any _).mono ?_); rintro y w9 ⟨rfl, hb9⟩; have HB9 := Lib.hid hb9; have HO9 := Lib.hid (own_below HO7.out hb9 (Nat.le_refl _)); have hv9 := run_str_own (P := Try.prog) (src := 36) (dst := 9) (e := 5) (HO9.out) Try.underlying36 Try.underlying5 Try.underlying9; clear hb9))
        all_goals
          go_wp2
          go_ret
          exact ⟨rfl, belT HB7.out HB9.out⟩
end Go.Proofs.Ytpnolgghbenekaa
