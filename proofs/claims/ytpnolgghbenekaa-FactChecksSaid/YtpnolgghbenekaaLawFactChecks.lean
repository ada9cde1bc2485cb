/-
  The law FactChecks.
-/
import Derived.Test.YtpnolgghbenekaaFactLight
import Derived.Test.YtpnolgghbenekaaFactSame2
import Derived.Deep.RegionHeld3
namespace Go.Proofs.Ytpnolgghbenekaa
open Go.ChangeShapes Go.WideShapes Go.ChangeAt Go.RowKit
set_option linter.unusedVariables false

set_option maxRecDepth 20000 in
set_option maxHeartbeats 4000000 in
theorem lawFactChecks_any (w : World) (B : Nat) (v : Value) (S : Sch) (A : Option Addr) (c : Nat) (l : List FactS) (h : SchAt w B v S) (ho : SchOk S) (g : SlR factR w B l A c) (hB : B ≤ w.heap.size) :
    Calls Try.prog 5 #[v, .slice A l.length c] w fun y w' => y = .returned (.bool true) ∧ Below w.heap.size w w' := by
  have hh := h
  obtain ⟨A0, c0, A1, c1, A2, c2, A3, c3, rfl, r0, r1, r2, r3, b0, b1, b2, b3⟩ := hh
  clear r0 r1 r2 r3 b0 b1 b2 b3
  have hw0 := belA (belR w) (.cells #[.slice A0 S.dims.length c0, .slice A1 S.ints.length c1, .slice A2 S.nums.length c2, .slice A3 S.views.length c3] 52)
  have hl := light_any (w.alloc (.cells #[.slice A0 S.dims.length c0, .slice A1 S.ints.length c1, .slice A2 S.nums.length c2, .slice A3 S.views.length c3] 52)) B _ S (h.keep (hw0.mono hB) (Nat.le_refl _)) (by simp; omega)
  have K0 := Lib.hid (Blk.new w 52 #[.slice A0 S.dims.length c0, .slice A1 S.ints.length c1, .slice A2 S.nums.length c2, .slice A3 S.views.length c3])
  have hlf : ∀ W, Below w.heap.size w W → Calls Try.prog 23 #[.slice A l.length c] W fun y w' => y = .returned (.bool (lightFs l)) ∧ W = w' := fun W hb => lightFs_any W B A c l (g.keep (hb.mono hB) (Nat.le_refl _))
  have hml : l.length ≤ 9223372036854775807 := by have h1 := g.1; have h2 := g.2.1; unfold maxLen at h2; omega
  have HW0 := Lib.hid hw0; have HL0 := Lib.hid hl; have HLF0 := Lib.hid hlf; have H := Lib.hid h; have G := Lib.hid g
  clear hw0 hl hlf h g
  cases h0 : lightB S with
  | false =>
    have hl := HL0.out
    rw [h0] at hl
    have HL := Lib.hid hl
    clear hl h0
    go_enter Try.func5, Try.ntmps5
    go_wp2_with (first | (go_at_call 22; (with_reducible refine HL.out.mono ?_); rintro y w1 ⟨rfl, hb1⟩; have HB1 := Lib.hid (HW0.out.trans (hb1.mono (show w.heap.size ≤ _ by simp))); have HK1 := Lib.hid (K0.out.below hb1 (by simp)); have k10 := HK1.out.cell 0; have k11 := HK1.out.cell 1; have k12 := HK1.out.cell 2; have k13 := HK1.out.cell 3; simp at k10 k11 k12 k13; clear hb1) | (go_at_call 24; (with_reducible refine (awake12_any _).mono ?_); rintro y w3 ⟨rfl, hb3⟩; have HB3 := Lib.hid hb3; clear hb3))
    go_ret
    exact ⟨rfl, belT HB1.out HB3.out⟩
  | true =>
    have hl := HL0.out
    rw [h0] at hl
    have HL := Lib.hid hl
    clear hl h0
    by_cases h1 : l.length ≤ 250
    case neg =>
      go_enter Try.func5, Try.ntmps5
      go_wp2_with (first | (go_at_call 22; (with_reducible refine HL.out.mono ?_); rintro y w1 ⟨rfl, hb1⟩; have HB1 := Lib.hid (HW0.out.trans (hb1.mono (show w.heap.size ≤ _ by simp))); have HK1 := Lib.hid (K0.out.below hb1 (by simp)); have k10 := HK1.out.cell 0; have k11 := HK1.out.cell 1; have k12 := HK1.out.cell 2; have k13 := HK1.out.cell 3; simp at k10 k11 k12 k13; clear hb1) | (go_at_call 24; (with_reducible refine (awake12_any _).mono ?_); rintro y w3 ⟨rfl, hb3⟩; have HB3 := Lib.hid hb3; clear hb3))
      go_ret
      exact ⟨rfl, belT HB1.out HB3.out⟩
    cases h2 : lightFs l with
    | false =>
      have hlf := HLF0.out
      rw [h2] at hlf
      have HLF := Lib.hid hlf
      clear hlf h2
      go_enter Try.func5, Try.ntmps5
      go_wp2_with (first | (go_at_call 22; (with_reducible refine HL.out.mono ?_); rintro y w1 ⟨rfl, hb1⟩; have HB1 := Lib.hid (HW0.out.trans (hb1.mono (show w.heap.size ≤ _ by simp))); have HK1 := Lib.hid (K0.out.below hb1 (by simp)); have k10 := HK1.out.cell 0; have k11 := HK1.out.cell 1; have k12 := HK1.out.cell 2; have k13 := HK1.out.cell 3; simp at k10 k11 k12 k13; clear hb1) | (go_at_call 23; (with_reducible refine (HLF.out _ HB1.out).mono ?_); rintro y w2 ⟨rfl, rfl⟩) | (go_at_call 24; (with_reducible refine (awake12_any _).mono ?_); rintro y w3 ⟨rfl, hb3⟩; have HB3 := Lib.hid hb3; clear hb3))
      go_ret
      exact ⟨rfl, belT HB1.out HB3.out⟩
    | true =>
      have hlf := HLF0.out
      rw [h2] at hlf
      have HLF := Lib.hid hlf
      clear hlf h2
      have hcb : ∀ W, Below w.heap.size w W → Calls Try.prog 25 #[.agg #[.slice A0 S.dims.length c0, .slice A1 S.ints.length c1, .slice A2 S.nums.length c2, .slice A3 S.views.length c3], .slice A l.length c] W fun y w' => y = .returned (.tuple #[.int .i64 ((batchN S l).1 : Int), .int .i64 ((batchN S l).2 : Int)]) ∧ Below W.heap.size W w' := fun W hb =>
        batch_any W B _ S A c l (H.out.keep (hb.mono hB) (Nat.le_refl _)) ho (G.out.keep (hb.mono hB) (Nat.le_refl _)) (Nat.le_trans hB hb.size)
      have hcr : ∀ W, Below w.heap.size w W → Calls Try.prog 26 #[.agg #[.slice A0 S.dims.length c0, .slice A1 S.ints.length c1, .slice A2 S.nums.length c2, .slice A3 S.views.length c3], .slice A l.length c] W fun y w' => y = .returned (.tuple #[.int .i64 ((batchN S l).1 : Int), .int .i64 ((batchN S l).2 : Int)]) ∧ Below W.heap.size W w' := fun W hb =>
        refBatch_any W B _ S A c l (H.out.keep (hb.mono hB) (Nat.le_refl _)) ho (G.out.keep (hb.mono hB) (Nat.le_refl _)) (Nat.le_trans hB hb.size)
      have hck : ∀ W, Below w.heap.size w W → Calls Try.prog 27 #[.agg #[.slice A0 S.dims.length c0, .slice A1 S.ints.length c1, .slice A2 S.nums.length c2, .slice A3 S.views.length c3]] W fun y w' => y = .returned (.int .i64 (checkN S : Int)) ∧ Below W.heap.size W w' := fun W hb =>
        refCheck_any W B _ S (H.out.keep (hb.mono hB) (Nat.le_refl _)) ho (Nat.le_trans hB hb.size)
      generalize (batchN S l).1 = p at *
      generalize (batchN S l).2 = q at *
      have tp : ((p : Int) != (p : Int)) = false := bne_self_eq_false _
      have tq : ((q : Int) != (q : Int)) = false := bne_self_eq_false _
      have HCB := Lib.hid hcb; have HCR := Lib.hid hcr; have HCK := Lib.hid hck
      clear hcb hcr hck
      go_enter Try.func5, Try.ntmps5
      go_wp2_with (first
        | (go_at_call 22; (with_reducible refine HL.out.mono ?_); rintro y w1 ⟨rfl, hb1⟩; have HB1 := Lib.hid (HW0.out.trans (hb1.mono (show w.heap.size ≤ _ by simp))); have HK1 := Lib.hid (K0.out.below hb1 (by simp)); have k10 := HK1.out.cell 0; have k11 := HK1.out.cell 1; have k12 := HK1.out.cell 2; have k13 := HK1.out.cell 3; simp at k10 k11 k12 k13; clear hb1)
        | (go_at_call 23; (with_reducible refine (HLF.out _ HB1.out).mono ?_); rintro y w2 ⟨rfl, rfl⟩)
        | (go_at_call 25; (with_reducible refine (HCB.out _ HB1.out).mono ?_); rintro y w3 ⟨rfl, hb3⟩; have HB2 := Lib.hid (belT HB1.out hb3); have HK2 := Lib.hid (HK1.out.below hb3 HK1.out.lt); have k20 := HK2.out.cell 0; have k21 := HK2.out.cell 1; have k22 := HK2.out.cell 2; have k23 := HK2.out.cell 3; simp at k20 k21 k22 k23; clear hb3)
        | (go_at_call 26; (with_reducible refine (HCR.out _ HB2.out).mono ?_); rintro y w4 ⟨rfl, hb4⟩; have HB4 := Lib.hid (belT HB2.out hb4); have HK4 := Lib.hid (HK2.out.below hb4 HK2.out.lt); clear hb4))
      clear k10 k11 k12 k13 k20 k21 k22 k23 tp tq
      go_loopw [9] (fun i wr => ∃ k : Nat, k ≤ l.length ∧ i = .int .i64 (k : Int) ∧ Hid (Below w4.heap.size w4 wr)) (fun i _ => l.length - (intOf i).toNat)
      case atStart => exact ⟨0, by omega, rfl, belR w4⟩
      case round =>
        obtain ⟨k, hk, rfl, HBr⟩ := hrel
        have HBW := Lib.hid (belT HB4.out HBr.out)
        by_cases hlt : k < l.length
        · have hkr := HK4.out.below HBr.out HK4.out.lt
          obtain ⟨a, D0, d0, D1, d1, D2, d2, rfl, hab, x0, x1, x2, hf, hfo⟩ := G.out.fact3 hlt
          obtain ⟨a', E0, e0, E1, e1, E2, e2, ea, _, y0, y1, y2, hg, hgo⟩ := G.out.fact3 (k := 0) (by omega)
          injection ea with ea; subst ea
          rw [Nat.zero_mul, add_zero'] at y0 y1 y2
          have q0 : 0 < l.length := by omega
          have q1 : (0 : Int) ≤ (k : Int) := by omega
          have q2 : (k : Int) < (l.length : Int) := by omega
          have hgo2 := hgo; have hfo2 := hfo
          generalize l[k] = F at *
          generalize l[0] = F0 at *
          have hS : ∀ W : World, Below wr.heap.size wr W → (W.cell? ⟨w.heap.size, 0, none⟩ = some (.slice A0 S.dims.length c0) ∧ W.cell? ⟨w.heap.size, 1, none⟩ = some (.slice A1 S.ints.length c1) ∧ W.cell? ⟨w.heap.size, 2, none⟩ = some (.slice A2 S.nums.length c2) ∧ W.cell? ⟨w.heap.size, 3, none⟩ = some (.slice A3 S.views.length c3) ∧ W.cell? (a.add (k * 3)) = some (.slice D0 F.codes.length d0) ∧ W.cell? ⟨(a.add (k * 3)).block, (a.add (k * 3)).off + 1, none⟩ = some (.slice D1 F.ints.length d1) ∧ W.cell? ⟨(a.add (k * 3)).block, (a.add (k * 3)).off + 2, none⟩ = some (.slice D2 F.nums.length d2) ∧ W.cell? a = some (.slice E0 F0.codes.length e0) ∧ W.cell? ⟨a.block, a.off + 1, none⟩ = some (.slice E1 F0.ints.length e1) ∧ W.cell? ⟨a.block, a.off + 2, none⟩ = some (.slice E2 F0.nums.length e2)) := fun W hb => by
            have hk3 := hkr.below hb hkr.lt
            have hbb := belT HBW.out hb
            exact ⟨hk3.cell 0, hk3.cell 1, hk3.cell 2, hk3.cell 3, (hbb.cell (p := a.add (k * 3)) (by rw [block_add]; omega)).trans x0,
              (hbb.cell (p := ⟨(a.add (k * 3)).block, (a.add (k * 3)).off + 1, none⟩) (by show (a.add (k * 3)).block < _; rw [block_add]; omega)).trans x1,
              (hbb.cell (p := ⟨(a.add (k * 3)).block, (a.add (k * 3)).off + 2, none⟩) (by show (a.add (k * 3)).block < _; rw [block_add]; omega)).trans x2,
              (hbb.cell (p := a) (by omega)).trans y0, (hbb.cell (p := ⟨a.block, a.off + 1, none⟩) (by show a.block < _; omega)).trans y1, (hbb.cell (p := ⟨a.block, a.off + 2, none⟩) (by show a.block < _; omega)).trans y2⟩
          have hcc : ∀ W, Below wr.heap.size wr W → Calls Try.prog 29 #[.agg #[.slice A0 S.dims.length c0, .slice A1 S.ints.length c1, .slice A2 S.nums.length c2, .slice A3 S.views.length c3], .agg #[.slice D0 F.codes.length d0, .slice D1 F.ints.length d1, .slice D2 F.nums.length d2]] W fun y w' => y = .returned (.int .i64 (factCheckN S F : Int)) ∧ Below W.heap.size W w' := fun W hb =>
            factCheck_any W B _ _ S F (H.out.keep ((belT HBW.out hb).mono hB) (Nat.le_refl _)) ho (hf.keep ((belT HBW.out hb).mono hB)) (Nat.le_trans hB (belT HBW.out hb).size)
          have hcf : ∀ W, Below wr.heap.size wr W → Calls Try.prog 28 #[.agg #[.slice A0 S.dims.length c0, .slice A1 S.ints.length c1, .slice A2 S.nums.length c2, .slice A3 S.views.length c3], .agg #[.slice D0 F.codes.length d0, .slice D1 F.ints.length d1, .slice D2 F.nums.length d2]] W fun y w' => y = .returned (.int .i64 (fitsN S F : Int)) ∧ Below W.heap.size W w' := fun W hb =>
            refFits_any W B _ _ S F (H.out.keep ((belT HBW.out hb).mono hB) (Nat.le_refl _)) (hf.keep ((belT HBW.out hb).mono hB)) (Nat.le_trans hB (belT HBW.out hb).size)
          have hcs : ∀ W, Below wr.heap.size wr W → Calls Try.prog 30 #[.agg #[.slice D0 F.codes.length d0, .slice D1 F.ints.length d1, .slice D2 F.nums.length d2], .agg #[.slice E0 F0.codes.length e0, .slice E1 F0.ints.length e1, .slice E2 F0.nums.length e2]] W fun y w' => y = .returned (.bool (sameB F F0)) ∧ Below W.heap.size W w' := fun W hb =>
            factSame_any W B _ _ F F0 (hf.keep ((belT HBW.out hb).mono hB)) (hg.keep ((belT HBW.out hb).mono hB)) hfo hgo (Nat.le_trans hB (belT HBW.out hb).size)
          have hct : ∀ W, Below wr.heap.size wr W → Calls Try.prog 31 #[.agg #[.slice D0 F.codes.length d0, .slice D1 F.ints.length d1, .slice D2 F.nums.length d2], .agg #[.slice E0 F0.codes.length e0, .slice E1 F0.ints.length e1, .slice E2 F0.nums.length e2]] W fun y w' => y = .returned (.bool (sameB F F0)) ∧ Below W.heap.size W w' := fun W hb =>
            refFactSame_any W B _ _ F F0 (hf.keep ((belT HBW.out hb).mono hB)) (hg.keep ((belT HBW.out hb).mono hB)) hfo hgo (Nat.le_trans hB (belT HBW.out hb).size)
          have HS := Lib.hid hS; have HCC := Lib.hid hcc; have HCF := Lib.hid hcf; have HCS := Lib.hid hcs; have HCT := Lib.hid hct
          have k0 := hkr.cell 0; have k1 := hkr.cell 1; have k2 := hkr.cell 2; have k3 := hkr.cell 3
          simp at k0 k1 k2 k3
          clear hS hcc hcf hcs hct hf hg x0 x1 x2 y0 y1 y2 hfo hgo hfo2 hgo2 hkr
          by_cases hz : checkN S = 0
          · have hck := HCK.out wr HBW.out
            rw [hz] at hck
            have HCK2 := Lib.hid hck
            have hcc2 := HCC.out
            rw [show factCheckN S F = fitsN S F from if_pos hz] at hcc2
            clear hck hz
            generalize fitsN S F = q at *
            generalize sameB F F0 = b at *
            have tq : ((q : Int) != (q : Int)) = false := bne_self_eq_false _
            have HCC2 := Lib.hid hcc2
            clear hcc2
            go_wp2_with fail
            (with_reducible refine HCK2.out.mono ?_); rintro y w5 ⟨rfl, hb5⟩
            obtain ⟨z0, z1, z2, z3, z4, z5, z6, z7, z8, z9⟩ := HS.out w5 hb5
            have HB5 := Lib.hid hb5
            have HCF2 := Lib.hid (HCF.out w5.drew (belD hb5 1))
            clear hb5 k0 k1 k2 k3
            go_upto_region 12 with (fail)
            go_still_tail 5, (by kernel_rfl)
            go_wp2_with fail
            (with_reducible refine HCF2.out.mono ?_); rintro y w6 ⟨rfl, hb6⟩
            have HBc : Hid (Below wr.heap.size wr w6.drew) := Lib.hid (belD ((belD HB5.out 1).trans (hb6.mono (show _ ≤ w5.drew.heap.size from HB5.out.size))) 1)
            have HSc := Lib.hid (HS.out _ HBc.out)
            clear z0 z1 z2 z3 z4 z5 z6 z7 z8 z9 hb6
            go_upto_region 13 with (fail)
            go_region_held3 (fun W' => W'.cell? ⟨w.heap.size, 0, none⟩ = some (.slice A0 S.dims.length c0) ∧ W'.cell? ⟨w.heap.size, 1, none⟩ = some (.slice A1 S.ints.length c1) ∧ W'.cell? ⟨w.heap.size, 2, none⟩ = some (.slice A2 S.nums.length c2) ∧ W'.cell? ⟨w.heap.size, 3, none⟩ = some (.slice A3 S.views.length c3) ∧ W'.cell? (a.add (k * 3)) = some (.slice D0 F.codes.length d0) ∧ W'.cell? ⟨(a.add (k * 3)).block, (a.add (k * 3)).off + 1, none⟩ = some (.slice D1 F.ints.length d1) ∧ W'.cell? ⟨(a.add (k * 3)).block, (a.add (k * 3)).off + 2, none⟩ = some (.slice D2 F.nums.length d2) ∧ W'.cell? a = some (.slice E0 F0.codes.length e0) ∧ W'.cell? ⟨a.block, a.off + 1, none⟩ = some (.slice E1 F0.ints.length e1) ∧ W'.cell? ⟨a.block, a.off + 2, none⟩ = some (.slice E2 F0.nums.length e2)) (exact HSc.out) ((first | (go_at_call 29; (with_reducible refine (HCC2.out _ HBc.out).mono ?_); rintro y w6 ⟨rfl, hb6⟩; have HBc := Lib.hid (belT HBc.out hb6); have HSc := Lib.hid (HS.out _ HBc.out); clear hb6) | (go_at_call 30; (with_reducible refine (HCS.out _ HBc.out).mono ?_); rintro y w6 ⟨rfl, hb6⟩; have HBc := Lib.hid (belT HBc.out hb6); have HSc := Lib.hid (HS.out _ HBc.out); clear hb6) | (go_at_call 31; (with_reducible refine (HCT.out _ HBc.out).mono ?_); rintro y w6 ⟨rfl, hb6⟩; have HBc := Lib.hid (belT HBc.out hb6); have HSc := Lib.hid (HS.out _ HBc.out); clear hb6)))
            all_goals
              go_wp2
              go_roundw
              case rel => exact ⟨k + 1, by omega, by go_num, belT HBr.out HBc.out⟩
              case measure => simp [intOf]; omega
          · have hck := HCK.out wr HBW.out
            have tz := i64_eq0 hz
            have hcc2 := HCC.out
            rw [show factCheckN S F = 1 from if_neg hz] at hcc2
            clear hz
            generalize checkN S = q at *
            generalize sameB F F0 = b at *
            have HCK2 := Lib.hid hck; have HCC2 := Lib.hid hcc2
            clear hcc2 hck
            go_wp2_with fail
            (with_reducible refine HCK2.out.mono ?_); rintro y w5 ⟨rfl, hb5⟩
            have HBc : Hid (Below wr.heap.size wr w5.drew) := Lib.hid (belD hb5 1)
            have HSc := Lib.hid (HS.out _ HBc.out)
            clear hb5 k0 k1 k2 k3
            go_upto_region 13 with (fail)
            go_region_held3 (fun W' => W'.cell? ⟨w.heap.size, 0, none⟩ = some (.slice A0 S.dims.length c0) ∧ W'.cell? ⟨w.heap.size, 1, none⟩ = some (.slice A1 S.ints.length c1) ∧ W'.cell? ⟨w.heap.size, 2, none⟩ = some (.slice A2 S.nums.length c2) ∧ W'.cell? ⟨w.heap.size, 3, none⟩ = some (.slice A3 S.views.length c3) ∧ W'.cell? (a.add (k * 3)) = some (.slice D0 F.codes.length d0) ∧ W'.cell? ⟨(a.add (k * 3)).block, (a.add (k * 3)).off + 1, none⟩ = some (.slice D1 F.ints.length d1) ∧ W'.cell? ⟨(a.add (k * 3)).block, (a.add (k * 3)).off + 2, none⟩ = some (.slice D2 F.nums.length d2) ∧ W'.cell? a = some (.slice E0 F0.codes.length e0) ∧ W'.cell? ⟨a.block, a.off + 1, none⟩ = some (.slice E1 F0.ints.length e1) ∧ W'.cell? ⟨a.block, a.off + 2, none⟩ = some (.slice E2 F0.nums.length e2)) (exact HSc.out) ((first | (go_at_call 29; (with_reducible refine (HCC2.out _ HBc.out).mono ?_); rintro y w6 ⟨rfl, hb6⟩; have HBc := Lib.hid (belT HBc.out hb6); have HSc := Lib.hid (HS.out _ HBc.out); clear hb6) | (go_at_call 30; (with_reducible refine (HCS.out _ HBc.out).mono ?_); rintro y w6 ⟨rfl, hb6⟩; have HBc := Lib.hid (belT HBc.out hb6); have HSc := Lib.hid (HS.out _ HBc.out); clear hb6) | (go_at_call 31; (with_reducible refine (HCT.out _ HBc.out).mono ?_); rintro y w6 ⟨rfl, hb6⟩; have HBc := Lib.hid (belT HBc.out hb6); have HSc := Lib.hid (HS.out _ HBc.out); clear hb6)))
            all_goals
              go_wp2
              go_roundw
              case rel => exact ⟨k + 1, by omega, by go_num, belT HBr.out HBc.out⟩
              case measure => simp [intOf]; omega
        · obtain rfl : k = l.length := by omega
          go_wp2_with (go_at_call 24; (with_reducible refine (awake12_any _).mono ?_); rintro y w3 ⟨rfl, hb3⟩; have HB3 := Lib.hid hb3; clear hb3)
          go_ret
          exact ⟨rfl, belT HBW.out HB3.out⟩
end Go.Proofs.Ytpnolgghbenekaa
