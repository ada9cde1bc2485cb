/-
  bushelref12.All.
  bushelref12.Put.
  bushelref12.Get: its head.
-/
import Derived.Test.YtfhmaincnlaapaaGreatFgRefCode
import Derived.Test.YtfhmaincnlaapaaGreatFgGetFWalks
import Derived.Test.YtfhmaincnlaapaaGreatFgFactSame2
import Derived.Test.YtfhmaincnlaapaaGreatFgGetLaw
import Derived.Test.YtfhmaincnlaapaaGreatFgSchemaKeys
import Derived.Test.YtfhmaincnlaapaaGreatFgTreeAwake
namespace Go.Proofs.YtfhmaincnlaapaaGreat
open Go.ChangeShapes Go.WideShapes Go.ChangeAt Go.RowKit
set_option linter.unusedVariables false
set_option linter.unusedSimpArgs false
theorem RdS.err {w : World} {g p e : Nat} {t : List UInt8} (h : RdS w g t p e) : w.cell? ⟨g, 2, none⟩ = some (.int .i64 (e : Int)) := by obtain ⟨_, _, hb, _⟩ := h; exact hb.cell 2
theorem RdS.new (w : World) (B : Nat) (A : Option Addr) (c : Nat) (t : List UInt8) (hR : Rd w B 1 A t.length (u8s t)) (hB : B ≤ w.heap.size) (hc : t.length ≤ c) (hm : c ≤ maxLen) :
    RdS (w.alloc (.cells #[.slice A t.length c, .int .i64 0, .int .i64 0] 98)) w.heap.size t 0 0 :=
  ⟨A, c, Blk.new w _ _, (hR.below ((belA (belR w) _).mono hB)).more hB, hc, hm, Nat.zero_le _⟩
/-- what bushelref12.Get gives: the error, and facts like those that fact.Get gives -/
def RetGet12 (w : World) (S : Sch) (t : List UInt8) (y : Ending) (w' : World) : Prop := ∃ m A' c', AlF (getB S t).1 m ∧ (∀ F ∈ m, FactOk F) ∧
  y = .returned (.tuple #[.slice A' m.length c', .int .i64 ((getB S t).2 : Int)]) ∧ SlR factR w' w'.heap.size m A' c' ∧ Below w.heap.size w w'
theorem RetGet12.none {w w' : World} {S : Sch} {t : List UInt8} {e : Nat} (h : getB S t = ([], e)) (hb : Below w.heap.size w w') : RetGet12 w S t (.returned (.tuple #[.slice none 0 0, .int .i64 (e : Int)])) w' := by
  refine ⟨[], Option.none, 0, by rw [h]; rfl, (fun F hF => by cases hF), by rw [h]; rfl, SlR.nil, hb⟩
/-- the end, of all facts or of a fault on the way -/
theorem doc_end {S : Sch} {t : List UInt8} {n0 p0 k : Nat} (h0 : checkN S = 0) (hr : inU t 0 0 200 = (n0, p0, 0)) (hn : n0 ≠ 0) (hk : k ≤ n0) (hx : k = n0 ∨ (factsS S t k).2.2 ≠ 0) :
    (endE t (factsS S t k).2.1 (factsS S t k).2.2 ≠ 0 → getB S t = ([], endE t (factsS S t k).2.1 (factsS S t k).2.2)) ∧ (endE t (factsS S t k).2.1 (factsS S t k).2.2 = 0 → (factsS S t k).2.2 = 0 ∧ getB S t = ((factsS S t k).1, 0)) := by
  have hn0 : (inU t 0 0 200).1 = n0 := by rw [hr]
  have h1 : ¬ ((inU t 0 0 200).2.2 = 0 ∧ (inU t 0 0 200).1 = 0) := fun h => hn (by rw [← hn0]; exact h.2)
  by_cases he : (factsS S t k).2.2 = 0
  · obtain rfl : k = n0 := by
      rcases hx with h | h
      · exact h
      · exact absurd he h
    subst hn0
    exact ⟨fun h2 => getB_end h0 h1 h2, fun h2 => ⟨he, getB_ok h0 h1 h2⟩⟩
  · have hb := endE_bad t (factsS S t k).2.1 _ he
    rw [hb]
    exact ⟨fun h2 => getB_early h0 k (by rw [hn0]; exact hk) h1 he, fun h2 => absurd h2 he⟩
set_option maxRecDepth 20000 in
set_option maxHeartbeats 8000000 in
theorem ref12Get_any (w : World) (B : Nat) (v : Value) (S : Sch) (A : Option Addr) (c : Nat) (t : List UInt8) (h : SchAt w B v S) (ho : SchOk S) (hR : Rd w B 1 A t.length (u8s t)) (hnc : t.length ≤ c) (hcm : c ≤ maxLen) (hB : B ≤ w.heap.size) (ht : t.length ≤ 1000000) :
    Calls Tryz.prog 12 #[v, .slice A t.length c] w fun y w' => RetGet12 w S t y w' := by
  have hh := h
  obtain ⟨A0, c0, A1, c1, A2, c2, A3, c3, rfl, r0, r1, r2, r3, b0, b1, b2, b3⟩ := hh
  have R0 := Lib.hid r0
  clear r0 r1 r2 r3 b0 b1 b2 b3
  obtain ⟨W0, hW0⟩ : ∃ W0, W0 = w.alloc (.cells #[.slice A0 S.dims.length c0, .slice A1 S.ints.length c1, .slice A2 S.nums.length c2, .slice A3 S.views.length c3] 26) := ⟨_, rfl⟩
  have hw0 : Below w.heap.size w W0 := by rw [hW0]; exact belA (belR w) _
  have k0 : Blk W0 w.heap.size 26 #[.slice A0 S.dims.length c0, .slice A1 S.ints.length c1, .slice A2 S.nums.length c2, .slice A3 S.views.length c3] := by rw [hW0]; exact Blk.new w _ _
  have hc := refCheck_any W0 B _ S (h.keep (hw0.mono hB) (Nat.le_refl _)) ho (Nat.le_trans hB hw0.size)
  have HW0 := Lib.hid hw0; have HWE := Lib.hid hW0; have H := Lib.hid h; have HR := Lib.hid hR; have K0 := Lib.hid k0
  clear hw0 h hR k0 hW0
  by_cases h0 : checkN S = 0
  case neg =>
    have t0 := i64_ne0 h0
    have HG := Lib.hid (getB_arg t h0)
    have HC := Lib.hid hc
    clear h0 hc
    go_enter Tryz.func12, Tryz.ntmps12
    go_wp2_with fail
    rw [← HWE.out]
    (with_reducible refine HC.out.mono ?_); rintro y w1 ⟨rfl, hb1⟩
    have HB1 := Lib.hid (belT HW0.out hb1)
    clear hb1
    go_wp2
    go_ret2
    exact RetGet12.none HG.out HB1.out
  case pos =>
    rw [h0] at hc
    have hmany := fun h1 h2 => getB_many (t := t) h0 h1 h2
    have hearly := fun k hk h1 he => getB_early (t := t) h0 k hk h1 he
    have hs0 : factsS S t 0 = ([], (inU t 0 0 200).2) := rfl
    have HH0 := Lib.hid h0
    have HC := Lib.hid hc
    have hu2 := inU_le t 0 0 200
    have hue : (inU t 0 0 200).2.2 ≠ 0 → (inU t 0 0 200).1 = 0 := fun he => by
      unfold inU at he ⊢; simp only at he ⊢; unfold stepV; rw [if_neg he]
    have hcu : ∀ (W : World) (g : Nat), RdS W g t 0 0 → Calls Tryz.prog 46 #[.pointer (some ⟨g, 0, none⟩), .int .u64 200] W
      fun y w' => y = .returned (.int .u64 ((inU t 0 0 200).1 : Int)) ∧ RdS w' g t (inU t 0 0 200).2.1 (inU t 0 0 200).2.2 ∧ Only g W w' := fun W g hi => readerU_any W g t 0 0 200 hi
    have hea0 := hearly 0 (Nat.zero_le _)
    rw [hs0] at hea0
    generalize hr : inU t 0 0 200 = r at *
    obtain ⟨n0, p0, e0⟩ := r
    simp only at hmany hea0 hue hcu hu2
    have HMA := Lib.hid hmany; have HEA := Lib.hid hea0; have HUE := Lib.hid hue; have HCU := Lib.hid hcu; have HRE := Lib.hid hr
    clear hc hmany hearly hs0 hue hcu h0 hea0 hr
    go_enter Tryz.func12, Tryz.ntmps12
    go_wp2_with fail
    rw [← HWE.out]
    (with_reducible refine HC.out.mono ?_); rintro y w1 ⟨rfl, hb1⟩
    have HB1 := Lib.hid (belT HW0.out hb1)
    have HK1 := Lib.hid (K0.out.below hb1 K0.out.lt)
    have hrd := RdS.new w1 w.heap.size A c t ((HR.out.below (HB1.out.mono hB)).more hB) HB1.out.size hnc hcm
    have HRD := Lib.hid hrd
    clear hb1 hrd HC
    go_wp2_with fail
    (with_reducible refine (HCU.out _ _ HRD.out).mono ?_); rintro y w3 ⟨rfl, hi3, ho3⟩
    have hgw : w.heap.size + 1 ≤ w1.heap.size := by have := HK1.out.lt; omega
    have HB3 := Lib.hid ((belT HB1.out (belA (belR w1) (.cells #[.slice A t.length c, .int .i64 0, .int .i64 0] 98))).trans (ho3.below (show w.heap.size ≤ w1.heap.size by omega) (by simp; omega)))
    have HK3 := Lib.hid (ho3.blk (HK1.out.alloc (.cells #[.slice A t.length c, .int .i64 0, .int .i64 0] 98)) (by omega))
    have HI3 := Lib.hid hi3
    have hgl := hi3.lt
    have x2 := hi3.err
    clear hi3 ho3 HRD HCU HK1 HB1
    generalize w1.heap.size = g at *
    have wn : IntKind.i64.wrap (n0 : Int) = (n0 : Int) := IntWalk.i64_in _ (by omega)
    by_cases he0 : e0 = 0
    · subst he0
      simp only [show ((0 : Nat) : Int) = 0 from rfl] at x2
      by_cases hn0 : n0 = 0
      · subst hn0
        have HG := Lib.hid (HMA.out rfl rfl)
        simp only [show ((0 : Nat) : Int) = 0 from rfl] at wn
        simp only [show ((0 : Nat) : Int) = 0 from rfl]
        clear HEA HMA HUE
        go_wp2
        go_ret2
        exact RetGet12.none HG.out HB3.out
      · have t1 : ((n0 : Int) == 0) = false := by rw [beq_eq_false_iff_ne]; omega
        have t1' : decide ((n0 : Int) = 0) = false := decide_eq_false (by omega)
        clear HEA HMA HUE
        have hs0 : factsS S t 0 = ([], p0, 0) := by show ([], (inU t 0 0 200).2) = _; rw [HRE.out]
        have HS0 := Lib.hid hs0
        have hlen := factsS_len S t
        have hst : ∀ k, factsS S t (k + 1) = ((factsS S t k).1 ++ [(oneS S t (factsS S t k).2.1 (factsS S t k).2.2).1], (oneS S t (factsS S t k).2.1 (factsS S t k).2.2).2) := fun k => rfl
        have HST := Lib.hid hst; have HLEN := Lib.hid hlen
        clear hs0 hst hlen
        obtain ⟨SV, hSV⟩ : ∃ SV : Array Value, #[.slice A0 S.dims.length c0, .slice A1 S.ints.length c1, .slice A2 S.nums.length c2, .slice A3 S.views.length c3] = SV := ⟨_, rfl⟩
        have HSV := Lib.hid hSV
        have hd0 : DocGet w w3 g t SV (.slice none 0 0) [] (factsS S t 0).2.1 (factsS S t 0).2.2 := by rw [HS0.out, ← hSV]; exact ⟨HK3.out, ⟨[], World.ownsRow_nil _ _ _ 3, rfl⟩, HI3.out, HB3.out⟩
        have HD0 := Lib.hid hd0
        clear hd0 hSV
        go_wp2
        go_loopw [8, 9] (fun ov i wr => ∃ (k : Nat) (m : List FactS), k ≤ n0 ∧ i = .int .i64 (k : Int) ∧ Hid (DocGet w wr g t SV ov m (factsS S t k).2.1 (factsS S t k).2.2) ∧ Hid (((factsS S t k).2.2 = 0 → AlF (factsS S t k).1 m) ∧ m.length = k ∧ ∀ F ∈ m, FactOk F)) (fun _ i _ => n0 - (intOf i).toNat)
        case atStart => exact ⟨0, [], by omega, rfl, HD0.out, ⟨fun _ => by rw [HS0.out]; rfl, rfl, fun F hF => by cases hF⟩⟩
        case round =>
          obtain ⟨k, m, hk, rfl, HRR, HAL⟩ := hrel
          have x2 := HRR.out.i.err
          by_cases hgo : k < n0 ∧ (factsS S t k).2.2 = 0
          · obtain ⟨hlt, he⟩ := hgo
            obtain ⟨xs, hox, hfx⟩ := HRR.out.o
            obtain ⟨hA, hml, hFo⟩ := HAL.out
            have hAl := hA he
            have hst := HST.out k
            have hi := HRR.out.i
            rw [he] at hst hi x2
            simp only [show ((0 : Nat) : Int) = 0 from rfl] at x2
            have q1 : decide ((k : Int) < (n0 : Int)) = true := decide_eq_true (by omega)
            have q2 : decide (k < n0) = true := decide_eq_true hlt
            have hgr := hi.lt
            have hs := HRR.out.s
            have hb := HRR.out.b
            have hzb := hb.size
            clear hA he
            generalize hfl : (factsS S t k).1 = fl at *
            generalize hp : (factsS S t k).2.1 = p at *
            have hd := DocOne.start hi
            have HDS := Lib.hid hd; have HS := Lib.hid hs; have HB := Lib.hid hb; have HOX := Lib.hid hox; have HFX := Lib.hid hfx; have HALM := Lib.hid hAl; have HML := Lib.hid hml; have HFO := Lib.hid hFo; have HSTK := Lib.hid hst
            clear hd hs hb hox hfx hAl hml hFo hst hi HRR HAL hfl hp
            go_wp2
            generalize hW1 : wr.alloc (.cells #[.slice none 0 0, .slice none 0 0, .slice none 0 0] 86) = W1 at *
            clear hW1
            obtain ⟨wo, hwo⟩ : ∃ wo, wo = wr := ⟨_, rfl⟩
            subst hwo
            go_loopw [11] (fun i ws => ∃ (j : Nat) (v0 : Value), j ≤ S.dims.length ∧ i = .int .i64 (j : Int) ∧ Hid (DocOne wo ws g t v0 (.slice none 0 0) (.slice none 0 0) (runN (uF t (szAt S)) p 0 j).1 [] [] (runN (uF t (szAt S)) p 0 j).2.1 (runN (uF t (szAt S)) p 0 j).2.2)) (fun i _ => S.dims.length - (intOf i).toNat)
            case atStart => exact ⟨0, _, by omega, rfl, HDS.out⟩
            case round =>
              obtain ⟨j, v0, hj, rfl, HR1⟩ := hrel
              have hs1 := HR1.out.n.blk HS.out (by omega)
              rw [← HSV.out] at hs1
              have k0 := hs1.cell 0; have k1 := hs1.cell 1; have k2 := hs1.cell 2
              simp at k0 k1 k2
              have hll := runN_len (f := uF t (szAt S)) (fun _ _ _ => rfl) p 0 j
              by_cases hlj : j < S.dims.length
              · obtain ⟨s1, s2, s3, s4⟩ := sch_manyOk HH0.out
                have hbw := HB.out.trans (HR1.out.n.below (show w.heap.size ≤ g by omega) hzb)
                obtain ⟨a, rfl, hab, y0, y1⟩ := (R0.out.below (hbw.mono hB)).dim hlj
                have q3 : decide ((j : Int) < (S.dims.length : Int)) = true := decide_eq_true (by omega)
                have q4 : (0 : Int) ≤ (j : Int) := by omega
                have q5 : (j : Int) < (S.dims.length : Int) := by omega
                have hs := runN_succ (uF t (szAt S)) p 0 j
                have hzk := s4 j hlj
                have hsz : szAt S j = S.dims[j].2 := by unfold szAt; simp [List.getD, hlj]
                generalize S.dims[j] = d at *
                obtain ⟨nm, sz⟩ := d
                simp only at y0 y1 hsz
                rw [hsz] at hzk
                generalize runN (uF t (szAt S)) p 0 j = st at *
                obtain ⟨aa, p1, e1⟩ := st
                simp only at HR1 hs hll
                obtain ⟨mm, hm⟩ : ∃ m : Nat, sz - 1 = (m : Int) := ⟨(sz - 1).toNat, by omega⟩
                have er : uF t (szAt S) j p1 e1 = ([((inU t p1 e1 mm).1 : Int)], (inU t p1 e1 mm).2) := by unfold uF; rw [show (szAt S j - 1).toNat = mm by omega]
                rw [er] at hs
                have hxm := inU_le t p1 e1 mm
                have hcu := fun W hW => readerU_any W g t p1 e1 mm hW
                generalize inU t p1 e1 mm = z at *
                obtain ⟨x, p2, e2⟩ := z
                simp only at hs hcu hxm
                have c1 : IntKind.i64.wrap (sz - 1) = (mm : Int) := by rw [hm]; exact IntWalk.i64_in _ (by omega)
                have c2 : IntKind.u64.wrap (mm : Int) = (mm : Int) := by rw [IntKind.wrap_u64]; omega
                have c3 : IntKind.i64.wrap (x : Int) = (x : Int) := IntWalk.i64_in _ (by omega)
                have HD := Lib.hid HR1.out.drew
                have f0 : wr.drew.cell? ⟨wo.heap.size, 0, none⟩ = some v0 := HD.out.f.cell 0
                have HCU := Lib.hid hcu; have HSX := Lib.hid hs; have HM := Lib.hid hm; have HSZ := Lib.hid hsz; have HYN := Lib.hid y0
                clear hcu hs er hs1 hm hsz y0
                go_upto_region 17 with (fail)
                clear q3
                go_region_law (first
                  | (refine step_appSD (some 69) (by rfl) (by rfl) (.tmp 56) (.tmp 68) 82 (by rfl) (wo.heap.size + 1) 3 (.int .i64 0) 1 8 info_i64n rfl (by decide) Tryz.underlying82 v0 aa.length (i64s aa) HA.out.o0 _ (some ⟨w4.heap.size, 0, none⟩) 1 1 [.int .i64 (x : Int)] HRD.out (by rfl) (by rfl) (i64s_one [(x : Int)]) (by omega) (by omega) hz5 ?_; intro v5 w5 ho5 hap5; obtain ⟨hf5, hr5⟩ := HA.out.put0 hgr (x : Int) ho5 hap5; have c5 := hf5.cell 0; have fr5 := hf5.frozen 0; simp at c5; have HR5 := Lib.hid hr5; obtain ⟨A9, c9, rfl, _, _, _⟩ := own_form ho5; clear ho5 hap5 hf5 hr5)
                  | (go_simp; go_at_call 46; (with_reducible refine (HCU.out _ HD.out.i).mono ?_); rintro y w4 ⟨rfl, hi4, ho4⟩; have HR4 := Lib.hid (HD.out.only hgr ho4 hi4); have HA := Lib.hid (HR4.out.alloc (.cells #[.int .i64 (x : Int)] 3)); have HRD := Lib.hid (rd_new w4 3 (.int .i64 (x : Int))); have f4 : w4.cell? ⟨wo.heap.size, 0, none⟩ = some v0 := HR4.out.f.cell 0; have f5 : (w4.alloc (.cells #[.int .i64 (x : Int)] 3)).cell? ⟨wo.heap.size, 0, none⟩ = some v0 := HA.out.f.cell 0; have hz5 : wo.heap.size + 1 ≤ (w4.alloc (.cells #[.int .i64 (x : Int)] 3)).heap.size := HA.out.lt; clear hi4 ho4))
                all_goals
                  go_wp2
                  go_roundw
                  case rel => exact ⟨j + 1, _, by omega, by go_num, by rw [HSX.out]; have hx := HR5.out; rw [hll] at hx; exact Lib.hid hx⟩
                  case measure => simp [intOf]; omega
              · obtain rfl : j = S.dims.length := by omega
                have q3 : decide ((S.dims.length : Int) < (S.dims.length : Int)) = false := decide_eq_false (by omega)
                generalize hra : runN (uF t (szAt S)) p 0 S.dims.length = ra at *
                obtain ⟨aa, pa, ea⟩ := ra
                simp only at HR1 hll
                have HRA := Lib.hid (show onesA S t p 0 = (aa, pa, ea) from hra)
                clear hra hs1
                go_wp2
                clear k0 k1 k2 q3
                go_loopw [12] (fun i ws => ∃ (j : Nat) (v1 : Value), j ≤ S.ints.length ∧ i = .int .i64 (j : Int) ∧ Hid (DocOne wo ws g t v0 v1 (.slice none 0 0) aa (runN (iF t) pa ea j).1 [] (runN (iF t) pa ea j).2.1 (runN (iF t) pa ea j).2.2)) (fun i _ => S.ints.length - (intOf i).toNat)
                case atStart => exact ⟨0, _, by omega, rfl, HR1.out⟩
                case round =>
                  obtain ⟨j, v1, hj, rfl, HR2⟩ := hrel
                  have hs1 := HR2.out.n.blk HS.out (by omega)
                  rw [← HSV.out] at hs1
                  have k0 := hs1.cell 0; have k1 := hs1.cell 1; have k2 := hs1.cell 2
                  simp at k0 k1 k2
                  have hll2 := runN_len (f := iF t) (fun _ _ _ => rfl) pa ea j
                  by_cases hlj : j < S.ints.length
                  · have hs := runN_succ (iF t) pa ea j
                    obtain ⟨s1, s2, s3, _⟩ := sch_manyOk HH0.out
                    generalize runN (iF t) pa ea j = st at *
                    obtain ⟨bs, p1, e1⟩ := st
                    simp only at hs hll2 HR2
                    have hcu := fun W hW => askI_any W g t p1 e1 hW ht
                    have er : iF t j p1 e1 = ([stepV (0 : Int) (getI (t.drop p1)).1 (stepE e1 (getI (t.drop p1)).2.2 0)], stepP p1 (getI (t.drop p1)).2.1 (stepE e1 (getI (t.drop p1)).2.2 0), stepE e1 (getI (t.drop p1)).2.2 0) := rfl
                    rw [er] at hs
                    generalize stepV (0 : Int) (getI (t.drop p1)).1 (stepE e1 (getI (t.drop p1)).2.2 0) = x at *
                    generalize stepP p1 (getI (t.drop p1)).2.1 (stepE e1 (getI (t.drop p1)).2.2 0) = p2 at *
                    generalize stepE e1 (getI (t.drop p1)).2.2 0 = e2 at *
                    have q3 : decide ((j : Int) < (S.ints.length : Int)) = true := decide_eq_true (by omega)
                    have HD := Lib.hid HR2.out.drew
                    have f0 : wr.drew.cell? ⟨wo.heap.size, 1, none⟩ = some v1 := HD.out.f.cell 1
                    have gf := got1
                    have HCU := Lib.hid hcu; have HSX := Lib.hid hs
                    clear hcu hs er hs1
                    go_upto_region 21 with (fail)
                    clear k0 k1 k2 q3
                    go_region_law (first
                      | (refine step_appSD (some 85) (by rfl) (by rfl) (.tmp 79) (.tmp 84) 83 (by rfl) (wo.heap.size + 1) 2 (.int .i64 0) 1 8 info_i64 rfl (by decide) Tryz.underlying83 v1 bs.length (i64s bs) HA.out.o1 _ (some ⟨w4.heap.size, 0, none⟩) 1 1 [.int .i64 x] HRD.out (by rfl) (by rfl) (i64s_one [x]) (by omega) (by omega) hz5 ?_; intro v5 w5 ho5 hap5; obtain ⟨hf5, hr5⟩ := HA.out.put1 hgr x ho5 hap5; have c5 := hf5.cell 1; have fr5 := hf5.frozen 1; simp at c5; have HR5 := Lib.hid hr5; obtain ⟨A9, c9, rfl, _, _, _⟩ := own_form ho5; clear ho5 hap5 hf5 hr5)
                      | (go_simp; go_at_call 47; (with_reducible refine (HCU.out _ HD.out.i).mono ?_); rintro y w4 ⟨s4, n4, k4, rfl, hi4, ho4⟩; have HR4 := Lib.hid (HD.out.only hgr ho4 hi4); have HA := Lib.hid (HR4.out.alloc (.cells #[.int .i64 x] 2)); have HRD := Lib.hid (rd_new w4 2 (.int .i64 x)); have f4 : w4.cell? ⟨wo.heap.size, 1, none⟩ = some v1 := HR4.out.f.cell 1; have f5 : (w4.alloc (.cells #[.int .i64 x] 2)).cell? ⟨wo.heap.size, 1, none⟩ = some v1 := HA.out.f.cell 1; have hz5 : wo.heap.size + 1 ≤ (w4.alloc (.cells #[.int .i64 x] 2)).heap.size := HA.out.lt; clear hi4 ho4))
                    all_goals
                      go_wp2
                      go_roundw
                      case rel => exact ⟨j + 1, _, by omega, by go_num, by rw [HSX.out]; have hx := HR5.out; rw [hll2] at hx; exact Lib.hid hx⟩
                      case measure => simp [intOf]; omega
                  · obtain rfl : j = S.ints.length := by omega
                    have q3 : decide ((S.ints.length : Int) < (S.ints.length : Int)) = false := decide_eq_false (by omega)
                    generalize hra : runN (iF t) pa ea S.ints.length = ra at *
                    obtain ⟨bb, pb, eb⟩ := ra
                    simp only at HR2 hll2
                    have HRB := Lib.hid (show onesB S t p 0 = (bb, pb, eb) by unfold onesB; rw [HRA.out]; exact hra)
                    clear hra hs1
                    go_wp2
                    clear k0 k1 k2 q3
                    go_loopw [13] (fun i ws => ∃ (j : Nat) (v2 : Value) (cc : List Nat), j ≤ S.nums.length ∧ i = .int .i64 (j : Int) ∧ Hid (DocOne wo ws g t v0 v1 v2 aa bb cc (runN (fF t) pb eb j).2.1 (runN (fF t) pb eb j).2.2) ∧ Hid (((runN (fF t) pb eb j).2.2 = 0 → keysF cc = keysF (runN (fF t) pb eb j).1) ∧ cc.length ≤ j ∧ ∀ x ∈ cc, x < 18446744073709551616)) (fun i _ => S.nums.length - (intOf i).toNat)
                    case atStart => exact ⟨0, _, [], by omega, rfl, HR2.out, ⟨fun _ => rfl, Nat.le_refl _, fun x hx => by cases hx⟩⟩
                    case round =>
                      obtain ⟨j, v2, cc, hj, rfl, HR3, HK3⟩ := hrel
                      have hs1 := HR3.out.n.blk HS.out (by omega)
                      rw [← HSV.out] at hs1
                      have k0 := hs1.cell 0; have k1 := hs1.cell 1; have k2 := hs1.cell 2
                      simp at k0 k1 k2
                      by_cases hlj : j < S.nums.length
                      · have hs := runN_succ (fF t) pb eb j
                        obtain ⟨s1, s2, s3, _⟩ := sch_manyOk HH0.out
                        have hkc := HK3.out
                        clear HK3
                        generalize runN (fF t) pb eb j = st at *
                        obtain ⟨ks, p1, e1⟩ := st
                        simp only at hs hkc HR3
                        have hcu := fun W hW => askF_any W g t p1 e1 hW
                        have er : fF t j p1 e1 = ([stepV (0 : Nat) (getF (t.drop p1)).1 (stepE e1 (getF (t.drop p1)).2.2 0)], stepP p1 (getF (t.drop p1)).2.1 (stepE e1 (getF (t.drop p1)).2.2 0), stepE e1 (getF (t.drop p1)).2.2 0) := rfl
                        rw [er] at hs
                        have hky : stepE e1 (getF (t.drop p1)).2.2 0 = 0 → e1 = 0 ∧ stepV (0 : Nat) (rgetF (t.drop p1)).1 (stepE e1 (getF (t.drop p1)).2.2 0) = keyB (stepV (0 : Nat) (getF (t.drop p1)).1 (stepE e1 (getF (t.drop p1)).2.2 0)) := by
                          intro h0
                          obtain ⟨z1, z2⟩ := stepE_zero h0
                          obtain ⟨d1, _, d3⟩ := getF_doc (t.drop p1)
                          refine ⟨z1, ?_⟩
                          rw [h0]
                          exact (d3 (by rw [← d1]; exact z2.1)).2.1.symm
                        generalize stepV (0 : Nat) (rgetF (t.drop p1)).1 (stepE e1 (getF (t.drop p1)).2.2 0) = u at *
                        generalize stepV (0 : Nat) (getF (t.drop p1)).1 (stepE e1 (getF (t.drop p1)).2.2 0) = b at *
                        generalize stepP p1 (getF (t.drop p1)).2.1 (stepE e1 (getF (t.drop p1)).2.2 0) = p2 at *
                        generalize stepE e1 (getF (t.drop p1)).2.2 0 = e2 at *
                        have q3 : decide ((j : Int) < (S.nums.length : Int)) = true := decide_eq_true (by omega)
                        have HCU := Lib.hid hcu; have HSX := Lib.hid hs; have HKY := Lib.hid hky; have HKC := Lib.hid hkc
                        clear hcu hs er hs1 hky hkc
                        by_cases he2 : e2 = 0
                        · have t9 : ((e2 : Int) == 0) = true := by rw [beq_iff_eq]; omega
                          have HE2 := Lib.hid he2
                          clear he2
                          go_upto_region 27 with (go_at_call 47; (with_reducible refine (HCU.out _ HR3.out.i).mono ?_); rintro y w4 ⟨s4, n4, k4, rfl, hi4, ho4⟩; have HR4 := Lib.hid (HR3.out.only hgr ho4 hi4); have x4 := hi4.err; have z4 := hi4.lt; clear hi4 ho4)
                          have hq := HR4.out.alloc (.cells #[.int .u64 (u : Int), .int .i64 0, .string s4, .int .i64 n4, .int .i64 k4] 100)
                          have gq : (w4.alloc (.cells #[.int .u64 (u : Int), .int .i64 0, .string s4, .int .i64 n4, .int .i64 k4] 100)).cell? ⟨w4.heap.size, 0, none⟩ = some (.int .u64 (u : Int)) := (Blk.new w4 _ _).cell 0
                          generalize hwq : w4.alloc (.cells #[.int .u64 (u : Int), .int .i64 0, .string s4, .int .i64 n4, .int .i64 k4] 100) = wq at *
                          generalize hgw : w4.heap.size = gw at *
                          obtain ⟨hz1, hz2⟩ := HKY.out HE2.out
                          subst hz2
                          have hfl := fun W => floatK_any W b
                          have HFL := Lib.hid hfl; have HZ1 := Lib.hid hz1
                          have HD := Lib.hid hq.drew
                          have f0 : wq.drew.cell? ⟨wo.heap.size, 2, none⟩ = some v2 := HD.out.f.cell 2
                          have hcl : cc.length ≤ 2 := by have := HKC.out.2.1; omega
                          clear k0 k1 k2 q3 t9 hq hfl hz1 x4 hwq hgw HCU HR3
                          go_region_law (first
                            | (refine step_appSD (some 108) (by rfl) (by rfl) (.tmp 103) (.tmp 107) 84 (by rfl) (wo.heap.size + 1) 57 (.float .f64 0) 1 8 info_f64 rfl (by decide) Tryz.underlying84 v2 cc.length (f64s cc) HA.out.o2 _ (some ⟨w5.heap.size, 0, none⟩) 1 1 [.float .f64 s] HRD.out (by rfl) (by rfl) (f64s_one [s]) (by omega) (by omega) hz5 ?_; intro v6 w6 ho6 hap6; obtain ⟨hf6, hr6⟩ := HA.out.put2 hgr s ho6 hap6; have c6 := hf6.cell 2; have fr6 := hf6.frozen 2; simp at c6; have HR6 := Lib.hid hr6; obtain ⟨A9, c9, rfl, _, _, _⟩ := own_form ho6; clear ho6 hap6 hf6 hr6)
                            | (go_simp; go_at_call 48; (with_reducible refine (HFL.out _).mono ?_); rintro y w5 ⟨s, rfl, ⟨hsk, hs2⟩, hb5⟩; have HSK := Lib.hid hsk; have HS2 := Lib.hid hs2; have HR5 := Lib.hid (HD.out.below hgr hb5); have HA := Lib.hid (HR5.out.alloc (.cells #[.float .f64 s] 57)); have HRD := Lib.hid (rd_new w5 57 (.float .f64 s)); have f4 : w5.cell? ⟨wo.heap.size, 2, none⟩ = some v2 := HR5.out.f.cell 2; have f5 : (w5.alloc (.cells #[.float .f64 s] 57)).cell? ⟨wo.heap.size, 2, none⟩ = some v2 := HA.out.f.cell 2; have hz5 : wo.heap.size + 1 ≤ (w5.alloc (.cells #[.float .f64 s] 57)).heap.size := HA.out.lt; clear hb5 hsk hs2))
                          all_goals
                            go_wp2
                            go_roundw
                            case rel =>
                              refine ⟨j + 1, _, cc ++ [s], by omega, by go_num, by rw [HSX.out]; exact Lib.hid HR6.out, Lib.hid ⟨fun _ => ?_, ?_, fun x hx => ?_⟩⟩
                              · rw [HSX.out]; show keysF (cc ++ [s]) = keysF (ks ++ [b])
                                unfold keysF; rw [List.map_append, List.map_append, List.map_cons, List.map_cons, HSK.out]
                                have := HKC.out.1 HZ1.out; unfold keysF at this; rw [this]
                              · have := HKC.out.2.1; rw [List.length_append, List.length_singleton]; omega
                              · rcases List.mem_append.1 hx with h | h
                                · exact HKC.out.2.2 x h
                                · obtain rfl : x = s := by simpa using h
                                  exact HS2.out
                            case measure => simp [intOf]; omega
                        · have t9 : ((e2 : Int) == 0) = false := by rw [beq_eq_false_iff_ne]; omega
                          have HE2 := Lib.hid he2
                          clear he2
                          go_wp2_with (go_at_call 47; (with_reducible refine (HCU.out _ HR3.out.i).mono ?_); rintro y w4 ⟨s4, n4, k4, rfl, hi4, ho4⟩; have HR4 := Lib.hid (HR3.out.only hgr ho4 hi4); have x4 := hi4.err; have z4 := hi4.lt; clear hi4 ho4)
                          go_roundw
                          case rel =>
                            refine ⟨j + 1, _, cc, by omega, by go_num, by rw [HSX.out]; exact Lib.hid (HR4.out.alloc _), Lib.hid ⟨fun h => absurd (by rw [HSX.out] at h; exact h) HE2.out, ?_, HKC.out.2.2⟩⟩
                            have := HKC.out.2.1; omega
                          case measure => simp [intOf]; omega
                      · obtain rfl : j = S.nums.length := by omega
                        have q3 : decide ((S.nums.length : Int) < (S.nums.length : Int)) = false := decide_eq_false (by omega)
                        have hf0 := HR3.out.f.cell 0; have hf1 := HR3.out.f.cell 1; have hf2 := HR3.out.f.cell 2
                        simp at hf0 hf1 hf2
                        have hown := HR3.out.n.own HOX.out (own_far HOX.out (by omega))
                        have HOW := Lib.hid hown
                        have HU : Hid (∀ u ∈ [v0, v1, v2], u.oneCell' = true) := Lib.hid (by
                          intro u hu
                          simp only [List.mem_cons, List.not_mem_nil, or_false] at hu
                          rcases hu with rfl | rfl | rfl
                          · exact own_one HR3.out.o0
                          · exact own_one HR3.out.o1
                          · exact own_one HR3.out.o2)
                        have HONE := Lib.hid (fun ov' w3 ho hap => DocGet.one (w3 := w3) (ov' := ov') (F := ⟨aa, bb, cc⟩) (by omega) HS.out HB.out HOX.out HFX.out (by omega) HR3.out ho hap)
                        have hl3 := HR3.out.lt
                        have hon : oneS S t p 0 = (⟨aa, bb, (runN (fF t) pb eb S.nums.length).1⟩, (runN (fF t) pb eb S.nums.length).2) := by
                          unfold oneS onesC; rw [HRB.out, HRA.out]
                        have HON := Lib.hid hon
                        have hm200 : m.length ≤ 200 := by rw [HML.out]; omega
                        clear hown hs1 hon
                        go_wp2_with (at_builtin; refine wpList_appN wr [v0, v1, v2] 3 rfl (by decide) HU.out rfl (.tmp 110) (.tmp 112) 30 rfl (g + 1) 86 (.agg #[.slice none 0 0, .slice none 0 0, .slice none 0 0]) 72 info_fact rfl Tryz.underlying30 _ m.length xs HOW.out rfl rfl ?_ ?_ ?_ ?_; omega; omega; omega; intro v6 w6 ho6 hap6; have HR6 := Lib.hid (HONE.out v6 w6 ho6 hap6); clear ho6 hap6)
                        go_roundw
                        case rel =>
                          have hok := oneS_ok ho t p 0
                          rw [HON.out] at hok
                          refine ⟨k + 1, m ++ [⟨aa, bb, cc⟩], by omega, by go_num, Lib.hid ?_, Lib.hid ?_⟩
                          · rw [HSTK.out, HON.out]; exact HR6.out
                          · rw [HSTK.out, HON.out]
                            refine ⟨fun he => ?_, by rw [List.length_append, HML.out]; rfl, fun F hF => ?_⟩
                            · have e1 : keyFact ⟨aa, bb, (runN (fF t) pb eb S.nums.length).1⟩ = keyFact ⟨aa, bb, cc⟩ := keyFact_iff.2 ⟨rfl, rfl, (HK3.out.1 he).symm⟩
                              show (fl ++ [_]).map keyFact = (m ++ [_]).map keyFact
                              rw [List.map_append, List.map_append, show fl.map keyFact = m.map keyFact from HALM.out, List.map_cons, List.map_cons, e1]
                            · rcases List.mem_append.1 hF with h | h
                              · exact HFO.out F h
                              · obtain rfl : F = ⟨aa, bb, cc⟩ := by simpa using h
                                exact ⟨hok.codes, hok.ints, HK3.out.2.2⟩
                        case measure => simp [intOf]; omega
          · have hx : k = n0 ∨ (factsS S t k).2.2 ≠ 0 := by
              rcases Nat.lt_or_ge k n0 with h | h
              · exact .inr fun he => hgo ⟨h, he⟩
              · exact .inl (by omega)
            have hde := doc_end HH0.out HRE.out hn0 hk hx
            have hen := readerEnd_any wr g t _ _ HRR.out.i
            obtain ⟨xs, hox, hfx⟩ := HRR.out.o
            obtain ⟨A5, c5, rfl, _, _, _⟩ := own_form hox
            have hal := HAL.out
            have hcond : (decide ((k : Int) < (n0 : Int)) = false ∧ decide (k < n0) = false ∧ ¬ (k : Int) < (n0 : Int)) ∨ (decide ((k : Int) < (n0 : Int)) = true ∧ (((factsS S t k).2.2 : Int) == 0) = false ∧ decide (((factsS S t k).2.2 : Int) = 0) = false ∧ decide ((factsS S t k).2.2 = 0) = false) := by
              rcases Nat.lt_or_ge k n0 with h | h
              · have hne : (factsS S t k).2.2 ≠ 0 := fun he => hgo ⟨h, he⟩; exact .inr ⟨decide_eq_true (by omega), by rw [beq_eq_false_iff_ne]; omega, decide_eq_false (by omega), decide_eq_false hne⟩
              · exact .inl ⟨decide_eq_false (by omega), decide_eq_false (by omega), by omega⟩
            generalize (factsS S t k).1 = fl at *
            generalize (factsS S t k).2.1 = p at *
            generalize (factsS S t k).2.2 = e at *
            generalize endE t p e = en at *
            have HDE := Lib.hid hde; have HEN := Lib.hid hen; have HOX := Lib.hid hox; have HFX := Lib.hid hfx; have HALL := Lib.hid hal
            have hgr := HRR.out.i.lt
            clear hde hen hox hfx hal hx hgo
            rcases hcond with ⟨q1, q2, q3⟩ | ⟨q1, q2, q3, q4⟩
            all_goals
              go_wp2_with fail
            all_goals
              (with_reducible refine HEN.out.mono ?_); rintro y w5 ⟨rfl, hi5, n5⟩
              have hz5 := n5.size
              have HB5 := Lib.hid (HRR.out.b.trans (n5.below (show w.heap.size ≤ g by omega) HRR.out.b.size))
              have HO5 := Lib.hid (n5.own HOX.out (own_far HOX.out (by omega)))
              have HF5 := Lib.hid (HFX.out.only n5 (by omega))
              have x5 := hi5.err
              clear n5 hi5
              by_cases hen0 : en = 0
              · subst hen0
                obtain ⟨he, hg⟩ := HDE.out.2 rfl
                have HG := Lib.hid hg; have HAM := Lib.hid (HALL.out.1 he)
                clear hg he x5
                simp only [show ((0 : Nat) : Int) = 0 from rfl]
                go_wp2
                go_ret2
                exact ⟨m, A5, c5, by rw [HG.out]; exact HAM.out, HALL.out.2.2, by rw [HG.out]; rfl, SlR.own (R := factR) HO5.out (HF5.out.chunk HALL.out.2.2), HB5.out⟩
              · have t9 : ((en : Int) != 0) = true := by rw [bne_iff_ne]; omega
                have HG := Lib.hid (HDE.out.1 hen0)
                clear hen0
                go_wp2
                go_region
                all_goals
                  go_wp2
                  go_ret2
                  exact RetGet12.none HG.out (by first | exact HB5.out | exact HB5.out.drew)
    · have t1 : ((e0 : Int) != 0) = true := by rw [bne_iff_ne]; omega
      have HG := Lib.hid (HEA.out (fun h => he0 h.1) he0)
      clear HEA HMA HUE he0
      go_wp2
      go_region
      all_goals
        go_wp2
        go_ret2
        exact RetGet12.none HG.out (by first | exact HB3.out | exact HB3.out.drew)
end Go.Proofs.YtfhmaincnlaapaaGreat
namespace Go.Proofs.YtfhmaincnlaapaaGreat
open Go.ChangeShapes Go.WideShapes Go.ChangeAt Go.RowKit
set_option linter.unusedVariables false

set_option maxRecDepth 20000 in
set_option maxHeartbeats 4000000 in
theorem refPut_any (w : World) (B : Nat) (S : Sch) (A : Option Addr) (c : Nat) (l : List FactS) (g : SlR factR w B l A c) (hB : B ≤ w.heap.size) (hok : (batchN S l).2 = 0) :
    Calls Tryz.prog 14 #[.slice A l.length c] w fun y w' => ∃ v', y = .returned v' ∧ w'.ownsRow w.heap.size 5 1 v' (encBatch l).length (u8s (encBatch l)) ∧ Below w.heap.size w w' := by
  obtain ⟨hc0, hl1, hl2, hfit⟩ := batchN_zero hok
  have G := Lib.hid g; have HLE := Lib.hid (encTo_le hc0 hfit); have HFIT := Lib.hid hfit; have HC0 := Lib.hid hc0
  have wl : IntKind.u64.wrap (l.length : Int) = (l.length : Int) := by rw [IntKind.wrap_u64]; omega
  have HU0 := Lib.hid (refU_any l.length w (by omega))
  have hwd : (encU l.length).length = wd l.length + 1 := encU_length _
  clear g hok hfit hc0
  go_enter Tryz.func14, Tryz.ntmps14
  go_wp2_with fail
  (with_reducible refine HU0.out.mono ?_); rintro y w1 ⟨v1, rfl, ho1, hb1⟩
  have ho1' : w1.ownsRow w.heap.size 5 1 v1 (encTo l 0).length (u8s (encTo l 0)) := by rw [encTo_zero, hwd]; exact ho1
  have HO1 := Lib.hid ho1'; have HB1 := Lib.hid hb1
  clear ho1 ho1' hb1 HU0
  go_wp2
  go_loopw [3, 4] (fun ov i wr => ∃ k : Nat, k ≤ l.length ∧ i = .int .i64 (k : Int) ∧ Hid (wr.ownsRow w.heap.size 5 1 ov (encTo l k).length (u8s (encTo l k))) ∧ Hid (Below w.heap.size w wr)) (fun _ i _ => l.length - (intOf i).toNat)
  case atStart => exact ⟨0, by omega, rfl, HO1.out, HB1.out⟩
  case round =>
    obtain ⟨k, hk, rfl, HO, HB⟩ := hrel
    by_cases hlt : k < l.length
    · obtain ⟨a, D0, d0, D1, d1, D2, d2, rfl, hab, x0, x1, x2, hf, hfo⟩ := G.out.fact3 hlt
      have q1 : (0 : Int) ≤ (k : Int) := by omega
      have q2 : (k : Int) < (l.length : Int) := by omega
      have hX : ∀ W, Below w.heap.size w W → W.cell? (a.add (k * 3)) = some (.slice D0 l[k].codes.length d0) ∧ W.cell? ⟨(a.add (k * 3)).block, (a.add (k * 3)).off + 1, none⟩ = some (.slice D1 l[k].ints.length d1) ∧ W.cell? ⟨(a.add (k * 3)).block, (a.add (k * 3)).off + 2, none⟩ = some (.slice D2 l[k].nums.length d2) := fun W hb =>
        ⟨(hb.cell (p := a.add (k * 3)) (by rw [block_add]; omega)).trans x0, (hb.cell (p := ⟨(a.add (k * 3)).block, (a.add (k * 3)).off + 1, none⟩) (by show (a.add (k * 3)).block < _; rw [block_add]; omega)).trans x1,
          (hb.cell (p := ⟨(a.add (k * 3)).block, (a.add (k * 3)).off + 2, none⟩) (by show (a.add (k * 3)).block < _; rw [block_add]; omega)).trans x2⟩
      have hf0 := HFIT.out k hlt
      rw [fitsAt_get S l k hlt] at hf0
      obtain ⟨f1, f2, f3, f4⟩ := fits_small HC0.out hf0
      have hsn := encTo_succ l k hlt
      have hll := HLE.out k hk
      generalize l[k] = F at *
      obtain ⟨s0, s1, s2⟩ := hf.rds
      have S0 := Lib.hid s0; have S1 := Lib.hid s1; have S2 := Lib.hid s2; have HX := Lib.hid hX
      have HSN := Lib.hid hsn; have HF4 := Lib.hid f4; have HFO := Lib.hid hfo
      have h9 := encCodes_le F.codes; have h10 := encIs_le F.ints; have h11 := encFs_le F.nums
      generalize encTo l k = L at *
      clear hf hf0 s0 s1 s2 hX hsn f4 hfo x0 x1 x2
      go_wp2
      go_loopw [3, 5] (fun ov i ws => ∃ j : Nat, j ≤ F.codes.length ∧ i = .int .i64 (j : Int) ∧ Hid (ws.ownsRow w.heap.size 5 1 ov (L ++ encCodes (F.codes.take j)).length (u8s (L ++ encCodes (F.codes.take j)))) ∧ Hid (Below w.heap.size w ws)) (fun _ i _ => F.codes.length - (intOf i).toNat)
      case atStart => exact ⟨0, by omega, rfl, by rw [List.take_zero, show encCodes [] = [] from rfl, List.append_nil]; exact HO.out, HB.out⟩
      case round =>
        obtain ⟨j, hj, rfl, HOs, HBs⟩ := hrel
        obtain ⟨x0, x1, x2⟩ := HX.out _ HBs.out
        by_cases hjl : j < F.codes.length
        · obtain ⟨a', rfl, hab', y0⟩ := (S0.out.below (HBs.out.mono hB)).i64 hjl
          have p1 : (0 : Int) ≤ (j : Int) := by omega
          have p2 : (j : Int) < (F.codes.length : Int) := by omega
          have hcs : encCodes (F.codes.take (j + 1)) = encCodes (F.codes.take j) ++ encU (F.codes.getD j 0).toNat := flat_snoc (fun c : Int => encU c.toNat) 0 F.codes j hjl
          have hle := encCodes_le (F.codes.take j)
          rw [List.length_take, Nat.min_eq_left (by omega)] at hle
          have hr := HF4.out j hjl
          unfold codeAt at hr
          generalize F.codes.getD j 0 = x at *
          obtain ⟨x, rfl⟩ : ∃ n : Nat, x = (n : Int) := ⟨x.toNat, by omega⟩
          rw [Int.toNat_natCast] at hcs
          have wx : IntKind.u64.wrap (x : Int) = (x : Int) := by rw [IntKind.wrap_u64]; omega
          have hcc := refU_any x wr (by omega)
          have hxl : (encU x).length = wd x + 1 := encU_length _
          have hxw := wd_le x
          have HCS := Lib.hid hcs; have HCC := Lib.hid hcc
          clear hcs hcc
          have hLn : (L ++ encCodes (F.codes.take j)).length ≤ 100000 := by simp only [List.length_append]; omega
          generalize hLL : L ++ encCodes (F.codes.take j) = LL at *
          go_wp2_with (first | (go_at_call 51; (with_reducible refine HCC.out.mono ?_); rintro y w4 ⟨v4, rfl, ho4, hb4⟩; obtain ⟨A4, c4, rfl, _, _, _⟩ := own_form ho4; have HOl := Lib.hid (own_below HOs.out hb4 (Nat.le_refl _)); have HR4 := Lib.hid (Rd.own ho4); have HB4 := Lib.hid (belT HBs.out hb4); have hz4 := HB4.out.size; clear ho4 hb4) | (at_builtin; refine wpList_appS _ rfl _ _ 27 rfl w.heap.size 5 _ 1 1 info_u8 rfl (by decide) Tryz.underlying27 _ LL.length (u8s LL) HOl.out rfl _ _ _ _ _ HR4.out rfl (u8s_one _) ?_ ?_ ?_ ?_; omega; omega; exact hz4; intro v5 w5 ho5 hap5; have HO5 := Lib.hid ho5; have HB5 := Lib.hid (HB4.out.trans (hap5.below hz4 HOl.out)); clear ho5 hap5))
          go_roundw
          case rel => exact ⟨j + 1, by omega, by go_num, by rw [HCS.out, ← List.append_assoc, hLL, u8s_append, List.length_append]; exact (by rw [hxl]; exact HO5.out), HB5.out⟩
          case measure => simp [intOf]; omega
        · obtain rfl : j = F.codes.length := by omega
          rw [List.take_length] at HOs
          go_wp2
          go_loopw [3, 6] (fun ov i ws => ∃ j : Nat, j ≤ F.ints.length ∧ i = .int .i64 (j : Int) ∧ Hid (ws.ownsRow w.heap.size 5 1 ov (L ++ encCodes F.codes ++ encIs (F.ints.take j)).length (u8s (L ++ encCodes F.codes ++ encIs (F.ints.take j)))) ∧ Hid (Below w.heap.size w ws)) (fun _ i _ => F.ints.length - (intOf i).toNat)
          case atStart => exact ⟨0, by omega, rfl, by rw [List.take_zero, show encIs [] = [] from rfl, List.append_nil]; exact HOs.out, HBs.out⟩
          case round =>
            obtain ⟨j, hj, rfl, HOs, HBs⟩ := hrel
            obtain ⟨x0, x1, x2⟩ := HX.out _ HBs.out
            by_cases hjl : j < F.ints.length
            · obtain ⟨a', rfl, hab', y0⟩ := (S1.out.below (HBs.out.mono hB)).i64 hjl
              have p1 : (0 : Int) ≤ (j : Int) := by omega
              have p2 : (j : Int) < (F.ints.length : Int) := by omega
              have hcs : encIs (F.ints.take (j + 1)) = encIs (F.ints.take j) ++ encI (F.ints.getD j 0) := flat_snoc encI 0 F.ints j hjl
              have hle := encIs_le (F.ints.take j)
              rw [List.length_take, Nat.min_eq_left (by omega)] at hle
              have hr := HFO.out.ints (F.ints.getD j 0) (getD_mem hjl)
              generalize F.ints.getD j 0 = x at *
              have hcc := refI_any x wr hr.1 hr.2
              have hxw := encI_9 x
              have HCS := Lib.hid hcs; have HCC := Lib.hid hcc
              clear hcs hcc
              have hLn : (L ++ encCodes F.codes ++ encIs (F.ints.take j)).length ≤ 100000 := by simp only [List.length_append]; omega
              generalize hLL : L ++ encCodes F.codes ++ encIs (F.ints.take j) = LL at *
              go_wp2_with (first | (go_at_call 52; (with_reducible refine HCC.out.mono ?_); rintro y w4 ⟨v4, rfl, ho4, hb4⟩; obtain ⟨A4, c4, rfl, _, _, _⟩ := own_form ho4; have HOl := Lib.hid (own_below HOs.out hb4 (Nat.le_refl _)); have HR4 := Lib.hid (Rd.own ho4); have HB4 := Lib.hid (belT HBs.out hb4); have hz4 := HB4.out.size; clear ho4 hb4) | (at_builtin; refine wpList_appS _ rfl _ _ 27 rfl w.heap.size 5 _ 1 1 info_u8 rfl (by decide) Tryz.underlying27 _ LL.length (u8s LL) HOl.out rfl _ _ _ _ _ HR4.out rfl (u8s_one _) ?_ ?_ ?_ ?_; omega; omega; exact hz4; intro v5 w5 ho5 hap5; have HO5 := Lib.hid ho5; have HB5 := Lib.hid (HB4.out.trans (hap5.below hz4 HOl.out)); clear ho5 hap5))
              go_roundw
              case rel => exact ⟨j + 1, by omega, by go_num, by rw [HCS.out, ← List.append_assoc, hLL, u8s_append, List.length_append]; exact HO5.out, HB5.out⟩
              case measure => simp [intOf]; omega
            · obtain rfl : j = F.ints.length := by omega
              rw [List.take_length] at HOs
              go_wp2
              go_loopw [3, 7] (fun ov i ws => ∃ j : Nat, j ≤ F.nums.length ∧ i = .int .i64 (j : Int) ∧ Hid (ws.ownsRow w.heap.size 5 1 ov (L ++ encCodes F.codes ++ encIs F.ints ++ encFs (F.nums.take j)).length (u8s (L ++ encCodes F.codes ++ encIs F.ints ++ encFs (F.nums.take j)))) ∧ Hid (Below w.heap.size w ws)) (fun _ i _ => F.nums.length - (intOf i).toNat)
              case atStart => exact ⟨0, by omega, rfl, by rw [List.take_zero, show encFs [] = [] from rfl, List.append_nil]; exact HOs.out, HBs.out⟩
              case round =>
                obtain ⟨j, hj, rfl, HOs, HBs⟩ := hrel
                obtain ⟨x0, x1, x2⟩ := HX.out _ HBs.out
                by_cases hjl : j < F.nums.length
                · obtain ⟨a', rfl, hab', y0⟩ := (S2.out.below (HBs.out.mono hB)).f64 hjl
                  have p1 : (0 : Int) ≤ (j : Int) := by omega
                  have p2 : (j : Int) < (F.nums.length : Int) := by omega
                  have hcs : encFs (F.nums.take (j + 1)) = encFs (F.nums.take j) ++ be 8 (keyB (F.nums.getD j 0)) := flat_snoc (fun b => be 8 (keyB b)) 0 F.nums j hjl
                  have hle := encFs_le (F.nums.take j)
                  rw [List.length_take, Nat.min_eq_left (by omega)] at hle
                  have hr := HFO.out.nums (F.nums.getD j 0) (getD_mem hjl)
                  generalize F.nums.getD j 0 = x at *
                  have hcc := refF_any x wr hr
                  have hxl : (be 8 (keyB x)).length = 8 := be_length _ _
                  have HCS := Lib.hid hcs; have HCC := Lib.hid hcc
                  clear hcs hcc
                  have hLn : (L ++ encCodes F.codes ++ encIs F.ints ++ encFs (F.nums.take j)).length ≤ 100000 := by simp only [List.length_append]; omega
                  generalize hLL : L ++ encCodes F.codes ++ encIs F.ints ++ encFs (F.nums.take j) = LL at *
                  go_wp2_with (first | (go_at_call 53; (with_reducible refine HCC.out.mono ?_); rintro y w4 ⟨v4, rfl, ho4, hb4⟩; obtain ⟨A4, c4, rfl, _, _, _⟩ := own_form ho4; have HOl := Lib.hid (own_below HOs.out hb4 (Nat.le_refl _)); have HR4 := Lib.hid (Rd.own ho4); have HB4 := Lib.hid (belT HBs.out hb4); have hz4 := HB4.out.size; clear ho4 hb4) | (at_builtin; refine wpList_appS _ rfl _ _ 27 rfl w.heap.size 5 _ 1 1 info_u8 rfl (by decide) Tryz.underlying27 _ LL.length (u8s LL) HOl.out rfl _ _ _ _ _ HR4.out rfl (u8s_one _) ?_ ?_ ?_ ?_; omega; omega; exact hz4; intro v5 w5 ho5 hap5; have HO5 := Lib.hid ho5; have HB5 := Lib.hid (HB4.out.trans (hap5.below hz4 HOl.out)); clear ho5 hap5))
                  go_roundw
                  case rel => exact ⟨j + 1, by omega, by go_num, by rw [HCS.out, ← List.append_assoc, hLL, u8s_append, List.length_append]; exact (by rw [hxl]; exact HO5.out), HB5.out⟩
                  case measure => simp [intOf]; omega
                · obtain rfl : j = F.nums.length := by omega
                  rw [List.take_length] at HOs
                  go_wp2
                  rw [encFact_app] at HOs
                  go_roundw
                  case rel => exact ⟨k + 1, by omega, by go_num, by rw [HSN.out]; exact HOs.out, HBs.out⟩
                  case measure => simp [intOf]; omega
    · obtain rfl : k = l.length := by omega
      rw [encTo_all] at HO
      go_wp2
      go_ret
      exact ⟨_, rfl, HO.out, HB.out⟩
end Go.Proofs.YtfhmaincnlaapaaGreat
namespace Go.Proofs.YtfhmaincnlaapaaGreat
open Go.ChangeShapes Go.WideShapes Go.ChangeAt Go.RowKit
set_option linter.unusedVariables false

theorem allB_len {l m : List FactS} (h : l.length ≠ m.length) : allB l m = false := by unfold allB; rw [decide_eq_false h, Bool.false_and]
def sameTo (l m : List FactS) (k : Nat) : Prop := ∀ j, j < k → sameB (l.getD j ⟨[], [], []⟩) (m.getD j ⟨[], [], []⟩) = true
theorem sameTo.snoc {l m : List FactS} {k : Nat} (h : sameTo l m k) (hk : sameB (l.getD k ⟨[], [], []⟩) (m.getD k ⟨[], [], []⟩) = true) : sameTo l m (k + 1) := fun j hj => by
  by_cases e : j = k
  · subst e; exact hk
  · exact h j (by omega)
theorem allB_yes {l m : List FactS} (hl : l.length = m.length) (h : sameTo l m l.length) : allB l m = true := by
  unfold allB; rw [decide_eq_true hl, Bool.true_and, List.all_eq_true]; intro k hk; exact h k (List.mem_range.1 hk)
theorem allB_no {l m : List FactS} {k : Nat} (hk : k < l.length) (h : sameB (l.getD k ⟨[], [], []⟩) (m.getD k ⟨[], [], []⟩) = false) : allB l m = false := by
  unfold allB
  rw [Bool.and_eq_false_iff]
  right
  rw [List.all_eq_false]
  exact ⟨k, List.mem_range.2 hk, by rw [h]; decide⟩
set_option maxRecDepth 20000 in
set_option maxHeartbeats 4000000 in
theorem refAll_any (w : World) (B : Nat) (A A' : Option Addr) (c c' : Nat) (l m : List FactS) (g : SlR factR w B l A c) (g' : SlR factR w B m A' c') (hB : B ≤ w.heap.size) :
    Calls Tryz.prog 13 #[.slice A l.length c, .slice A' m.length c'] w fun y w' => y = .returned (.bool (allB l m)) ∧ Below w.heap.size w w' := by
  have hml : l.length ≤ 9223372036854775807 := by have h1 := g.1; have h2 := g.2.1; unfold maxLen at h2; omega
  have hmm : m.length ≤ 9223372036854775807 := by have h1 := g'.1; have h2 := g'.2.1; unfold maxLen at h2; omega
  have G := Lib.hid g; have G' := Lib.hid g'
  clear g g'
  by_cases hl : l.length = m.length
  case neg =>
    have t0 := ne_true hl
    have HH := Lib.hid (allB_len hl)
    clear hl
    go_enter Tryz.func13, Tryz.ntmps13
    go_wp2
    go_ret
    exact ⟨by rw [HH.out]; rfl, belR w⟩
  case pos =>
    have t0 := ne_false hl
    have HYES := Lib.hid (fun h => allB_yes (l := l) (m := m) hl h); have HNO := Lib.hid (fun k (hk : k < l.length) h => allB_no (l := l) (m := m) hk h); have HLL := Lib.hid hl
    go_enter Tryz.func13, Tryz.ntmps13
    go_wp2
    go_loopw [5] (fun i wr => ∃ k : Nat, k ≤ l.length ∧ i = .int .i64 (k : Int) ∧ Hid (sameTo l m k) ∧ Hid (Below w.heap.size w wr)) (fun i _ => l.length - (intOf i).toNat)
    case atStart => exact ⟨0, by omega, rfl, fun j hj => by omega, belR w⟩
    case round =>
      obtain ⟨k, hk, rfl, HS, HB⟩ := hrel
      by_cases hlt : k < l.length
      · obtain ⟨a, D0, d0, D1, d1, D2, d2, rfl, hab, x0, x1, x2, hf, hfo⟩ := (G.out.keep (HB.out.mono hB) (Nat.le_refl _)).fact3 hlt
        have hlt2 : k < m.length := by omega
        obtain ⟨a', E0, e0, E1, e1, E2, e2, rfl, hab', y0, y1, y2, hg, hgo⟩ := (G'.out.keep (HB.out.mono hB) (Nat.le_refl _)).fact3 hlt2
        have q1 : (0 : Int) ≤ (k : Int) := by omega
        have q2 : (k : Int) < (l.length : Int) := by omega
        have q3 : (k : Int) < (m.length : Int) := by omega
        have hz := HB.out.size
        have hs := HNO.out k hlt
        have hsn := fun h => HS.out.snoc (k := k) h
        rw [show l.getD k ⟨[], [], []⟩ = l[k] from by simp [List.getD, hlt], show m.getD k ⟨[], [], []⟩ = m[k] from by simp [List.getD, hlt2]] at hs hsn
        generalize l[k] = F at *
        generalize m[k] = F0 at *
        have hcs := refFactSame_any wr.drew B _ _ F F0 hf hg hfo hgo (show B ≤ wr.heap.size by omega)
        have HX0 := Lib.hid x0; have HSN := Lib.hid hsn; have HSF := Lib.hid hs
        cases hb : sameB F F0 with
        | true =>
          rw [hb] at hcs
          have HCS := Lib.hid hcs; have HBB := Lib.hid hb
          clear hcs hb hf hg hfo hgo hsn hs hl
          go_upto_region 6 with (fail)
          go_still_tail 8, (by kernel_rfl)
          go_wp2_with (go_at_call 50; (with_reducible refine HCS.out.mono ?_); rintro y w4 ⟨rfl, hb4⟩; have HB4 := Lib.hid (belT (belD HB.out 1) hb4); clear hb4)
          go_roundw
          case rel => exact ⟨k + 1, by omega, by go_num, HSN.out HBB.out, HB4.out⟩
          case measure => simp [intOf]; omega
        | false =>
          rw [hb] at hcs
          have HCS := Lib.hid hcs; have HBB := Lib.hid hb
          clear hcs hb hf hg hfo hgo hsn hs hl
          go_upto_region 6 with (fail)
          go_still_tail 8, (by kernel_rfl)
          go_wp2_with (go_at_call 50; (with_reducible refine HCS.out.mono ?_); rintro y w4 ⟨rfl, hb4⟩; have HB4 := Lib.hid (belT (belD HB.out 1) hb4); clear hb4)
          go_ret
          exact ⟨by rw [HSF.out HBB.out]; rfl, HB4.out⟩
      · obtain rfl : k = l.length := by omega
        have hr := HYES.out HS.out
        have HR := Lib.hid hr
        clear hr hl
        go_wp2
        go_ret
        exact ⟨by rw [HR.out]; rfl, HB.out⟩
end Go.Proofs.YtfhmaincnlaapaaGreat
