/-
  fact.Same, bushelref12.Same.
  fact.Same, bushelref12.Same (slices.Equal, slices.EqualFunc with flo.Same).
  fact.Check, fact.Batch, bushelref12.Batch.
  fact.fits, bushelref12.Fits.
  bushelref11.Check.
  bushelref11.Full of any schema: some set.
-/
import Derived.StillTailTactics
import Derived.Deep.RegionHeld3
import Derived.Deep.DeepCutAuto
import Derived.Test.YtfhmaincnlaapaaGreatFgBufOutKeep
import Derived.Test.YtfhmaincnlaapaaGreatFgRefNodesW
import Derived.Test.YtfhmaincnlaapaaGreatFgSchemaCheck
namespace Go.Proofs.YtfhmaincnlaapaaGreat
open Go.ChangeShapes Go.WideShapes Go.ChangeAt Go.RowKit
set_option linter.unusedVariables false

set_option maxRecDepth 20000 in
set_option maxHeartbeats 4000000 in
theorem refCheck_any (w : World) (B : Nat) (v : Value) (S : Sch) (h : SchAt w B v S) (ho : SchOk S) (hB : B ≤ w.heap.size) :
    Calls Tryz.prog 45 #[v] w fun y w' => y = .returned (.int .i64 (checkN S : Int)) ∧ Below w.heap.size w w' := by
  obtain ⟨A0, c0, A1, c1, A2, c2, A3, c3, rfl, r0, r1, r2, r3, b0, b1, b2, b3⟩ := h
  have hw0 := belA (belR w) (.cells #[.slice A0 S.dims.length c0, .slice A1 S.ints.length c1, .slice A2 S.nums.length c2, .slice A3 S.views.length c3] 26)
  have hs0 : SchAt (w.alloc (.cells #[.slice A0 S.dims.length c0, .slice A1 S.ints.length c1, .slice A2 S.nums.length c2, .slice A3 S.views.length c3] 26)) B (.agg #[.slice A0 S.dims.length c0, .slice A1 S.ints.length c1, .slice A2 S.nums.length c2, .slice A3 S.views.length c3]) S :=
    ⟨A0, c0, A1, c1, A2, c2, A3, c3, rfl, r0.below (hw0.mono hB), r1.below (hw0.mono hB), r2.below (hw0.mono hB), r3.below (hw0.mono hB), b0, b1, b2, b3⟩
  have hblk := Blk.new w 26 #[.slice A0 S.dims.length c0, .slice A1 S.ints.length c1, .slice A2 S.nums.length c2, .slice A3 S.views.length c3]
  have R0 := Lib.hid (r0.below (hw0.mono hB)); have R3 := Lib.hid (r3.below (hw0.mono hB))
  have HS := Lib.hid hs0; have HW0 := Lib.hid hw0; have HBLK := Lib.hid hblk
  clear r0 r1 r2 r3 b0 b1 b2 b3 hs0 hw0 hblk
  by_cases hm : manyOk S
  case neg =>
    have HNO := Lib.hid (checkN_many hm)
    have hcs := many_cases hm
    clear hm
    rcases hcs with e | e | e | e | e
    · have t0 : (S.dims.length : Int) < 1 := by omega
      clear e
      go_enter Tryz.func45, Tryz.ntmps45
      go_wp2
      go_ret
      exact ⟨by rw [HNO.out]; rfl, HW0.out⟩
    all_goals
      have t0 : ((S.dims.length : Int) == 0) = false := by rw [beq_eq_false_iff_ne]; omega
      have e1 : (1 : Int) ≤ (S.dims.length : Int) := by omega
      go_enter Tryz.func45, Tryz.ntmps45
      go_wp2
      go_ret
      exact ⟨by rw [HNO.out]; rfl, HW0.out⟩
  case pos =>
    have hmm := hm
    obtain ⟨m1, m2, m3, m4, m5⟩ := hmm
    have t0 : ((S.dims.length : Int) == 0) = false := by rw [beq_eq_false_iff_ne]; omega
    have hnl : (namesL S).length ≤ 300 := by unfold namesL; rw [List.length_append, List.length_append, List.length_map]; omega
    have hn := refNames_any _ B _ S HS.out (Nat.le_trans hB (by simp)) (by omega) (by omega) (by omega)
    have hfl := fullN_le m1 m2
    have hno1 := fun h1 => checkN_name hm h1
    have hno2 := fun h1 h2 => checkN_dup hm h1 h2
    have hno3 := fun h1 h2 k hk h3 => checkN_keys hm h1 h2 k hk h3
    have hno4 := fun h1 h2 p h3 h4 => checkN_views hm h1 h2 p h3 h4
    have hyes := fun h1 h2 p h3 h4 => checkN_ok hm h1 h2 p h3 h4
    have NO1 := Lib.hid hno1; have NO2 := Lib.hid hno2; have NO3 := Lib.hid hno3; have NO4 := Lib.hid hno4; have YES := Lib.hid hyes
    have HN := Lib.hid hn; have HLS := Lib.hid (namesL_size ho); have HSH := Lib.hid (shl_one S.dims.length m1 m2)
    clear hm hn hno1 hno2 hno3 hno4 hyes
    generalize namesL S = L at *
    have hz0 : w.heap.size < (w.alloc (.cells #[.slice A0 S.dims.length c0, .slice A1 S.ints.length c1, .slice A2 S.nums.length c2, .slice A3 S.views.length c3] 26)).heap.size := by simp
    go_enter Tryz.func45, Tryz.ntmps45
    go_wp2_with (go_at_call 37; (with_reducible refine HN.out.mono ?_); rintro y w1 ⟨v1, rfl, ho1, hb1⟩; obtain ⟨A5, c5, rfl, hc5, hc6, _⟩ := own_form ho1; have HR1 := Lib.hid (Rd.own ho1); have HK1 := Lib.hid (HBLK.out.below hb1 hz0); have HR0 := Lib.hid (R0.out.below (hb1.mono (show B ≤ _ by omega))); have HR3 := Lib.hid (R3.out.below (hb1.mono (show B ≤ _ by omega))); have hz1 : w.heap.size < w1.heap.size := Nat.lt_of_lt_of_le hz0 hb1.size; have HB1 := Lib.hid (belT HW0.out hb1); clear ho1 hb1 hz0 HBLK R0 R3 HN)
    have hcc := hc6
    unfold maxLen at hcc
    go_loopw [4] (fun i wr => ∃ k : Nat, k ≤ L.length ∧ i = .int .i64 (k : Int) ∧ Hid (namesTo L k) ∧ Hid (Below w1.heap.size w1 wr)) (fun i _ => L.length - (intOf i).toNat)
    case atStart => exact ⟨0, by omega, rfl, fun j _ hj => by omega, belR w1⟩
    case round =>
      obtain ⟨k, hk, rfl, HA, HBr⟩ := hrel
      have hz := HBr.out.size
      by_cases hlt : k < L.length
      · obtain ⟨a, rfl, hab, x0⟩ := (HR1.out.below HBr.out).str hlt
        have q1 : (0 : Int) ≤ (k : Int) := by omega
        have q2 : (k : Int) < (L.length : Int) := by omega
        have hst := fun h => HA.out.snoc hlt h
        have hno := fun h => NO1.out (all_isB_no k hlt h)
        have hc := refIs_any wr L[k]
        generalize L[k] = x at *
        cases hx : isB x with
        | true =>
          rw [hx] at hc
          have HST := Lib.hid (hst hx); have HC := Lib.hid hc; clear hx hst hno hc
          go_wp2_with (go_at_call 109; (with_reducible refine HC.out.mono ?_); rintro y w2 ⟨rfl, hb2⟩; have HB2 := Lib.hid hb2; clear hb2)
          go_roundw
          case rel => exact ⟨k + 1, by omega, by go_num, HST, belT HBr.out HB2.out⟩
          case measure => simp [intOf]; omega
        | false =>
          rw [hx] at hc
          have HNO := Lib.hid (hno hx); have HC := Lib.hid hc; clear hx hst hno hc
          go_wp2_with (go_at_call 109; (with_reducible refine HC.out.mono ?_); rintro y w2 ⟨rfl, hb2⟩; have HB2 := Lib.hid hb2; clear hb2)
          go_ret
          exact ⟨by rw [HNO.out]; rfl, HB1.out.trans ((belT HBr.out HB2.out).mono (Nat.le_of_lt hz1))⟩
      · obtain rfl : k = L.length := by omega
        have hall : L.all isB = true := all_isB fun j hj => HA.out j hj hj
        have HALL := Lib.hid hall
        have hc := refTwice_any wr A5 L.length c5 _ L (HR1.out.below HBr.out) hc5 hc6
        clear hall HA NO1
        cases hd : dupB L with
        | true =>
          have hc2 : Calls Tryz.prog 110 #[.slice A5 L.length c5] wr fun y w' => ∃ z, y = .returned (.int .i64 z) ∧ 0 ≤ z ∧ Below wr.heap.size wr w' :=
            hc.mono fun y w' ⟨z, h1, h2, h3⟩ => ⟨z, h1, by rcases h2 with ⟨_, h2⟩ | ⟨h2, _⟩; (rw [hd] at h2; cases h2); exact h2, belW (belR wr) h3⟩
          have HNO := Lib.hid (NO2.out HALL.out hd); have HC := Lib.hid hc2; clear hc hc2 hd
          go_wp2_with (go_at_call 110; (with_reducible refine HC.out.mono ?_); rintro y w2 ⟨z, rfl, hz2, hb2⟩; have HB2 := Lib.hid hb2; clear hb2)
          go_ret
          exact ⟨by rw [HNO.out]; rfl, HB1.out.trans ((belT HBr.out HB2.out).mono (Nat.le_of_lt hz1))⟩
        | false =>
          have hc2 : Calls Tryz.prog 110 #[.slice A5 L.length c5] wr fun y w' => y = .returned (.int .i64 (-1)) ∧ Below wr.heap.size wr w' :=
            hc.mono fun y w' ⟨z, h1, h2, h3⟩ => ⟨by rcases h2 with ⟨h2, _⟩ | ⟨_, h2⟩; (rw [h1, h2]); (rw [hd] at h2; cases h2), belW (belR wr) h3⟩
          have HC := Lib.hid hc2
          have NO3' := Lib.hid (NO3.out HALL.out hd); have NO4' := Lib.hid (NO4.out HALL.out hd); have YES' := Lib.hid (YES.out HALL.out hd)
          clear hc hc2 hd NO2 NO3 NO4 YES HALL
          go_wp2_with (go_at_call 110; (with_reducible refine HC.out.mono ?_); rintro y w2 ⟨rfl, hb2⟩; have HB2 := Lib.hid (belT HBr.out hb2); have hk2 := HK1.out.below HB2.out hz1; have k20 := hk2.cell 0; simp at k20; clear hb2)
          have HR02 := Lib.hid (HR0.out.below (HB2.out.mono (show B ≤ w1.heap.size by omega))); have HR32 := Lib.hid (HR3.out.below (HB2.out.mono (show B ≤ w1.heap.size by omega)))
          have HK2 := Lib.hid hk2
          have hz2 : w.heap.size < w2.heap.size := Nat.lt_of_lt_of_le hz1 HB2.out.size
          have HBW := Lib.hid (HB1.out.trans (HB2.out.mono (Nat.le_of_lt hz1)))
          clear hk2 HR0 HR3 HB1 HBr HC HR1 HK1 HB2 hz
          go_loopw [5, 6] (fun v6 i ws => ∃ k p : Nat, k ≤ S.dims.length ∧ i = .int .i64 (k : Int) ∧ v6 = .int .i64 (p : Int) ∧ Hid (keysTo S k = some p) ∧ Hid (Below w2.heap.size w2 ws)) (fun _ i _ => S.dims.length - (intOf i).toNat)
          case atStart => exact ⟨0, 1, by omega, rfl, rfl, rfl, belR w2⟩
          case round =>
            obtain ⟨k, p, hk, rfl, rfl, HP, HBs⟩ := hrel
            have hz := HBs.out.size
            have hpl := keysTo_le S k p HP.out
            by_cases hlt : k < S.dims.length
            · obtain ⟨a, rfl, hab, x0, x1⟩ := (HR02.out.below (HBs.out.mono (show B ≤ w2.heap.size by omega))).dim hlt
              have q1 : (0 : Int) ≤ (k : Int) := by omega
              have q2 : (k : Int) < (S.dims.length : Int) := by omega
              rw [szAt_get S k hlt] at x1
              have hst := keysTo_succ S k p HP.out
              have hsb := (ho.dims _ (List.getElem_mem hlt)).2
              rw [szAt_get S k hlt] at hsb
              generalize S.dims[k].1 = nm at *
              generalize szAt S k = sz at *
              have k30 := (HK2.out.below HBs.out hz2).cell 0
              simp at k30
              have hfin := HBW.out.trans (HBs.out.mono (Nat.le_of_lt hz2))
              have HFIN := Lib.hid hfin; clear hfin
              by_cases s1 : sz < 1
              · have HNO := Lib.hid (NO3'.out (k + 1) (by omega) (by rw [hst]; exact keyStep_no (by omega)))
                clear hst
                go_wp2
                go_ret
                exact ⟨by rw [HNO.out]; rfl, HFIN.out⟩
              · by_cases s2 : 4096 < sz
                · have HNO := Lib.hid (NO3'.out (k + 1) (by omega) (by rw [hst]; exact keyStep_no (by omega)))
                  clear hst
                  go_wp2
                  go_ret
                  exact ⟨by rw [HNO.out]; rfl, HFIN.out⟩
                · obtain ⟨n, rfl⟩ : ∃ n : Nat, sz = (n : Int) := ⟨sz.toNat, by omega⟩
                  have hn1 : 1 ≤ n := by omega
                  have hb1 : p * n ≤ 1099511627776 * 4096 := Nat.mul_le_mul hpl.2 (by omega)
                  have hmul : (p : Int) * (n : Int) = ((p * n : Nat) : Int) := by omega
                  by_cases s3 : 1099511627776 < p * n
                  · have HNO := Lib.hid (NO3'.out (k + 1) (by omega) (by rw [hst]; exact keyStep_no (by rw [Int.toNat_natCast]; omega)))
                    clear hst
                    generalize p * n = r at *
                    go_wp2
                    go_ret
                    exact ⟨by rw [HNO.out]; rfl, HFIN.out⟩
                  · have hst2 := hst.trans (keyStep_yes hn1 (by omega) rfl (by omega))
                    have HST := Lib.hid hst2
                    clear hst hst2
                    generalize p * n = r at *
                    go_wp2
                    go_roundw
                    case rel => exact ⟨k + 1, r, by omega, by go_num, rfl, HST, HBs⟩
                    case measure => simp [intOf]; omega
            · obtain rfl : k = S.dims.length := by omega
              have NO4'' := Lib.hid (NO4'.out p HP.out); have YES'' := Lib.hid (YES'.out p HP.out)
              clear NO3' NO4' YES' HP
              have hk3 := HK2.out.below HBs.out hz2
              have k30 := hk3.cell 0; have k33 := hk3.cell 3
              simp at k30 k33
              have HRV := Lib.hid (HR32.out.below (HBs.out.mono (show B ≤ w2.heap.size by omega)))
              have HFIN := Lib.hid (HBW.out.trans (HBs.out.mono (Nat.le_of_lt hz2)))
              have HF : Hid (fullN S = p2 S.dims.length - 1) := rfl
              have hpf : p2 S.dims.length = fullN S + 1 := by have := p2_pos S.dims.length; have h := HF.out; omega
              have h2 : ∀ W, Calls Tryz.prog 111 #[.int .i64 (S.dims.length : Int)] W fun y w' => y = .returned (.int .u32 ((fullN S : Int) + 1)) ∧ W = w' := fun W => by
                have := two_any W S.dims.length (by omega)
                rw [hpf] at this
                exact this
              have hsub : ∀ (W : World) (x : Nat), x ≤ 4294967295 → Calls Tryz.prog 59 #[.int .u32 (x : Int), .int .u32 (fullN S : Int)] W fun y w' => y = .returned (.bool (decide (x < fullN S + 1))) ∧ W = w' := fun W x hx => by
                have h := sub_any W x (fullN S) (by omega) (by omega)
                rw [show fullN S = p2 S.dims.length - 1 from rfl, sub_full x S.dims.length (by omega) (by omega), hpf] at h
                exact h
              have H2 := Lib.hid h2; have HSUB := Lib.hid hsub
              clear h2 hsub hpf
              generalize fullN S = F at *
              have HK3 := Lib.hid hk3
              clear hk3
              go_wp2_with (go_at_call 111; (with_reducible refine (H2.out _).mono ?_); rintro y w3 ⟨rfl, rfl⟩)
              obtain ⟨ws, hws⟩ : ∃ ws, ws = wr := ⟨wr, rfl⟩
              subst hws
              go_loopw [9] (fun i wt => ∃ k : Nat, k ≤ S.views.length ∧ i = .int .i64 (k : Int) ∧ Hid (viewsTo S k = true) ∧ Hid (Drw ws wt)) (fun i _ => S.views.length - (intOf i).toNat)
              case atStart => exact ⟨0, by omega, rfl, rfl, Drw.refl ws⟩
              case round =>
                obtain ⟨k, hk, rfl, HV, HDr⟩ := hrel
                have hk4 := HK3.out.drw HDr.out
                have k43 := hk4.cell 3
                simp at k43
                have HFT := Lib.hid (HDr.out.below HFIN.out)
                have HFD := Lib.hid (HFT.out.drew); have HDD := Lib.hid HDr.out.drew
                clear hk4 k30 k33
                by_cases hlt : k < S.views.length
                · obtain ⟨a, rfl, hab, x0, hxl⟩ := (rd_drw HRV.out HDr.out).view ho hlt
                  have q1 : (0 : Int) ≤ (k : Int) := by omega
                  have q2 : (k : Int) < (S.views.length : Int) := by omega
                  have hst := viewsTo_succ S k
                  rw [HV.out, Bool.true_and] at hst
                  have hno := viewsTo_no S k hlt
                  have HV2 := Lib.hid hst; clear hst
                  have hcs := fun W => HSUB.out W (viewAt S k) hxl
                  by_cases s0 : F + 1 ≤ viewAt S k
                  · have hv : viewOk S k = false := by unfold viewOk; rw [decide_eq_false (show ¬ viewAt S k < fullN S by rw [HF.out] at s0; unfold fullN; omega)]; rfl
                    have HNO := Lib.hid (NO4''.out (hno hv))
                    rw [decide_eq_false (show ¬ viewAt S k < F + 1 by omega)] at hcs
                    generalize viewAt S k = x at *
                    have HCS := Lib.hid hcs
                    clear hv hno hcs
                    go_wp2
                    go_quiet ((go_at_call 59; exact qcallS (HCS.out _)))
                    go_wp2
                    go_ret
                    exact ⟨by rw [HNO.out]; rfl, belD HFT.out _⟩
                  · rw [decide_eq_true (show viewAt S k < F + 1 by omega)] at hcs
                    by_cases s1 : F ≤ viewAt S k
                    · have hv : viewOk S k = false := by unfold viewOk; rw [decide_eq_false (show ¬ viewAt S k < fullN S by rw [HF.out] at s1; unfold fullN; omega)]; rfl
                      have HNO := Lib.hid (NO4''.out (hno hv))
                      generalize viewAt S k = x at *
                      have t1 : ((x : Int) == (F : Int)) = true := by rw [beq_iff_eq]; omega
                      have HCS := Lib.hid hcs
                      clear hv hno hcs
                      go_wp2
                      go_quiet ((go_at_call 59; exact qcallS (HCS.out _)))
                      go_wp2
                      go_ret
                      exact ⟨by rw [HNO.out]; rfl, belD HFT.out _⟩
                    · have t1 : ((viewAt S k : Int) == (F : Int)) = false := by rw [beq_eq_false_iff_ne]; omega
                      cases k with
                      | zero =>
                        have hv : viewOk S 0 = true := by rw [viewOk_zero, decide_eq_true (show viewAt S 0 < fullN S by rw [HF.out] at s1; unfold fullN; omega)]
                        have HST : Hid (viewsTo S (0 + 1) = true) := Lib.hid (HV2.out.trans hv)
                        rw [add_zero'] at x0
                        rw [show ((0 : Nat) : Int) = 0 from rfl]
                        generalize viewAt S 0 = x at *
                        have HCS := Lib.hid hcs
                        clear hv hno HV2 hcs
                        go_wp2
                        go_quiet ((go_at_call 59; exact qcallS (HCS.out _)))
                        go_wp2
                        go_roundw
                        case rel => exact ⟨1, by omega, rfl, HST, HDr.out.drewN _⟩
                        case measure => simp [intOf]; omega
                      | succ j =>
                        obtain ⟨a', ea, _, y0, hyl⟩ := (rd_drw HRV.out HDr.out).view ho (k := j) (by omega)
                        injection ea with ea; subst ea
                        rw [add_succ] at x0
                        have hvk := viewOk_pos S (j + 1) (by omega)
                        rw [show j + 1 - 1 = j from rfl, decide_eq_true (show viewAt S (j + 1) < fullN S by rw [HF.out] at s1; unfold fullN; omega), Bool.true_and] at hvk
                        rw [show ((j + 1 : Nat) : Int) = (j : Int) + 1 from by omega] at *
                        generalize viewAt S (j + 1) = x at *
                        generalize viewAt S j = y at *
                        have HCS := Lib.hid hcs; clear hcs
                        have t3 : decide ((0 : Int) < (j : Int) + 1) = true := decide_eq_true (by omega)
                        have w1 : IntKind.i64.wrap (j : Int) = (j : Int) := IntWalk.i64_in _ (by omega)
                        have w2 : IntKind.i64.wrap ((j : Int) + 1 - 1) = (j : Int) := by rw [show (j : Int) + 1 - 1 = (j : Int) from by omega]; exact w1
                        have w3 : (0 : Int) ≤ (j : Int) := by omega
                        have w4 : (j : Int) < (S.views.length : Int) := by omega
                        by_cases s2 : y < x
                        · have HST := Lib.hid (HV2.out.trans (hvk.trans (decide_eq_true s2)))
                          have t2 : decide ((x : Int) ≤ (y : Int)) = false := decide_eq_false (by omega)
                          clear hvk hno HV2
                          go_wp2
                          go_quiet ((go_at_call 59; exact qcallS (HCS.out _)))
                          go_wp2
                          go_roundw
                          case rel => exact ⟨j + 1 + 1, by omega, by go_num, HST, HDr.out.drewN _⟩
                          case measure => simp [intOf]; omega
                        · have HNO := Lib.hid (NO4''.out (hno (hvk.trans (decide_eq_false s2))))
                          have t2 : decide ((x : Int) ≤ (y : Int)) = true := decide_eq_true (by omega)
                          clear hvk hno HV2
                          go_wp2
                          go_quiet ((go_at_call 59; exact qcallS (HCS.out _)))
                          go_wp2
                          go_ret
                          exact ⟨by rw [HNO.out]; rfl, belD HFT.out _⟩
                · obtain rfl : k = S.views.length := by omega
                  have HY := Lib.hid (YES''.out HV.out)
                  go_wp2
                  go_ret
                  exact ⟨by rw [HY.out]; rfl, HFT.out⟩
end Go.Proofs.YtfhmaincnlaapaaGreat
namespace Go.Proofs.YtfhmaincnlaapaaGreat
open Go.ChangeShapes Go.WideShapes Go.ChangeAt Go.RowKit
set_option linter.unusedVariables false

end Go.Proofs.YtfhmaincnlaapaaGreat
namespace Go.Proofs.YtfhmaincnlaapaaGreat
open Go.ChangeShapes Go.WideShapes Go.ChangeAt Go.RowKit
set_option linter.unusedVariables false

def FactAt (w : World) (B : Nat) (v : Value) (F : FactS) : Prop := ∃ v0 v1 v2, v = .agg #[v0, v1, v2] ∧ FactV w B F v0 v1 v2
theorem FactV.keep {w w' : World} {B B' : Nat} {F : FactS} {v0 v1 v2 : Value} (h : FactV w B F v0 v1 v2) (hb : Below B w w') (hB : B ≤ B') : FactV w' B' F v0 v1 v2 := by
  obtain ⟨A0, c0, A1, c1, A2, c2, e0, e1, e2, r0, r1, r2, b⟩ := h
  exact ⟨A0, c0, A1, c1, A2, c2, e0, e1, e2, (r0.below hb).more hB, (r1.below hb).more hB, (r2.below hb).more hB, b⟩
theorem SchAt.keep {w w' : World} {B B' : Nat} {v : Value} {S : Sch} (h : SchAt w B v S) (hb : Below B w w') (hB : B ≤ B') : SchAt w' B' v S := by
  obtain ⟨A0, c0, A1, c1, A2, c2, A3, c3, e, r0, r1, r2, r3, b⟩ := h
  exact ⟨A0, c0, A1, c1, A2, c2, A3, c3, e, (r0.below hb).more hB, (r1.below hb).more hB, (r2.below hb).more hB, (r3.below hb).more hB, b⟩
theorem FactAt.keep {w w' : World} {B : Nat} {v : Value} {F : FactS} (h : FactAt w B v F) (hb : Below B w w') : FactAt w' B v F := by
  obtain ⟨v0, v1, v2, e, hv⟩ := h
  exact ⟨v0, v1, v2, e, hv.keep hb (Nat.le_refl _)⟩
def codeAt (F : FactS) (k : Nat) : Int := F.codes.getD k 0
theorem Rd.i64 {w : World} {B : Nat} {A : Option Addr} {l : List Int} (h : Rd w B 1 A l.length (i64s l)) {k : Nat} (hk : k < l.length) : ∃ a, A = some a ∧ a.block < B ∧ w.cell? (a.add k) = some (.int .i64 (l.getD k 0)) := by
  obtain ⟨a, u, rfl, hb, hx, hc⟩ := h.at1 hk
  refine ⟨a, rfl, hb, ?_⟩
  rw [show (i64s l)[k]? = some (.int .i64 (l.getD k 0)) from by simp [i64s, List.getD, hk]] at hx
  rw [hc]; exact hx.symm
def codeOk (S : Sch) (F : FactS) (k : Nat) : Bool := decide (0 ≤ codeAt F k) && decide (codeAt F k < szAt S k)
def codesTo (S : Sch) (F : FactS) (k : Nat) : Bool := (List.range k).all (codeOk S F)
theorem codesTo_succ (S : Sch) (F : FactS) (k : Nat) : codesTo S F (k + 1) = (codesTo S F k && codeOk S F k) := by
  unfold codesTo
  rw [List.range_succ, List.all_append]; simp
theorem codesTo_no (S : Sch) (F : FactS) (k : Nat) (hk : k < F.codes.length) (h : codeOk S F k = false) : codesTo S F F.codes.length = false := by
  unfold codesTo
  rw [List.all_eq_false]
  exact ⟨k, List.mem_range.2 hk, by rw [h]; decide⟩
def lensOk (S : Sch) (F : FactS) : Prop := F.codes.length = S.dims.length ∧ F.ints.length = S.ints.length ∧ F.nums.length = S.nums.length
instance (S : Sch) (F : FactS) : Decidable (lensOk S F) := by unfold lensOk; infer_instance
/-- why a fact is none of a schema; 0: it is -/
def fitsN (S : Sch) (F : FactS) : Nat := if lensOk S F then (if codesTo S F F.codes.length = true then 0 else 2) else 3
theorem fitsN_many {S : Sch} {F : FactS} (h : ¬ lensOk S F) : fitsN S F = 3 := if_neg h
theorem fitsN_range {S : Sch} {F : FactS} (h : lensOk S F) (h1 : codesTo S F F.codes.length = false) : fitsN S F = 2 := by
  unfold fitsN; rw [if_pos h, if_neg (by rw [h1]; decide)]
theorem fitsN_ok {S : Sch} {F : FactS} (h : lensOk S F) (h1 : codesTo S F F.codes.length = true) : fitsN S F = 0 := by
  unfold fitsN; rw [if_pos h, if_pos h1]
theorem lens_cases {S : Sch} {F : FactS} (h : ¬ lensOk S F) : F.codes.length ≠ S.dims.length ∨ (F.codes.length = S.dims.length ∧ F.ints.length ≠ S.ints.length) ∨ (F.codes.length = S.dims.length ∧ F.ints.length = S.ints.length ∧ F.nums.length ≠ S.nums.length) := by
  unfold lensOk at h; omega
theorem ne_true {a b : Nat} (h : a ≠ b) : ((a : Int) != (b : Int)) = true := by rw [bne_iff_ne]; omega
theorem ne_false {a b : Nat} (h : a = b) : ((a : Int) != (b : Int)) = false := by rw [h]; exact bne_self_eq_false _
set_option maxRecDepth 20000 in
set_option maxHeartbeats 2000000 in
theorem fits_any (w : World) (B : Nat) (v u : Value) (S : Sch) (F : FactS) (h : SchAt w B v S) (g : FactAt w B u F) (hB : B ≤ w.heap.size) :
    Calls Tryz.prog 157 #[v, u] w fun y w' => y = .returned (.int .i64 (fitsN S F : Int)) ∧ Below w.heap.size w w' := by
  obtain ⟨A0, c0, A1, c1, A2, c2, A3, c3, rfl, r0, r1, r2, r3, b0, b1, b2, b3⟩ := h
  obtain ⟨v0, v1, v2, rfl, D0, d0, D1, d1, D2, d2, rfl, rfl, rfl, s0, s1, s2, e0, e1, e2⟩ := g
  have hw0 := belA (belA (belR w) (.cells #[.slice A0 S.dims.length c0, .slice A1 S.ints.length c1, .slice A2 S.nums.length c2, .slice A3 S.views.length c3] 26)) (.cells #[.slice D0 F.codes.length d0, .slice D1 F.ints.length d1, .slice D2 F.nums.length d2] 86)
  have R0 := Lib.hid (r0.below (hw0.mono hB)); have S0 := Lib.hid (s0.below (hw0.mono hB)); have HW0 := Lib.hid hw0
  clear r0 r1 r2 r3 s0 s1 s2 hw0
  by_cases hm : lensOk S F
  case neg =>
    have HNO := Lib.hid (fitsN_many hm)
    rcases lens_cases hm with a0 | ⟨a0, a1⟩ | ⟨a0, a1, a2⟩
    · have t0 := ne_true a0
      clear hm a0
      go_enter Tryz.func157, Tryz.ntmps157
      go_wp2
      go_ret
      exact ⟨by rw [HNO.out]; rfl, HW0.out⟩
    · have t0 := ne_false a0; have t1 := ne_true a1
      clear hm a0 a1
      go_enter Tryz.func157, Tryz.ntmps157
      go_wp2
      go_ret
      exact ⟨by rw [HNO.out]; rfl, HW0.out⟩
    · have t0 := ne_false a0; have t1 := ne_false a1; have t2 := ne_true a2
      clear hm a0 a1 a2
      go_enter Tryz.func157, Tryz.ntmps157
      go_wp2
      go_ret
      exact ⟨by rw [HNO.out]; rfl, HW0.out⟩
  case pos =>
    have t0 := ne_false hm.1; have t1 := ne_false hm.2.1; have t2 := ne_false hm.2.2
    have HL1 : Hid (F.codes.length ≤ S.dims.length) := Lib.hid (by rw [hm.1]; exact Nat.le_refl _)
    have hl1 : F.codes.length ≤ S.dims.length := by rw [hm.1]; exact Nat.le_refl _
    have hml : F.codes.length ≤ 9223372036854775807 := by have h1 := e0.1; have h2 := e0.2; unfold maxLen at h2; omega
    have hno := fun h1 => fitsN_range hm h1
    have hyes := fun h1 => fitsN_ok hm h1
    have HNO1 := Lib.hid hno; have HYES1 := Lib.hid hyes
    clear hm hno hyes
    go_enter Tryz.func157, Tryz.ntmps157
    go_wp2
    go_loop [35] (fun i => ∃ k : Nat, k ≤ F.codes.length ∧ i = .int .i64 (k : Int) ∧ Hid (codesTo S F k = true)) (fun i => F.codes.length - (intOf i).toNat)
    case atStart => exact ⟨0, by omega, rfl, rfl⟩
    case round =>
      obtain ⟨k, hk, rfl, HA⟩ := hrel
      by_cases hlt : k < F.codes.length
      · obtain ⟨a, rfl, hab, x0⟩ := S0.out.i64 hlt
        have hkd : k < S.dims.length := Nat.lt_of_lt_of_le hlt HL1.out
        obtain ⟨b, rfl, hbb, y0, y1⟩ := R0.out.dim hkd
        rw [szAt_get S k hkd] at y1
        have q1 : (0 : Int) ≤ (k : Int) := by omega
        have q2 : (k : Int) < (F.codes.length : Int) := by omega
        have q3 : (k : Int) < (S.dims.length : Int) := by omega
        have hst := codesTo_succ S F k
        rw [HA.out, Bool.true_and] at hst
        have hno := codesTo_no S F k hlt
        have hok : codeOk S F k = (decide (0 ≤ codeAt F k) && decide (codeAt F k < szAt S k)) := rfl
        have HST := Lib.hid hst; have HOK := Lib.hid hok; have HNO := Lib.hid hno
        clear hst hok hno y0
        rw [show F.codes.getD k 0 = codeAt F k from rfl] at x0
        generalize codeAt F k = x at *
        generalize szAt S k = z at *
        by_cases s1 : x < 0
        · have HN := Lib.hid (HNO1.out (HNO.out (by rw [HOK.out, decide_eq_false (by omega)]; rfl)))
          go_wp2
          go_ret
          exact ⟨by rw [HN.out]; rfl, HW0.out⟩
        · by_cases s2 : z ≤ x
          · have HN := Lib.hid (HNO1.out (HNO.out (by rw [HOK.out, decide_eq_false (show ¬ x < z by omega), Bool.and_false])))
            go_wp2
            go_ret
            exact ⟨by rw [HN.out]; rfl, HW0.out⟩
          · have HY : Hid (codesTo S F (k + 1) = true) := Lib.hid (HST.out.trans (by rw [HOK.out, decide_eq_true (show 0 ≤ x by omega), decide_eq_true (show x < z by omega)]; rfl))
            go_wp2
            go_round
            case rel => exact ⟨k + 1, by omega, by go_num, HY⟩
            case measure => simp [intOf]; omega
      · obtain rfl : k = F.codes.length := by omega
        have HY := Lib.hid (HYES1.out HA.out)
        go_wp2
        go_ret
        exact ⟨by rw [HY.out]; rfl, HW0.out⟩
end Go.Proofs.YtfhmaincnlaapaaGreat
namespace Go.Proofs.YtfhmaincnlaapaaGreat
open Go.ChangeShapes Go.WideShapes Go.ChangeAt Go.RowKit
set_option linter.unusedVariables false

theorem find_range (p : Nat → Bool) (n k : Nat) (hk : k < n) (h : ∀ j, j < k → p j = false) (hp : p k = true) : (List.range n).find? p = some k := by
  rw [List.find?_eq_some_iff_append]
  refine ⟨hp, List.range k, (List.range' (k + 1) (n - k - 1)), ?_, fun j hj => by rw [h j (List.mem_range.1 hj)]; rfl⟩
  rw [List.range_eq_range', List.range_eq_range', ← List.range'_succ]
  have h1 := List.range'_append_1 (s := 0) (m := k) (n := n - k - 1 + 1)
  rw [Nat.zero_add] at h1
  rw [h1]
  congr 1; omega
theorem find_range_none (p : Nat → Bool) (n : Nat) (h : ∀ j, j < n → p j = false) : (List.range n).find? p = none := by
  rw [List.find?_eq_none]
  intro j hj
  rw [h j (List.mem_range.1 hj)]; decide
def fitsAt (S : Sch) (l : List FactS) (k : Nat) : Nat := fitsN S (l.getD k ⟨[], [], []⟩)
theorem fitsAt_get (S : Sch) (l : List FactS) (k : Nat) (hk : k < l.length) : fitsAt S l k = fitsN S l[k] := by
  unfold fitsAt; simp [List.getD, hk]
/-- which fact of a batch is none, and why -/
def batchN (S : Sch) (l : List FactS) : Nat × Nat :=
  if checkN S = 0 then
    if 1 ≤ l.length ∧ l.length ≤ 200 then
      match (List.range l.length).find? (fun k => decide (fitsAt S l k ≠ 0)) with
      | some k => (k, fitsAt S l k)
      | none => (0, 0)
    else (0, 3)
  else (0, 1)
theorem batchN_arg {S : Sch} {l : List FactS} (h : checkN S ≠ 0) : batchN S l = (0, 1) := if_neg h
theorem batchN_many {S : Sch} {l : List FactS} (h : checkN S = 0) (h1 : ¬ (1 ≤ l.length ∧ l.length ≤ 200)) : batchN S l = (0, 3) := by
  unfold batchN; rw [if_pos h, if_neg h1]
theorem batchN_bad {S : Sch} {l : List FactS} (h : checkN S = 0) (h1 : 1 ≤ l.length ∧ l.length ≤ 200) {k : Nat} (hk : k < l.length) (ha : ∀ j, j < k → fitsAt S l j = 0) (hb : fitsAt S l k ≠ 0) : batchN S l = (k, fitsAt S l k) := by
  unfold batchN; rw [if_pos h, if_pos h1, find_range _ _ k hk (fun j hj => by rw [ha j hj]; rfl) (decide_eq_true hb)]
theorem batchN_ok {S : Sch} {l : List FactS} (h : checkN S = 0) (h1 : 1 ≤ l.length ∧ l.length ≤ 200) (ha : ∀ j, j < l.length → fitsAt S l j = 0) : batchN S l = (0, 0) := by
  unfold batchN; rw [if_pos h, if_pos h1, find_range_none _ _ (fun j hj => by rw [ha j hj]; rfl)]
theorem batchN_zero {S : Sch} {l : List FactS} (h : (batchN S l).2 = 0) : checkN S = 0 ∧ 1 ≤ l.length ∧ l.length ≤ 200 ∧ ∀ j, j < l.length → fitsAt S l j = 0 := by
  by_cases h0 : checkN S = 0
  · by_cases h1 : 1 ≤ l.length ∧ l.length ≤ 200
    · refine ⟨h0, h1.1, h1.2, fun j hj => ?_⟩
      unfold batchN at h
      rw [if_pos h0, if_pos h1] at h
      cases hf : (List.range l.length).find? (fun k => decide (fitsAt S l k ≠ 0)) with
      | none =>
        rw [List.find?_eq_none] at hf
        have := hf j (List.mem_range.2 hj)
        simpa using this
      | some k =>
        rw [hf] at h
        have := List.find?_some hf
        simp at this
        exact absurd h this
    · rw [batchN_many h0 h1] at h; cases h
  · rw [batchN_arg h0] at h; cases h
theorem i64_ne0 {n : Nat} (h : n ≠ 0) : ((n : Int) != 0) = true := by rw [bne_iff_ne]; omega
theorem i64_eq0 {n : Nat} (h : n ≠ 0) : ((n : Int) == 0) = false := by rw [beq_eq_false_iff_ne]; omega
theorem SlR.fact3 {w : World} {B c : Nat} {l : List FactS} {A : Option Addr} (h : SlR factR w B l A c) {k : Nat} (hk : k < l.length) : ∃ a D0 d0 D1 d1 D2 d2, A = some a ∧ a.block < B ∧ w.cell? (a.add (k * 3)) = some (.slice D0 l[k].codes.length d0) ∧
    w.cell? ⟨(a.add (k * 3)).block, (a.add (k * 3)).off + 1, none⟩ = some (.slice D1 l[k].ints.length d1) ∧ w.cell? ⟨(a.add (k * 3)).block, (a.add (k * 3)).off + 2, none⟩ = some (.slice D2 l[k].nums.length d2) ∧
    FactAt w B (.agg #[.slice D0 l[k].codes.length d0, .slice D1 l[k].ints.length d1, .slice D2 l[k].nums.length d2]) l[k] ∧ FactOk l[k] := by
  obtain ⟨a, v0, v1, v2, rfl, hb, x0, x1, x2, hv, ho⟩ := h.fact hk
  have hv2 := hv
  obtain ⟨D0, d0, D1, d1, D2, d2, rfl, rfl, rfl, _⟩ := hv2
  exact ⟨a, D0, d0, D1, d1, D2, d2, rfl, hb, x0, x1, x2, ⟨_, _, _, rfl, hv⟩, ho⟩
def okTo (S : Sch) (l : List FactS) (k : Nat) : Prop := ∀ j, j < k → fitsAt S l j = 0
theorem okTo.snoc {S : Sch} {l : List FactS} {k : Nat} (h : okTo S l k) (hk : fitsAt S l k = 0) : okTo S l (k + 1) := fun j hj => by
  by_cases e : j = k
  · subst e; exact hk
  · exact h j (by omega)
set_option maxRecDepth 20000 in
set_option maxHeartbeats 4000000 in
theorem batch_any (w : World) (B : Nat) (v : Value) (S : Sch) (A : Option Addr) (c : Nat) (l : List FactS) (h : SchAt w B v S) (ho : SchOk S) (g : SlR factR w B l A c) (hB : B ≤ w.heap.size) :
    Calls Tryz.prog 99 #[v, .slice A l.length c] w fun y w' => y = .returned (.tuple #[.int .i64 ((batchN S l).1 : Int), .int .i64 ((batchN S l).2 : Int)]) ∧ Below w.heap.size w w' := by
  have hh := h
  obtain ⟨A0, c0, A1, c1, A2, c2, A3, c3, rfl, r0, r1, r2, r3, b0, b1, b2, b3⟩ := hh
  clear r0 r1 r2 r3
  have hw0 := belA (belR w) (.cells #[.slice A0 S.dims.length c0, .slice A1 S.ints.length c1, .slice A2 S.nums.length c2, .slice A3 S.views.length c3] 26)
  have hc := schemaCheck_any (w.alloc (.cells #[.slice A0 S.dims.length c0, .slice A1 S.ints.length c1, .slice A2 S.nums.length c2, .slice A3 S.views.length c3] 26)) B _ S (h.keep (hw0.mono hB) (Nat.le_refl _)) ho (by simp; omega)
  have K0 := Lib.hid (Blk.new w 26 #[.slice A0 S.dims.length c0, .slice A1 S.ints.length c1, .slice A2 S.nums.length c2, .slice A3 S.views.length c3])
  have hml : l.length ≤ 9223372036854775807 := by have h1 := g.1; have h2 := g.2.1; unfold maxLen at h2; omega
  have HW0 := Lib.hid hw0; have HC := Lib.hid hc; have H := Lib.hid h; have G := Lib.hid g
  clear hw0 hc h g
  by_cases h0 : checkN S = 0
  case neg =>
    have HH := Lib.hid (batchN_arg (l := l) h0)
    have t0 := i64_ne0 h0
    clear h0
    go_enter Tryz.func99, Tryz.ntmps99
    go_wp2_with (go_at_call 39; (with_reducible refine HC.out.mono ?_); rintro y w1 ⟨rfl, hb1⟩; have HB1 := Lib.hid hb1; clear hb1)
    go_ret2
    exact ⟨by rw [HH.out]; rfl, HW0.out.trans (HB1.out.mono (by simp))⟩
  case pos =>
    have hc2 := HC.out
    rw [h0] at hc2
    have HC2 := Lib.hid hc2
    clear hc2
    by_cases h1 : 1 ≤ l.length ∧ l.length ≤ 200
    case neg =>
      have HH := Lib.hid (batchN_many h0 h1)
      clear h0
      by_cases h2 : l.length = 0
      · have t0 : ((l.length : Int) == 0) = true := by rw [beq_iff_eq]; omega
        clear h2
        go_enter Tryz.func99, Tryz.ntmps99
        go_wp2_with (go_at_call 39; (with_reducible refine HC2.out.mono ?_); rintro y w1 ⟨rfl, hb1⟩; have HB1 := Lib.hid hb1; clear hb1)
        go_ret2
        exact ⟨by rw [HH.out]; rfl, HW0.out.trans (HB1.out.mono (by simp))⟩
      · have t0 := i64_eq0 h2
        have t1 : 200 < l.length := by omega
        clear h2 h1
        go_enter Tryz.func99, Tryz.ntmps99
        go_wp2_with (go_at_call 39; (with_reducible refine HC2.out.mono ?_); rintro y w1 ⟨rfl, hb1⟩; have HB1 := Lib.hid hb1; clear hb1)
        go_ret2
        exact ⟨by rw [HH.out]; rfl, HW0.out.trans (HB1.out.mono (by simp))⟩
    case pos =>
      have HBAD := Lib.hid (fun k (hk : k < l.length) ha hb => batchN_bad h0 h1 hk ha hb); have HOK := Lib.hid (batchN_ok (l := l) h0 h1)
      have t0 := i64_eq0 (show l.length ≠ 0 by omega)
      have t1 : l.length ≤ 200 := h1.2
      clear h0 h1
      go_enter Tryz.func99, Tryz.ntmps99
      go_wp2_with (go_at_call 39; (with_reducible refine HC2.out.mono ?_); rintro y w1 ⟨rfl, hb1⟩; have HB1 := Lib.hid (HW0.out.trans (hb1.mono (by simp))); have HK1 := Lib.hid (K0.out.below hb1 (by simp)); clear hb1)
      have hz1 : w.heap.size < w1.heap.size := HK1.out.lt
      go_loopw [22] (fun i wr => ∃ k : Nat, k ≤ l.length ∧ i = .int .i64 (k : Int) ∧ Hid (okTo S l k) ∧ Hid (Below w1.heap.size w1 wr)) (fun i _ => l.length - (intOf i).toNat)
      case atStart => exact ⟨0, by omega, rfl, fun j hj => by omega, belR w1⟩
      case round =>
        obtain ⟨k, hk, rfl, HA, HBr⟩ := hrel
        have hz := HBr.out.size
        have HBW := Lib.hid (HB1.out.trans (HBr.out.mono (Nat.le_of_lt hz1)))
        by_cases hlt : k < l.length
        · have hk1 := HK1.out.below HBr.out hz1
          obtain ⟨a, D0, d0, D1, d1, D2, d2, rfl, hab, x0, x1, x2, hf, hfo⟩ := (G.out.keep (HBW.out.mono hB) (Nat.le_refl _)).fact3 hlt
          have q1 : (0 : Int) ≤ (k : Int) := by omega
          have q2 : (k : Int) < (l.length : Int) := by omega
          have hg := fitsAt_get S l k hlt
          have hbad := HBAD.out k hlt HA.out
          have hst := fun h => HA.out.snoc h
          generalize l[k] = F at *
          rw [hg] at hbad hst
          have hbx := belA (belR wr) (.cells #[.slice D0 F.codes.length d0, .slice D1 F.ints.length d1, .slice D2 F.nums.length d2] 86)
          have hcf := fits_any (wr.alloc (.cells #[.slice D0 F.codes.length d0, .slice D1 F.ints.length d1, .slice D2 F.nums.length d2] 86)) B _ _ S F (H.out.keep ((HBW.out.mono hB).trans (hbx.mono (by omega))) (Nat.le_refl _)) (by
            obtain ⟨_, _, _, e, hv⟩ := hf
            injection e with e
            simp only [Array.mk.injEq, List.cons.injEq, and_true] at e
            obtain ⟨rfl, rfl, rfl⟩ := e
            exact ⟨_, _, _, rfl, hv.keep (hbx.mono (by omega)) (Nat.le_refl _)⟩) (by simp; omega)
          have hk2 := hk1.alloc (.cells #[.slice D0 F.codes.length d0, .slice D1 F.ints.length d1, .slice D2 F.nums.length d2] 86)
          have k10 := hk2.cell 0; have k11 := hk2.cell 1; have k12 := hk2.cell 2; have k13 := hk2.cell 3
          rw [show (#[.slice A0 S.dims.length c0, .slice A1 S.ints.length c1, .slice A2 S.nums.length c2, .slice A3 S.views.length c3] : Array Value)[0]? = some (.slice A0 S.dims.length c0) from rfl] at k10
          rw [show (#[.slice A0 S.dims.length c0, .slice A1 S.ints.length c1, .slice A2 S.nums.length c2, .slice A3 S.views.length c3] : Array Value)[1]? = some (.slice A1 S.ints.length c1) from rfl] at k11
          rw [show (#[.slice A0 S.dims.length c0, .slice A1 S.ints.length c1, .slice A2 S.nums.length c2, .slice A3 S.views.length c3] : Array Value)[2]? = some (.slice A2 S.nums.length c2) from rfl] at k12
          rw [show (#[.slice A0 S.dims.length c0, .slice A1 S.ints.length c1, .slice A2 S.nums.length c2, .slice A3 S.views.length c3] : Array Value)[3]? = some (.slice A3 S.views.length c3) from rfl] at k13
          have HBX := Lib.hid hbx; have HBAD2 := Lib.hid hbad; have HST := Lib.hid hst
          clear hbx hf hk1 hk2 hbad hst hg
          by_cases hz0 : fitsN S F = 0
          · have hcf2 := hcf
            rw [hz0] at hcf2
            have HCF := Lib.hid hcf2
            have HY := Lib.hid (HST.out hz0)
            clear hcf hcf2 hz0
            go_wp2_with (go_at_call 157; (with_reducible refine HCF.out.mono ?_); rintro y w2 ⟨rfl, hb2⟩; have HB2 := Lib.hid (hb2.mono (show wr.heap.size ≤ _ by simp)); clear hb2)
            go_roundw
            case rel => exact ⟨k + 1, by omega, by go_num, HY, belT HBr.out (HBX.out.trans HB2.out)⟩
            case measure => simp [intOf]; omega
          · have t2 := i64_ne0 hz0
            have HN := Lib.hid (HBAD2.out hz0)
            have HCF := Lib.hid hcf
            clear hcf hz0
            go_wp2_with (go_at_call 157; (with_reducible refine HCF.out.mono ?_); rintro y w2 ⟨rfl, hb2⟩; have HB2 := Lib.hid (hb2.mono (show wr.heap.size ≤ _ by simp)); clear hb2)
            go_ret2
            exact ⟨by rw [HN.out]; rfl, belT HBW.out (HBX.out.trans HB2.out)⟩
        · obtain rfl : k = l.length := by omega
          have HY := Lib.hid (HOK.out HA.out)
          go_wp2
          go_ret2
          exact ⟨by rw [HY.out]; rfl, HBW.out⟩
end Go.Proofs.YtfhmaincnlaapaaGreat
namespace Go.Proofs.YtfhmaincnlaapaaGreat
open Go.ChangeShapes Go.WideShapes Go.ChangeAt Go.RowKit
set_option linter.unusedVariables false

def eqTo {α : Type} (z : α) (l m : List α) (k : Nat) : Prop := ∀ j, j < k → l.getD j z = m.getD j z
theorem eqTo.snoc {α : Type} {z : α} {l m : List α} {k : Nat} (h : eqTo z l m k) (hk : l.getD k z = m.getD k z) : eqTo z l m (k + 1) := fun j hj => by
  by_cases e : j = k
  · subst e; exact hk
  · exact h j (by omega)
theorem eqTo.all {α : Type} {z : α} {l m : List α} (hl : l.length = m.length) (h : eqTo z l m l.length) : l = m := by
  apply List.ext_getElem hl
  intro j h1 h2
  have := h j h1
  simpa [List.getD, h1, h2] using this
theorem ne_of_getD {α : Type} {z : α} {l m : List α} {k : Nat} (h : l.getD k z ≠ m.getD k z) : l ≠ m := fun e => h (by rw [e])
theorem Rd.f64 {w : World} {B : Nat} {A : Option Addr} {l : List Nat} (h : Rd w B 1 A l.length (f64s l)) {k : Nat} (hk : k < l.length) : ∃ a, A = some a ∧ a.block < B ∧ w.cell? (a.add k) = some (.float .f64 (l.getD k 0)) := by
  obtain ⟨a, u, rfl, hb, hx, hc⟩ := h.at1 hk
  refine ⟨a, rfl, hb, ?_⟩
  rw [show (f64s l)[k]? = some (.float .f64 (l.getD k 0)) from by simp [f64s, List.getD, hk]] at hx
  rw [hc]; exact hx.symm
/-- lists of numbers that are the same -/
def keysF (l : List Nat) : List Nat := l.map keyB
theorem keysF_getD (l : List Nat) (k : Nat) (hk : k < l.length) : (keysF l).getD k 0 = keyB (l.getD k 0) := by simp [keysF, List.getD, hk]
theorem keysF_len (l : List Nat) : (keysF l).length = l.length := by simp [keysF]
def sameB (F G : FactS) : Bool := decide (F.codes = G.codes) && decide (F.ints = G.ints) && decide (keysF F.nums = keysF G.nums)
end Go.Proofs.YtfhmaincnlaapaaGreat
namespace Go.Proofs.YtfhmaincnlaapaaGreat
open Go.ChangeShapes Go.WideShapes Go.ChangeAt Go.RowKit
set_option linter.unusedVariables false

theorem sameB_codes {F G : FactS} (h : F.codes ≠ G.codes) : sameB F G = false := by unfold sameB; rw [decide_eq_false h]; rfl
theorem sameB_ints {F G : FactS} (h : F.ints ≠ G.ints) : sameB F G = false := by unfold sameB; rw [decide_eq_false h, Bool.and_false]; rfl
theorem sameB_nums {F G : FactS} (h : keysF F.nums ≠ keysF G.nums) : sameB F G = false := by unfold sameB; rw [decide_eq_false h, Bool.and_false]
theorem sameB_yes {F G : FactS} (h0 : F.codes = G.codes) (h1 : F.ints = G.ints) (h2 : keysF F.nums = keysF G.nums) : sameB F G = true := by
  unfold sameB; rw [decide_eq_true h0, decide_eq_true h1, decide_eq_true h2]; rfl
theorem len_ne {α : Type} {l m : List α} (h : l.length ≠ m.length) : l ≠ m := fun e => h (by rw [e])
theorem keys_len_ne {l m : List Nat} (h : l.length ≠ m.length) : keysF l ≠ keysF m := fun e => h (by rw [← keysF_len l, ← keysF_len m, e])
set_option maxRecDepth 20000 in
set_option maxHeartbeats 4000000 in
theorem refFactSame_any (w : World) (B : Nat) (v u : Value) (F G : FactS) (hF : FactAt w B v F) (hG : FactAt w B u G) (oF : FactOk F) (oG : FactOk G) (hB : B ≤ w.heap.size) :
    Calls Tryz.prog 50 #[v, u] w fun y w' => y = .returned (.bool (sameB F G)) ∧ Below w.heap.size w w' := by
  obtain ⟨_, _, _, rfl, D0, d0, D1, d1, D2, d2, rfl, rfl, rfl, s0, s1, s2, ⟨m0, m0'⟩, ⟨m1, m1'⟩, m2, m2'⟩ := hF
  obtain ⟨_, _, _, rfl, E0, e0, E1, e1, E2, e2, rfl, rfl, rfl, u0, u1, u2, ⟨n0, n0'⟩, ⟨n1, n1'⟩, n2, n2'⟩ := hG
  have hw0 := belA (belA (belR w) (.cells #[.slice D0 F.codes.length d0, .slice D1 F.ints.length d1, .slice D2 F.nums.length d2] 86)) (.cells #[.slice E0 G.codes.length e0, .slice E1 G.ints.length e1, .slice E2 G.nums.length e2] 86)
  have S0 := Lib.hid (s0.below (hw0.mono hB)); have S1 := Lib.hid (s1.below (hw0.mono hB)); have S2 := Lib.hid (s2.below (hw0.mono hB))
  have U0 := Lib.hid (u0.below (hw0.mono hB)); have U1 := Lib.hid (u1.below (hw0.mono hB)); have U2 := Lib.hid (u2.below (hw0.mono hB))
  have HW0 := Lib.hid hw0
  have l0 := Nat.le_trans m0 m0'; have l1 := Nat.le_trans m1 m1'; have l2 := Nat.le_trans m2 m2'
  clear s0 s1 s2 u0 u1 u2 hw0
  unfold maxLen at l0 l1 l2
  have K1 := Lib.hid (Blk.new (w.alloc (.cells #[.slice D0 F.codes.length d0, .slice D1 F.ints.length d1, .slice D2 F.nums.length d2] 86)) 86 #[.slice E0 G.codes.length e0, .slice E1 G.ints.length e1, .slice E2 G.nums.length e2])
  have K0 := Lib.hid ((Blk.new w 86 #[.slice D0 F.codes.length d0, .slice D1 F.ints.length d1, .slice D2 F.nums.length d2]).alloc (.cells #[.slice E0 G.codes.length e0, .slice E1 G.ints.length e1, .slice E2 G.nums.length e2] 86))
  by_cases a0 : F.codes.length = G.codes.length
  case neg =>
    have HNO := Lib.hid (sameB_codes (len_ne a0))
    have t0 := ne_true a0
    clear a0
    go_enter Tryz.func50, Tryz.ntmps50
    go_wp2
    go_ret
    exact ⟨by rw [HNO.out]; rfl, HW0.out⟩
  by_cases a1 : F.ints.length = G.ints.length
  case neg =>
    have HNO := Lib.hid (sameB_ints (len_ne a1))
    have t0 := ne_false a0; have t1 := ne_true a1
    clear a0 a1
    go_enter Tryz.func50, Tryz.ntmps50
    go_wp2
    go_ret
    exact ⟨by rw [HNO.out]; rfl, HW0.out⟩
  by_cases a2 : F.nums.length = G.nums.length
  case neg =>
    have HNO := Lib.hid (sameB_nums (keys_len_ne a2))
    have t0 := ne_false a0; have t1 := ne_false a1; have t2 := ne_true a2
    clear a0 a1 a2
    go_enter Tryz.func50, Tryz.ntmps50
    go_wp2
    go_ret
    exact ⟨by rw [HNO.out]; rfl, HW0.out⟩
  have t0 := ne_false a0; have t1 := ne_false a1; have t2 := ne_false a2
  have L0 := Lib.hid a0; have L1 := Lib.hid a1; have L2 := Lib.hid a2
  have hl0 : F.codes.length ≤ G.codes.length := by rw [a0]; exact Nat.le_refl _
  have hl1 : F.ints.length ≤ G.ints.length := by rw [a1]; exact Nat.le_refl _
  have hl2 : F.nums.length ≤ G.nums.length := by rw [a2]; exact Nat.le_refl _
  have HL0 := Lib.hid hl0; have HL1 := Lib.hid hl1; have HL2 := Lib.hid hl2
  clear a0 a1 a2
  rw [show (w.alloc (.cells #[.slice D0 F.codes.length d0, .slice D1 F.ints.length d1, .slice D2 F.nums.length d2] 86)).heap.size = w.heap.size + 1 from by simp] at K1
  go_enter Tryz.func50, Tryz.ntmps50
  go_wp2
  clear t0 t1 t2
  generalize hW : (w.alloc (.cells #[.slice D0 F.codes.length d0, .slice D1 F.ints.length d1, .slice D2 F.nums.length d2] 86)).alloc (.cells #[.slice E0 G.codes.length e0, .slice E1 G.ints.length e1, .slice E2 G.nums.length e2] 86) = W at *
  clear hW
  go_loopw [5] (fun i wr => ∃ k : Nat, k ≤ F.codes.length ∧ i = .int .i64 (k : Int) ∧ Hid (eqTo 0 F.codes G.codes k) ∧ Hid (Drw W wr)) (fun i _ => F.codes.length - (intOf i).toNat)
  case atStart => exact ⟨0, by omega, rfl, fun j hj => by omega, Drw.refl W⟩
  case round =>
    obtain ⟨k, hk, rfl, HA, HD⟩ := hrel
    have k0 := (K0.out.drw HD.out).cell 0; have k1 := (K1.out.drw HD.out).cell 0
    simp at k0 k1
    by_cases hlt : k < F.codes.length
    · have hlm := Nat.lt_of_lt_of_le hlt HL0.out
      obtain ⟨a, rfl, hab, x0⟩ := (rd_drw S0.out HD.out).i64 hlt
      obtain ⟨a', rfl, hab', y0⟩ := (rd_drw U0.out HD.out).i64 hlm
      have q1 : (0 : Int) ≤ (k : Int) := by omega
      have q2 : (k : Int) < (F.codes.length : Int) := by omega
      have q3 : (k : Int) < (G.codes.length : Int) := by omega
      have hst := fun h => HA.out.snoc h
      have hno := fun h => sameB_codes (@ne_of_getD _ 0 F.codes G.codes k h)
      generalize F.codes.getD k 0 = x at *
      generalize G.codes.getD k 0 = z at *
      have HST := Lib.hid hst; have HNO := Lib.hid hno; clear hst hno hlm
      by_cases hx : x = z
      · have t1 : (x != z) = false := by rw [hx]; exact bne_self_eq_false _
        have HY := Lib.hid (HST.out hx)
        clear hx
        go_wp2
        go_quiet (fail)
        go_wp2
        go_roundw
        case rel => exact ⟨k + 1, by omega, by go_num, HY, HD.out.drewN _⟩
        case measure => simp [intOf]; omega
      · have t1 : (x != z) = true := by rw [bne_iff_ne]; exact hx
        have HN := Lib.hid (HNO.out hx)
        clear hx
        go_wp2
        go_quiet (fail)
        go_wp2
        go_ret
        exact ⟨by rw [HN.out]; rfl, belD (HD.out.below HW0.out) _⟩
    · obtain rfl : k = F.codes.length := by omega
      have E0 := Lib.hid (eqTo.all L0.out HA.out)
      have HD0 := HD
      clear HD
      go_wp2
      clear k0 k1 HA
      go_loopw [6] (fun i wr => ∃ k : Nat, k ≤ F.ints.length ∧ i = .int .i64 (k : Int) ∧ Hid (eqTo 0 F.ints G.ints k) ∧ Hid (Drw W wr)) (fun i _ => F.ints.length - (intOf i).toNat)
      case atStart => exact ⟨0, by omega, rfl, fun j hj => by omega, HD0.out⟩
      case round =>
        obtain ⟨k, hk, rfl, HA, HD⟩ := hrel
        have k0 := (K0.out.drw HD.out).cell 1; have k1 := (K1.out.drw HD.out).cell 1
        simp at k0 k1
        by_cases hlt : k < F.ints.length
        · have hlm := Nat.lt_of_lt_of_le hlt HL1.out
          obtain ⟨a, rfl, hab, x0⟩ := (rd_drw S1.out HD.out).i64 hlt
          obtain ⟨a', rfl, hab', y0⟩ := (rd_drw U1.out HD.out).i64 hlm
          have q1 : (0 : Int) ≤ (k : Int) := by omega
          have q2 : (k : Int) < (F.ints.length : Int) := by omega
          have q3 : (k : Int) < (G.ints.length : Int) := by omega
          have hst := fun h => HA.out.snoc h
          have hno := fun h => sameB_ints (@ne_of_getD _ 0 F.ints G.ints k h)
          generalize F.ints.getD k 0 = x at *
          generalize G.ints.getD k 0 = z at *
          have HST := Lib.hid hst; have HNO := Lib.hid hno; clear hst hno hlm
          by_cases hx : x = z
          · have t1 : (x != z) = false := by rw [hx]; exact bne_self_eq_false _
            have HY := Lib.hid (HST.out hx)
            clear hx
            go_wp2
            go_quiet (fail)
            go_wp2
            go_roundw
            case rel => exact ⟨k + 1, by omega, by go_num, HY, HD.out.drewN _⟩
            case measure => simp [intOf]; omega
          · have t1 : (x != z) = true := by rw [bne_iff_ne]; exact hx
            have HN := Lib.hid (HNO.out hx)
            clear hx
            go_wp2
            go_quiet (fail)
            go_wp2
            go_ret
            exact ⟨by rw [HN.out]; rfl, belD (HD.out.below HW0.out) _⟩
        · obtain rfl : k = F.ints.length := by omega
          have E1 := Lib.hid (eqTo.all L1.out HA.out)
          have HD1 := HD
          clear HD
          go_wp2
          clear k0 k1 HA
          go_loopw [7] (fun i wr => ∃ k : Nat, k ≤ F.nums.length ∧ i = .int .i64 (k : Int) ∧ Hid (eqTo 0 (keysF F.nums) (keysF G.nums) k) ∧ Hid (Drw W wr)) (fun i _ => F.nums.length - (intOf i).toNat)
          case atStart => exact ⟨0, by omega, rfl, fun j hj => by omega, HD1.out⟩
          case round =>
            obtain ⟨k, hk, rfl, HA, HD⟩ := hrel
            have k0 := (K0.out.drw HD.out).cell 2; have k1 := (K1.out.drw HD.out).cell 2
            simp at k0 k1
            by_cases hlt : k < F.nums.length
            · have hlm := Nat.lt_of_lt_of_le hlt HL2.out
              obtain ⟨a, rfl, hab, x0⟩ := (rd_drw S2.out HD.out).f64 hlt
              obtain ⟨a', rfl, hab', y0⟩ := (rd_drw U2.out HD.out).f64 hlm
              have q1 : (0 : Int) ≤ (k : Int) := by omega
              have q2 : (k : Int) < (F.nums.length : Int) := by omega
              have q3 : (k : Int) < (G.nums.length : Int) := by omega
              have hst := fun h => HA.out.snoc h
              have hno := fun h => sameB_nums (@ne_of_getD _ 0 (keysF F.nums) (keysF G.nums) k h)
              rw [keysF_getD F.nums k hlt, keysF_getD G.nums k hlm] at hst hno
              have hc := fun W => refFSame_any (F.nums.getD k 0) (G.nums.getD k 0) W (by simp [List.getD, hlt]; exact oF.nums _ (List.getElem_mem hlt)) (by simp [List.getD, hlm]; exact oG.nums _ (List.getElem_mem hlm))
              generalize F.nums.getD k 0 = x at *
              generalize G.nums.getD k 0 = z at *
              have HST := Lib.hid hst; have HNO := Lib.hid hno; clear hst hno hlm
              by_cases hx : keyB x = keyB z
              · rw [show decide (keyB x = keyB z) = true from decide_eq_true hx] at hc
                have HC := Lib.hid hc; clear hc
                have HY := Lib.hid (HST.out hx)
                clear hx
                go_wp2
                go_quiet ((go_at_call 21; exact qcall (HC.out _)))
                go_wp2
                go_roundw
                case rel => exact ⟨k + 1, by omega, by go_num, HY, HD.out.drewN _⟩
                case measure => simp [intOf]; omega
              · rw [show decide (keyB x = keyB z) = false from decide_eq_false hx] at hc
                have HC := Lib.hid hc; clear hc
                have HN := Lib.hid (HNO.out hx)
                clear hx
                go_wp2
                go_quiet ((go_at_call 21; exact qcall (HC.out _)))
                go_wp2
                go_ret
                exact ⟨by rw [HN.out]; rfl, belD (HD.out.below HW0.out) _⟩
            · obtain rfl : k = F.nums.length := by omega
              have E2 := Lib.hid (eqTo.all (show (keysF F.nums).length = (keysF G.nums).length from by rw [keysF_len, keysF_len]; exact L2.out) (by rw [keysF_len]; exact HA.out))
              have HY := Lib.hid (sameB_yes E0.out E1.out E2.out)
              go_wp2
              go_ret
              exact ⟨by rw [HY.out]; rfl, HD.out.below HW0.out⟩
end Go.Proofs.YtfhmaincnlaapaaGreat
