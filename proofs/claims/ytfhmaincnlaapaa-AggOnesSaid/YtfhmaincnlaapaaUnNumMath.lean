/-
  NUMBERS OF DIGITS OF BASE 1000: sums, differences, products, quotients of digits, as far as they go.
  NUMBERS OF DIGITS OF BASE 1000 (bushelref01), without the program.
  fact.each, fact.Put.
  fact.Same, bushelref12.Same.
  fact.Same, bushelref12.Same (slices.Equal, slices.EqualFunc with flo.Same).
  fact.Check, fact.Batch, bushelref12.Batch.
  fact.fits, bushelref12.Fits.
  bushelref11.Check.
  bushelref11.Full of any schema: some set.
-/
import Derived.StillTailTactics
import Derived.Deep.RegionHeld3
import Derived.Deep.DeepCutAuto
import Derived.Test.YtfhmaincnlaapaaUnSy2
import Derived.Test.YtfhmaincnlaapaaUnBufSmall
import Derived.Test.YtfhmaincnlaapaaUnRefNodesW
import Derived.Test.YtfhmaincnlaapaaUnSchemaCheck
namespace Go.Proofs.Ytfhmaincnlaapaa
open Go.ChangeShapes Go.WideShapes Go.ChangeAt Go.RowKit
set_option linter.unusedVariables false

set_option maxRecDepth 20000 in
set_option maxHeartbeats 4000000 in
theorem refCheck_any (w : World) (B : Nat) (v : Value) (S : Sch) (h : SchAt w B v S) (ho : SchOk S) (hB : B ≤ w.heap.size) :
    Calls Try.prog 38 #[v] w fun y w' => y = .returned (.int .i64 (checkN S : Int)) ∧ Below w.heap.size w w' := by
  obtain ⟨A0, c0, A1, c1, A2, c2, A3, c3, rfl, r0, r1, r2, r3, b0, b1, b2, b3⟩ := h
  have hw0 := belA (belR w) (.cells #[.slice A0 S.dims.length c0, .slice A1 S.ints.length c1, .slice A2 S.nums.length c2, .slice A3 S.views.length c3] 26)
  have hs0 : SchAt (w.alloc (.cells #[.slice A0 S.dims.length c0, .slice A1 S.ints.length c1, .slice A2 S.nums.length c2, .slice A3 S.views.length c3] 26)) B (.agg #[.slice A0 S.dims.length c0, .slice A1 S.ints.length c1, .slice A2 S.nums.length c2, .slice A3 S.views.length c3]) S :=
    ⟨A0, c0, A1, c1, A2, c2, A3, c3, rfl, r0.below (hw0.mono hB), r1.below (hw0.mono hB), r2.below (hw0.mono hB), r3.below (hw0.mono hB), b0, b1, b2, b3⟩
  have hblk := Blk.new w 26 #[.slice A0 S.dims.length c0, .slice A1 S.ints.length c1, .slice A2 S.nums.length c2, .slice A3 S.views.length c3]
  have R0 := Lib.hid (r0.below (hw0.mono hB)); have R3 := Lib.hid (r3.below (hw0.mono hB))
  have HS := Lib.hid hs0; have HW0 := Lib.hid hw0; have HBLK := Lib.hid hblk
  clear r0 r1 r2 r3 b0 b1 b2 b3 hs0 hw0 hblk
  by_cases hm : manyOk S
  case neg =>
    have HNO := Lib.hid (checkN_many hm)
    have hcs := many_cases hm
    clear hm
    rcases hcs with e | e | e | e | e
    · have t0 : (S.dims.length : Int) < 1 := by omega
      clear e
      go_enter Try.func38, Try.ntmps38
      go_wp2
      go_ret
      exact ⟨by rw [HNO.out]; rfl, HW0.out⟩
    all_goals
      have t0 : ((S.dims.length : Int) == 0) = false := by rw [beq_eq_false_iff_ne]; omega
      have e1 : (1 : Int) ≤ (S.dims.length : Int) := by omega
      go_enter Try.func38, Try.ntmps38
      go_wp2
      go_ret
      exact ⟨by rw [HNO.out]; rfl, HW0.out⟩
  case pos =>
    have hmm := hm
    obtain ⟨m1, m2, m3, m4, m5⟩ := hmm
    have t0 : ((S.dims.length : Int) == 0) = false := by rw [beq_eq_false_iff_ne]; omega
    have hnl : (namesL S).length ≤ 300 := by unfold namesL; rw [List.length_append, List.length_append, List.length_map]; omega
    have hn := refNames_any _ B _ S HS.out (Nat.le_trans hB (by simp)) (by omega) (by omega) (by omega)
    have hfl := fullN_le m1 m2
    have hno1 := fun h1 => checkN_name hm h1
    have hno2 := fun h1 h2 => checkN_dup hm h1 h2
    have hno3 := fun h1 h2 k hk h3 => checkN_keys hm h1 h2 k hk h3
    have hno4 := fun h1 h2 p h3 h4 => checkN_views hm h1 h2 p h3 h4
    have hyes := fun h1 h2 p h3 h4 => checkN_ok hm h1 h2 p h3 h4
    have NO1 := Lib.hid hno1; have NO2 := Lib.hid hno2; have NO3 := Lib.hid hno3; have NO4 := Lib.hid hno4; have YES := Lib.hid hyes
    have HN := Lib.hid hn; have HLS := Lib.hid (namesL_size ho); have HSH := Lib.hid (shl_one S.dims.length m1 m2)
    clear hm hn hno1 hno2 hno3 hno4 hyes
    generalize namesL S = L at *
    have hz0 : w.heap.size < (w.alloc (.cells #[.slice A0 S.dims.length c0, .slice A1 S.ints.length c1, .slice A2 S.nums.length c2, .slice A3 S.views.length c3] 26)).heap.size := by simp
    go_enter Try.func38, Try.ntmps38
    go_wp2_with (go_at_call 43; (with_reducible refine HN.out.mono ?_); rintro y w1 ⟨v1, rfl, ho1, hb1⟩; obtain ⟨A5, c5, rfl, hc5, hc6, _⟩ := own_form ho1; have HR1 := Lib.hid (Rd.own ho1); have HK1 := Lib.hid (HBLK.out.below hb1 hz0); have HR0 := Lib.hid (R0.out.below (hb1.mono (show B ≤ _ by omega))); have HR3 := Lib.hid (R3.out.below (hb1.mono (show B ≤ _ by omega))); have hz1 : w.heap.size < w1.heap.size := Nat.lt_of_lt_of_le hz0 hb1.size; have HB1 := Lib.hid (belT HW0.out hb1); clear ho1 hb1 hz0 HBLK R0 R3 HN)
    have hcc := hc6
    unfold maxLen at hcc
    go_loopw [4] (fun i wr => ∃ k : Nat, k ≤ L.length ∧ i = .int .i64 (k : Int) ∧ Hid (namesTo L k) ∧ Hid (Below w1.heap.size w1 wr)) (fun i _ => L.length - (intOf i).toNat)
    case atStart => exact ⟨0, by omega, rfl, fun j _ hj => by omega, belR w1⟩
    case round =>
      obtain ⟨k, hk, rfl, HA, HBr⟩ := hrel
      have hz := HBr.out.size
      by_cases hlt : k < L.length
      · obtain ⟨a, rfl, hab, x0⟩ := (HR1.out.below HBr.out).str hlt
        have q1 : (0 : Int) ≤ (k : Int) := by omega
        have q2 : (k : Int) < (L.length : Int) := by omega
        have hst := fun h => HA.out.snoc hlt h
        have hno := fun h => NO1.out (all_isB_no k hlt h)
        have hc := refIs_any wr L[k]
        generalize L[k] = x at *
        cases hx : isB x with
        | true =>
          rw [hx] at hc
          have HST := Lib.hid (hst hx); have HC := Lib.hid hc; clear hx hst hno hc
          go_wp2_with (go_at_call 87; (with_reducible refine HC.out.mono ?_); rintro y w2 ⟨rfl, hb2⟩; have HB2 := Lib.hid hb2; clear hb2)
          go_roundw
          case rel => exact ⟨k + 1, by omega, by go_num, HST, belT HBr.out HB2.out⟩
          case measure => simp [intOf]; omega
        | false =>
          rw [hx] at hc
          have HNO := Lib.hid (hno hx); have HC := Lib.hid hc; clear hx hst hno hc
          go_wp2_with (go_at_call 87; (with_reducible refine HC.out.mono ?_); rintro y w2 ⟨rfl, hb2⟩; have HB2 := Lib.hid hb2; clear hb2)
          go_ret
          exact ⟨by rw [HNO.out]; rfl, HB1.out.trans ((belT HBr.out HB2.out).mono (Nat.le_of_lt hz1))⟩
      · obtain rfl : k = L.length := by omega
        have hall : L.all isB = true := all_isB fun j hj => HA.out j hj hj
        have HALL := Lib.hid hall
        have hc := refTwice_any wr A5 L.length c5 _ L (HR1.out.below HBr.out) hc5 hc6
        clear hall HA NO1
        cases hd : dupB L with
        | true =>
          have hc2 : Calls Try.prog 88 #[.slice A5 L.length c5] wr fun y w' => ∃ z, y = .returned (.int .i64 z) ∧ 0 ≤ z ∧ Below wr.heap.size wr w' :=
            hc.mono fun y w' ⟨z, h1, h2, h3⟩ => ⟨z, h1, by rcases h2 with ⟨_, h2⟩ | ⟨h2, _⟩; (rw [hd] at h2; cases h2); exact h2, belW (belR wr) h3⟩
          have HNO := Lib.hid (NO2.out HALL.out hd); have HC := Lib.hid hc2; clear hc hc2 hd
          go_wp2_with (go_at_call 88; (with_reducible refine HC.out.mono ?_); rintro y w2 ⟨z, rfl, hz2, hb2⟩; have HB2 := Lib.hid hb2; clear hb2)
          go_ret
          exact ⟨by rw [HNO.out]; rfl, HB1.out.trans ((belT HBr.out HB2.out).mono (Nat.le_of_lt hz1))⟩
        | false =>
          have hc2 : Calls Try.prog 88 #[.slice A5 L.length c5] wr fun y w' => y = .returned (.int .i64 (-1)) ∧ Below wr.heap.size wr w' :=
            hc.mono fun y w' ⟨z, h1, h2, h3⟩ => ⟨by rcases h2 with ⟨h2, _⟩ | ⟨_, h2⟩; (rw [h1, h2]); (rw [hd] at h2; cases h2), belW (belR wr) h3⟩
          have HC := Lib.hid hc2
          have NO3' := Lib.hid (NO3.out HALL.out hd); have NO4' := Lib.hid (NO4.out HALL.out hd); have YES' := Lib.hid (YES.out HALL.out hd)
          clear hc hc2 hd NO2 NO3 NO4 YES HALL
          go_wp2_with (go_at_call 88; (with_reducible refine HC.out.mono ?_); rintro y w2 ⟨rfl, hb2⟩; have HB2 := Lib.hid (belT HBr.out hb2); have hk2 := HK1.out.below HB2.out hz1; have k20 := hk2.cell 0; simp at k20; clear hb2)
          have HR02 := Lib.hid (HR0.out.below (HB2.out.mono (show B ≤ w1.heap.size by omega))); have HR32 := Lib.hid (HR3.out.below (HB2.out.mono (show B ≤ w1.heap.size by omega)))
          have HK2 := Lib.hid hk2
          have hz2 : w.heap.size < w2.heap.size := Nat.lt_of_lt_of_le hz1 HB2.out.size
          have HBW := Lib.hid (HB1.out.trans (HB2.out.mono (Nat.le_of_lt hz1)))
          clear hk2 HR0 HR3 HB1 HBr HC HR1 HK1 HB2 hz
          go_loopw [5, 6] (fun v6 i ws => ∃ k p : Nat, k ≤ S.dims.length ∧ i = .int .i64 (k : Int) ∧ v6 = .int .i64 (p : Int) ∧ Hid (keysTo S k = some p) ∧ Hid (Below w2.heap.size w2 ws)) (fun _ i _ => S.dims.length - (intOf i).toNat)
          case atStart => exact ⟨0, 1, by omega, rfl, rfl, rfl, belR w2⟩
          case round =>
            obtain ⟨k, p, hk, rfl, rfl, HP, HBs⟩ := hrel
            have hz := HBs.out.size
            have hpl := keysTo_le S k p HP.out
            by_cases hlt : k < S.dims.length
            · obtain ⟨a, rfl, hab, x0, x1⟩ := (HR02.out.below (HBs.out.mono (show B ≤ w2.heap.size by omega))).dim hlt
              have q1 : (0 : Int) ≤ (k : Int) := by omega
              have q2 : (k : Int) < (S.dims.length : Int) := by omega
              rw [szAt_get S k hlt] at x1
              have hst := keysTo_succ S k p HP.out
              have hsb := (ho.dims _ (List.getElem_mem hlt)).2
              rw [szAt_get S k hlt] at hsb
              generalize S.dims[k].1 = nm at *
              generalize szAt S k = sz at *
              have k30 := (HK2.out.below HBs.out hz2).cell 0
              simp at k30
              have hfin := HBW.out.trans (HBs.out.mono (Nat.le_of_lt hz2))
              have HFIN := Lib.hid hfin; clear hfin
              by_cases s1 : sz < 1
              · have HNO := Lib.hid (NO3'.out (k + 1) (by omega) (by rw [hst]; exact keyStep_no (by omega)))
                clear hst
                go_wp2
                go_ret
                exact ⟨by rw [HNO.out]; rfl, HFIN.out⟩
              · by_cases s2 : 4096 < sz
                · have HNO := Lib.hid (NO3'.out (k + 1) (by omega) (by rw [hst]; exact keyStep_no (by omega)))
                  clear hst
                  go_wp2
                  go_ret
                  exact ⟨by rw [HNO.out]; rfl, HFIN.out⟩
                · obtain ⟨n, rfl⟩ : ∃ n : Nat, sz = (n : Int) := ⟨sz.toNat, by omega⟩
                  have hn1 : 1 ≤ n := by omega
                  have hb1 : p * n ≤ 1099511627776 * 4096 := Nat.mul_le_mul hpl.2 (by omega)
                  have hmul : (p : Int) * (n : Int) = ((p * n : Nat) : Int) := by omega
                  by_cases s3 : 1099511627776 < p * n
                  · have HNO := Lib.hid (NO3'.out (k + 1) (by omega) (by rw [hst]; exact keyStep_no (by rw [Int.toNat_natCast]; omega)))
                    clear hst
                    generalize p * n = r at *
                    go_wp2
                    go_ret
                    exact ⟨by rw [HNO.out]; rfl, HFIN.out⟩
                  · have hst2 := hst.trans (keyStep_yes hn1 (by omega) rfl (by omega))
                    have HST := Lib.hid hst2
                    clear hst hst2
                    generalize p * n = r at *
                    go_wp2
                    go_roundw
                    case rel => exact ⟨k + 1, r, by omega, by go_num, rfl, HST, HBs⟩
                    case measure => simp [intOf]; omega
            · obtain rfl : k = S.dims.length := by omega
              have NO4'' := Lib.hid (NO4'.out p HP.out); have YES'' := Lib.hid (YES'.out p HP.out)
              clear NO3' NO4' YES' HP
              have hk3 := HK2.out.below HBs.out hz2
              have k30 := hk3.cell 0; have k33 := hk3.cell 3
              simp at k30 k33
              have HRV := Lib.hid (HR32.out.below (HBs.out.mono (show B ≤ w2.heap.size by omega)))
              have HFIN := Lib.hid (HBW.out.trans (HBs.out.mono (Nat.le_of_lt hz2)))
              have HF : Hid (fullN S = p2 S.dims.length - 1) := rfl
              have hpf : p2 S.dims.length = fullN S + 1 := by have := p2_pos S.dims.length; have h := HF.out; omega
              have h2 : ∀ W, Calls Try.prog 44 #[.int .i64 (S.dims.length : Int)] W fun y w' => y = .returned (.int .u32 ((fullN S : Int) + 1)) ∧ W = w' := fun W => by
                have := two_any W S.dims.length (by omega)
                rw [hpf] at this
                exact this
              have hsub : ∀ (W : World) (x : Nat), x ≤ 4294967295 → Calls Try.prog 40 #[.int .u32 (x : Int), .int .u32 (fullN S : Int)] W fun y w' => y = .returned (.bool (decide (x < fullN S + 1))) ∧ W = w' := fun W x hx => by
                have h := sub_any W x (fullN S) (by omega) (by omega)
                rw [show fullN S = p2 S.dims.length - 1 from rfl, sub_full x S.dims.length (by omega) (by omega), hpf] at h
                exact h
              have H2 := Lib.hid h2; have HSUB := Lib.hid hsub
              clear h2 hsub hpf
              generalize fullN S = F at *
              have HK3 := Lib.hid hk3
              clear hk3
              go_wp2_with (go_at_call 44; (with_reducible refine (H2.out _).mono ?_); rintro y w3 ⟨rfl, rfl⟩)
              obtain ⟨ws, hws⟩ : ∃ ws, ws = wr := ⟨wr, rfl⟩
              subst hws
              go_loopw [9] (fun i wt => ∃ k : Nat, k ≤ S.views.length ∧ i = .int .i64 (k : Int) ∧ Hid (viewsTo S k = true) ∧ Hid (Drw ws wt)) (fun i _ => S.views.length - (intOf i).toNat)
              case atStart => exact ⟨0, by omega, rfl, rfl, Drw.refl ws⟩
              case round =>
                obtain ⟨k, hk, rfl, HV, HDr⟩ := hrel
                have hk4 := HK3.out.drw HDr.out
                have k43 := hk4.cell 3
                simp at k43
                have HFT := Lib.hid (HDr.out.below HFIN.out)
                have HFD := Lib.hid (HFT.out.drew); have HDD := Lib.hid HDr.out.drew
                clear hk4 k30 k33
                by_cases hlt : k < S.views.length
                · obtain ⟨a, rfl, hab, x0, hxl⟩ := (rd_drw HRV.out HDr.out).view ho hlt
                  have q1 : (0 : Int) ≤ (k : Int) := by omega
                  have q2 : (k : Int) < (S.views.length : Int) := by omega
                  have hst := viewsTo_succ S k
                  rw [HV.out, Bool.true_and] at hst
                  have hno := viewsTo_no S k hlt
                  have HV2 := Lib.hid hst; clear hst
                  have hcs := fun W => HSUB.out W (viewAt S k) hxl
                  by_cases s0 : F + 1 ≤ viewAt S k
                  · have hv : viewOk S k = false := by unfold viewOk; rw [decide_eq_false (show ¬ viewAt S k < fullN S by rw [HF.out] at s0; unfold fullN; omega)]; rfl
                    have HNO := Lib.hid (NO4''.out (hno hv))
                    rw [decide_eq_false (show ¬ viewAt S k < F + 1 by omega)] at hcs
                    generalize viewAt S k = x at *
                    have HCS := Lib.hid hcs
                    clear hv hno hcs
                    go_wp2
                    go_quiet ((go_at_call 40; exact qcallS (HCS.out _)))
                    go_wp2
                    go_ret
                    exact ⟨by rw [HNO.out]; rfl, belD HFT.out _⟩
                  · rw [decide_eq_true (show viewAt S k < F + 1 by omega)] at hcs
                    by_cases s1 : F ≤ viewAt S k
                    · have hv : viewOk S k = false := by unfold viewOk; rw [decide_eq_false (show ¬ viewAt S k < fullN S by rw [HF.out] at s1; unfold fullN; omega)]; rfl
                      have HNO := Lib.hid (NO4''.out (hno hv))
                      generalize viewAt S k = x at *
                      have t1 : ((x : Int) == (F : Int)) = true := by rw [beq_iff_eq]; omega
                      have HCS := Lib.hid hcs
                      clear hv hno hcs
                      go_wp2
                      go_quiet ((go_at_call 40; exact qcallS (HCS.out _)))
                      go_wp2
                      go_ret
                      exact ⟨by rw [HNO.out]; rfl, belD HFT.out _⟩
                    · have t1 : ((viewAt S k : Int) == (F : Int)) = false := by rw [beq_eq_false_iff_ne]; omega
                      cases k with
                      | zero =>
                        have hv : viewOk S 0 = true := by rw [viewOk_zero, decide_eq_true (show viewAt S 0 < fullN S by rw [HF.out] at s1; unfold fullN; omega)]
                        have HST : Hid (viewsTo S (0 + 1) = true) := Lib.hid (HV2.out.trans hv)
                        rw [add_zero'] at x0
                        rw [show ((0 : Nat) : Int) = 0 from rfl]
                        generalize viewAt S 0 = x at *
                        have HCS := Lib.hid hcs
                        clear hv hno HV2 hcs
                        go_wp2
                        go_quiet ((go_at_call 40; exact qcallS (HCS.out _)))
                        go_wp2
                        go_roundw
                        case rel => exact ⟨1, by omega, rfl, HST, HDr.out.drewN _⟩
                        case measure => simp [intOf]; omega
                      | succ j =>
                        obtain ⟨a', ea, _, y0, hyl⟩ := (rd_drw HRV.out HDr.out).view ho (k := j) (by omega)
                        injection ea with ea; subst ea
                        rw [add_succ] at x0
                        have hvk := viewOk_pos S (j + 1) (by omega)
                        rw [show j + 1 - 1 = j from rfl, decide_eq_true (show viewAt S (j + 1) < fullN S by rw [HF.out] at s1; unfold fullN; omega), Bool.true_and] at hvk
                        rw [show ((j + 1 : Nat) : Int) = (j : Int) + 1 from by omega] at *
                        generalize viewAt S (j + 1) = x at *
                        generalize viewAt S j = y at *
                        have HCS := Lib.hid hcs; clear hcs
                        have t3 : decide ((0 : Int) < (j : Int) + 1) = true := decide_eq_true (by omega)
                        have w1 : IntKind.i64.wrap (j : Int) = (j : Int) := IntWalk.i64_in _ (by omega)
                        have w2 : IntKind.i64.wrap ((j : Int) + 1 - 1) = (j : Int) := by rw [show (j : Int) + 1 - 1 = (j : Int) from by omega]; exact w1
                        have w3 : (0 : Int) ≤ (j : Int) := by omega
                        have w4 : (j : Int) < (S.views.length : Int) := by omega
                        by_cases s2 : y < x
                        · have HST := Lib.hid (HV2.out.trans (hvk.trans (decide_eq_true s2)))
                          have t2 : decide ((x : Int) ≤ (y : Int)) = false := decide_eq_false (by omega)
                          clear hvk hno HV2
                          go_wp2
                          go_quiet ((go_at_call 40; exact qcallS (HCS.out _)))
                          go_wp2
                          go_roundw
                          case rel => exact ⟨j + 1 + 1, by omega, by go_num, HST, HDr.out.drewN _⟩
                          case measure => simp [intOf]; omega
                        · have HNO := Lib.hid (NO4''.out (hno (hvk.trans (decide_eq_false s2))))
                          have t2 : decide ((x : Int) ≤ (y : Int)) = true := decide_eq_true (by omega)
                          clear hvk hno HV2
                          go_wp2
                          go_quiet ((go_at_call 40; exact qcallS (HCS.out _)))
                          go_wp2
                          go_ret
                          exact ⟨by rw [HNO.out]; rfl, belD HFT.out _⟩
                · obtain rfl : k = S.views.length := by omega
                  have HY := Lib.hid (YES''.out HV.out)
                  go_wp2
                  go_ret
                  exact ⟨by rw [HY.out]; rfl, HFT.out⟩
end Go.Proofs.Ytfhmaincnlaapaa
namespace Go.Proofs.Ytfhmaincnlaapaa
open Go.ChangeShapes Go.WideShapes Go.ChangeAt Go.RowKit
set_option linter.unusedVariables false

end Go.Proofs.Ytfhmaincnlaapaa
namespace Go.Proofs.Ytfhmaincnlaapaa
open Go.ChangeShapes Go.WideShapes Go.ChangeAt Go.RowKit
set_option linter.unusedVariables false

def FactAt (w : World) (B : Nat) (v : Value) (F : FactS) : Prop := ∃ v0 v1 v2, v = .agg #[v0, v1, v2] ∧ FactV w B F v0 v1 v2
theorem FactV.keep {w w' : World} {B B' : Nat} {F : FactS} {v0 v1 v2 : Value} (h : FactV w B F v0 v1 v2) (hb : Below B w w') (hB : B ≤ B') : FactV w' B' F v0 v1 v2 := by
  obtain ⟨A0, c0, A1, c1, A2, c2, e0, e1, e2, r0, r1, r2, b⟩ := h
  exact ⟨A0, c0, A1, c1, A2, c2, e0, e1, e2, (r0.below hb).more hB, (r1.below hb).more hB, (r2.below hb).more hB, b⟩
theorem SchAt.keep {w w' : World} {B B' : Nat} {v : Value} {S : Sch} (h : SchAt w B v S) (hb : Below B w w') (hB : B ≤ B') : SchAt w' B' v S := by
  obtain ⟨A0, c0, A1, c1, A2, c2, A3, c3, e, r0, r1, r2, r3, b⟩ := h
  exact ⟨A0, c0, A1, c1, A2, c2, A3, c3, e, (r0.below hb).more hB, (r1.below hb).more hB, (r2.below hb).more hB, (r3.below hb).more hB, b⟩
theorem FactAt.keep {w w' : World} {B : Nat} {v : Value} {F : FactS} (h : FactAt w B v F) (hb : Below B w w') : FactAt w' B v F := by
  obtain ⟨v0, v1, v2, e, hv⟩ := h
  exact ⟨v0, v1, v2, e, hv.keep hb (Nat.le_refl _)⟩
def codeAt (F : FactS) (k : Nat) : Int := F.codes.getD k 0
theorem Rd.i64 {w : World} {B : Nat} {A : Option Addr} {l : List Int} (h : Rd w B 1 A l.length (i64s l)) {k : Nat} (hk : k < l.length) : ∃ a, A = some a ∧ a.block < B ∧ w.cell? (a.add k) = some (.int .i64 (l.getD k 0)) := by
  obtain ⟨a, u, rfl, hb, hx, hc⟩ := h.at1 hk
  refine ⟨a, rfl, hb, ?_⟩
  rw [show (i64s l)[k]? = some (.int .i64 (l.getD k 0)) from by simp [i64s, List.getD, hk]] at hx
  rw [hc]; exact hx.symm
def codeOk (S : Sch) (F : FactS) (k : Nat) : Bool := decide (0 ≤ codeAt F k) && decide (codeAt F k < szAt S k)
def codesTo (S : Sch) (F : FactS) (k : Nat) : Bool := (List.range k).all (codeOk S F)
theorem codesTo_succ (S : Sch) (F : FactS) (k : Nat) : codesTo S F (k + 1) = (codesTo S F k && codeOk S F k) := by
  unfold codesTo
  rw [List.range_succ, List.all_append]; simp
theorem codesTo_no (S : Sch) (F : FactS) (k : Nat) (hk : k < F.codes.length) (h : codeOk S F k = false) : codesTo S F F.codes.length = false := by
  unfold codesTo
  rw [List.all_eq_false]
  exact ⟨k, List.mem_range.2 hk, by rw [h]; decide⟩
def lensOk (S : Sch) (F : FactS) : Prop := F.codes.length = S.dims.length ∧ F.ints.length = S.ints.length ∧ F.nums.length = S.nums.length
instance (S : Sch) (F : FactS) : Decidable (lensOk S F) := by unfold lensOk; infer_instance
/-- why a fact is none of a schema; 0: it is -/
def fitsN (S : Sch) (F : FactS) : Nat := if lensOk S F then (if codesTo S F F.codes.length = true then 0 else 2) else 3
theorem fitsN_many {S : Sch} {F : FactS} (h : ¬ lensOk S F) : fitsN S F = 3 := if_neg h
theorem fitsN_range {S : Sch} {F : FactS} (h : lensOk S F) (h1 : codesTo S F F.codes.length = false) : fitsN S F = 2 := by
  unfold fitsN; rw [if_pos h, if_neg (by rw [h1]; decide)]
theorem fitsN_ok {S : Sch} {F : FactS} (h : lensOk S F) (h1 : codesTo S F F.codes.length = true) : fitsN S F = 0 := by
  unfold fitsN; rw [if_pos h, if_pos h1]
theorem lens_cases {S : Sch} {F : FactS} (h : ¬ lensOk S F) : F.codes.length ≠ S.dims.length ∨ (F.codes.length = S.dims.length ∧ F.ints.length ≠ S.ints.length) ∨ (F.codes.length = S.dims.length ∧ F.ints.length = S.ints.length ∧ F.nums.length ≠ S.nums.length) := by
  unfold lensOk at h; omega
theorem ne_true {a b : Nat} (h : a ≠ b) : ((a : Int) != (b : Int)) = true := by rw [bne_iff_ne]; omega
theorem ne_false {a b : Nat} (h : a = b) : ((a : Int) != (b : Int)) = false := by rw [h]; exact bne_self_eq_false _
set_option maxRecDepth 20000 in
set_option maxHeartbeats 2000000 in
theorem fits_any (w : World) (B : Nat) (v u : Value) (S : Sch) (F : FactS) (h : SchAt w B v S) (g : FactAt w B u F) (hB : B ≤ w.heap.size) :
    Calls Try.prog 120 #[v, u] w fun y w' => y = .returned (.int .i64 (fitsN S F : Int)) ∧ Below w.heap.size w w' := by
  obtain ⟨A0, c0, A1, c1, A2, c2, A3, c3, rfl, r0, r1, r2, r3, b0, b1, b2, b3⟩ := h
  obtain ⟨v0, v1, v2, rfl, D0, d0, D1, d1, D2, d2, rfl, rfl, rfl, s0, s1, s2, e0, e1, e2⟩ := g
  have hw0 := belA (belA (belR w) (.cells #[.slice A0 S.dims.length c0, .slice A1 S.ints.length c1, .slice A2 S.nums.length c2, .slice A3 S.views.length c3] 26)) (.cells #[.slice D0 F.codes.length d0, .slice D1 F.ints.length d1, .slice D2 F.nums.length d2] 79)
  have R0 := Lib.hid (r0.below (hw0.mono hB)); have S0 := Lib.hid (s0.below (hw0.mono hB)); have HW0 := Lib.hid hw0
  clear r0 r1 r2 r3 s0 s1 s2 hw0
  by_cases hm : lensOk S F
  case neg =>
    have HNO := Lib.hid (fitsN_many hm)
    rcases lens_cases hm with a0 | ⟨a0, a1⟩ | ⟨a0, a1, a2⟩
    · have t0 := ne_true a0
      clear hm a0
      go_enter Try.func120, Try.ntmps120
      go_wp2
      go_ret
      exact ⟨by rw [HNO.out]; rfl, HW0.out⟩
    · have t0 := ne_false a0; have t1 := ne_true a1
      clear hm a0 a1
      go_enter Try.func120, Try.ntmps120
      go_wp2
      go_ret
      exact ⟨by rw [HNO.out]; rfl, HW0.out⟩
    · have t0 := ne_false a0; have t1 := ne_false a1; have t2 := ne_true a2
      clear hm a0 a1 a2
      go_enter Try.func120, Try.ntmps120
      go_wp2
      go_ret
      exact ⟨by rw [HNO.out]; rfl, HW0.out⟩
  case pos =>
    have t0 := ne_false hm.1; have t1 := ne_false hm.2.1; have t2 := ne_false hm.2.2
    have HL1 : Hid (F.codes.length ≤ S.dims.length) := Lib.hid (by rw [hm.1]; exact Nat.le_refl _)
    have hl1 : F.codes.length ≤ S.dims.length := by rw [hm.1]; exact Nat.le_refl _
    have hml : F.codes.length ≤ 9223372036854775807 := by have h1 := e0.1; have h2 := e0.2; unfold maxLen at h2; omega
    have hno := fun h1 => fitsN_range hm h1
    have hyes := fun h1 => fitsN_ok hm h1
    have HNO1 := Lib.hid hno; have HYES1 := Lib.hid hyes
    clear hm hno hyes
    go_enter Try.func120, Try.ntmps120
    go_wp2
    go_loop [35] (fun i => ∃ k : Nat, k ≤ F.codes.length ∧ i = .int .i64 (k : Int) ∧ Hid (codesTo S F k = true)) (fun i => F.codes.length - (intOf i).toNat)
    case atStart => exact ⟨0, by omega, rfl, rfl⟩
    case round =>
      obtain ⟨k, hk, rfl, HA⟩ := hrel
      by_cases hlt : k < F.codes.length
      · obtain ⟨a, rfl, hab, x0⟩ := S0.out.i64 hlt
        have hkd : k < S.dims.length := Nat.lt_of_lt_of_le hlt HL1.out
        obtain ⟨b, rfl, hbb, y0, y1⟩ := R0.out.dim hkd
        rw [szAt_get S k hkd] at y1
        have q1 : (0 : Int) ≤ (k : Int) := by omega
        have q2 : (k : Int) < (F.codes.length : Int) := by omega
        have q3 : (k : Int) < (S.dims.length : Int) := by omega
        have hst := codesTo_succ S F k
        rw [HA.out, Bool.true_and] at hst
        have hno := codesTo_no S F k hlt
        have hok : codeOk S F k = (decide (0 ≤ codeAt F k) && decide (codeAt F k < szAt S k)) := rfl
        have HST := Lib.hid hst; have HOK := Lib.hid hok; have HNO := Lib.hid hno
        clear hst hok hno y0
        rw [show F.codes.getD k 0 = codeAt F k from rfl] at x0
        generalize codeAt F k = x at *
        generalize szAt S k = z at *
        by_cases s1 : x < 0
        · have HN := Lib.hid (HNO1.out (HNO.out (by rw [HOK.out, decide_eq_false (by omega)]; rfl)))
          go_wp2
          go_ret
          exact ⟨by rw [HN.out]; rfl, HW0.out⟩
        · by_cases s2 : z ≤ x
          · have HN := Lib.hid (HNO1.out (HNO.out (by rw [HOK.out, decide_eq_false (show ¬ x < z by omega), Bool.and_false])))
            go_wp2
            go_ret
            exact ⟨by rw [HN.out]; rfl, HW0.out⟩
          · have HY : Hid (codesTo S F (k + 1) = true) := Lib.hid (HST.out.trans (by rw [HOK.out, decide_eq_true (show 0 ≤ x by omega), decide_eq_true (show x < z by omega)]; rfl))
            go_wp2
            go_round
            case rel => exact ⟨k + 1, by omega, by go_num, HY⟩
            case measure => simp [intOf]; omega
      · obtain rfl : k = F.codes.length := by omega
        have HY := Lib.hid (HYES1.out HA.out)
        go_wp2
        go_ret
        exact ⟨by rw [HY.out]; rfl, HW0.out⟩
set_option maxRecDepth 20000 in
set_option maxHeartbeats 2000000 in
theorem refFits_any (w : World) (B : Nat) (v u : Value) (S : Sch) (F : FactS) (h : SchAt w B v S) (g : FactAt w B u F) (hB : B ≤ w.heap.size) :
    Calls Try.prog 39 #[v, u] w fun y w' => y = .returned (.int .i64 (fitsN S F : Int)) ∧ Below w.heap.size w w' := by
  obtain ⟨A0, c0, A1, c1, A2, c2, A3, c3, rfl, r0, r1, r2, r3, b0, b1, b2, b3⟩ := h
  obtain ⟨v0, v1, v2, rfl, D0, d0, D1, d1, D2, d2, rfl, rfl, rfl, s0, s1, s2, e0, e1, e2⟩ := g
  have hw0 := belA (belA (belR w) (.cells #[.slice A0 S.dims.length c0, .slice A1 S.ints.length c1, .slice A2 S.nums.length c2, .slice A3 S.views.length c3] 26)) (.cells #[.slice D0 F.codes.length d0, .slice D1 F.ints.length d1, .slice D2 F.nums.length d2] 79)
  have R0 := Lib.hid (r0.below (hw0.mono hB)); have S0 := Lib.hid (s0.below (hw0.mono hB)); have HW0 := Lib.hid hw0
  have K1 := Lib.hid (Blk.new (w.alloc (.cells #[.slice A0 S.dims.length c0, .slice A1 S.ints.length c1, .slice A2 S.nums.length c2, .slice A3 S.views.length c3] 26)) 79 #[.slice D0 F.codes.length d0, .slice D1 F.ints.length d1, .slice D2 F.nums.length d2])
  have K0 := Lib.hid ((Blk.new w 26 #[.slice A0 S.dims.length c0, .slice A1 S.ints.length c1, .slice A2 S.nums.length c2, .slice A3 S.views.length c3]).alloc (.cells #[.slice D0 F.codes.length d0, .slice D1 F.ints.length d1, .slice D2 F.nums.length d2] 79))
  clear r0 r1 r2 r3 s0 s1 s2 hw0
  by_cases hm : lensOk S F
  case neg =>
    have HNO := Lib.hid (fitsN_many hm)
    rcases lens_cases hm with a0 | ⟨a0, a1⟩ | ⟨a0, a1, a2⟩
    · have t0 := ne_true a0
      clear hm a0
      go_enter Try.func39, Try.ntmps39
      go_wp2
      go_ret
      exact ⟨by rw [HNO.out]; rfl, HW0.out⟩
    · have t0 := ne_false a0; have t1 := ne_true a1
      clear hm a0 a1
      go_enter Try.func39, Try.ntmps39
      go_wp2
      go_ret
      exact ⟨by rw [HNO.out]; rfl, HW0.out⟩
    · have t0 := ne_false a0; have t1 := ne_false a1; have t2 := ne_true a2
      clear hm a0 a1 a2
      go_enter Try.func39, Try.ntmps39
      go_wp2
      go_ret
      exact ⟨by rw [HNO.out]; rfl, HW0.out⟩
  case pos =>
    have t0 := ne_false hm.1; have t1 := ne_false hm.2.1; have t2 := ne_false hm.2.2
    have HL1 : Hid (F.codes.length ≤ S.dims.length) := Lib.hid (by rw [hm.1]; exact Nat.le_refl _)
    have hl1 : F.codes.length ≤ S.dims.length := by rw [hm.1]; exact Nat.le_refl _
    have hml : F.codes.length ≤ 9223372036854775807 := by have h1 := e0.1; have h2 := e0.2; unfold maxLen at h2; omega
    have hno := fun h1 => fitsN_range hm h1
    have hyes := fun h1 => fitsN_ok hm h1
    have HNO1 := Lib.hid hno; have HYES1 := Lib.hid hyes
    clear hm hno hyes
    go_enter Try.func39, Try.ntmps39
    go_wp2
    generalize hW : (w.alloc (.cells #[.slice A0 S.dims.length c0, .slice A1 S.ints.length c1, .slice A2 S.nums.length c2, .slice A3 S.views.length c3] 26)).alloc (.cells #[.slice D0 F.codes.length d0, .slice D1 F.ints.length d1, .slice D2 F.nums.length d2] 79) = W at *
    clear hW
    rw [show (w.alloc (.cells #[.slice A0 S.dims.length c0, .slice A1 S.ints.length c1, .slice A2 S.nums.length c2, .slice A3 S.views.length c3] 26)).heap.size = w.heap.size + 1 from by simp] at K1
    go_loopw [5] (fun i wr => ∃ k : Nat, k ≤ F.codes.length ∧ i = .int .i64 (k : Int) ∧ Hid (codesTo S F k = true) ∧ Hid (Drw W wr)) (fun i _ => F.codes.length - (intOf i).toNat)
    case atStart => exact ⟨0, by omega, rfl, rfl, Drw.refl W⟩
    case round =>
      obtain ⟨k, hk, rfl, HA, HD⟩ := hrel
      have k0 := (K0.out.drw HD.out).cell 0
      have k1 := (K1.out.drw HD.out).cell 0
      simp at k0 k1
      have HF := Lib.hid (HD.out.below HW0.out)
      by_cases hlt : k < F.codes.length
      · obtain ⟨a, rfl, hab, x0⟩ := (rd_drw S0.out HD.out).i64 hlt
        have hkd : k < S.dims.length := Nat.lt_of_lt_of_le hlt HL1.out
        obtain ⟨b, rfl, hbb, y0, y1⟩ := (rd_drw R0.out HD.out).dim hkd
        rw [szAt_get S k hkd] at y1
        have q1 : (0 : Int) ≤ (k : Int) := by omega
        have q2 : (k : Int) < (F.codes.length : Int) := by omega
        have q3 : (k : Int) < (S.dims.length : Int) := by omega
        have hst := codesTo_succ S F k
        rw [HA.out, Bool.true_and] at hst
        have hno := codesTo_no S F k hlt
        have hok : codeOk S F k = (decide (0 ≤ codeAt F k) && decide (codeAt F k < szAt S k)) := rfl
        have HST := Lib.hid hst; have HOK := Lib.hid hok; have HNO := Lib.hid hno
        clear hst hok hno y0
        rw [show F.codes.getD k 0 = codeAt F k from rfl] at x0
        generalize codeAt F k = x at *
        generalize szAt S k = z at *
        by_cases s1 : x < 0
        · have HN := Lib.hid (HNO1.out (HNO.out (by rw [HOK.out, decide_eq_false (by omega)]; rfl)))
          have t3 : decide (x < 0) = true := decide_eq_true s1
          go_wp2
          go_quiet (fail)
          go_wp2
          go_ret
          exact ⟨by rw [HN.out]; rfl, belD HF.out _⟩
        · have t3 : decide (x < 0) = false := decide_eq_false s1
          by_cases s2 : z ≤ x
          · have HN := Lib.hid (HNO1.out (HNO.out (by rw [HOK.out, decide_eq_false (show ¬ x < z by omega), Bool.and_false])))
            have t4 : decide (z ≤ x) = true := decide_eq_true s2
            go_wp2
            go_quiet (fail)
            go_wp2
            go_ret
            exact ⟨by rw [HN.out]; rfl, belD HF.out _⟩
          · have HY : Hid (codesTo S F (k + 1) = true) := Lib.hid (HST.out.trans (by rw [HOK.out, decide_eq_true (show 0 ≤ x by omega), decide_eq_true (show x < z by omega)]; rfl))
            have t4 : decide (z ≤ x) = false := decide_eq_false s2
            go_wp2
            go_quiet (fail)
            go_wp2
            go_roundw
            case rel => exact ⟨k + 1, by omega, by go_num, HY, HD.out.drewN _⟩
            case measure => simp [intOf]; omega
      · obtain rfl : k = F.codes.length := by omega
        have HY := Lib.hid (HYES1.out HA.out)
        go_wp2
        go_ret
        exact ⟨by rw [HY.out]; rfl, HF.out⟩
end Go.Proofs.Ytfhmaincnlaapaa
namespace Go.Proofs.Ytfhmaincnlaapaa
open Go.ChangeShapes Go.WideShapes Go.ChangeAt Go.RowKit
set_option linter.unusedVariables false

def fitsAt (S : Sch) (l : List FactS) (k : Nat) : Nat := fitsN S (l.getD k ⟨[], [], []⟩)
def factCheckN (S : Sch) (F : FactS) : Nat := if checkN S = 0 then fitsN S F else 1
theorem i64_ne0 {n : Nat} (h : n ≠ 0) : ((n : Int) != 0) = true := by rw [bne_iff_ne]; omega
set_option maxRecDepth 20000 in
set_option maxHeartbeats 2000000 in
theorem factCheck_any (w : World) (B : Nat) (v u : Value) (S : Sch) (F : FactS) (h : SchAt w B v S) (ho : SchOk S) (g : FactAt w B u F) (hB : B ≤ w.heap.size) :
    Calls Try.prog 79 #[v, u] w fun y w' => y = .returned (.int .i64 (factCheckN S F : Int)) ∧ Below w.heap.size w w' := by
  have hh := h; have gg := g
  obtain ⟨A0, c0, A1, c1, A2, c2, A3, c3, rfl, r0, r1, r2, r3, b0, b1, b2, b3⟩ := hh
  obtain ⟨v0, v1, v2, rfl, D0, d0, D1, d1, D2, d2, rfl, rfl, rfl, s0, s1, s2, e0, e1, e2⟩ := gg
  clear r0 r1 r2 r3 s0 s1 s2
  have hw0 := belA (belA (belR w) (.cells #[.slice A0 S.dims.length c0, .slice A1 S.ints.length c1, .slice A2 S.nums.length c2, .slice A3 S.views.length c3] 26)) (.cells #[.slice D0 F.codes.length d0, .slice D1 F.ints.length d1, .slice D2 F.nums.length d2] 79)
  have hc := schemaCheck_any ((w.alloc (.cells #[.slice A0 S.dims.length c0, .slice A1 S.ints.length c1, .slice A2 S.nums.length c2, .slice A3 S.views.length c3] 26)).alloc (.cells #[.slice D0 F.codes.length d0, .slice D1 F.ints.length d1, .slice D2 F.nums.length d2] 79)) B _ S (h.keep (hw0.mono hB) (Nat.le_refl _)) ho (by simp; omega)
  have K1 := Lib.hid (Blk.new (w.alloc (.cells #[.slice A0 S.dims.length c0, .slice A1 S.ints.length c1, .slice A2 S.nums.length c2, .slice A3 S.views.length c3] 26)) 79 #[.slice D0 F.codes.length d0, .slice D1 F.ints.length d1, .slice D2 F.nums.length d2])
  have K0 := Lib.hid ((Blk.new w 26 #[.slice A0 S.dims.length c0, .slice A1 S.ints.length c1, .slice A2 S.nums.length c2, .slice A3 S.views.length c3]).alloc (.cells #[.slice D0 F.codes.length d0, .slice D1 F.ints.length d1, .slice D2 F.nums.length d2] 79))
  have HW0 := Lib.hid hw0; have HC := Lib.hid hc; have H := Lib.hid h; have G := Lib.hid g
  clear hw0 hc h g
  by_cases h0 : checkN S = 0
  · have HH := Lib.hid h0
    have hc2 := HC.out
    rw [h0] at hc2
    have HC2 := Lib.hid hc2
    clear hc2 h0
    rw [show (w.alloc (.cells #[.slice A0 S.dims.length c0, .slice A1 S.ints.length c1, .slice A2 S.nums.length c2, .slice A3 S.views.length c3] 26)).heap.size = w.heap.size + 1 from by simp] at K1
    go_enter Try.func79, Try.ntmps79
    go_wp2_with fail
    (with_reducible refine HC2.out.mono ?_)
    rintro y w1 ⟨rfl, hb1⟩
    have hk0 := K0.out.below hb1 (by simp; omega)
    have hk1 := K1.out.below hb1 (by simp)
    have hbb := HW0.out.trans (hb1.mono (by simp; omega))
    have k00 := hk0.cell 0; have k01 := hk0.cell 1; have k02 := hk0.cell 2; have k03 := hk0.cell 3
    have k10 := hk1.cell 0; have k11 := hk1.cell 1; have k12 := hk1.cell 2
    simp at k00 k01 k02 k03 k10 k11 k12
    have hf := fits_any w1 B _ _ S F (H.out.keep (hbb.mono hB) (Nat.le_refl _)) (show FactAt w1 B (.agg #[.slice D0 F.codes.length d0, .slice D1 F.ints.length d1, .slice D2 F.nums.length d2]) F from by
      obtain ⟨_, _, _, e, hv⟩ := G.out
      injection e with e
      simp only [Array.mk.injEq, List.cons.injEq, and_true] at e
      obtain ⟨rfl, rfl, rfl⟩ := e
      exact ⟨_, _, _, rfl, hv.keep (hbb.mono hB) (Nat.le_refl _)⟩) (Nat.le_trans hB hbb.size)
    have HF := Lib.hid hf; have HBB := Lib.hid hbb
    clear hf hbb hk0 hk1 hb1
    go_wp2_with (go_at_call 120; (with_reducible refine HF.out.mono ?_); rintro y w2 ⟨rfl, hb2⟩; have HB2 := Lib.hid hb2; clear hb2)
    go_ret
    exact ⟨by rw [show factCheckN S F = fitsN S F from if_pos HH.out]; rfl, belT HBB.out HB2.out⟩
  · have HH := Lib.hid h0
    have t0 := i64_ne0 h0
    clear h0
    go_enter Try.func79, Try.ntmps79
    go_wp2_with (go_at_call 46; (with_reducible refine HC.out.mono ?_); rintro y w1 ⟨rfl, hb1⟩; have HB1 := Lib.hid hb1; clear hb1)
    go_ret
    exact ⟨by rw [show factCheckN S F = 1 from if_neg HH.out]; rfl, HW0.out.trans (HB1.out.mono (by simp; omega))⟩
theorem SlR.fact3 {w : World} {B c : Nat} {l : List FactS} {A : Option Addr} (h : SlR factR w B l A c) {k : Nat} (hk : k < l.length) : ∃ a D0 d0 D1 d1 D2 d2, A = some a ∧ a.block < B ∧ w.cell? (a.add (k * 3)) = some (.slice D0 l[k].codes.length d0) ∧
    w.cell? ⟨(a.add (k * 3)).block, (a.add (k * 3)).off + 1, none⟩ = some (.slice D1 l[k].ints.length d1) ∧ w.cell? ⟨(a.add (k * 3)).block, (a.add (k * 3)).off + 2, none⟩ = some (.slice D2 l[k].nums.length d2) ∧
    FactAt w B (.agg #[.slice D0 l[k].codes.length d0, .slice D1 l[k].ints.length d1, .slice D2 l[k].nums.length d2]) l[k] ∧ FactOk l[k] := by
  obtain ⟨a, v0, v1, v2, rfl, hb, x0, x1, x2, hv, ho⟩ := h.fact hk
  have hv2 := hv
  obtain ⟨D0, d0, D1, d1, D2, d2, rfl, rfl, rfl, _⟩ := hv2
  exact ⟨a, D0, d0, D1, d1, D2, d2, rfl, hb, x0, x1, x2, ⟨_, _, _, rfl, hv⟩, ho⟩
def okTo (S : Sch) (l : List FactS) (k : Nat) : Prop := ∀ j, j < k → fitsAt S l j = 0
theorem okTo.snoc {S : Sch} {l : List FactS} {k : Nat} (h : okTo S l k) (hk : fitsAt S l k = 0) : okTo S l (k + 1) := fun j hj => by
  by_cases e : j = k
  · subst e; exact hk
  · exact h j (by omega)
end Go.Proofs.Ytfhmaincnlaapaa
namespace Go.Proofs.Ytfhmaincnlaapaa
open Go.ChangeShapes Go.WideShapes Go.ChangeAt Go.RowKit
set_option linter.unusedVariables false

def eqTo {α : Type} (z : α) (l m : List α) (k : Nat) : Prop := ∀ j, j < k → l.getD j z = m.getD j z
theorem eqTo.snoc {α : Type} {z : α} {l m : List α} {k : Nat} (h : eqTo z l m k) (hk : l.getD k z = m.getD k z) : eqTo z l m (k + 1) := fun j hj => by
  by_cases e : j = k
  · subst e; exact hk
  · exact h j (by omega)
theorem eqTo.all {α : Type} {z : α} {l m : List α} (hl : l.length = m.length) (h : eqTo z l m l.length) : l = m := by
  apply List.ext_getElem hl
  intro j h1 h2
  have := h j h1
  simpa [List.getD, h1, h2] using this
theorem Rd.f64 {w : World} {B : Nat} {A : Option Addr} {l : List Nat} (h : Rd w B 1 A l.length (f64s l)) {k : Nat} (hk : k < l.length) : ∃ a, A = some a ∧ a.block < B ∧ w.cell? (a.add k) = some (.float .f64 (l.getD k 0)) := by
  obtain ⟨a, u, rfl, hb, hx, hc⟩ := h.at1 hk
  refine ⟨a, rfl, hb, ?_⟩
  rw [show (f64s l)[k]? = some (.float .f64 (l.getD k 0)) from by simp [f64s, List.getD, hk]] at hx
  rw [hc]; exact hx.symm
end Go.Proofs.Ytfhmaincnlaapaa
namespace Go.Proofs.Ytfhmaincnlaapaa
open Go.ChangeShapes Go.WideShapes Go.ChangeAt Go.RowKit
set_option linter.unusedVariables false

end Go.Proofs.Ytfhmaincnlaapaa
namespace Go.Proofs.Ytfhmaincnlaapaa
open Go.ChangeShapes Go.WideShapes Go.ChangeAt Go.RowKit
set_option linter.unusedVariables false

def encCodes (l : List Int) : List UInt8 := l.flatMap fun c => encU c.toNat
def encIs (l : List Int) : List UInt8 := l.flatMap encI
def encFs (l : List Nat) : List UInt8 := l.flatMap fun b => be 8 (keyB b)
def encFact (F : FactS) : List UInt8 := encCodes F.codes ++ encIs F.ints ++ encFs F.nums
end Go.Proofs.Ytfhmaincnlaapaa
namespace Go.Proofs.Ytfhmaincnlaapaa
open Go.ChangeShapes Go.WideShapes Go.ChangeAt Go.RowKit
set_option linter.unusedVariables false

/-- the number of a list of digits, the lowest one first -/
def vd : List Nat → Nat
  | [] => 0
  | d :: l => d + 1000 * vd l
theorem vd_cons (d : Nat) (l : List Nat) : vd (d :: l) = d + 1000 * vd l := rfl
/-- a number's digits, no noughts at the end -/
def dig (n : Nat) : List Nat := if h : n = 0 then [] else n % 1000 :: dig (n / 1000)
termination_by n
decreasing_by exact Nat.div_lt_self (by omega) (by decide)
theorem dig_zero : dig 0 = [] := by rw [dig]; simp
theorem dig_pos {n : Nat} (h : n ≠ 0) : dig n = n % 1000 :: dig (n / 1000) := by rw [dig]; simp [h]
theorem vd_dig (n : Nat) : vd (dig n) = n := by
  induction n using Nat.strongRecOn with
  | ind n ih =>
    by_cases h : n = 0
    · subst h; rw [dig_zero]; rfl
    · rw [dig_pos h]
      unfold vd
      rw [ih (n / 1000) (by omega)]
      omega
theorem dig_lt (n : Nat) : ∀ d ∈ dig n, d < 1000 := by
  induction n using Nat.strongRecOn with
  | ind n ih =>
    by_cases h : n = 0
    · subst h; rw [dig_zero]; intro d hd; cases hd
    · rw [dig_pos h]
      intro d hd
      rcases List.mem_cons.1 hd with rfl | hd
      · omega
      · exact ih (n / 1000) (by omega) d hd
theorem vd_app (l m : List Nat) : vd (l ++ m) = vd l + 1000 ^ l.length * vd m := by
  induction l with
  | nil => simp [vd]
  | cons d l ih =>
    rw [List.cons_append, vd_cons, vd_cons, ih, List.length_cons, Nat.pow_succ, Nat.mul_add, ← Nat.mul_assoc, Nat.mul_comm 1000 (1000 ^ l.length)]
    omega
theorem vd_lt (l : List Nat) (h : ∀ d ∈ l, d < 1000) : vd l < 1000 ^ l.length := by
  induction l with
  | nil => simp [vd]
  | cons d l ih =>
    unfold vd
    have h1 := h d (by simp)
    have h2 := ih (fun x hx => h x (by simp [hx]))
    rw [List.length_cons, Nat.pow_succ]
    omega
/-- the length without noughts at the end -/
def tsz : List Nat → Nat
  | [] => 0
  | d :: l => if tsz l = 0 then (if d = 0 then 0 else 1) else tsz l + 1
theorem tsz_le (l : List Nat) : tsz l ≤ l.length := by
  induction l with
  | nil => simp [tsz]
  | cons d l ih => unfold tsz; rw [List.length_cons]; split <;> (try split) <;> omega
theorem tsz_zero (l : List Nat) : tsz l = 0 ↔ vd l = 0 := by
  induction l with
  | nil => simp [tsz, vd]
  | cons d l ih =>
    unfold tsz vd
    split
    · rename_i h
      have := ih.1 h
      split <;> omega
    · rename_i h
      have : vd l ≠ 0 := fun e => h (ih.2 e)
      omega
theorem take_tsz (l : List Nat) (h : ∀ d ∈ l, d < 1000) : l.take (tsz l) = dig (vd l) := by
  induction l with
  | nil => simp [tsz, vd, dig_zero]
  | cons d l ih =>
    have hd := h d (by simp)
    have hl := ih (fun x hx => h x (by simp [hx]))
    unfold tsz vd
    split
    · rename_i h0
      have hz := (tsz_zero l).1 h0
      split
      · rename_i hd0; subst hd0; rw [hz]; simp [dig_zero]
      · rename_i hd0
        rw [hz, Nat.mul_zero, Nat.add_zero, dig_pos hd0, Nat.mod_eq_of_lt hd, Nat.div_eq_of_lt hd, dig_zero]; simp
    · rename_i h0
      have hz : vd l ≠ 0 := fun e => h0 ((tsz_zero l).2 e)
      have e1 : (d + 1000 * vd l) % 1000 = d := by omega
      have e2 : (d + 1000 * vd l) / 1000 = vd l := by omega
      rw [List.take_succ_cons, hl, dig_pos (n := d + 1000 * vd l) (by omega), e1, e2]
theorem tsz_last (l : List Nat) (d : Nat) : tsz (l ++ [d]) = if d = 0 then tsz l else l.length + 1 := by
  induction l with
  | nil => simp [tsz]
  | cons x l ih =>
    rw [List.cons_append]
    unfold tsz
    rw [ih]
    by_cases hd : d = 0
    · rw [if_pos hd, if_pos hd]
    · rw [if_neg hd, if_neg hd, if_neg (by omega), List.length_cons]
theorem vd_pow (l : List Nat) (k : Nat) : vd (List.replicate k 0 ++ l) = 1000 ^ k * vd l := by
  rw [vd_app, List.length_replicate]
  have : vd (List.replicate k 0) = 0 := by
    induction k with
    | zero => rfl
    | succ k ih => rw [List.replicate_succ]; unfold vd; rw [ih]
  omega
theorem dig_len {n k : Nat} (h : n < 1000 ^ k) : (dig n).length ≤ k := by
  induction k generalizing n with
  | zero => have : n = 0 := by simpa using h
            subst this; rw [dig_zero]; simp
  | succ k ih =>
    by_cases h0 : n = 0
    · subst h0; rw [dig_zero]; simp
    · rw [dig_pos h0, List.length_cons]
      have := ih (n := n / 1000) (by rw [Nat.pow_succ] at h; omega)
      omega
end Go.Proofs.Ytfhmaincnlaapaa
namespace Go.Proofs.Ytfhmaincnlaapaa
open Go.ChangeShapes Go.WideShapes Go.ChangeAt Go.RowKit
set_option linter.unusedVariables false

/-- digit j, nought beyond the end -/
def dg (l : List Nat) (j : Nat) : Nat := l.getD j 0
theorem dg_get (l : List Nat) (j : Nat) (h : j < l.length) : l[j] = dg l j := by simp [dg, List.getD, h]
theorem dg_far (l : List Nat) (j : Nat) (h : l.length ≤ j) : dg l j = 0 := by simp [dg, List.getD, h]
theorem dg_lt (l : List Nat) (j : Nat) (h : ∀ d ∈ l, d < 1000) : dg l j < 1000 := by
  rcases Nat.lt_or_ge j l.length with hj | hj
  · rw [← dg_get l j hj]; exact h _ (List.getElem_mem hj)
  · rw [dg_far l j hj]; decide
theorem vd_nil : vd [] = 0 := rfl
/-- the number from digit i on -/
theorem vd_drop (l : List Nat) (i : Nat) : vd (l.drop i) = dg l i + 1000 * vd (l.drop (i + 1)) := by
  rcases Nat.lt_or_ge i l.length with hi | hi
  · rw [List.drop_eq_getElem_cons hi, vd_cons, dg_get l i hi]
  · rw [List.drop_eq_nil_of_le hi, List.drop_eq_nil_of_le (by omega), dg_far l i hi]; rfl
theorem vd_drop_far (l : List Nat) (i : Nat) (h : l.length ≤ i) : vd (l.drop i) = 0 := by rw [List.drop_eq_nil_of_le h]; rfl
theorem vd_snoc (l : List Nat) (d : Nat) : vd (l ++ [d]) = vd l + 1000 ^ l.length * d := by rw [vd_app, vd_cons, vd_nil]; simp
/-- the same from digit i on, less at digit i: less -/
theorem vd_less {a b : List Nat} (ha : ∀ d ∈ a, d < 1000) (hb : ∀ d ∈ b, d < 1000) {i : Nat} (h : vd (a.drop (i + 1)) = vd (b.drop (i + 1))) (hl : dg a i < dg b i) : vd a < vd b := by
  have e1 := vd_drop a i
  have e2 := vd_drop b i
  have hlt : vd (a.drop i) < vd (b.drop i) := by omega
  clear e1 e2 h hl
  induction i with
  | zero => simpa using hlt
  | succ i ih =>
    apply ih
    have e1 := vd_drop a i
    have e2 := vd_drop b i
    have h1 := dg_lt a i ha
    have h2 := dg_lt b i hb
    omega
/-- the sum of digits, as far as it goes -/
def SumR (a b out : List Nat) (i carry : Nat) : Prop := out.length = i ∧ carry ≤ 1 ∧ (∀ d ∈ out, d < 1000) ∧ vd out + 1000 ^ i * (carry + vd (a.drop i) + vd (b.drop i)) = vd a + vd b
theorem SumR.zero (a b : List Nat) : SumR a b [] 0 0 := ⟨rfl, by decide, fun d hd => (by cases hd), by simp [vd_nil]⟩
theorem SumR.succ {a b out : List Nat} {i carry : Nat} (ha : ∀ d ∈ a, d < 1000) (hb : ∀ d ∈ b, d < 1000) (h : SumR a b out i carry) : SumR a b (out ++ [(dg a i + dg b i + carry) % 1000]) (i + 1) ((dg a i + dg b i + carry) / 1000) := by
  obtain ⟨h1, h2, h3, h4⟩ := h
  have x1 := dg_lt a i ha
  have x2 := dg_lt b i hb
  refine ⟨by simp [h1], by omega, fun d hd => ?_, ?_⟩
  · rcases List.mem_append.1 hd with hd | hd
    · exact h3 d hd
    · obtain rfl := List.mem_singleton.1 hd; exact Nat.mod_lt _ (by decide)
  · rw [vd_snoc, h1, ← h4, vd_drop a i, vd_drop b i, Nat.pow_succ]
    generalize 1000 ^ i = P
    generalize vd (a.drop (i + 1)) = x
    generalize vd (b.drop (i + 1)) = y
    obtain ⟨s, hs⟩ : ∃ s, dg a i + dg b i + carry = s := ⟨_, rfl⟩
    have e1 : carry + (dg a i + 1000 * x) + (dg b i + 1000 * y) = s % 1000 + 1000 * (s / 1000 + x + y) := by omega
    rw [hs, e1, Nat.mul_add P (s % 1000), Nat.mul_assoc P 1000, Nat.add_assoc]
theorem SumR.end_ {a b out : List Nat} {i carry : Nat} (h : SumR a b out i carry) (h1 : a.length ≤ i) (h2 : b.length ≤ i) : vd (out ++ [carry]) = vd a + vd b ∧ ∀ d ∈ out ++ [carry], d < 1000 := by
  obtain ⟨g1, g2, g3, g4⟩ := h
  rw [vd_drop_far a i h1, vd_drop_far b i h2] at g4
  refine ⟨by rw [vd_snoc, g1, ← g4]; simp, fun d hd => ?_⟩
  rcases List.mem_append.1 hd with hd | hd
  · exact g3 d hd
  · obtain rfl := List.mem_singleton.1 hd; omega
/-- the difference of digits, as far as it goes -/
def RestR (a b out : List Nat) (i borrow : Nat) : Prop := out.length = i ∧ borrow ≤ 1 ∧ (∀ d ∈ out, d < 1000) ∧ (vd out : Int) + (1000 ^ i : Nat) * ((vd (a.drop i) : Int) - vd (b.drop i) - borrow) = (vd a : Int) - vd b
theorem RestR.zero (a b : List Nat) : RestR a b [] 0 0 := ⟨rfl, by decide, fun d hd => (by cases hd), by simp [vd_nil]⟩
theorem RestR.step {a b out : List Nat} {i borrow d borrow' : Nat} (hd : d < 1000) (hb' : borrow' ≤ 1) (h : RestR a b out i borrow) (he : (dg a i : Int) - dg b i - borrow = (d : Int) - 1000 * borrow') : RestR a b (out ++ [d]) (i + 1) borrow' := by
  obtain ⟨h1, h2, h3, h4⟩ := h
  refine ⟨by simp [h1], hb', fun x hx => ?_, ?_⟩
  · rcases List.mem_append.1 hx with hx | hx
    · exact h3 x hx
    · obtain rfl := List.mem_singleton.1 hx; exact hd
  · rw [vd_snoc, h1, ← h4, vd_drop a i, vd_drop b i, Nat.pow_succ]
    generalize 1000 ^ i = P
    generalize vd (a.drop (i + 1)) = x
    generalize vd (b.drop (i + 1)) = y
    have e1 : ((dg a i + 1000 * x : Nat) : Int) - ((dg b i + 1000 * y : Nat) : Int) - borrow = d + 1000 * ((x : Int) - y - borrow') := by omega
    rw [e1, Int.mul_add]
    simp only [Int.natCast_add, Int.natCast_mul]
    rw [Int.mul_assoc (P : Int), Int.add_assoc]
    rfl
theorem RestR.end_ {a b out : List Nat} (h : ∃ borrow, RestR a b out a.length borrow) (hle : vd b ≤ vd a) : vd out = vd a - vd b ∧ ∀ d ∈ out, d < 1000 := by
  obtain ⟨borrow, g1, g2, g3, g4⟩ := h
  refine ⟨?_, g3⟩
  rw [vd_drop_far a _ (Nat.le_refl _)] at g4
  have hlt := vd_lt out g3
  rw [g1] at hlt
  generalize 1000 ^ a.length = P at *
  generalize hx : vd (b.drop a.length) = x at *
  have hz : x + borrow = 0 := by
    rcases Nat.eq_zero_or_pos (x + borrow) with h0 | h0
    · exact h0
    · exfalso
      have e : (P : Int) * ((0 : Nat) - (x : Int) - borrow) = -((P * (x + borrow) : Nat) : Int) := by push_cast; rw [show ((0 : Int) - x - borrow) = -((x : Int) + borrow) from by omega, Int.mul_neg]
      rw [e] at g4
      have : P * 1 ≤ P * (x + borrow) := Nat.mul_le_mul_left _ h0
      omega
  obtain ⟨rfl, rfl⟩ : x = 0 ∧ borrow = 0 := by omega
  simp at g4
  omega
/-- one digit turned -/
theorem vd_set (l : List Nat) (j x : Nat) (h : j < l.length) : vd (l.set j x) + 1000 ^ j * dg l j = vd l + 1000 ^ j * x := by
  induction l generalizing j with
  | nil => simp at h
  | cons d l ih =>
    cases j with
    | zero => simp [vd_cons, dg]; omega
    | succ j =>
      have := ih j (by simpa using h)
      rw [List.set_cons_succ, vd_cons, vd_cons, Nat.pow_succ]
      have e : dg (d :: l) (j + 1) = dg l j := by simp [dg]
      rw [e, Nat.mul_comm (1000 ^ j) 1000, Nat.mul_assoc, Nat.mul_assoc]
      omega
theorem dg_set_self (l : List Nat) (j x : Nat) (h : j < l.length) : dg (l.set j x) j = x := by simp [dg, List.getD, h]
theorem dg_set_ne (l : List Nat) (j k x : Nat) (h : j ≠ k) : dg (l.set j x) k = dg l k := by simp [dg, List.getD, List.getElem?_set_ne h]
theorem vd_repl (k : Nat) : vd (List.replicate k 0) = 0 := by have := vd_pow [] k; simpa [vd_nil] using this
/-- the product of digits, as far as it goes: rounds i; in round i, k digits of b -/
def MulR (a b out : List Nat) (i : Nat) : Prop := out.length = a.length + b.length + 1 ∧ (∀ d ∈ out, d < 1000) ∧ (∀ j, i + b.length ≤ j → dg out j = 0) ∧ vd out = vd (a.take i) * vd b
def MulI (a b out : List Nat) (i k carry : Nat) : Prop := out.length = a.length + b.length + 1 ∧ (∀ d ∈ out, d < 1000) ∧ (∀ j, i + b.length ≤ j → dg out j = 0) ∧ carry < 1000 ∧ vd out + 1000 ^ (i + k) * carry = vd (a.take i) * vd b + 1000 ^ i * (dg a i * vd (b.take k))
theorem mem_set_lt {l : List Nat} {j x : Nat} (h : ∀ d ∈ l, d < 1000) (hx : x < 1000) : ∀ d ∈ l.set j x, d < 1000 := fun d hd => by
  rcases List.mem_or_eq_of_mem_set hd with hd | rfl
  · exact h d hd
  · exact hx
theorem vd_take_succ (l : List Nat) (k : Nat) (h : k < l.length) : vd (l.take (k + 1)) = vd (l.take k) + 1000 ^ k * dg l k := by
  rw [List.take_succ_eq_append_getElem h, vd_snoc, List.length_take, dg_get l k h, Nat.min_eq_left (by omega)]
theorem MulR.zero (a b : List Nat) : MulR a b (List.replicate (a.length + b.length + 1) 0) 0 := by
  refine ⟨by simp, fun d hd => ?_, fun j _ => ?_, ?_⟩
  · have := List.eq_of_mem_replicate hd; omega
  · unfold dg List.getD; rw [List.getElem?_replicate]; split <;> rfl
  · rw [vd_repl]; simp [vd_nil]
theorem MulR.start {a b out : List Nat} {i : Nat} (h : MulR a b out i) : MulI a b out i 0 0 := ⟨h.1, h.2.1, h.2.2.1, by decide, by rw [h.2.2.2]; simp [vd_nil]⟩
theorem prod_bd {x y z c : Nat} (hx : x < 1000) (hy : y < 1000) (hz : z < 1000) (hc : c < 1000) : z + x * y + c < 1000000 := by
  have : x * y ≤ 999 * 999 := Nat.mul_le_mul (by omega) (by omega)
  omega
theorem MulI.succ {a b out : List Nat} {i k carry : Nat} (ha : ∀ d ∈ a, d < 1000) (hb : ∀ d ∈ b, d < 1000) (h : MulI a b out i k carry) (hi : i < a.length) (hk : k < b.length) :
    MulI a b (out.set (i + k) ((dg out (i + k) + dg a i * dg b k + carry) % 1000)) i (k + 1) ((dg out (i + k) + dg a i * dg b k + carry) / 1000) := by
  obtain ⟨h1, h2, h3, h4, h5⟩ := h
  have x1 := dg_lt a i ha
  have x2 := dg_lt b k hb
  have x3 := dg_lt out (i + k) h2
  have hbd := prod_bd x1 x2 x3 h4
  have hs := vd_set out (i + k) ((dg out (i + k) + dg a i * dg b k + carry) % 1000) (by omega)
  refine ⟨by simp [h1], mem_set_lt h2 (Nat.mod_lt _ (by decide)), fun j hj => by rw [dg_set_ne _ _ _ _ (by omega)]; exact h3 j hj, by omega, ?_⟩
  rw [vd_take_succ b k hk, Nat.mul_add, Nat.mul_add, ← Nat.add_assoc (vd (a.take i) * vd b), ← h5, ← Nat.add_assoc i k 1, Nat.pow_succ]
  generalize dg out (i + k) = o at *
  generalize dg a i = p at *
  generalize dg b k = q at *
  have e1 : 1000 ^ i * (p * (1000 ^ k * q)) = 1000 ^ (i + k) * (p * q) := by rw [Nat.pow_add, ← Nat.mul_assoc p, Nat.mul_comm p, Nat.mul_assoc (1000 ^ k), ← Nat.mul_assoc (1000 ^ i)]
  rw [e1]
  generalize vd (out.set (i + k) ((o + p * q + carry) % 1000)) = V' at *
  generalize vd out = V at *
  generalize 1000 ^ (i + k) = P at *
  obtain ⟨s, hss⟩ : ∃ s, o + p * q + carry = s := ⟨_, rfl⟩
  rw [hss] at hs ⊢
  have e2 : P * s = P * o + P * (p * q) + P * carry := by rw [← hss, Nat.mul_add, Nat.mul_add]
  have e3 : P * s = P * (s % 1000) + P * 1000 * (s / 1000) := by
    rw [Nat.mul_assoc, ← Nat.mul_add, Nat.mod_add_div]
  omega
theorem MulI.end_ {a b out : List Nat} {i carry : Nat} (h : MulI a b out i b.length carry) (hi : i < a.length) : MulR a b (out.set (i + b.length) carry) (i + 1) := by
  obtain ⟨h1, h2, h3, h4, h5⟩ := h
  have hs := vd_set out (i + b.length) carry (by omega)
  have h0 := h3 (i + b.length) (Nat.le_refl _)
  refine ⟨by simp [h1], mem_set_lt h2 h4, fun j hj => by rw [dg_set_ne _ _ _ _ (by omega)]; exact h3 j (by omega), ?_⟩
  rw [h0, Nat.mul_zero, Nat.add_zero] at hs
  rw [hs, h5, vd_take_succ a i hi, List.take_length, Nat.add_mul, Nat.mul_assoc]
theorem MulR.all {a b out : List Nat} (h : MulR a b out a.length) : vd out = vd a * vd b ∧ ∀ d ∈ out, d < 1000 := by
  obtain ⟨_, h2, _, h4⟩ := h
  rw [List.take_length] at h4
  exact ⟨h4, h2⟩
/-- how many digits -/
def nd (z : Int) : Nat := (dig z.natAbs).length
theorem dig_len2 {n k : Nat} (h : n < 2 ^ k) : (dig n).length ≤ k := dig_len (Nat.lt_of_lt_of_le h (Nat.pow_le_pow_left (by decide) k))
theorem dig_mono {m n : Nat} (h : m ≤ n) : (dig m).length ≤ (dig n).length := by
  apply dig_len
  have := vd_lt (dig n) (dig_lt n)
  rw [vd_dig] at this
  omega
/-- long division: what is left, and a digit more -/
theorem ldiv_step {b r d : Nat} (hb : 0 < b) (hr : r < b) (hd : d < 1000) : (d + 1000 * r) / b < 1000 := by
  rw [Nat.div_lt_iff_lt_mul hb]
  have : 1000 * r + 1000 ≤ 1000 * b := by omega
  rw [Nat.mul_comm]; omega
/-- long division, as far as it goes: digits from i on are done -/
def DivR (a q : List Nat) (b i r : Nat) : Prop := q.length = a.length ∧ (∀ d ∈ q, d < 1000) ∧ (∀ j, j < i → dg q j = 0) ∧ r < b ∧ vd (q.drop i) * b + r = vd (a.drop i)
theorem DivR.start (a : List Nat) (b : Nat) (hb : 0 < b) : DivR a (List.replicate a.length 0) b a.length 0 := by
  refine ⟨by simp, fun d hd => ?_, fun j _ => ?_, hb, ?_⟩
  · have := List.eq_of_mem_replicate hd; omega
  · unfold dg List.getD; rw [List.getElem?_replicate]; split <;> rfl
  · rw [vd_drop_far _ _ (by simp), vd_drop_far _ _ (Nat.le_refl _)]; simp
theorem drop_set_le (l : List Nat) (i x : Nat) : (l.set i x).drop (i + 1) = l.drop (i + 1) := by rw [List.drop_set_of_lt (by omega)]
theorem DivR.step {a q : List Nat} {b i r : Nat} (ha : ∀ d ∈ a, d < 1000) (h : DivR a q b (i + 1) r) (hi : i < a.length) : DivR a (q.set i ((dg a i + 1000 * r) / b)) b i ((dg a i + 1000 * r) % b) := by
  obtain ⟨h1, h2, h3, h4, h5⟩ := h
  have hb : 0 < b := by omega
  have hd := ldiv_step hb h4 (dg_lt a i ha)
  refine ⟨by simp [h1], mem_set_lt h2 hd, fun j hj => by rw [dg_set_ne _ _ _ _ (by omega)]; exact h3 j (by omega), Nat.mod_lt _ hb, ?_⟩
  rw [vd_drop (q.set i _) i, vd_drop a i, dg_set_self _ _ _ (by omega), drop_set_le, ← h5, Nat.add_mul]
  have e := Nat.div_add_mod (dg a i + 1000 * r) b
  rw [Nat.mul_comm b] at e
  rw [Nat.mul_add, ← Nat.mul_assoc]
  generalize (dg a i + 1000 * r) / b * b = x at *
  generalize (dg a i + 1000 * r) % b = y at *
  generalize 1000 * vd (List.drop (i + 1) q) * b = z
  omega
theorem DivR.all {a q : List Nat} {b r : Nat} (h : DivR a q b 0 r) : vd q = vd a / b ∧ (∀ d ∈ q, d < 1000) := by
  obtain ⟨_, h2, _, h4, h5⟩ := h
  refine ⟨?_, h2⟩
  rw [List.drop_zero, List.drop_zero] at h5
  rw [← h5, Nat.add_comm, Nat.add_mul_div_right _ _ (by omega), Nat.div_eq_of_lt h4]; omega
end Go.Proofs.Ytfhmaincnlaapaa
