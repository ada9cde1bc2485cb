/-
  bushelref11.Check.
  bushelref11.Full of any schema: some set.
-/
import Derived.Test.YtfhmaincnlaapaaSchemaCheck
namespace Go.Proofs.Ytfhmaincnlaapaa
open Go.ChangeShapes Go.WideShapes Go.ChangeAt Go.RowKit
set_option linter.unusedVariables false

set_option maxRecDepth 20000 in
set_option maxHeartbeats 4000000 in
theorem refCheck_any (w : World) (B : Nat) (v : Value) (S : Sch) (h : SchAt w B v S) (ho : SchOk S) (hB : B ≤ w.heap.size) :
    Calls Try.prog 38 #[v] w fun y w' => y = .returned (.int .i64 (checkN S : Int)) ∧ Below w.heap.size w w' := by
  obtain ⟨A0, c0, A1, c1, A2, c2, A3, c3, rfl, r0, r1, r2, r3, b0, b1, b2, b3⟩ := h
  have hw0 := belA (belR w) (.cells #[.slice A0 S.dims.length c0, .slice A1 S.ints.length c1, .slice A2 S.nums.length c2, .slice A3 S.views.length c3] 26)
  have hs0 : SchAt (w.alloc (.cells #[.slice A0 S.dims.length c0, .slice A1 S.ints.length c1, .slice A2 S.nums.length c2, .slice A3 S.views.length c3] 26)) B (.agg #[.slice A0 S.dims.length c0, .slice A1 S.ints.length c1, .slice A2 S.nums.length c2, .slice A3 S.views.length c3]) S :=
    ⟨A0, c0, A1, c1, A2, c2, A3, c3, rfl, r0.below (hw0.mono hB), r1.below (hw0.mono hB), r2.below (hw0.mono hB), r3.below (hw0.mono hB), b0, b1, b2, b3⟩
  have hblk := Blk.new w 26 #[.slice A0 S.dims.length c0, .slice A1 S.ints.length c1, .slice A2 S.nums.length c2, .slice A3 S.views.length c3]
  have R0 := Lib.hid (r0.below (hw0.mono hB)); have R3 := Lib.hid (r3.below (hw0.mono hB))
  have HS := Lib.hid hs0; have HW0 := Lib.hid hw0; have HBLK := Lib.hid hblk
  clear r0 r1 r2 r3 b0 b1 b2 b3 hs0 hw0 hblk
  by_cases hm : manyOk S
  case neg =>
    have HNO := Lib.hid (checkN_many hm)
    have hcs := many_cases hm
    clear hm
    rcases hcs with e | e | e | e | e
    · have t0 : (S.dims.length : Int) < 1 := by omega
      clear e
      go_enter Try.func38, Try.ntmps38
      go_wp2
      go_ret
      exact ⟨by rw [HNO.out]; rfl, HW0.out⟩
    all_goals
      have t0 : ((S.dims.length : Int) == 0) = false := by rw [beq_eq_false_iff_ne]; omega
      have e1 : (1 : Int) ≤ (S.dims.length : Int) := by omega
      go_enter Try.func38, Try.ntmps38
      go_wp2
      go_ret
      exact ⟨by rw [HNO.out]; rfl, HW0.out⟩
  case pos =>
    have hmm := hm
    obtain ⟨m1, m2, m3, m4, m5⟩ := hmm
    have t0 : ((S.dims.length : Int) == 0) = false := by rw [beq_eq_false_iff_ne]; omega
    have hnl : (namesL S).length ≤ 300 := by unfold namesL; rw [List.length_append, List.length_append, List.length_map]; omega
    have hn := refNames_any _ B _ S HS.out (Nat.le_trans hB (by simp)) (by omega) (by omega) (by omega)
    have hfl := fullN_le m1 m2
    have hno1 := fun h1 => checkN_name hm h1
    have hno2 := fun h1 h2 => checkN_dup hm h1 h2
    have hno3 := fun h1 h2 k hk h3 => checkN_keys hm h1 h2 k hk h3
    have hno4 := fun h1 h2 p h3 h4 => checkN_views hm h1 h2 p h3 h4
    have hyes := fun h1 h2 p h3 h4 => checkN_ok hm h1 h2 p h3 h4
    have NO1 := Lib.hid hno1; have NO2 := Lib.hid hno2; have NO3 := Lib.hid hno3; have NO4 := Lib.hid hno4; have YES := Lib.hid hyes
    have HN := Lib.hid hn; have HLS := Lib.hid (namesL_size ho); have HSH := Lib.hid (shl_one S.dims.length m1 m2)
    clear hm hn hno1 hno2 hno3 hno4 hyes
    generalize namesL S = L at *
    have hz0 : w.heap.size < (w.alloc (.cells #[.slice A0 S.dims.length c0, .slice A1 S.ints.length c1, .slice A2 S.nums.length c2, .slice A3 S.views.length c3] 26)).heap.size := by simp
    go_enter Try.func38, Try.ntmps38
    go_wp2_with (go_at_call 43; (with_reducible refine HN.out.mono ?_); rintro y w1 ⟨v1, rfl, ho1, hb1⟩; obtain ⟨A5, c5, rfl, hc5, hc6, _⟩ := own_form ho1; have HR1 := Lib.hid (Rd.own ho1); have HK1 := Lib.hid (HBLK.out.below hb1 hz0); have HR0 := Lib.hid (R0.out.below (hb1.mono (show B ≤ _ by omega))); have HR3 := Lib.hid (R3.out.below (hb1.mono (show B ≤ _ by omega))); have hz1 : w.heap.size < w1.heap.size := Nat.lt_of_lt_of_le hz0 hb1.size; have HB1 := Lib.hid (belT HW0.out hb1); clear ho1 hb1 hz0 HBLK R0 R3 HN)
    have hcc := hc6
    unfold maxLen at hcc
    go_loopw [4] (fun i wr => ∃ k : Nat, k ≤ L.length ∧ i = .int .i64 (k : Int) ∧ Hid (namesTo L k) ∧ Hid (Below w1.heap.size w1 wr)) (fun i _ => L.length - (intOf i).toNat)
    case atStart => exact ⟨0, by omega, rfl, fun j _ hj => by omega, belR w1⟩
    case round =>
      obtain ⟨k, hk, rfl, HA, HBr⟩ := hrel
      have hz := HBr.out.size
      by_cases hlt : k < L.length
      · obtain ⟨a, rfl, hab, x0⟩ := (HR1.out.below HBr.out).str hlt
        have q1 : (0 : Int) ≤ (k : Int) := by omega
        have q2 : (k : Int) < (L.length : Int) := by omega
        have hst := fun h => HA.out.snoc hlt h
        have hno := fun h => NO1.out (all_isB_no k hlt h)
        have hc := refIs_any wr L[k]
        generalize L[k] = x at *
        cases hx : isB x with
        | true =>
          rw [hx] at hc
          have HST := Lib.hid (hst hx); have HC := Lib.hid hc; clear hx hst hno hc
          go_wp2_with (go_at_call 87; (with_reducible refine HC.out.mono ?_); rintro y w2 ⟨rfl, hb2⟩; have HB2 := Lib.hid hb2; clear hb2)
          go_roundw
          case rel => exact ⟨k + 1, by omega, by go_num, HST, belT HBr.out HB2.out⟩
          case measure => simp [intOf]; omega
        | false =>
          rw [hx] at hc
          have HNO := Lib.hid (hno hx); have HC := Lib.hid hc; clear hx hst hno hc
          go_wp2_with (go_at_call 87; (with_reducible refine HC.out.mono ?_); rintro y w2 ⟨rfl, hb2⟩; have HB2 := Lib.hid hb2; clear hb2)
          go_ret
          exact ⟨by rw [HNO.out]; rfl, HB1.out.trans ((belT HBr.out HB2.out).mono (Nat.le_of_lt hz1))⟩
      · obtain rfl : k = L.length := by omega
        have hall : L.all isB = true := all_isB fun j hj => HA.out j hj hj
        have HALL := Lib.hid hall
        have hc := refTwice_any wr A5 L.length c5 _ L (HR1.out.below HBr.out) hc5 hc6
        clear hall HA NO1
        cases hd : dupB L with
        | true =>
          have hc2 : Calls Try.prog 88 #[.slice A5 L.length c5] wr fun y w' => ∃ z, y = .returned (.int .i64 z) ∧ 0 ≤ z ∧ Below wr.heap.size wr w' :=
            hc.mono fun y w' ⟨z, h1, h2, h3⟩ => ⟨z, h1, by rcases h2 with ⟨_, h2⟩ | ⟨h2, _⟩; (rw [hd] at h2; cases h2); exact h2, belW (belR wr) h3⟩
          have HNO := Lib.hid (NO2.out HALL.out hd); have HC := Lib.hid hc2; clear hc hc2 hd
          go_wp2_with (go_at_call 88; (with_reducible refine HC.out.mono ?_); rintro y w2 ⟨z, rfl, hz2, hb2⟩; have HB2 := Lib.hid hb2; clear hb2)
          go_ret
          exact ⟨by rw [HNO.out]; rfl, HB1.out.trans ((belT HBr.out HB2.out).mono (Nat.le_of_lt hz1))⟩
        | false =>
          have hc2 : Calls Try.prog 88 #[.slice A5 L.length c5] wr fun y w' => y = .returned (.int .i64 (-1)) ∧ Below wr.heap.size wr w' :=
            hc.mono fun y w' ⟨z, h1, h2, h3⟩ => ⟨by rcases h2 with ⟨h2, _⟩ | ⟨_, h2⟩; (rw [h1, h2]); (rw [hd] at h2; cases h2), belW (belR wr) h3⟩
          have HC := Lib.hid hc2
          have NO3' := Lib.hid (NO3.out HALL.out hd); have NO4' := Lib.hid (NO4.out HALL.out hd); have YES' := Lib.hid (YES.out HALL.out hd)
          clear hc hc2 hd NO2 NO3 NO4 YES HALL
          go_wp2_with (go_at_call 88; (with_reducible refine HC.out.mono ?_); rintro y w2 ⟨rfl, hb2⟩; have HB2 := Lib.hid (belT HBr.out hb2); have hk2 := HK1.out.below HB2.out hz1; have k20 := hk2.cell 0; simp at k20; clear hb2)
          have HR02 := Lib.hid (HR0.out.below (HB2.out.mono (show B ≤ w1.heap.size by omega))); have HR32 := Lib.hid (HR3.out.below (HB2.out.mono (show B ≤ w1.heap.size by omega)))
          have HK2 := Lib.hid hk2
          have hz2 : w.heap.size < w2.heap.size := Nat.lt_of_lt_of_le hz1 HB2.out.size
          have HBW := Lib.hid (HB1.out.trans (HB2.out.mono (Nat.le_of_lt hz1)))
          clear hk2 HR0 HR3 HB1 HBr HC HR1 HK1 HB2 hz
          go_loopw [5, 6] (fun v6 i ws => ∃ k p : Nat, k ≤ S.dims.length ∧ i = .int .i64 (k : Int) ∧ v6 = .int .i64 (p : Int) ∧ Hid (keysTo S k = some p) ∧ Hid (Below w2.heap.size w2 ws)) (fun _ i _ => S.dims.length - (intOf i).toNat)
          case atStart => exact ⟨0, 1, by omega, rfl, rfl, rfl, belR w2⟩
          case round =>
            obtain ⟨k, p, hk, rfl, rfl, HP, HBs⟩ := hrel
            have hz := HBs.out.size
            have hpl := keysTo_le S k p HP.out
            by_cases hlt : k < S.dims.length
            · obtain ⟨a, rfl, hab, x0, x1⟩ := (HR02.out.below (HBs.out.mono (show B ≤ w2.heap.size by omega))).dim hlt
              have q1 : (0 : Int) ≤ (k : Int) := by omega
              have q2 : (k : Int) < (S.dims.length : Int) := by omega
              rw [szAt_get S k hlt] at x1
              have hst := keysTo_succ S k p HP.out
              have hsb := (ho.dims _ (List.getElem_mem hlt)).2
              rw [szAt_get S k hlt] at hsb
              generalize S.dims[k].1 = nm at *
              generalize szAt S k = sz at *
              have k30 := (HK2.out.below HBs.out hz2).cell 0
              simp at k30
              have hfin := HBW.out.trans (HBs.out.mono (Nat.le_of_lt hz2))
              have HFIN := Lib.hid hfin; clear hfin
              by_cases s1 : sz < 1
              · have HNO := Lib.hid (NO3'.out (k + 1) (by omega) (by rw [hst]; exact keyStep_no (by omega)))
                clear hst
                go_wp2
                go_ret
                exact ⟨by rw [HNO.out]; rfl, HFIN.out⟩
              · by_cases s2 : 4096 < sz
                · have HNO := Lib.hid (NO3'.out (k + 1) (by omega) (by rw [hst]; exact keyStep_no (by omega)))
                  clear hst
                  go_wp2
                  go_ret
                  exact ⟨by rw [HNO.out]; rfl, HFIN.out⟩
                · obtain ⟨n, rfl⟩ : ∃ n : Nat, sz = (n : Int) := ⟨sz.toNat, by omega⟩
                  have hn1 : 1 ≤ n := by omega
                  have hb1 : p * n ≤ 1099511627776 * 4096 := Nat.mul_le_mul hpl.2 (by omega)
                  have hmul : (p : Int) * (n : Int) = ((p * n : Nat) : Int) := by omega
                  by_cases s3 : 1099511627776 < p * n
                  · have HNO := Lib.hid (NO3'.out (k + 1) (by omega) (by rw [hst]; exact keyStep_no (by rw [Int.toNat_natCast]; omega)))
                    clear hst
                    generalize p * n = r at *
                    go_wp2
                    go_ret
                    exact ⟨by rw [HNO.out]; rfl, HFIN.out⟩
                  · have hst2 := hst.trans (keyStep_yes hn1 (by omega) rfl (by omega))
                    have HST := Lib.hid hst2
                    clear hst hst2
                    generalize p * n = r at *
                    go_wp2
                    go_roundw
                    case rel => exact ⟨k + 1, r, by omega, by go_num, rfl, HST, HBs⟩
                    case measure => simp [intOf]; omega
            · obtain rfl : k = S.dims.length := by omega
              have NO4'' := Lib.hid (NO4'.out p HP.out); have YES'' := Lib.hid (YES'.out p HP.out)
              clear NO3' NO4' YES' HP
              have hk3 := HK2.out.below HBs.out hz2
              have k30 := hk3.cell 0; have k33 := hk3.cell 3
              simp at k30 k33
              have HRV := Lib.hid (HR32.out.below (HBs.out.mono (show B ≤ w2.heap.size by omega)))
              have HFIN := Lib.hid (HBW.out.trans (HBs.out.mono (Nat.le_of_lt hz2)))
              have HF : Hid (fullN S = p2 S.dims.length - 1) := rfl
              have hpf : p2 S.dims.length = fullN S + 1 := by have := p2_pos S.dims.length; have h := HF.out; omega
              have h2 : ∀ W, Calls Try.prog 44 #[.int .i64 (S.dims.length : Int)] W fun y w' => y = .returned (.int .u32 ((fullN S : Int) + 1)) ∧ W = w' := fun W => by
                have := two_any W S.dims.length (by omega)
                rw [hpf] at this
                exact this
              have hsub : ∀ (W : World) (x : Nat), x ≤ 4294967295 → Calls Try.prog 40 #[.int .u32 (x : Int), .int .u32 (fullN S : Int)] W fun y w' => y = .returned (.bool (decide (x < fullN S + 1))) ∧ W = w' := fun W x hx => by
                have h := sub_any W x (fullN S) (by omega) (by omega)
                rw [show fullN S = p2 S.dims.length - 1 from rfl, sub_full x S.dims.length (by omega) (by omega), hpf] at h
                exact h
              have H2 := Lib.hid h2; have HSUB := Lib.hid hsub
              clear h2 hsub hpf
              generalize fullN S = F at *
              have HK3 := Lib.hid hk3
              clear hk3
              go_wp2_with (go_at_call 44; (with_reducible refine (H2.out _).mono ?_); rintro y w3 ⟨rfl, rfl⟩)
              obtain ⟨ws, hws⟩ : ∃ ws, ws = wr := ⟨wr, rfl⟩
              subst hws
              go_loopw [9] (fun i wt => ∃ k : Nat, k ≤ S.views.length ∧ i = .int .i64 (k : Int) ∧ Hid (viewsTo S k = true) ∧ Hid (Drw ws wt)) (fun i _ => S.views.length - (intOf i).toNat)
              case atStart => exact ⟨0, by omega, rfl, rfl, Drw.refl ws⟩
              case round =>
                obtain ⟨k, hk, rfl, HV, HDr⟩ := hrel
                have hk4 := HK3.out.drw HDr.out
                have k43 := hk4.cell 3
                simp at k43
                have HFT := Lib.hid (HDr.out.below HFIN.out)
                have HFD := Lib.hid (HFT.out.drew); have HDD := Lib.hid HDr.out.drew
                clear hk4 k30 k33
                by_cases hlt : k < S.views.length
                · obtain ⟨a, rfl, hab, x0, hxl⟩ := (rd_drw HRV.out HDr.out).view ho hlt
                  have q1 : (0 : Int) ≤ (k : Int) := by omega
                  have q2 : (k : Int) < (S.views.length : Int) := by omega
                  have hst := viewsTo_succ S k
                  rw [HV.out, Bool.true_and] at hst
                  have hno := viewsTo_no S k hlt
                  have HV2 := Lib.hid hst; clear hst
                  have hcs := fun W => HSUB.out W (viewAt S k) hxl
                  by_cases s0 : F + 1 ≤ viewAt S k
                  · have hv : viewOk S k = false := by unfold viewOk; rw [decide_eq_false (show ¬ viewAt S k < fullN S by rw [HF.out] at s0; unfold fullN; omega)]; rfl
                    have HNO := Lib.hid (NO4''.out (hno hv))
                    rw [decide_eq_false (show ¬ viewAt S k < F + 1 by omega)] at hcs
                    generalize viewAt S k = x at *
                    have HCS := Lib.hid hcs
                    clear hv hno hcs
                    go_wp2
                    go_quiet ((go_at_call 40; exact qcallS (HCS.out _)))
                    go_wp2
                    go_ret
                    exact ⟨by rw [HNO.out]; rfl, belD HFT.out _⟩
                  · rw [decide_eq_true (show viewAt S k < F + 1 by omega)] at hcs
                    by_cases s1 : F ≤ viewAt S k
                    · have hv : viewOk S k = false := by unfold viewOk; rw [decide_eq_false (show ¬ viewAt S k < fullN S by rw [HF.out] at s1; unfold fullN; omega)]; rfl
                      have HNO := Lib.hid (NO4''.out (hno hv))
                      generalize viewAt S k = x at *
                      have t1 : ((x : Int) == (F : Int)) = true := by rw [beq_iff_eq]; omega
                      have HCS := Lib.hid hcs
                      clear hv hno hcs
                      go_wp2
                      go_quiet ((go_at_call 40; exact qcallS (HCS.out _)))
                      go_wp2
                      go_ret
                      exact ⟨by rw [HNO.out]; rfl, belD HFT.out _⟩
                    · have t1 : ((viewAt S k : Int) == (F : Int)) = false := by rw [beq_eq_false_iff_ne]; omega
                      cases k with
                      | zero =>
                        have hv : viewOk S 0 = true := by rw [viewOk_zero, decide_eq_true (show viewAt S 0 < fullN S by rw [HF.out] at s1; unfold fullN; omega)]
                        have HST : Hid (viewsTo S (0 + 1) = true) := Lib.hid (HV2.out.trans hv)
                        rw [add_zero'] at x0
                        rw [show ((0 : Nat) : Int) = 0 from rfl]
                        generalize viewAt S 0 = x at *
                        have HCS := Lib.hid hcs
                        clear hv hno HV2 hcs
                        go_wp2
                        go_quiet ((go_at_call 40; exact qcallS (HCS.out _)))
                        go_wp2
                        go_roundw
                        case rel => exact ⟨1, by omega, rfl, HST, HDr.out.drewN _⟩
                        case measure => simp [intOf]; omega
                      | succ j =>
                        obtain ⟨a', ea, _, y0, hyl⟩ := (rd_drw HRV.out HDr.out).view ho (k := j) (by omega)
                        injection ea with ea; subst ea
                        rw [add_succ] at x0
                        have hvk := viewOk_pos S (j + 1) (by omega)
                        rw [show j + 1 - 1 = j from rfl, decide_eq_true (show viewAt S (j + 1) < fullN S by rw [HF.out] at s1; unfold fullN; omega), Bool.true_and] at hvk
                        rw [show ((j + 1 : Nat) : Int) = (j : Int) + 1 from by omega] at *
                        generalize viewAt S (j + 1) = x at *
                        generalize viewAt S j = y at *
                        have HCS := Lib.hid hcs; clear hcs
                        have t3 : decide ((0 : Int) < (j : Int) + 1) = true := decide_eq_true (by omega)
                        have w1 : IntKind.i64.wrap (j : Int) = (j : Int) := IntWalk.i64_in _ (by omega)
                        have w2 : IntKind.i64.wrap ((j : Int) + 1 - 1) = (j : Int) := by rw [show (j : Int) + 1 - 1 = (j : Int) from by omega]; exact w1
                        have w3 : (0 : Int) ≤ (j : Int) := by omega
                        have w4 : (j : Int) < (S.views.length : Int) := by omega
                        by_cases s2 : y < x
                        · have HST := Lib.hid (HV2.out.trans (hvk.trans (decide_eq_true s2)))
                          have t2 : decide ((x : Int) ≤ (y : Int)) = false := decide_eq_false (by omega)
                          clear hvk hno HV2
                          go_wp2
                          go_quiet ((go_at_call 40; exact qcallS (HCS.out _)))
                          go_wp2
                          go_roundw
                          case rel => exact ⟨j + 1 + 1, by omega, by go_num, HST, HDr.out.drewN _⟩
                          case measure => simp [intOf]; omega
                        · have HNO := Lib.hid (NO4''.out (hno (hvk.trans (decide_eq_false s2))))
                          have t2 : decide ((x : Int) ≤ (y : Int)) = true := decide_eq_true (by omega)
                          clear hvk hno HV2
                          go_wp2
                          go_quiet ((go_at_call 40; exact qcallS (HCS.out _)))
                          go_wp2
                          go_ret
                          exact ⟨by rw [HNO.out]; rfl, belD HFT.out _⟩
                · obtain rfl : k = S.views.length := by omega
                  have HY := Lib.hid (YES''.out HV.out)
                  go_wp2
                  go_ret
                  exact ⟨by rw [HY.out]; rfl, HFT.out⟩
end Go.Proofs.Ytfhmaincnlaapaa
namespace Go.Proofs.Ytfhmaincnlaapaa
open Go.ChangeShapes Go.WideShapes Go.ChangeAt Go.RowKit
set_option linter.unusedVariables false

set_option maxRecDepth 20000 in
theorem twoW_any (w : World) (n : Nat) (hn : n ≤ 1000000) : Calls Try.prog 44 #[.int .i64 (n : Int)] w fun y w' => ∃ p : Nat, p < 4294967296 ∧ y = .returned (.int .u32 (p : Int)) ∧ w = w' := by
  go_enter Try.func44, Try.ntmps44
  go_wp2
  go_loop [3, 4] (fun v3 v4 => ∃ k p : Nat, k ≤ n ∧ v4 = .int .i64 (k : Int) ∧ v3 = .int .u32 (p : Int) ∧ p < 4294967296) (fun _ v4 => n - (intOf v4).toNat)
  case atStart => exact ⟨0, 1, by omega, rfl, rfl, by decide⟩
  case round =>
    obtain ⟨k, p, hk, rfl, rfl, hp⟩ := hrel
    by_cases hlt : k < n
    · have q2 : (k : Int) < (n : Int) := by omega
      have hwr : IntKind.u32.wrap (2 * (p : Int)) = ((2 * p % 4294967296 : Nat) : Int) := by rw [IntKind.wrap_u32]; omega
      go_wp2
      go_round
      case rel => exact ⟨k + 1, 2 * p % 4294967296, by omega, by go_num, rfl, Nat.mod_lt _ (by decide)⟩
      case measure => simp [intOf]; omega
    · obtain rfl : k = n := by omega
      go_wp2
      go_ret
      exact ⟨p, hp, rfl, rfl⟩
set_option maxRecDepth 20000 in
theorem fullW_any (w : World) (B : Nat) (v : Value) (S : Sch) (h : SchAt w B v S) (hB : B ≤ w.heap.size) (hd : S.dims.length ≤ 1000000) :
    Calls Try.prog 13 #[v] w fun y w' => ∃ m : Nat, m < 4294967296 ∧ y = .returned (.int .u32 (m : Int)) ∧ Below w.heap.size w w' := by
  have hh := h
  obtain ⟨A0, c0, A1, c1, A2, c2, A3, c3, rfl, r0, r1, r2, r3, b0, b1, b2, b3⟩ := hh
  clear r0 r1 r2 r3 h
  have hw0 := belA (belR w) (.cells #[.slice A0 S.dims.length c0, .slice A1 S.ints.length c1, .slice A2 S.nums.length c2, .slice A3 S.views.length c3] 26)
  have HW0 := Lib.hid hw0
  have HT := Lib.hid (fun W => twoW_any W S.dims.length hd)
  clear hw0
  go_enter Try.func13, Try.ntmps13
  go_wp2_with (go_at_call 44; (with_reducible refine (HT.out _).mono ?_); rintro y w1 ⟨p, hp, rfl, rfl⟩; obtain ⟨r, hr⟩ : ∃ r : Nat, (p + 4294967295) % 4294967296 = r := ⟨_, rfl⟩; have e : IntKind.u32.wrap ((p : Int) - 1) = (r : Int) := (by rw [IntKind.wrap_u32]; omega))
  go_ret
  exact ⟨r, by omega, rfl, HW0.out⟩
end Go.Proofs.Ytfhmaincnlaapaa
