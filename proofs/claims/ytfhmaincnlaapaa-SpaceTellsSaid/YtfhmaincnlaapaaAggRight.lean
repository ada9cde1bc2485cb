/-
  agg.Right.
-/
import Derived.Test.YtfhmaincnlaapaaExactRead
import Derived.Deep.RegionHeld3
import Derived.Deep.RegionLawGrows
namespace Go.Proofs.Ytfhmaincnlaapaa
open Go.ChangeShapes Go.WideShapes Go.ChangeAt Go.RowKit
set_option linter.unusedVariables false

theorem run_store_fR {P : Program} {w : World} {a : Addr} {m : Mode} (k : FloatKind) (b : Nat) : (store a (.float k b) m).run P w = stored P w a (.float k b) m := run_store P w a _ m rfl
attribute [local go_sem] run_store_fR
theorem okW_no {X : WholeS} (h : ¬ (0 ≤ X.abs ∧ X.sum ≤ X.abs ∧ -X.abs ≤ X.sum ∧ X.mn ≤ X.mx ∧ X.sq.length ≤ 7 ∧ tsz X.sq = X.sq.length)) : okW X = false := by
  rw [← Bool.not_eq_true]
  intro hh
  unfold okW at hh
  simp only [Bool.and_eq_true, decide_eq_true_iff] at hh
  exact h ⟨hh.1.1.1.1.1, hh.1.1.1.1.2, hh.1.1.1.2, hh.1.1.2, hh.1.2, hh.2⟩
theorem okW_yes {X : WholeS} (h1 : 0 ≤ X.abs) (h2 : X.sum ≤ X.abs) (h3 : -X.abs ≤ X.sum) (h4 : X.mn ≤ X.mx) (h5 : X.sq.length ≤ 7) (h6 : tsz X.sq = X.sq.length) : okW X = true := by
  unfold okW; simp [h1, h2, h3, h4, h5, h6]
theorem okR_no {X : RealS} (h : ¬ (readE X.sum = 0 ∧ keyB X.mn ≤ keyB X.mx)) : okR X = false := by
  rw [← Bool.not_eq_true]
  intro hh
  unfold okR at hh
  simp only [Bool.and_eq_true, decide_eq_true_iff] at hh
  exact h hh
theorem okR_yes {X : RealS} (h1 : readE X.sum = 0) (h2 : keyB X.mn ≤ keyB X.mx) : okR X = true := by unfold okR; simp [h1, h2]
theorem rightC_no {S : Sch} {mask n : Nat} {C : CellS} (hk : keysOf S mask = some n) (h : ¬ (C.key < n ∧ 1 ≤ C.count ∧ C.ints.length = S.ints.length ∧ C.nums.length = S.nums.length ∧ C.ints.all okW = true ∧ C.nums.all okR = true)) : rightC S mask C = false := by
  rw [← Bool.not_eq_true]
  intro hh
  rw [rightC_some S mask n C hk] at hh
  simp only [Bool.and_eq_true, decide_eq_true_iff] at hh
  exact h ⟨hh.1.1.1.1.1, hh.1.1.1.1.2, hh.1.1.1.2, hh.1.1.2, hh.1.2, hh.2⟩
theorem rightC_yes {S : Sch} {mask n : Nat} {C : CellS} (hk : keysOf S mask = some n) (h1 : C.key < n) (h2 : 1 ≤ C.count) (h3 : C.ints.length = S.ints.length) (h4 : C.nums.length = S.nums.length) (h5 : C.ints.all okW = true) (h6 : C.nums.all okR = true) : rightC S mask C = true := by
  rw [rightC_some S mask n C hk, h5, h6]; simp [h1, h2, h3, h4]
set_option maxRecDepth 20000 in
set_option maxHeartbeats 16000000 in
theorem aggRight_any (w : World) (B : Nat) (v : Value) (S : Sch) (mask : Nat) (C : CellS) (D2 : Option Addr) (d2 : Nat) (D3 : Option Addr) (d3 : Nat) (h : SchAt w B v S) (ho : SchOk S) (hv : CellV w B C D2 d2 D3 d3) (hB : B ≤ w.heap.size) (hm : mask < 4294967296) :
    Calls Try.prog 42 #[v, .int .u32 (mask : Int), .agg #[.int .u64 (C.key : Int), .int .i64 C.count, .slice D2 C.ints.length d2, .slice D3 C.nums.length d3]] w fun y w' => y = .returned (.bool (rightC S mask C)) ∧ Below w.heap.size w w' := by
  have hh := h
  obtain ⟨A0, c0, A1, c1, A2, c2, A3, c3, rfl, r0, r1, r2, r3, b0, b1, b2, b3⟩ := hh
  clear r0 r1 r2 r3 b0 b1 b2 b3
  have hw1 := belA (belR w) (.cells #[.slice A0 S.dims.length c0, .slice A1 S.ints.length c1, .slice A2 S.nums.length c2, .slice A3 S.views.length c3] 26)
  have hw0 := belA hw1 (.cells #[.int .u64 (C.key : Int), .int .i64 C.count, .slice D2 C.ints.length d2, .slice D3 C.nums.length d3] 52)
  have ks := (Blk.new w 26 #[.slice A0 S.dims.length c0, .slice A1 S.ints.length c1, .slice A2 S.nums.length c2, .slice A3 S.views.length c3]).alloc (.cells #[.int .u64 (C.key : Int), .int .i64 C.count, .slice D2 C.ints.length d2, .slice D3 C.nums.length d3] 52)
  have kc := Blk.new (w.alloc (.cells #[.slice A0 S.dims.length c0, .slice A1 S.ints.length c1, .slice A2 S.nums.length c2, .slice A3 S.views.length c3] 26)) 52 #[.int .u64 (C.key : Int), .int .i64 C.count, .slice D2 C.ints.length d2, .slice D3 C.nums.length d3]
  have hgc : (w.alloc (.cells #[.slice A0 S.dims.length c0, .slice A1 S.ints.length c1, .slice A2 S.nums.length c2, .slice A3 S.views.length c3] 26)).heap.size = w.heap.size + 1 := by simp
  rw [hgc] at kc
  have hc := keys_any ((w.alloc (.cells #[.slice A0 S.dims.length c0, .slice A1 S.ints.length c1, .slice A2 S.nums.length c2, .slice A3 S.views.length c3] 26)).alloc (.cells #[.int .u64 (C.key : Int), .int .i64 C.count, .slice D2 C.ints.length d2, .slice D3 C.nums.length d3] 52)) B _ S mask (h.keep (hw0.mono hB) (Nat.le_refl _)) ho (by simp; omega) hm
  have HC := Lib.hid hc; have HW0 := Lib.hid hw0; have KS := Lib.hid ks; have KC := Lib.hid kc; have HV := Lib.hid hv
  have hml : C.ints.length ≤ 9223372036854775807 := by have h1 := hv.ints.1; have h2 := hv.ints.2.1; unfold maxLen at h2; omega
  have hmn : C.nums.length ≤ 9223372036854775807 := by have h1 := hv.nums.1; have h2 := hv.nums.2.1; unfold maxLen at h2; omega
  clear hc hw0 hw1 ks kc hgc h hv
  go_enter Try.func42, Try.ntmps42
  go_wp2_with fail
  (with_reducible refine HC.out.mono ?_); rintro y w1 ⟨rfl, hb1⟩
  generalize hW : (w.alloc (.cells #[.slice A0 S.dims.length c0, .slice A1 S.ints.length c1, .slice A2 S.nums.length c2, .slice A3 S.views.length c3] 26)).alloc (.cells #[.int .u64 (C.key : Int), .int .i64 C.count, .slice D2 C.ints.length d2, .slice D3 C.nums.length d3] 52) = W at *
  have hWz : W.heap.size = w.heap.size + 2 := by rw [← hW]; simp
  clear hW
  have hks := KS.out.below hb1 (by omega)
  have hkc := KC.out.below hb1 (by omega)
  have s1 := hks.cell 1; have s2 := hks.cell 2
  have m0 := hkc.cell 0; have m1 := hkc.cell 1; have m2 := hkc.cell 2; have m3 := hkc.cell 3
  simp at s1 s2 m0 m1 m2 m3
  have HB1 := Lib.hid hb1
  have HBW := Lib.hid (HW0.out.trans (hb1.mono (show w.heap.size ≤ _ by omega)))
  clear hb1 hks hkc HC
  cases hk : keysOf S mask with
  | none =>
    have HF := Lib.hid (rightC_none S mask C hk)
    simp only [Option.isSome_none, Option.getD_none]
    clear hk
    go_wp2
    go_ret
    exact ⟨(by rw [HF.out] <;> rfl), HBW.out⟩
  | some n =>
    simp only [Option.isSome_some, Option.getD_some]
    have HK := Lib.hid hk
    clear hk
    by_cases g1 : C.key < n
    case neg =>
      have t1 : decide ((n : Int) ≤ (C.key : Int)) = true := decide_eq_true (by omega)
      have HF := Lib.hid (rightC_no (C := C) HK.out fun hh => g1 hh.1)
      have n1 : n ≤ C.key := by omega
      clear g1
      go_wp2
      go_ret
      exact ⟨(by rw [HF.out] <;> rfl), HBW.out⟩
    have t1 : decide ((n : Int) ≤ (C.key : Int)) = false := decide_eq_false (by omega)
    have t1n : decide (n ≤ C.key) = false := decide_eq_false (by omega)
    by_cases g2 : 1 ≤ C.count
    case neg =>
      have t2 : decide (C.count < 1) = true := decide_eq_true (by omega)
      have HF := Lib.hid (rightC_no (C := C) HK.out fun hh => g2 hh.2.1)
      have n2 : C.count < 1 := by omega
      clear g2
      go_wp2
      go_ret
      exact ⟨(by rw [HF.out] <;> rfl), HBW.out⟩
    have t2 : decide (C.count < 1) = false := decide_eq_false (by omega)
    by_cases g3 : C.ints.length = S.ints.length
    case neg =>
      have t3 : ((C.ints.length : Int) != (S.ints.length : Int)) = true := by rw [bne_iff_ne]; omega
      have HF := Lib.hid (rightC_no (C := C) HK.out fun hh => g3 hh.2.2.1)
      clear g3
      go_wp2
      go_ret
      exact ⟨(by rw [HF.out] <;> rfl), HBW.out⟩
    have t3 : ((C.ints.length : Int) != (S.ints.length : Int)) = false := by rw [bne_eq_false_iff_eq]; omega
    by_cases g4 : C.nums.length = S.nums.length
    case neg =>
      have t4 : ((C.nums.length : Int) != (S.nums.length : Int)) = true := by rw [bne_iff_ne]; omega
      have HF := Lib.hid (rightC_no (C := C) HK.out fun hh => g4 hh.2.2.2.1)
      clear g4
      go_wp2
      go_ret
      exact ⟨(by rw [HF.out] <;> rfl), HBW.out⟩
    have t4 : ((C.nums.length : Int) != (S.nums.length : Int)) = false := by rw [bne_eq_false_iff_eq]; omega
    have HNO := Lib.hid fun (hb : ¬ (C.ints.all okW = true ∧ C.nums.all okR = true)) => rightC_no (C := C) HK.out fun hh => hb hh.2.2.2.2
    have HYES := Lib.hid fun (h5 : C.ints.all okW = true) (h6 : C.nums.all okR = true) => rightC_yes HK.out g1 g2 g3 g4 h5 h6
    clear g3 g4 HK
    go_wp2
    clear g1 g2 t1 t1n t2 t3 t4 s1 s2 m0 m1 m2
    go_loopw [55] (fun i wr => ∃ k : Nat, k ≤ C.ints.length ∧ i = .int .i64 (k : Int) ∧ Hid ((C.ints.take k).all okW = true) ∧ Hid (Below W.heap.size W wr)) (fun i _ => C.ints.length - (intOf i).toNat)
    case atStart => exact ⟨0, by omega, rfl, rfl, HB1.out⟩
    case round =>
      obtain ⟨k, hk, rfl, HA, HBl⟩ := hrel
      clear m3
      by_cases hlt : k < C.ints.length
      · obtain ⟨a, Aq, cq, ea, hab, x0, x1, x2, x3, x4, hRq, hq1, hq2, hq3, hs, ha, hmi, hmx⟩ := (HV.out.ints.keep ((HW0.out.trans (HBl.out.mono (show w.heap.size ≤ _ by omega))).mono hB) (Nat.le_refl _)).wholeAt hlt
        have q1 : (0 : Int) ≤ (k : Int) := by omega
        have q2 : (k : Int) < (C.ints.length : Int) := by omega
        have hts := all_take_succ okW C.ints k hlt
        rw [HA.out, Bool.true_and] at hts
        have HN1 := Lib.hid fun (hf : okW C.ints[k] = false) => HNO.out fun hh => by rw [all_no okW C.ints k hlt hf] at hh; exact absurd hh.1 (by decide)
        subst ea
        generalize C.ints[k] = X at *
        have hbx := belA (belR wr) (.cells #[.int .i64 X.sum, .int .i64 X.abs, .slice Aq X.sq.length cq, .int .i64 X.mn, .int .i64 X.mx] 114)
        have hbk := Blk.new wr 114 #[.int .i64 X.sum, .int .i64 X.abs, .slice Aq X.sq.length cq, .int .i64 X.mn, .int .i64 X.mx]
        have hzr : W.heap.size ≤ wr.heap.size := HBl.out.size
        have HBX := Lib.hid (HBl.out.trans (hbx.mono hzr)); have HTS := Lib.hid hts; have HKX := Lib.hid hbk
        have HBV : Hid (∀ W', Below W.heap.size W W' → Below w.heap.size w W') := Lib.hid fun W' hb => HW0.out.trans (hb.mono (show w.heap.size ≤ _ by omega))
        have HRQ := Lib.hid (hRq.below (hbx.mono (show B ≤ wr.heap.size by omega)))
        have hq2' := hq2
        unfold maxLen at hq2'
        clear hRq hbx hbk hts
        go_wp2
        generalize hX : wr.alloc (.cells #[.int .i64 X.sum, .int .i64 X.abs, .slice Aq X.sq.length cq, .int .i64 X.mn, .int .i64 X.mx] 114) = Wx at *
        clear x0 x1 x2 x3 x4
        have hzx : Wx.heap.size = wr.heap.size + 1 := by rw [← hX]; simp
        have hbn : wr.heap.size < Wx.heap.size := by omega
        clear hX
        generalize hbe : wr.heap.size = bn at *
        have y0 := HKX.out.cell 0; have y1 := HKX.out.cell 1; have y2 := HKX.out.cell 2; have y3 := HKX.out.cell 3; have y4 := HKX.out.cell 4
        simp at y0 y1 y2 y3 y4
        by_cases g1 : 0 ≤ X.abs
        case neg =>
          have t1 : decide (X.abs < 0) = true := decide_eq_true (by omega)
          have HF := Lib.hid (HN1.out (okW_no fun hh => g1 hh.1))
          clear g1
          go_quiet (fail)
          go_wp2
          go_ret
          exact ⟨(by rw [HF.out] <;> rfl), belD (HBV.out _ HBX.out) _⟩
        have t1 : decide (X.abs < 0) = false := decide_eq_false (by omega)
        by_cases g2 : X.sum ≤ X.abs
        case neg =>
          have t2 : decide (X.abs < X.sum) = true := decide_eq_true (by omega)
          have HF := Lib.hid (HN1.out (okW_no fun hh => g2 hh.2.1))
          clear g2
          go_quiet (fail)
          go_wp2
          go_ret
          exact ⟨(by rw [HF.out] <;> rfl), belD (HBV.out _ HBX.out) _⟩
        have t2 : decide (X.abs < X.sum) = false := decide_eq_false (by omega)
        have wneg : IntKind.i64.wrap (-X.abs) = -X.abs := IntWalk.i64_in _ (by omega)
        by_cases g3 : -X.abs ≤ X.sum
        case neg =>
          have t3 : decide (X.sum < -X.abs) = true := decide_eq_true (by omega)
          have HF := Lib.hid (HN1.out (okW_no fun hh => g3 hh.2.2.1))
          clear g3
          go_quiet (fail)
          go_wp2
          go_ret
          exact ⟨(by rw [HF.out] <;> rfl), belD (HBV.out _ HBX.out) _⟩
        have t3 : decide (X.sum < -X.abs) = false := decide_eq_false (by omega)
        by_cases g4 : X.mn ≤ X.mx
        case neg =>
          have t4 : decide (X.mx < X.mn) = true := decide_eq_true (by omega)
          have HF := Lib.hid (HN1.out (okW_no fun hh => g4 hh.2.2.2.1))
          clear g4
          go_quiet (fail)
          go_wp2
          go_ret
          exact ⟨(by rw [HF.out] <;> rfl), belD (HBV.out _ HBX.out) _⟩
        have t4 : decide (X.mx < X.mn) = false := decide_eq_false (by omega)
        by_cases g5 : X.sq.length ≤ 7
        case neg =>
          have t5 : decide ((7 : Int) < (X.sq.length : Int)) = true := decide_eq_true (by omega)
          have HF := Lib.hid (HN1.out (okW_no fun hh => g5 hh.2.2.2.2.1))
          clear g5
          go_quiet (fail)
          go_wp2
          go_ret
          exact ⟨(by rw [HF.out] <;> rfl), belD (HBV.out _ HBX.out) _⟩
        have t5 : decide ((7 : Int) < (X.sq.length : Int)) = false := decide_eq_false (by omega)
        have htr := trim_any Wx.drew B Aq cq X.sq HRQ.out.drew (by omega) hq1 hq2
        by_cases g6 : tsz X.sq = X.sq.length
        · have HT2 := Lib.hid (HTS.out.trans (okW_yes g1 g2 g3 g4 g5 g6))
          rw [g6] at htr
          have HT := Lib.hid htr
          have t6 : ((X.sq.length : Int) != (X.sq.length : Int)) = false := by simp
          clear htr g1 g2 g3 g4 g5 g6 HN1
          have HS : Hid (Wx.drew.cell? ⟨bn, 0, none⟩ = some (.int .i64 X.sum) ∧ Wx.drew.cell? ⟨bn, 1, none⟩ = some (.int .i64 X.abs) ∧ Wx.drew.cell? ⟨bn, 2, none⟩ = some (.slice Aq X.sq.length cq) ∧ Wx.drew.cell? ⟨bn, 3, none⟩ = some (.int .i64 X.mn) ∧ Wx.drew.cell? ⟨bn, 4, none⟩ = some (.int .i64 X.mx)) := Lib.hid ⟨y0, y1, y2, y3, y4⟩
          go_region_held (fun W => W.cell? ⟨bn, 0, none⟩ = some (.int .i64 X.sum) ∧ W.cell? ⟨bn, 1, none⟩ = some (.int .i64 X.abs) ∧ W.cell? ⟨bn, 2, none⟩ = some (.slice Aq X.sq.length cq) ∧ W.cell? ⟨bn, 3, none⟩ = some (.int .i64 X.mn) ∧ W.cell? ⟨bn, 4, none⟩ = some (.int .i64 X.mx)) (first | (with_reducible exact HS.out) | (exact hk5)) (first | (go_at_call 95; (with_reducible refine HT.out.mono ?_); rintro y w5 ⟨v5, rfl, ho5, hb5⟩; obtain ⟨A5, c5, rfl, _, _, _⟩ := own_form ho5; have hkx := HKX.out.drew.below hb5 hbn; have hk5 : w5.cell? ⟨bn, 0, none⟩ = some (.int .i64 X.sum) ∧ w5.cell? ⟨bn, 1, none⟩ = some (.int .i64 X.abs) ∧ w5.cell? ⟨bn, 2, none⟩ = some (.slice Aq X.sq.length cq) ∧ w5.cell? ⟨bn, 3, none⟩ = some (.int .i64 X.mn) ∧ w5.cell? ⟨bn, 4, none⟩ = some (.int .i64 X.mx) := ⟨hkx.cell 0, hkx.cell 1, hkx.cell 2, hkx.cell 3, hkx.cell 4⟩; have HB5 := Lib.hid (HBX.out.trans ((belD (belR Wx) 1).trans (hb5.mono (Nat.le_refl _)) |>.mono (by omega))); clear hb5 hkx ho5))
          all_goals
            go_wp2
            go_roundw
            case rel => exact ⟨k + 1, by omega, by go_num, HT2.out, HB5.out⟩
            case measure => simp [intOf]; omega
        · have HF := Lib.hid (HN1.out (okW_no fun hh => g6 hh.2.2.2.2.2))
          have HT := Lib.hid htr
          have t6 : ((tsz X.sq : Int) != (X.sq.length : Int)) = true := by rw [bne_iff_ne]; omega
          clear htr g1 g2 g3 g4 g5 g6 HN1
          have HS : Hid (Wx.drew.cell? ⟨bn, 0, none⟩ = some (.int .i64 X.sum) ∧ Wx.drew.cell? ⟨bn, 1, none⟩ = some (.int .i64 X.abs) ∧ Wx.drew.cell? ⟨bn, 2, none⟩ = some (.slice Aq X.sq.length cq) ∧ Wx.drew.cell? ⟨bn, 3, none⟩ = some (.int .i64 X.mn) ∧ Wx.drew.cell? ⟨bn, 4, none⟩ = some (.int .i64 X.mx)) := Lib.hid ⟨y0, y1, y2, y3, y4⟩
          go_region_held (fun W => W.cell? ⟨bn, 0, none⟩ = some (.int .i64 X.sum) ∧ W.cell? ⟨bn, 1, none⟩ = some (.int .i64 X.abs) ∧ W.cell? ⟨bn, 2, none⟩ = some (.slice Aq X.sq.length cq) ∧ W.cell? ⟨bn, 3, none⟩ = some (.int .i64 X.mn) ∧ W.cell? ⟨bn, 4, none⟩ = some (.int .i64 X.mx)) (first | (with_reducible exact HS.out) | (exact hk5)) (first | (go_at_call 95; (with_reducible refine HT.out.mono ?_); rintro y w5 ⟨v5, rfl, ho5, hb5⟩; obtain ⟨A5, c5, rfl, _, _, _⟩ := own_form ho5; have hkx := HKX.out.drew.below hb5 hbn; have hk5 : w5.cell? ⟨bn, 0, none⟩ = some (.int .i64 X.sum) ∧ w5.cell? ⟨bn, 1, none⟩ = some (.int .i64 X.abs) ∧ w5.cell? ⟨bn, 2, none⟩ = some (.slice Aq X.sq.length cq) ∧ w5.cell? ⟨bn, 3, none⟩ = some (.int .i64 X.mn) ∧ w5.cell? ⟨bn, 4, none⟩ = some (.int .i64 X.mx) := ⟨hkx.cell 0, hkx.cell 1, hkx.cell 2, hkx.cell 3, hkx.cell 4⟩; have HB5 := Lib.hid (HBX.out.trans ((belD (belR Wx) 1).trans (hb5.mono (Nat.le_refl _)) |>.mono (by omega))); clear hb5 hkx ho5))
          all_goals
            go_wp2
            go_ret
            exact ⟨(by rw [HF.out] <;> rfl), HBV.out _ HB5.out⟩
      · obtain rfl : k = C.ints.length := by omega
        rw [List.take_length] at HA
        have hkc := KC.out.below HBl.out (by omega)
        have m3 := hkc.cell 3
        simp at m3
        clear hkc
        have HA1 := HA; have HB2 := HBl
        clear HA HBl
        go_wp2
        go_loopw [104] (fun i ws => ∃ k : Nat, k ≤ C.nums.length ∧ i = .int .i64 (k : Int) ∧ Hid ((C.nums.take k).all okR = true) ∧ Hid (Below W.heap.size W ws)) (fun i _ => C.nums.length - (intOf i).toNat)
        case atStart => exact ⟨0, by omega, rfl, rfl, HB2.out⟩
        case round =>
          obtain ⟨k, hk, rfl, HA, HBl⟩ := hrel
          clear m3
          by_cases hlt : k < C.nums.length
          · obtain ⟨a, Aq, cq, ea, hab, x0, x1, x2, hRq, hq1, hq2, hmi, hmx⟩ := (HV.out.nums.keep ((HW0.out.trans (HBl.out.mono (show w.heap.size ≤ _ by omega))).mono hB) (Nat.le_refl _)).realAt hlt
            have q1 : (0 : Int) ≤ (k : Int) := by omega
            have q2 : (k : Int) < (C.nums.length : Int) := by omega
            have hts := all_take_succ okR C.nums k hlt
            rw [HA.out, Bool.true_and] at hts
            have HN1 := Lib.hid fun (hf : okR C.nums[k] = false) => HNO.out fun hh => by rw [all_no okR C.nums k hlt hf] at hh; exact absurd hh.2 (by decide)
            subst ea
            generalize C.nums[k] = X at *
            have hbx := belA (belR wr) (.cells #[.slice Aq X.sum.length cq, .float .f64 X.mn, .float .f64 X.mx] 117)
            have hbk := Blk.new wr 117 #[.slice Aq X.sum.length cq, .float .f64 X.mn, .float .f64 X.mx]
            have hzr : W.heap.size ≤ wr.heap.size := HBl.out.size
            have hq2' := hq2
            unfold maxLen at hq2'
            have hrd := read_any (wr.alloc (.cells #[.slice Aq X.sum.length cq, .float .f64 X.mn, .float .f64 X.mx] 117)) B Aq cq X.sum (hRq.below (hbx.mono (show B ≤ wr.heap.size by omega))) (by simp; omega) (by omega)
            have HBX := Lib.hid (HBl.out.trans (hbx.mono hzr)); have HTS := Lib.hid hts; have HKX := Lib.hid hbk; have HRD := Lib.hid hrd
            have HBV : Hid (∀ W', Below W.heap.size W W' → Below w.heap.size w W') := Lib.hid fun W' hb => HW0.out.trans (hb.mono (show w.heap.size ≤ _ by omega))
            clear hRq hbx hbk hts hrd
            go_wp2_with fail
            (with_reducible refine HRD.out.mono ?_); rintro y w5 ⟨p, rfl, _, hb5⟩
            have hkx := HKX.out.below hb5 (by simp)
            have y1 := hkx.cell 1; have y2 := hkx.cell 2
            simp at y1 y2
            have HB5 := Lib.hid (HBX.out.trans (hb5.mono (by simp; omega)))
            clear hb5 hkx HKX HBX HRD x0 x1 x2
            by_cases g1 : readE X.sum = 0
            · rw [g1]
              have hls := less_flo X.mx X.mn w5 hmx hmi
              by_cases g2 : keyB X.mn ≤ keyB X.mx
              · have e : decide (keyB X.mx < keyB X.mn) = false := decide_eq_false (by omega)
                rw [e] at hls
                have HLS := Lib.hid hls; have HT2 := Lib.hid (HTS.out.trans (okR_yes g1 g2))
                clear hls e g1 g2
                go_wp2_with (go_at_call 97; (with_reducible refine HLS.out.mono ?_); rintro y w6 ⟨rfl, rfl⟩)
                go_roundw
                case rel => exact ⟨k + 1, by omega, by go_num, HT2.out, HB5.out⟩
                case measure => simp [intOf]; omega
              · have e : decide (keyB X.mx < keyB X.mn) = true := decide_eq_true (by omega)
                rw [e] at hls
                have HLS := Lib.hid hls; have HF := Lib.hid (HN1.out (okR_no fun hh => g2 hh.2))
                clear hls e g1 g2
                go_wp2_with (go_at_call 97; (with_reducible refine HLS.out.mono ?_); rintro y w6 ⟨rfl, rfl⟩)
                go_ret
                exact ⟨(by rw [HF.out] <;> rfl), HBV.out _ HB5.out⟩
            · have t1 := i64_ne0 g1
              have HF := Lib.hid (HN1.out (okR_no fun hh => g1 hh.1))
              clear g1
              go_wp2
              go_ret
              exact ⟨(by rw [HF.out] <;> rfl), HBV.out _ HB5.out⟩
          · obtain rfl : k = C.nums.length := by omega
            rw [List.take_length] at HA
            have HT := Lib.hid (HYES.out HA1.out HA.out)
            have HBV := Lib.hid (HW0.out.trans (HBl.out.mono (show w.heap.size ≤ _ by omega)))
            go_wp2
            go_ret
            exact ⟨(by rw [HT.out] <;> rfl), HBV.out⟩
end Go.Proofs.Ytfhmaincnlaapaa
