/-
  bushelref11.Keys, bushelref15.Rising.
  A region that draws its order, its steps written out (reg.py): an operation taken first, one left out by its guard, a call.
  schema.Views, bushelref11.Views.
  cells.rising, cells.Right.
  agg.Right.
-/
import Derived.Deep.RegionHeld3
import Derived.Deep.RegionLawGrows
import Derived.Test.YtfhmaincnlaapaaSpBufInU
import Derived.Test.YtfhmaincnlaapaaSpRefCheck
import Derived.Test.YtfhmaincnlaapaaSpExactRead
namespace Go.Proofs.Ytfhmaincnlaapaa
open Go.ChangeShapes Go.WideShapes Go.ChangeAt Go.RowKit
set_option linter.unusedVariables false

theorem run_store_fR {P : Program} {w : World} {a : Addr} {m : Mode} (k : FloatKind) (b : Nat) : (store a (.float k b) m).run P w = stored P w a (.float k b) m := run_store P w a _ m rfl
attribute [local go_sem] run_store_fR
theorem okW_no {X : WholeS} (h : ¬ (0 ≤ X.abs ∧ X.sum ≤ X.abs ∧ -X.abs ≤ X.sum ∧ X.mn ≤ X.mx ∧ X.sq.length ≤ 7 ∧ tsz X.sq = X.sq.length)) : okW X = false := by
  rw [← Bool.not_eq_true]
  intro hh
  unfold okW at hh
  simp only [Bool.and_eq_true, decide_eq_true_iff] at hh
  exact h ⟨hh.1.1.1.1.1, hh.1.1.1.1.2, hh.1.1.1.2, hh.1.1.2, hh.1.2, hh.2⟩
theorem okW_yes {X : WholeS} (h1 : 0 ≤ X.abs) (h2 : X.sum ≤ X.abs) (h3 : -X.abs ≤ X.sum) (h4 : X.mn ≤ X.mx) (h5 : X.sq.length ≤ 7) (h6 : tsz X.sq = X.sq.length) : okW X = true := by
  unfold okW; simp [h1, h2, h3, h4, h5, h6]
theorem okR_no {X : RealS} (h : ¬ (readE X.sum = 0 ∧ keyB X.mn ≤ keyB X.mx)) : okR X = false := by
  rw [← Bool.not_eq_true]
  intro hh
  unfold okR at hh
  simp only [Bool.and_eq_true, decide_eq_true_iff] at hh
  exact h hh
theorem okR_yes {X : RealS} (h1 : readE X.sum = 0) (h2 : keyB X.mn ≤ keyB X.mx) : okR X = true := by unfold okR; simp [h1, h2]
theorem rightC_no {S : Sch} {mask n : Nat} {C : CellS} (hk : keysOf S mask = some n) (h : ¬ (C.key < n ∧ 1 ≤ C.count ∧ C.ints.length = S.ints.length ∧ C.nums.length = S.nums.length ∧ C.ints.all okW = true ∧ C.nums.all okR = true)) : rightC S mask C = false := by
  rw [← Bool.not_eq_true]
  intro hh
  rw [rightC_some S mask n C hk] at hh
  simp only [Bool.and_eq_true, decide_eq_true_iff] at hh
  exact h ⟨hh.1.1.1.1.1, hh.1.1.1.1.2, hh.1.1.1.2, hh.1.1.2, hh.1.2, hh.2⟩
theorem rightC_yes {S : Sch} {mask n : Nat} {C : CellS} (hk : keysOf S mask = some n) (h1 : C.key < n) (h2 : 1 ≤ C.count) (h3 : C.ints.length = S.ints.length) (h4 : C.nums.length = S.nums.length) (h5 : C.ints.all okW = true) (h6 : C.nums.all okR = true) : rightC S mask C = true := by
  rw [rightC_some S mask n C hk, h5, h6]; simp [h1, h2, h3, h4]
set_option maxRecDepth 20000 in
set_option maxHeartbeats 16000000 in
theorem aggRight_any (w : World) (B : Nat) (v : Value) (S : Sch) (mask : Nat) (C : CellS) (D2 : Option Addr) (d2 : Nat) (D3 : Option Addr) (d3 : Nat) (h : SchAt w B v S) (ho : SchOk S) (hv : CellV w B C D2 d2 D3 d3) (hB : B ≤ w.heap.size) (hm : mask < 4294967296) :
    Calls Try.prog 42 #[v, .int .u32 (mask : Int), .agg #[.int .u64 (C.key : Int), .int .i64 C.count, .slice D2 C.ints.length d2, .slice D3 C.nums.length d3]] w fun y w' => y = .returned (.bool (rightC S mask C)) ∧ Below w.heap.size w w' := by
  have hh := h
  obtain ⟨A0, c0, A1, c1, A2, c2, A3, c3, rfl, r0, r1, r2, r3, b0, b1, b2, b3⟩ := hh
  clear r0 r1 r2 r3 b0 b1 b2 b3
  have hw1 := belA (belR w) (.cells #[.slice A0 S.dims.length c0, .slice A1 S.ints.length c1, .slice A2 S.nums.length c2, .slice A3 S.views.length c3] 26)
  have hw0 := belA hw1 (.cells #[.int .u64 (C.key : Int), .int .i64 C.count, .slice D2 C.ints.length d2, .slice D3 C.nums.length d3] 52)
  have ks := (Blk.new w 26 #[.slice A0 S.dims.length c0, .slice A1 S.ints.length c1, .slice A2 S.nums.length c2, .slice A3 S.views.length c3]).alloc (.cells #[.int .u64 (C.key : Int), .int .i64 C.count, .slice D2 C.ints.length d2, .slice D3 C.nums.length d3] 52)
  have kc := Blk.new (w.alloc (.cells #[.slice A0 S.dims.length c0, .slice A1 S.ints.length c1, .slice A2 S.nums.length c2, .slice A3 S.views.length c3] 26)) 52 #[.int .u64 (C.key : Int), .int .i64 C.count, .slice D2 C.ints.length d2, .slice D3 C.nums.length d3]
  have hgc : (w.alloc (.cells #[.slice A0 S.dims.length c0, .slice A1 S.ints.length c1, .slice A2 S.nums.length c2, .slice A3 S.views.length c3] 26)).heap.size = w.heap.size + 1 := by simp
  rw [hgc] at kc
  have hc := keys_any ((w.alloc (.cells #[.slice A0 S.dims.length c0, .slice A1 S.ints.length c1, .slice A2 S.nums.length c2, .slice A3 S.views.length c3] 26)).alloc (.cells #[.int .u64 (C.key : Int), .int .i64 C.count, .slice D2 C.ints.length d2, .slice D3 C.nums.length d3] 52)) B _ S mask (h.keep (hw0.mono hB) (Nat.le_refl _)) ho (by simp; omega) hm
  have HC := Lib.hid hc; have HW0 := Lib.hid hw0; have KS := Lib.hid ks; have KC := Lib.hid kc; have HV := Lib.hid hv
  have hml : C.ints.length ≤ 9223372036854775807 := by have h1 := hv.ints.1; have h2 := hv.ints.2.1; unfold maxLen at h2; omega
  have hmn : C.nums.length ≤ 9223372036854775807 := by have h1 := hv.nums.1; have h2 := hv.nums.2.1; unfold maxLen at h2; omega
  clear hc hw0 hw1 ks kc hgc h hv
  go_enter Try.func42, Try.ntmps42
  go_wp2_with fail
  (with_reducible refine HC.out.mono ?_); rintro y w1 ⟨rfl, hb1⟩
  generalize hW : (w.alloc (.cells #[.slice A0 S.dims.length c0, .slice A1 S.ints.length c1, .slice A2 S.nums.length c2, .slice A3 S.views.length c3] 26)).alloc (.cells #[.int .u64 (C.key : Int), .int .i64 C.count, .slice D2 C.ints.length d2, .slice D3 C.nums.length d3] 52) = W at *
  have hWz : W.heap.size = w.heap.size + 2 := by rw [← hW]; simp
  clear hW
  have hks := KS.out.below hb1 (by omega)
  have hkc := KC.out.below hb1 (by omega)
  have s1 := hks.cell 1; have s2 := hks.cell 2
  have m0 := hkc.cell 0; have m1 := hkc.cell 1; have m2 := hkc.cell 2; have m3 := hkc.cell 3
  simp at s1 s2 m0 m1 m2 m3
  have HB1 := Lib.hid hb1
  have HBW := Lib.hid (HW0.out.trans (hb1.mono (show w.heap.size ≤ _ by omega)))
  clear hb1 hks hkc HC
  cases hk : keysOf S mask with
  | none =>
    have HF := Lib.hid (rightC_none S mask C hk)
    simp only [Option.isSome_none, Option.getD_none]
    clear hk
    go_wp2
    go_ret
    exact ⟨(by rw [HF.out] <;> rfl), HBW.out⟩
  | some n =>
    simp only [Option.isSome_some, Option.getD_some]
    have HK := Lib.hid hk
    clear hk
    by_cases g1 : C.key < n
    case neg =>
      have t1 : decide ((n : Int) ≤ (C.key : Int)) = true := decide_eq_true (by omega)
      have HF := Lib.hid (rightC_no (C := C) HK.out fun hh => g1 hh.1)
      have n1 : n ≤ C.key := by omega
      clear g1
      go_wp2
      go_ret
      exact ⟨(by rw [HF.out] <;> rfl), HBW.out⟩
    have t1 : decide ((n : Int) ≤ (C.key : Int)) = false := decide_eq_false (by omega)
    have t1n : decide (n ≤ C.key) = false := decide_eq_false (by omega)
    by_cases g2 : 1 ≤ C.count
    case neg =>
      have t2 : decide (C.count < 1) = true := decide_eq_true (by omega)
      have HF := Lib.hid (rightC_no (C := C) HK.out fun hh => g2 hh.2.1)
      have n2 : C.count < 1 := by omega
      clear g2
      go_wp2
      go_ret
      exact ⟨(by rw [HF.out] <;> rfl), HBW.out⟩
    have t2 : decide (C.count < 1) = false := decide_eq_false (by omega)
    by_cases g3 : C.ints.length = S.ints.length
    case neg =>
      have t3 : ((C.ints.length : Int) != (S.ints.length : Int)) = true := by rw [bne_iff_ne]; omega
      have HF := Lib.hid (rightC_no (C := C) HK.out fun hh => g3 hh.2.2.1)
      clear g3
      go_wp2
      go_ret
      exact ⟨(by rw [HF.out] <;> rfl), HBW.out⟩
    have t3 : ((C.ints.length : Int) != (S.ints.length : Int)) = false := by rw [bne_eq_false_iff_eq]; omega
    by_cases g4 : C.nums.length = S.nums.length
    case neg =>
      have t4 : ((C.nums.length : Int) != (S.nums.length : Int)) = true := by rw [bne_iff_ne]; omega
      have HF := Lib.hid (rightC_no (C := C) HK.out fun hh => g4 hh.2.2.2.1)
      clear g4
      go_wp2
      go_ret
      exact ⟨(by rw [HF.out] <;> rfl), HBW.out⟩
    have t4 : ((C.nums.length : Int) != (S.nums.length : Int)) = false := by rw [bne_eq_false_iff_eq]; omega
    have HNO := Lib.hid fun (hb : ¬ (C.ints.all okW = true ∧ C.nums.all okR = true)) => rightC_no (C := C) HK.out fun hh => hb hh.2.2.2.2
    have HYES := Lib.hid fun (h5 : C.ints.all okW = true) (h6 : C.nums.all okR = true) => rightC_yes HK.out g1 g2 g3 g4 h5 h6
    clear g3 g4 HK
    go_wp2
    clear g1 g2 t1 t1n t2 t3 t4 s1 s2 m0 m1 m2
    go_loopw [55] (fun i wr => ∃ k : Nat, k ≤ C.ints.length ∧ i = .int .i64 (k : Int) ∧ Hid ((C.ints.take k).all okW = true) ∧ Hid (Below W.heap.size W wr)) (fun i _ => C.ints.length - (intOf i).toNat)
    case atStart => exact ⟨0, by omega, rfl, rfl, HB1.out⟩
    case round =>
      obtain ⟨k, hk, rfl, HA, HBl⟩ := hrel
      clear m3
      by_cases hlt : k < C.ints.length
      · obtain ⟨a, Aq, cq, ea, hab, x0, x1, x2, x3, x4, hRq, hq1, hq2, hq3, hs, ha, hmi, hmx⟩ := (HV.out.ints.keep ((HW0.out.trans (HBl.out.mono (show w.heap.size ≤ _ by omega))).mono hB) (Nat.le_refl _)).wholeAt hlt
        have q1 : (0 : Int) ≤ (k : Int) := by omega
        have q2 : (k : Int) < (C.ints.length : Int) := by omega
        have hts := all_take_succ okW C.ints k hlt
        rw [HA.out, Bool.true_and] at hts
        have HN1 := Lib.hid fun (hf : okW C.ints[k] = false) => HNO.out fun hh => by rw [all_no okW C.ints k hlt hf] at hh; exact absurd hh.1 (by decide)
        subst ea
        generalize C.ints[k] = X at *
        have hbx := belA (belR wr) (.cells #[.int .i64 X.sum, .int .i64 X.abs, .slice Aq X.sq.length cq, .int .i64 X.mn, .int .i64 X.mx] 114)
        have hbk := Blk.new wr 114 #[.int .i64 X.sum, .int .i64 X.abs, .slice Aq X.sq.length cq, .int .i64 X.mn, .int .i64 X.mx]
        have hzr : W.heap.size ≤ wr.heap.size := HBl.out.size
        have HBX := Lib.hid (HBl.out.trans (hbx.mono hzr)); have HTS := Lib.hid hts; have HKX := Lib.hid hbk
        have HBV : Hid (∀ W', Below W.heap.size W W' → Below w.heap.size w W') := Lib.hid fun W' hb => HW0.out.trans (hb.mono (show w.heap.size ≤ _ by omega))
        have HRQ := Lib.hid (hRq.below (hbx.mono (show B ≤ wr.heap.size by omega)))
        have hq2' := hq2
        unfold maxLen at hq2'
        clear hRq hbx hbk hts
        go_wp2
        generalize hX : wr.alloc (.cells #[.int .i64 X.sum, .int .i64 X.abs, .slice Aq X.sq.length cq, .int .i64 X.mn, .int .i64 X.mx] 114) = Wx at *
        clear x0 x1 x2 x3 x4
        have hzx : Wx.heap.size = wr.heap.size + 1 := by rw [← hX]; simp
        have hbn : wr.heap.size < Wx.heap.size := by omega
        clear hX
        generalize hbe : wr.heap.size = bn at *
        have y0 := HKX.out.cell 0; have y1 := HKX.out.cell 1; have y2 := HKX.out.cell 2; have y3 := HKX.out.cell 3; have y4 := HKX.out.cell 4
        simp at y0 y1 y2 y3 y4
        by_cases g1 : 0 ≤ X.abs
        case neg =>
          have t1 : decide (X.abs < 0) = true := decide_eq_true (by omega)
          have HF := Lib.hid (HN1.out (okW_no fun hh => g1 hh.1))
          clear g1
          go_quiet (fail)
          go_wp2
          go_ret
          exact ⟨(by rw [HF.out] <;> rfl), belD (HBV.out _ HBX.out) _⟩
        have t1 : decide (X.abs < 0) = false := decide_eq_false (by omega)
        by_cases g2 : X.sum ≤ X.abs
        case neg =>
          have t2 : decide (X.abs < X.sum) = true := decide_eq_true (by omega)
          have HF := Lib.hid (HN1.out (okW_no fun hh => g2 hh.2.1))
          clear g2
          go_quiet (fail)
          go_wp2
          go_ret
          exact ⟨(by rw [HF.out] <;> rfl), belD (HBV.out _ HBX.out) _⟩
        have t2 : decide (X.abs < X.sum) = false := decide_eq_false (by omega)
        have wneg : IntKind.i64.wrap (-X.abs) = -X.abs := IntWalk.i64_in _ (by omega)
        by_cases g3 : -X.abs ≤ X.sum
        case neg =>
          have t3 : decide (X.sum < -X.abs) = true := decide_eq_true (by omega)
          have HF := Lib.hid (HN1.out (okW_no fun hh => g3 hh.2.2.1))
          clear g3
          go_quiet (fail)
          go_wp2
          go_ret
          exact ⟨(by rw [HF.out] <;> rfl), belD (HBV.out _ HBX.out) _⟩
        have t3 : decide (X.sum < -X.abs) = false := decide_eq_false (by omega)
        by_cases g4 : X.mn ≤ X.mx
        case neg =>
          have t4 : decide (X.mx < X.mn) = true := decide_eq_true (by omega)
          have HF := Lib.hid (HN1.out (okW_no fun hh => g4 hh.2.2.2.1))
          clear g4
          go_quiet (fail)
          go_wp2
          go_ret
          exact ⟨(by rw [HF.out] <;> rfl), belD (HBV.out _ HBX.out) _⟩
        have t4 : decide (X.mx < X.mn) = false := decide_eq_false (by omega)
        by_cases g5 : X.sq.length ≤ 7
        case neg =>
          have t5 : decide ((7 : Int) < (X.sq.length : Int)) = true := decide_eq_true (by omega)
          have HF := Lib.hid (HN1.out (okW_no fun hh => g5 hh.2.2.2.2.1))
          clear g5
          go_quiet (fail)
          go_wp2
          go_ret
          exact ⟨(by rw [HF.out] <;> rfl), belD (HBV.out _ HBX.out) _⟩
        have t5 : decide ((7 : Int) < (X.sq.length : Int)) = false := decide_eq_false (by omega)
        have htr := trim_any Wx.drew B Aq cq X.sq HRQ.out.drew (by omega) hq1 hq2
        by_cases g6 : tsz X.sq = X.sq.length
        · have HT2 := Lib.hid (HTS.out.trans (okW_yes g1 g2 g3 g4 g5 g6))
          rw [g6] at htr
          have HT := Lib.hid htr
          have t6 : ((X.sq.length : Int) != (X.sq.length : Int)) = false := by simp
          clear htr g1 g2 g3 g4 g5 g6 HN1
          have HS : Hid (Wx.drew.cell? ⟨bn, 0, none⟩ = some (.int .i64 X.sum) ∧ Wx.drew.cell? ⟨bn, 1, none⟩ = some (.int .i64 X.abs) ∧ Wx.drew.cell? ⟨bn, 2, none⟩ = some (.slice Aq X.sq.length cq) ∧ Wx.drew.cell? ⟨bn, 3, none⟩ = some (.int .i64 X.mn) ∧ Wx.drew.cell? ⟨bn, 4, none⟩ = some (.int .i64 X.mx)) := Lib.hid ⟨y0, y1, y2, y3, y4⟩
          go_region_held (fun W => W.cell? ⟨bn, 0, none⟩ = some (.int .i64 X.sum) ∧ W.cell? ⟨bn, 1, none⟩ = some (.int .i64 X.abs) ∧ W.cell? ⟨bn, 2, none⟩ = some (.slice Aq X.sq.length cq) ∧ W.cell? ⟨bn, 3, none⟩ = some (.int .i64 X.mn) ∧ W.cell? ⟨bn, 4, none⟩ = some (.int .i64 X.mx)) (first | (with_reducible exact HS.out) | (exact hk5)) (first | (go_at_call 95; (with_reducible refine HT.out.mono ?_); rintro y w5 ⟨v5, rfl, ho5, hb5⟩; obtain ⟨A5, c5, rfl, _, _, _⟩ := own_form ho5; have hkx := HKX.out.drew.below hb5 hbn; have hk5 : w5.cell? ⟨bn, 0, none⟩ = some (.int .i64 X.sum) ∧ w5.cell? ⟨bn, 1, none⟩ = some (.int .i64 X.abs) ∧ w5.cell? ⟨bn, 2, none⟩ = some (.slice Aq X.sq.length cq) ∧ w5.cell? ⟨bn, 3, none⟩ = some (.int .i64 X.mn) ∧ w5.cell? ⟨bn, 4, none⟩ = some (.int .i64 X.mx) := ⟨hkx.cell 0, hkx.cell 1, hkx.cell 2, hkx.cell 3, hkx.cell 4⟩; have HB5 := Lib.hid (HBX.out.trans ((belD (belR Wx) 1).trans (hb5.mono (Nat.le_refl _)) |>.mono (by omega))); clear hb5 hkx ho5))
          all_goals
            go_wp2
            go_roundw
            case rel => exact ⟨k + 1, by omega, by go_num, HT2.out, HB5.out⟩
            case measure => simp [intOf]; omega
        · have HF := Lib.hid (HN1.out (okW_no fun hh => g6 hh.2.2.2.2.2))
          have HT := Lib.hid htr
          have t6 : ((tsz X.sq : Int) != (X.sq.length : Int)) = true := by rw [bne_iff_ne]; omega
          clear htr g1 g2 g3 g4 g5 g6 HN1
          have HS : Hid (Wx.drew.cell? ⟨bn, 0, none⟩ = some (.int .i64 X.sum) ∧ Wx.drew.cell? ⟨bn, 1, none⟩ = some (.int .i64 X.abs) ∧ Wx.drew.cell? ⟨bn, 2, none⟩ = some (.slice Aq X.sq.length cq) ∧ Wx.drew.cell? ⟨bn, 3, none⟩ = some (.int .i64 X.mn) ∧ Wx.drew.cell? ⟨bn, 4, none⟩ = some (.int .i64 X.mx)) := Lib.hid ⟨y0, y1, y2, y3, y4⟩
          go_region_held (fun W => W.cell? ⟨bn, 0, none⟩ = some (.int .i64 X.sum) ∧ W.cell? ⟨bn, 1, none⟩ = some (.int .i64 X.abs) ∧ W.cell? ⟨bn, 2, none⟩ = some (.slice Aq X.sq.length cq) ∧ W.cell? ⟨bn, 3, none⟩ = some (.int .i64 X.mn) ∧ W.cell? ⟨bn, 4, none⟩ = some (.int .i64 X.mx)) (first | (with_reducible exact HS.out) | (exact hk5)) (first | (go_at_call 95; (with_reducible refine HT.out.mono ?_); rintro y w5 ⟨v5, rfl, ho5, hb5⟩; obtain ⟨A5, c5, rfl, _, _, _⟩ := own_form ho5; have hkx := HKX.out.drew.below hb5 hbn; have hk5 : w5.cell? ⟨bn, 0, none⟩ = some (.int .i64 X.sum) ∧ w5.cell? ⟨bn, 1, none⟩ = some (.int .i64 X.abs) ∧ w5.cell? ⟨bn, 2, none⟩ = some (.slice Aq X.sq.length cq) ∧ w5.cell? ⟨bn, 3, none⟩ = some (.int .i64 X.mn) ∧ w5.cell? ⟨bn, 4, none⟩ = some (.int .i64 X.mx) := ⟨hkx.cell 0, hkx.cell 1, hkx.cell 2, hkx.cell 3, hkx.cell 4⟩; have HB5 := Lib.hid (HBX.out.trans ((belD (belR Wx) 1).trans (hb5.mono (Nat.le_refl _)) |>.mono (by omega))); clear hb5 hkx ho5))
          all_goals
            go_wp2
            go_ret
            exact ⟨(by rw [HF.out] <;> rfl), HBV.out _ HB5.out⟩
      · obtain rfl : k = C.ints.length := by omega
        rw [List.take_length] at HA
        have hkc := KC.out.below HBl.out (by omega)
        have m3 := hkc.cell 3
        simp at m3
        clear hkc
        have HA1 := HA; have HB2 := HBl
        clear HA HBl
        go_wp2
        go_loopw [104] (fun i ws => ∃ k : Nat, k ≤ C.nums.length ∧ i = .int .i64 (k : Int) ∧ Hid ((C.nums.take k).all okR = true) ∧ Hid (Below W.heap.size W ws)) (fun i _ => C.nums.length - (intOf i).toNat)
        case atStart => exact ⟨0, by omega, rfl, rfl, HB2.out⟩
        case round =>
          obtain ⟨k, hk, rfl, HA, HBl⟩ := hrel
          clear m3
          by_cases hlt : k < C.nums.length
          · obtain ⟨a, Aq, cq, ea, hab, x0, x1, x2, hRq, hq1, hq2, hmi, hmx⟩ := (HV.out.nums.keep ((HW0.out.trans (HBl.out.mono (show w.heap.size ≤ _ by omega))).mono hB) (Nat.le_refl _)).realAt hlt
            have q1 : (0 : Int) ≤ (k : Int) := by omega
            have q2 : (k : Int) < (C.nums.length : Int) := by omega
            have hts := all_take_succ okR C.nums k hlt
            rw [HA.out, Bool.true_and] at hts
            have HN1 := Lib.hid fun (hf : okR C.nums[k] = false) => HNO.out fun hh => by rw [all_no okR C.nums k hlt hf] at hh; exact absurd hh.2 (by decide)
            subst ea
            generalize C.nums[k] = X at *
            have hbx := belA (belR wr) (.cells #[.slice Aq X.sum.length cq, .float .f64 X.mn, .float .f64 X.mx] 117)
            have hbk := Blk.new wr 117 #[.slice Aq X.sum.length cq, .float .f64 X.mn, .float .f64 X.mx]
            have hzr : W.heap.size ≤ wr.heap.size := HBl.out.size
            have hq2' := hq2
            unfold maxLen at hq2'
            have hrd := read_any (wr.alloc (.cells #[.slice Aq X.sum.length cq, .float .f64 X.mn, .float .f64 X.mx] 117)) B Aq cq X.sum (hRq.below (hbx.mono (show B ≤ wr.heap.size by omega))) (by simp; omega) (by omega)
            have HBX := Lib.hid (HBl.out.trans (hbx.mono hzr)); have HTS := Lib.hid hts; have HKX := Lib.hid hbk; have HRD := Lib.hid hrd
            have HBV : Hid (∀ W', Below W.heap.size W W' → Below w.heap.size w W') := Lib.hid fun W' hb => HW0.out.trans (hb.mono (show w.heap.size ≤ _ by omega))
            clear hRq hbx hbk hts hrd
            go_wp2_with fail
            (with_reducible refine HRD.out.mono ?_); rintro y w5 ⟨p, rfl, _, hb5⟩
            have hkx := HKX.out.below hb5 (by simp)
            have y1 := hkx.cell 1; have y2 := hkx.cell 2
            simp at y1 y2
            have HB5 := Lib.hid (HBX.out.trans (hb5.mono (by simp; omega)))
            clear hb5 hkx HKX HBX HRD x0 x1 x2
            by_cases g1 : readE X.sum = 0
            · rw [g1]
              have hls := less_flo X.mx X.mn w5 hmx hmi
              by_cases g2 : keyB X.mn ≤ keyB X.mx
              · have e : decide (keyB X.mx < keyB X.mn) = false := decide_eq_false (by omega)
                rw [e] at hls
                have HLS := Lib.hid hls; have HT2 := Lib.hid (HTS.out.trans (okR_yes g1 g2))
                clear hls e g1 g2
                go_wp2_with (go_at_call 97; (with_reducible refine HLS.out.mono ?_); rintro y w6 ⟨rfl, rfl⟩)
                go_roundw
                case rel => exact ⟨k + 1, by omega, by go_num, HT2.out, HB5.out⟩
                case measure => simp [intOf]; omega
              · have e : decide (keyB X.mx < keyB X.mn) = true := decide_eq_true (by omega)
                rw [e] at hls
                have HLS := Lib.hid hls; have HF := Lib.hid (HN1.out (okR_no fun hh => g2 hh.2))
                clear hls e g1 g2
                go_wp2_with (go_at_call 97; (with_reducible refine HLS.out.mono ?_); rintro y w6 ⟨rfl, rfl⟩)
                go_ret
                exact ⟨(by rw [HF.out] <;> rfl), HBV.out _ HB5.out⟩
            · have t1 := i64_ne0 g1
              have HF := Lib.hid (HN1.out (okR_no fun hh => g1 hh.1))
              clear g1
              go_wp2
              go_ret
              exact ⟨(by rw [HF.out] <;> rfl), HBV.out _ HB5.out⟩
          · obtain rfl : k = C.nums.length := by omega
            rw [List.take_length] at HA
            have HT := Lib.hid (HYES.out HA1.out HA.out)
            have HBV := Lib.hid (HW0.out.trans (HBl.out.mono (show w.heap.size ≤ _ by omega)))
            go_wp2
            go_ret
            exact ⟨(by rw [HT.out] <;> rfl), HBV.out⟩
end Go.Proofs.Ytfhmaincnlaapaa
namespace Go.Proofs.Ytfhmaincnlaapaa
open Go.ChangeShapes Go.WideShapes Go.ChangeAt Go.RowKit
set_option linter.unusedVariables false

theorem risingC_no {l : List CellS} {k : Nat} (hk : k + 1 < l.length) (h : ¬ kyC l k < kyC l (k + 1)) : risingC l = false := by
  rw [← Bool.not_eq_true, risingC_iff]; intro hh; exact h (hh k hk)
set_option maxRecDepth 20000 in
theorem risingC_any (w : World) (B : Nat) (A : Option Addr) (c : Nat) (l : List CellS) (g : SlR cellR w B l A c) :
    Calls Try.prog 113 #[.slice A l.length c] w fun y w' => y = .returned (.bool (risingC l)) ∧ Drw w w' := by
  have hml : l.length ≤ 9223372036854775807 := by have h1 := g.1; have h2 := g.2.1; unfold maxLen at h2; omega
  have G := Lib.hid g
  clear g
  go_enter Try.func113, Try.ntmps113
  go_wp2
  go_loopw [3] (fun i wr => ∃ n k : Nat, k + 1 = n ∧ i = .int .i64 (n : Int) ∧ k ≤ l.length ∧ Hid (∀ j, j < k → j + 1 < l.length → kyC l j < kyC l (j + 1)) ∧ Hid (Drw w wr)) (fun i _ => l.length + 1 - (intOf i).toNat)
  case atStart => exact ⟨1, 0, rfl, rfl, by omega, fun j hj => absurd hj (by omega), Drw.refl w⟩
  case round =>
    obtain ⟨n, k, hn, rfl, hk, HU, HD⟩ := hrel
    by_cases hlt : n < l.length
    · obtain ⟨j, rfl⟩ := HD.out
      obtain ⟨a, A2, c2, A3, c3, rfl, hab, x0, _, _, _, hv⟩ := G.out.cellAt hlt
      obtain ⟨a', A2', c2', A3', c3', ea, _, y0, _, _, _, hv'⟩ := G.out.cellAt (k := k) (by omega)
      injection ea with ea; subst ea
      have w1 : IntKind.i64.wrap ((n : Int) - 1) = (k : Int) := by rw [IntWalk.i64_in _ (by omega)]; omega
      have q1 : (0 : Int) ≤ (n : Int) := by omega
      have q2 : (n : Int) < (l.length : Int) := by omega
      have q3 : (0 : Int) ≤ (k : Int) := by omega
      have q4 : (k : Int) < (l.length : Int) := by omega
      have z0 : w.cell? (a.add (n * 4)) = some (.int .u64 (l[n].key : Int)) := x0
      have z1 : w.cell? (a.add (k * 4)) = some (.int .u64 (l[k].key : Int)) := y0
      rw [kyC_get] at z0 z1
      have hno := risingC_no (l := l) (k := k) (by omega)
      rw [hn] at hno
      by_cases hc : kyC l n ≤ kyC l k
      · have t1 : decide ((kyC l n : Int) ≤ (kyC l k : Int)) = true := decide_eq_true (by omega)
        have t1n : decide (kyC l n ≤ kyC l k) = true := decide_eq_true (by omega)
        have HN := Lib.hid (hno (by omega))
        have HNN := Lib.hid hn
        clear hno hc x0 y0 hv hv'
        generalize kyC l n = p at *
        generalize kyC l k = q at *
        go_wp2
        go_quiet (fail)
        go_wp2
        go_ret
        first | exact ⟨(by rw [HN.out] <;> rfl), HD.out.drewN _⟩ | exact ⟨(by rw [HN.out] <;> rfl), ⟨_, rfl⟩⟩
      · have t1 : decide ((kyC l n : Int) ≤ (kyC l k : Int)) = false := decide_eq_false (by omega)
        have t1n : decide (kyC l n ≤ kyC l k) = false := decide_eq_false (by omega)
        have HN : Hid (∀ j, j < n → j + 1 < l.length → kyC l j < kyC l (j + 1)) := Lib.hid fun j hj hjl => by
          by_cases e : j = k
          · subst e; rw [hn]; omega
          · exact HU.out j (by omega) hjl
        have HNN := Lib.hid hn
        clear hno hc x0 y0 hv hv'
        generalize kyC l n = p at *
        generalize kyC l k = q at *
        go_wp2
        go_quiet (fail)
        go_wp2
        go_roundw
        case rel => exact ⟨n + 1, n, rfl, by go_num, by omega, HN.out, Lib.hid ⟨_, rfl⟩⟩
        case measure => simp [intOf]; omega
    · have HT := Lib.hid ((risingC_iff l).2 fun j hj => HU.out j (by omega) hj)
      skip
      go_wp2
      go_ret
      exact ⟨(by rw [HT.out] <;> rfl), HD.out⟩
theorem rightL_no {S : Sch} {mask : Nat} {l : List CellS} (h : ¬ (∃ n, keysOf S mask = some n) ∨ risingC l = false ∨ l.all (rightC S mask) = false) : rightL S mask l = false := by
  unfold rightL
  rcases h with h | h | h
  · cases hk : keysOf S mask with
    | none => simp
    | some n => exact absurd ⟨n, hk⟩ h
  · rw [h]; simp
  · rw [h]; simp
set_option maxRecDepth 20000 in
set_option maxHeartbeats 8000000 in
theorem cellsRight_any (w : World) (B : Nat) (v : Value) (S : Sch) (A : Option Addr) (c : Nat) (l : List CellS) (mask : Nat) (h : SchAt w B v S) (ho : SchOk S) (g : SlR cellR w B l A c) (hB : B ≤ w.heap.size) (hm : mask < 4294967296) :
    Calls Try.prog 55 #[v, .int .u32 (mask : Int), .slice A l.length c] w fun y w' => y = .returned (.bool (rightL S mask l)) ∧ Below w.heap.size w w' := by
  have hml : l.length ≤ 9223372036854775807 := by have h1 := g.1; have h2 := g.2.1; unfold maxLen at h2; omega
  have hh := h
  obtain ⟨A0, c0, A1, c1, A2, c2, A3, c3, rfl, r0, r1, r2, r3, b0, b1, b2, b3⟩ := hh
  clear r0 r1 r2 r3 b0 b1 b2 b3
  have hw0 := belA (belR w) (.cells #[.slice A0 S.dims.length c0, .slice A1 S.ints.length c1, .slice A2 S.nums.length c2, .slice A3 S.views.length c3] 26)
  have ks := Blk.new w 26 #[.slice A0 S.dims.length c0, .slice A1 S.ints.length c1, .slice A2 S.nums.length c2, .slice A3 S.views.length c3]
  have hc := keys_any (w.alloc (.cells #[.slice A0 S.dims.length c0, .slice A1 S.ints.length c1, .slice A2 S.nums.length c2, .slice A3 S.views.length c3] 26)) B _ S mask (h.keep (hw0.mono hB) (Nat.le_refl _)) ho (by simp; omega) hm
  have HC := Lib.hid hc; have HW0 := Lib.hid hw0; have KS := Lib.hid ks; have G := Lib.hid g; have H := Lib.hid h
  clear hc hw0 ks g h
  go_enter Try.func55, Try.ntmps55
  go_wp2_with fail
  (with_reducible refine HC.out.mono ?_); rintro y w1 ⟨rfl, hb1⟩
  generalize hW : w.alloc (.cells #[.slice A0 S.dims.length c0, .slice A1 S.ints.length c1, .slice A2 S.nums.length c2, .slice A3 S.views.length c3] 26) = W at *
  have hWz : W.heap.size = w.heap.size + 1 := by rw [← hW]; simp
  clear hW
  have HB1 := Lib.hid hb1
  have HBV : Hid (∀ W', Below W.heap.size W W' → Below w.heap.size w W') := Lib.hid fun W' hb => HW0.out.trans (hb.mono (show w.heap.size ≤ _ by omega))
  clear hb1 HC
  cases hk : keysOf S mask with
  | none =>
    have HF := Lib.hid (rightL_no (S := S) (mask := mask) (l := l) (.inl fun ⟨n, hn⟩ => by rw [hk] at hn; cases hn))
    simp only [Option.isSome_none, Option.getD_none]
    clear hk
    go_wp2
    go_ret
    exact ⟨(by rw [HF.out] <;> rfl), HBV.out _ HB1.out⟩
  | some n =>
    simp only [Option.isSome_some, Option.getD_some]
    have HK := Lib.hid hk
    clear hk
    have hri := risingC_any w1 B A c l (G.out.keep ((HBV.out _ HB1.out).mono hB) (Nat.le_refl _))
    cases hr : risingC l with
    | false =>
      rw [hr] at hri
      have HF := Lib.hid (rightL_no (S := S) (mask := mask) (.inr (.inl hr)))
      have HRI := Lib.hid hri
      clear hri hr
      go_wp2_with (go_at_call 113; (with_reducible refine HRI.out.mono ?_); rintro y w2 ⟨rfl, hd2⟩)
      go_ret
      exact ⟨(by rw [HF.out] <;> rfl), hd2.below (HBV.out _ HB1.out)⟩
    | true =>
      rw [hr] at hri
      have HRI := Lib.hid hri; have HR := Lib.hid hr
      clear hri hr
      go_wp2_with (go_at_call 113; (with_reducible refine HRI.out.mono ?_); rintro y w2 ⟨rfl, hd2⟩; have HB2 := Lib.hid (hd2.below HB1.out); clear hd2)
      go_loopw [26] (fun i wr => ∃ k : Nat, k ≤ l.length ∧ i = .int .i64 (k : Int) ∧ Hid ((l.take k).all (rightC S mask) = true) ∧ Hid (Below W.heap.size W wr)) (fun i _ => l.length - (intOf i).toNat)
      case atStart => exact ⟨0, by omega, rfl, rfl, HB2.out⟩
      case round =>
        obtain ⟨k, hk, rfl, HA, HBl⟩ := hrel
        by_cases hlt : k < l.length
        · obtain ⟨a, D2, d2, D3, d3, ea, hab, x0, x1, x2, x3, hv⟩ := (G.out.keep ((HBV.out _ HBl.out).mono hB) (Nat.le_refl _)).cellAt hlt
          have q1 : (0 : Int) ≤ (k : Int) := by omega
          have q2 : (k : Int) < (l.length : Int) := by omega
          have hts := all_take_succ (rightC S mask) l k hlt
          rw [HA.out, Bool.true_and] at hts
          have HN1 := Lib.hid fun (hf : rightC S mask l[k] = false) => rightL_no (S := S) (mask := mask) (.inr (.inr (all_no _ l k hlt hf)))
          subst ea
          generalize l[k] = C at *
          have hbx := belA (belR wr) (.cells #[.int .u64 (C.key : Int), .int .i64 C.count, .slice D2 C.ints.length d2, .slice D3 C.nums.length d3] 52)
          have hzr : W.heap.size ≤ wr.heap.size := HBl.out.size
          have hkx := KS.out.below (HBl.out.trans (hbx.mono hzr)) (by omega)
          have s0 := hkx.cell 0; have s1 := hkx.cell 1; have s2 := hkx.cell 2; have s3 := hkx.cell 3
          simp at s0 s1 s2 s3
          have har := aggRight_any (wr.alloc (.cells #[.int .u64 (C.key : Int), .int .i64 C.count, .slice D2 C.ints.length d2, .slice D3 C.nums.length d3] 52)) B _ S mask C D2 d2 D3 d3 (H.out.keep ((HBV.out _ (HBl.out.trans (hbx.mono hzr))).mono hB) (Nat.le_refl _)) ho (hv.keep (hbx.mono (show B ≤ wr.heap.size by omega)) (Nat.le_refl _)) (by simp; omega) hm
          have HBX := Lib.hid (HBl.out.trans (hbx.mono hzr))
          have k0 := (KS.out.below HBl.out (by omega)).cell 0; have k1 := (KS.out.below HBl.out (by omega)).cell 1; have k2 := (KS.out.below HBl.out (by omega)).cell 2; have k3 := (KS.out.below HBl.out (by omega)).cell 3
          simp at k0 k1 k2 k3
          cases hr : rightC S mask C with
          | false =>
            rw [hr] at har
            have HF := Lib.hid (HN1.out hr)
            have HAR := Lib.hid har
            clear har hr hbx hkx hts hv
            go_wp2_with (go_at_call 42; (with_reducible refine HAR.out.mono ?_); rintro y w2 ⟨rfl, hb2⟩; have HB3 := Lib.hid (HBX.out.trans (hb2.mono (by simp; omega))); clear hb2)
            go_ret
            exact ⟨(by rw [HF.out] <;> rfl), HBV.out _ HB3.out⟩
          | true =>
            rw [hr] at har
            have HT := Lib.hid (hts.trans hr)
            have HAR := Lib.hid har
            clear har hr hbx hkx hts hv
            go_wp2_with (go_at_call 42; (with_reducible refine HAR.out.mono ?_); rintro y w2 ⟨rfl, hb2⟩; have HB3 := Lib.hid (HBX.out.trans (hb2.mono (by simp; omega))); clear hb2)
            go_roundw
            case rel => exact ⟨k + 1, by omega, by go_num, HT.out, HB3.out⟩
            case measure => simp [intOf]; omega
        · obtain rfl : k = l.length := by omega
          rw [List.take_length] at HA
          have HT : Hid (rightL S mask l = true) := Lib.hid (by unfold rightL; rw [HK.out, HR.out, HA.out]; rfl)
          go_wp2
          go_ret
          exact ⟨(by rw [HT.out] <;> rfl), HBV.out _ HBl.out⟩
end Go.Proofs.Ytfhmaincnlaapaa
namespace Go.Proofs.Ytfhmaincnlaapaa
open Go.ChangeShapes Go.WideShapes Go.ChangeAt Go.RowKit
set_option linter.unusedVariables false

/-- the base, and the other views -/
def viewsL (S : Sch) : List Int := (fullN S : Int) :: S.views
theorem viewsL_len (S : Sch) : (viewsL S).length = S.views.length + 1 := rfl
theorem u32s_one (l : List Int) : ∀ u ∈ u32s l, u.oneCell' = true := by intro u hu; obtain ⟨x, _, rfl⟩ := List.mem_map.1 hu; rfl
theorem fullP_ok {S : Sch} (h : checkN S = 0) : fullP S = fullN S := if_pos h
theorem viewsR {w : World} {base : Nat} {v : Value} {S : Sch} {p : Nat} (h : w.ownsRow base 33 1 v (1 + S.views.length) ([.int .u32 (p : Int)] ++ u32s S.views)) (hp : p = fullN S) : w.ownsRow base 33 1 v (viewsL S).length (u32s (viewsL S)) := by
  subst hp
  rw [viewsL_len, Nat.add_comm]
  exact h
set_option maxRecDepth 20000 in
set_option maxHeartbeats 4000000 in
theorem views_any (w : World) (B : Nat) (v : Value) (S : Sch) (h : SchAt w B v S) (ho : SchOk S) (hB : B ≤ w.heap.size) (h0 : checkN S = 0) :
    Calls Try.prog 47 #[v] w fun y w' => ∃ v', y = .returned v' ∧ w'.ownsRow w.heap.size 33 1 v' (viewsL S).length (u32s (viewsL S)) ∧ Below w.heap.size w w' := by
  obtain ⟨hm, _⟩ := checkN_zero h0
  unfold manyOk at hm
  have hv15 : S.views.length ≤ 15 := hm.2.2.2.2
  have hh := h
  obtain ⟨A0, c0, A1, c1, A2, c2, A3, c3, rfl, r0, r1, r2, r3, b0, b1, b2, b3⟩ := hh
  have hone := u32s_one S.views
  have hw0 := belA (belR w) (.cells #[.slice A0 S.dims.length c0, .slice A1 S.ints.length c1, .slice A2 S.nums.length c2, .slice A3 S.views.length c3] 26)
  have hc := schemaCheck_any (w.alloc (.cells #[.slice A0 S.dims.length c0, .slice A1 S.ints.length c1, .slice A2 S.nums.length c2, .slice A3 S.views.length c3] 26)) B _ S (h.keep (hw0.mono hB) (Nat.le_refl _)) ho (by simp; omega)
  rw [h0] at hc
  have K0 := Lib.hid (Blk.new w 26 #[.slice A0 S.dims.length c0, .slice A1 S.ints.length c1, .slice A2 S.nums.length c2, .slice A3 S.views.length c3])
  have HW0 := Lib.hid hw0; have HC := Lib.hid hc; have H := Lib.hid h; have R3 := Lib.hid r3; have HONE := Lib.hid hone; have HFP := Lib.hid (fullP_ok h0)
  clear hw0 h r0 r1 r2 r3 b0 b1 b2 b3 hc hone hm h0
  go_enter Try.func47, Try.ntmps47
  go_wp2_with (go_at_call 46; (with_reducible refine HC.out.mono ?_); rintro y w1 ⟨rfl, hb1⟩; have HB1 := Lib.hid (HW0.out.trans (hb1.mono (show w.heap.size ≤ _ by simp))); have K1 := Lib.hid (K0.out.below hb1 (by simp)); clear hb1)
  have HFUL := Lib.hid (full_any w1.drew B _ S (H.out.keep (HB1.out.drew.mono hB) (Nat.le_refl _)) ho (Nat.le_trans hB HB1.out.size))
  have s0 : w1.drew.cell? ⟨w.heap.size, 0, none⟩ = some (.slice A0 S.dims.length c0) := K1.out.cell 0
  have s1 : w1.drew.cell? ⟨w.heap.size, 1, none⟩ = some (.slice A1 S.ints.length c1) := K1.out.cell 1
  have s2 : w1.drew.cell? ⟨w.heap.size, 2, none⟩ = some (.slice A2 S.nums.length c2) := K1.out.cell 2
  have s3 : w1.drew.cell? ⟨w.heap.size, 3, none⟩ = some (.slice A3 S.views.length c3) := K1.out.cell 3
  generalize hp : fullP S = p at *
  have HP := Lib.hid hp; clear hp
  go_region_law (first
    | (refine step_appSD (some 11) (by rfl) (by rfl) (.tmp 8) (.tmp 10) 24 (by rfl) w.heap.size 33 (.int .u32 0) 1 4 info_u32 rfl (by decide) Try.underlying24 (.slice (some ⟨w2.heap.size, 0, none⟩) 1 1) 1 [.int .u32 (p : Int)] HOW.out B A3 S.views.length c3 (u32s S.views) HRV.out (by rfl) (by rfl) HONE.out (by omega) (by omega) hz2 ?_; intro v5 w5 ho5 hap5; have HO5 := Lib.hid ho5; have HB5 := Lib.hid ((HB2.out.alloc hzb _).trans (hap5.below hz2 HOW.out)); clear ho5 hap5)
    | (go_simp; go_at_call 103; (with_reducible refine HFUL.out.mono ?_); rintro y w2 ⟨rfl, hb2⟩; have hzb : w.heap.size ≤ w2.heap.size := Nat.le_trans HB1.out.size hb2.size; have hz2 : w.heap.size ≤ (w2.alloc (.cells #[.int .u32 (p : Int)] 33)).heap.size := (by simp; omega); have HB2 := Lib.hid (HB1.out.drew.trans (hb2.mono HB1.out.size)); have k2 := K1.out.drew.below hb2 (by have := HB1.out.size; have := K1.out.lt; exact K1.out.lt); have HRV := Lib.hid ((R3.out.below (HB2.out.mono hB)).alloc (by omega) (.cells #[.int .u32 (p : Int)] 33)); have HOW : Hid ((w2.alloc (.cells #[.int .u32 (p : Int)] 33)).ownsRow w.heap.size 33 1 (.slice (some ⟨w2.heap.size, 0, none⟩) 1 1) 1 [.int .u32 (p : Int)]) := Lib.hid (own_lit1 w2 (.int .u32 (p : Int)) w.heap.size hzb 33); have s4 : w2.cell? ⟨w.heap.size, 3, none⟩ = some (.slice A3 S.views.length c3) := k2.cell 3; have s5 : (w2.alloc (.cells #[.int .u32 (p : Int)] 33)).cell? ⟨w.heap.size, 3, none⟩ = some (.slice A3 S.views.length c3) := (k2.alloc _).cell 3; clear hb2 k2))
  all_goals
    go_wp2
    go_ret
    exact ⟨_, rfl, viewsR HO5.out HFP.out, HB5.out⟩
set_option maxRecDepth 20000 in
theorem refFull_any (w : World) (B : Nat) (v : Value) (S : Sch) (h : SchAt w B v S) (hB : B ≤ w.heap.size) (h1 : 1 ≤ S.dims.length) (h6 : S.dims.length ≤ 6) :
    Calls Try.prog 13 #[v] w fun y w' => y = .returned (.int .u32 (fullN S : Int)) ∧ Below w.heap.size w w' := by
  have hle := fullN_le h1 h6
  have hh := h
  obtain ⟨A0, c0, A1, c1, A2, c2, A3, c3, rfl, r0, r1, r2, r3, b0, b1, b2, b3⟩ := hh
  clear r0 r1 r2 r3 h
  have hw0 := belA (belR w) (.cells #[.slice A0 S.dims.length c0, .slice A1 S.ints.length c1, .slice A2 S.nums.length c2, .slice A3 S.views.length c3] 26)
  have HW0 := Lib.hid hw0
  have HT := Lib.hid (fun W => two_any W S.dims.length (by omega))
  have hp2 : fullN S = p2 S.dims.length - 1 := rfl
  have e : IntKind.u32.wrap ((p2 S.dims.length : Int) - 1) = (fullN S : Int) := by rw [IntKind.wrap_u32]; omega
  have e2 : (p2 S.dims.length : Int) - 1 = (fullN S : Int) := by omega
  have e3 : IntKind.u32.wrap (fullN S : Int) = (fullN S : Int) := by rw [IntKind.wrap_u32]; omega
  generalize fullN S = f at *
  generalize p2 S.dims.length = q at *
  clear hw0 hp2
  go_enter Try.func13, Try.ntmps13
  go_wp2_with (go_at_call 44; (with_reducible refine (HT.out _).mono ?_); rintro y w1 ⟨rfl, rfl⟩)
  go_ret
  first
  | exact ⟨rfl, HW0.out⟩
  | exact ⟨by rw [e2], HW0.out⟩
set_option maxRecDepth 20000 in
set_option maxHeartbeats 4000000 in
theorem refViews_any (w : World) (B : Nat) (v : Value) (S : Sch) (h : SchAt w B v S) (ho : SchOk S) (hB : B ≤ w.heap.size) (h0 : checkN S = 0) :
    Calls Try.prog 48 #[v] w fun y w' => ∃ v', y = .returned v' ∧ w'.ownsRow w.heap.size 33 1 v' (viewsL S).length (u32s (viewsL S)) ∧ Below w.heap.size w w' := by
  obtain ⟨hm, _⟩ := checkN_zero h0
  unfold manyOk at hm
  have hv15 : S.views.length ≤ 15 := hm.2.2.2.2
  have hh := h
  obtain ⟨A0, c0, A1, c1, A2, c2, A3, c3, rfl, r0, r1, r2, r3, b0, b1, b2, b3⟩ := hh
  have hone := u32s_one S.views
  have hw0 := belA (belR w) (.cells #[.slice A0 S.dims.length c0, .slice A1 S.ints.length c1, .slice A2 S.nums.length c2, .slice A3 S.views.length c3] 26)
  have K0 := Lib.hid (Blk.new w 26 #[.slice A0 S.dims.length c0, .slice A1 S.ints.length c1, .slice A2 S.nums.length c2, .slice A3 S.views.length c3])
  have HW0 := Lib.hid hw0; have H := Lib.hid h; have R3 := Lib.hid r3; have HONE := Lib.hid hone; have HD6 := Lib.hid (show 1 ≤ S.dims.length ∧ S.dims.length ≤ 6 from ⟨hm.1, hm.2.1⟩)
  clear hw0 h r0 r1 r2 r3 b0 b1 b2 b3 hone hm h0
  go_enter Try.func48, Try.ntmps48
  go_wp2
  generalize hW1 : w.alloc (.cells #[.slice A0 S.dims.length c0, .slice A1 S.ints.length c1, .slice A2 S.nums.length c2, .slice A3 S.views.length c3] 26) = w1 at *
  have HB1 := HW0
  have K1 := K0
  clear hW1
  have HFUL := Lib.hid (refFull_any w1.drew B _ S (H.out.keep (HB1.out.drew.mono hB) (Nat.le_refl _)) (Nat.le_trans hB HB1.out.size) HD6.out.1 HD6.out.2)
  have s0 : w1.drew.cell? ⟨w.heap.size, 0, none⟩ = some (.slice A0 S.dims.length c0) := K1.out.cell 0
  have s1 : w1.drew.cell? ⟨w.heap.size, 1, none⟩ = some (.slice A1 S.ints.length c1) := K1.out.cell 1
  have s2 : w1.drew.cell? ⟨w.heap.size, 2, none⟩ = some (.slice A2 S.nums.length c2) := K1.out.cell 2
  have s3 : w1.drew.cell? ⟨w.heap.size, 3, none⟩ = some (.slice A3 S.views.length c3) := K1.out.cell 3
  obtain ⟨p, hp⟩ : ∃ p, fullN S = p := ⟨_, rfl⟩
  rw [hp] at HFUL
  have HFP := Lib.hid hp.symm; clear hp
  go_region_law (first
    | (refine step_appSD (some 8) (by rfl) (by rfl) (.tmp 5) (.tmp 7) 24 (by rfl) w.heap.size 33 (.int .u32 0) 1 4 info_u32 rfl (by decide) Try.underlying24 (.slice (some ⟨w2.heap.size, 0, none⟩) 1 1) 1 [.int .u32 (p : Int)] HOW.out B A3 S.views.length c3 (u32s S.views) HRV.out (by rfl) (by rfl) HONE.out (by omega) (by omega) hz2 ?_; intro v5 w5 ho5 hap5; have HO5 := Lib.hid ho5; have HB5 := Lib.hid ((HB2.out.alloc hzb _).trans (hap5.below hz2 HOW.out)); clear ho5 hap5)
    | (go_simp; go_at_call 13; (with_reducible refine HFUL.out.mono ?_); rintro y w2 ⟨rfl, hb2⟩; have hzb : w.heap.size ≤ w2.heap.size := Nat.le_trans HB1.out.size hb2.size; have hz2 : w.heap.size ≤ (w2.alloc (.cells #[.int .u32 (p : Int)] 33)).heap.size := (by simp; omega); have HB2 := Lib.hid (HB1.out.drew.trans (hb2.mono HB1.out.size)); have k2 := K1.out.drew.below hb2 (by have := HB1.out.size; have := K1.out.lt; exact K1.out.lt); have HRV := Lib.hid ((R3.out.below (HB2.out.mono hB)).alloc (by omega) (.cells #[.int .u32 (p : Int)] 33)); have HOW : Hid ((w2.alloc (.cells #[.int .u32 (p : Int)] 33)).ownsRow w.heap.size 33 1 (.slice (some ⟨w2.heap.size, 0, none⟩) 1 1) 1 [.int .u32 (p : Int)]) := Lib.hid (own_lit1 w2 (.int .u32 (p : Int)) w.heap.size hzb 33); have s4 : w2.cell? ⟨w.heap.size, 3, none⟩ = some (.slice A3 S.views.length c3) := k2.cell 3; have s5 : (w2.alloc (.cells #[.int .u32 (p : Int)] 33)).cell? ⟨w.heap.size, 3, none⟩ = some (.slice A3 S.views.length c3) := (k2.alloc _).cell 3; clear hb2 k2))
  all_goals
    go_wp2
    go_ret
    exact ⟨_, rfl, viewsR HO5.out HFP.out, HB5.out⟩
end Go.Proofs.Ytfhmaincnlaapaa
namespace Go.Proofs.Ytfhmaincnlaapaa
open Go.ChangeShapes Go.WideShapes Go.ChangeAt Go.RowKit
set_option linter.unusedVariables false

section
variable {P : Program} {ops : Array Oper} {Q : Exit → Act → World → Prop} {md : Region.Mode} {S : World → Prop}
theorem rh_take (i : Nat) (d : Option Tmp) {oi : Oper} {v : Value} {fuel : Nat} {listed : Array Bool} {a : Act} {w : World} (hi : ops[i]? = some oi) (hd : oi.dst = d)
    (hs : Region.noSelect ops = true) (hf : Region.free md ops listed i = true) (hr : (Region.ready md ops listed).contains i = true) (hw : Region.wanted oi (yielded ops a.tmps) = true)
    (hQ : ∀ c a w, Q (.panic c) (a.put d v) w → Q (.panic c) a w) (hS : S w) (hy : ∀ w, S w → (execOp a.eval oi).run P w = .ok (.value v) w)
    (h : wpAnyH P md ops Q S fuel (listed.setIfInBounds i true) (a.put d v) w) : wpAnyH P md ops Q S (fuel + 1) listed a w := by
  subst hd
  exact wpAnyH_take hi hs hf hr hQ (.inl ⟨hw, hy⟩) hS h
theorem rh_skip (i : Nat) (d : Option Tmp) {oi : Oper} {fuel : Nat} {listed : Array Bool} {a : Act} {w : World} (hi : ops[i]? = some oi) (hd : oi.dst = d)
    (hs : Region.noSelect ops = true) (hf : Region.free md ops listed i = true) (hr : (Region.ready md ops listed).contains i = true) (hw : Region.wanted oi (yielded ops a.tmps) = false)
    (hQ : ∀ c a w, Q (.panic c) (a.put d undef) w → Q (.panic c) a w) (hS : S w)
    (h : wpAnyH P md ops Q S fuel (listed.setIfInBounds i true) (a.put d undef) w) : wpAnyH P md ops Q S (fuel + 1) listed a w := by
  subst hd
  exact wpAnyH_take hi hs hf hr hQ (.inr ⟨hw, rfl⟩) hS h
theorem rh_call (i : Nat) (d : Option Tmp) {o : Oper} {fuel : Nat} {listed : Array Bool} {a : Act} {w : World} (hr : Region.ready md ops listed = [i]) (ho : ops[i]? = some o) (hd : o.dst = d)
    (hw : Region.wanted o (yielded ops a.tmps) = true)
    (h : ∀ K' : Act → World → Prop, Shut (∀ a w, S w → (S w → wpAnyH P md ops Q S fuel (listed.setIfInBounds i true) a w) → K' a w) → Oper.wp P o a w K' Q) : wpAnyH P md ops Q S (fuel + 1) listed a w :=
  wpAnyH_ready hr (by simp) (AllReadyH.cons ho (fun K hK => by rw [if_pos hw]; exact h K hK) AllReadyH.nil)
end
end Go.Proofs.Ytfhmaincnlaapaa
namespace Go.Proofs.Ytfhmaincnlaapaa
open Go.ChangeShapes Go.WideShapes Go.ChangeAt Go.RowKit
set_option linter.unusedVariables false

set_option maxRecDepth 20000 in
theorem rising15_any (w : World) (B : Nat) (A : Option Addr) (c : Nat) (l : List CellS) (g : SlR cellR w B l A c) :
    Calls Try.prog 49 #[.slice A l.length c] w fun y w' => y = .returned (.bool (risingC l)) ∧ Drw w w' := by
  have hml : l.length ≤ 9223372036854775807 := by have h1 := g.1; have h2 := g.2.1; unfold maxLen at h2; omega
  have G := Lib.hid g
  clear g
  go_enter Try.func49, Try.ntmps49
  go_wp2
  go_loopw [3] (fun i wr => ∃ n k : Nat, k + 1 = n ∧ i = .int .i64 (n : Int) ∧ k ≤ l.length ∧ Hid (∀ j, j < k → j + 1 < l.length → kyC l j < kyC l (j + 1)) ∧ Hid (Drw w wr)) (fun i _ => l.length + 1 - (intOf i).toNat)
  case atStart => exact ⟨1, 0, rfl, rfl, by omega, fun j hj => absurd hj (by omega), Drw.refl w⟩
  case round =>
    obtain ⟨n, k, hn, rfl, hk, HU, HD⟩ := hrel
    by_cases hlt : n < l.length
    · obtain ⟨j, rfl⟩ := HD.out
      obtain ⟨a, A2, c2, A3, c3, rfl, hab, x0, _, _, _, hv⟩ := G.out.cellAt hlt
      obtain ⟨a', A2', c2', A3', c3', ea, _, y0, _, _, _, hv'⟩ := G.out.cellAt (k := k) (by omega)
      injection ea with ea; subst ea
      have w1 : IntKind.i64.wrap ((n : Int) - 1) = (k : Int) := by rw [IntWalk.i64_in _ (by omega)]; omega
      have q1 : (0 : Int) ≤ (n : Int) := by omega
      have q2 : (n : Int) < (l.length : Int) := by omega
      have q3 : (0 : Int) ≤ (k : Int) := by omega
      have q4 : (k : Int) < (l.length : Int) := by omega
      have z0 : w.cell? (a.add (n * 4)) = some (.int .u64 (l[n].key : Int)) := x0
      have z1 : w.cell? (a.add (k * 4)) = some (.int .u64 (l[k].key : Int)) := y0
      rw [kyC_get] at z0 z1
      have hno := risingC_no (l := l) (k := k) (by omega)
      rw [hn] at hno
      by_cases hc : kyC l n ≤ kyC l k
      · have t1 : decide ((kyC l n : Int) ≤ (kyC l k : Int)) = true := decide_eq_true (by omega)
        have t1n : decide (kyC l n ≤ kyC l k) = true := decide_eq_true (by omega)
        have HN := Lib.hid (hno (by omega))
        have HNN := Lib.hid hn
        clear hno hc x0 y0 hv hv'
        generalize kyC l n = p at *
        generalize kyC l k = q at *
        go_wp2
        go_quiet (fail)
        go_wp2
        go_ret
        first | exact ⟨(by rw [HN.out] <;> rfl), HD.out.drewN _⟩ | exact ⟨(by rw [HN.out] <;> rfl), ⟨_, rfl⟩⟩
      · have t1 : decide ((kyC l n : Int) ≤ (kyC l k : Int)) = false := decide_eq_false (by omega)
        have t1n : decide (kyC l n ≤ kyC l k) = false := decide_eq_false (by omega)
        have HN : Hid (∀ j, j < n → j + 1 < l.length → kyC l j < kyC l (j + 1)) := Lib.hid fun j hj hjl => by
          by_cases e : j = k
          · subst e; rw [hn]; omega
          · exact HU.out j (by omega) hjl
        have HNN := Lib.hid hn
        clear hno hc x0 y0 hv hv'
        generalize kyC l n = p at *
        generalize kyC l k = q at *
        go_wp2
        go_quiet (fail)
        go_wp2
        go_roundw
        case rel => exact ⟨n + 1, n, rfl, by go_num, by omega, HN.out, Lib.hid ⟨_, rfl⟩⟩
        case measure => simp [intOf]; omega
    · have HT := Lib.hid ((risingC_iff l).2 fun j hj => HU.out j (by omega) hj)
      skip
      go_wp2
      go_ret
      exact ⟨(by rw [HT.out] <;> rfl), HD.out⟩
set_option maxRecDepth 20000 in
set_option maxHeartbeats 4000000 in
theorem refKeys_any (w : World) (B : Nat) (v : Value) (S : Sch) (mask : Nat) (h : SchAt w B v S) (hB : B ≤ w.heap.size) (hm : mask < 4294967296) (h0 : checkN S = 0) :
    Calls Try.prog 104 #[v, .int .u32 (mask : Int)] w fun y w' => y = .returned (.int .u64 (keysP S mask S.dims.length : Int)) ∧ Below w.heap.size w w' := by
  have hh := h
  obtain ⟨A0, c0, A1, c1, A2, c2, A3, c3, rfl, r0, r1, r2, r3, b0, b1, b2, b3⟩ := hh
  clear r1 r2 r3 b0 b1 b2 b3
  obtain ⟨hmo, p, hp⟩ := checkN_zero h0
  unfold manyOk at hmo
  obtain ⟨m1, m2, _⟩ := hmo
  have hw0 := belA (belR w) (.cells #[.slice A0 S.dims.length c0, .slice A1 S.ints.length c1, .slice A2 S.nums.length c2, .slice A3 S.views.length c3] 26)
  have K0 := Lib.hid (Blk.new w 26 #[.slice A0 S.dims.length c0, .slice A1 S.ints.length c1, .slice A2 S.nums.length c2, .slice A3 S.views.length c3])
  have HW0 := Lib.hid hw0; have R0 := Lib.hid r0
  have HSZ := Lib.hid (keysTo_some S _ p hp)
  have HKP : Hid (∀ k, k ≤ S.dims.length → keysP S mask k ≤ 1099511627776) := Lib.hid fun k hk => by
    obtain ⟨q, hq⟩ := keysTo_part S _ p hp k hk
    exact Nat.le_trans (keysP_le S mask k q hq) (keysTo_le S k q hq).2
  have HIN := Lib.hid (fun W k (hk : k ≤ 31) => in_any W mask k hk hm)
  clear hw0 h r0 hp h0
  go_enter Try.func104, Try.ntmps104
  go_wp2
  go_loopw [5, 6] (fun kv i wr => ∃ k : Nat, k ≤ S.dims.length ∧ i = .int .i64 (k : Int) ∧ kv = .int .u64 (keysP S mask k : Int) ∧ Hid (Below w.heap.size w wr ∧ Blk wr w.heap.size 26 #[.slice A0 S.dims.length c0, .slice A1 S.ints.length c1, .slice A2 S.nums.length c2, .slice A3 S.views.length c3])) (fun _ i _ => S.dims.length - (intOf i).toNat)
  case atStart => exact ⟨0, by omega, rfl, rfl, HW0.out, K0.out⟩
  case round =>
    obtain ⟨k, hk, rfl, rfl, HB⟩ := hrel
    have s0 : wr.cell? ⟨w.heap.size, 0, none⟩ = some (.slice A0 S.dims.length c0) := HB.out.2.cell 0
    by_cases hlt : k < S.dims.length
    · obtain ⟨a, rfl, hab, x0, x1⟩ := (R0.out.below (HB.out.1.mono hB)).dim hlt
      have q1 : (0 : Int) ≤ (k : Int) := by omega
      have q2 : (k : Int) < (S.dims.length : Int) := by omega
      have hzk := HSZ.out k hlt
      have hsz : szAt S k = S.dims[k].2 := by unfold szAt; simp [List.getD, hlt]
      have hs := keysP_succ S mask k
      have hkp := HKP.out (k + 1) (by omega)
      have hkq := HKP.out k (by omega)
      have hin := fun W => HIN.out W k (by omega)
      rw [← hsz] at x1
      obtain ⟨z, hz⟩ : ∃ z : Nat, szAt S k = (z : Int) := ⟨(szAt S k).toNat, by omega⟩
      rw [hz] at x1 hs hzk
      rw [Int.toNat_natCast] at hs
      clear hsz
      generalize keysP S mask k = K at *
      have wz : IntKind.u64.wrap (z : Int) = (z : Int) := by rw [IntKind.wrap_u64]; omega
      rw [inB_bit] at hin
      cases hb : mask.testBit k with
      | true =>
        rw [hb] at hs hin
        simp only [if_true] at hs
        rw [hs] at hkp
        have wm : IntKind.u64.wrap ((K : Int) * (z : Int)) = ((K * z : Nat) : Int) := by rw [← Int.natCast_mul, IntKind.wrap_u64]; omega
        have HS := Lib.hid hs; have HI := Lib.hid hin
        clear hs hin hb hz
        go_wp2_with (go_at_call 89; (with_reducible refine (HI.out _).mono ?_); rintro y w1 ⟨rfl, rfl⟩)
        go_roundw
        case rel => exact ⟨k + 1, by omega, by go_num, by rw [HS.out] <;> (first | rfl | (rw [Int.natCast_mul])), HB.out⟩
        case measure => simp [intOf]; omega
      | false =>
        rw [hb] at hs hin
        have hs' : keysP S mask (k + 1) = K := hs
        have HS := Lib.hid hs'; have HI := Lib.hid hin
        clear hs hs' hin hb hz
        go_wp2_with (go_at_call 89; (with_reducible refine (HI.out _).mono ?_); rintro y w1 ⟨rfl, rfl⟩)
        go_roundw
        case rel => exact ⟨k + 1, by omega, by go_num, by rw [HS.out] <;> (first | rfl | (rw [Int.natCast_mul])), HB.out⟩
        case measure => simp [intOf]; omega
    · obtain rfl : k = S.dims.length := by omega
      go_wp2
      go_ret
      exact ⟨rfl, HB.out.1⟩
end Go.Proofs.Ytfhmaincnlaapaa
