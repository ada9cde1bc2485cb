/-
  The cell of one fact is a right one.
  What is known of schemas, as contracts on trees: Check, Full, Sub.
  schema.Views, bushelref11.Views.
  cells.rising, cells.Right.
  agg.Right.
-/
import Derived.Deep.RegionHeld3
import Derived.Deep.RegionLawGrows
import Derived.Test.YtfhmaincnlaapaaUnNumMath
import Derived.Test.YtfhmaincnlaapaaUnEncC
import Derived.Test.YtfhmaincnlaapaaUnTKey2
import Derived.Test.YtfhmaincnlaapaaUnTNat3
import Derived.Test.YtfhmaincnlaapaaUnAggOne
import Derived.Test.YtfhmaincnlaapaaUnJoinAssoc
namespace Go.Proofs.Ytfhmaincnlaapaa
open Go.ChangeShapes Go.WideShapes Go.ChangeAt Go.RowKit
set_option linter.unusedVariables false

theorem run_store_fR {P : Program} {w : World} {a : Addr} {m : Mode} (k : FloatKind) (b : Nat) : (store a (.float k b) m).run P w = stored P w a (.float k b) m := run_store P w a _ m rfl
attribute [local go_sem] run_store_fR
theorem okW_no {X : WholeS} (h : ¬ (0 ≤ X.abs ∧ X.sum ≤ X.abs ∧ -X.abs ≤ X.sum ∧ X.mn ≤ X.mx ∧ X.sq.length ≤ 7 ∧ tsz X.sq = X.sq.length)) : okW X = false := by
  rw [← Bool.not_eq_true]
  intro hh
  unfold okW at hh
  simp only [Bool.and_eq_true, decide_eq_true_iff] at hh
  exact h ⟨hh.1.1.1.1.1, hh.1.1.1.1.2, hh.1.1.1.2, hh.1.1.2, hh.1.2, hh.2⟩
theorem okW_yes {X : WholeS} (h1 : 0 ≤ X.abs) (h2 : X.sum ≤ X.abs) (h3 : -X.abs ≤ X.sum) (h4 : X.mn ≤ X.mx) (h5 : X.sq.length ≤ 7) (h6 : tsz X.sq = X.sq.length) : okW X = true := by
  unfold okW; simp [h1, h2, h3, h4, h5, h6]
theorem okR_no {X : RealS} (h : ¬ (readE X.sum = 0 ∧ keyB X.mn ≤ keyB X.mx)) : okR X = false := by
  rw [← Bool.not_eq_true]
  intro hh
  unfold okR at hh
  simp only [Bool.and_eq_true, decide_eq_true_iff] at hh
  exact h hh
theorem okR_yes {X : RealS} (h1 : readE X.sum = 0) (h2 : keyB X.mn ≤ keyB X.mx) : okR X = true := by unfold okR; simp [h1, h2]
theorem rightC_no {S : Sch} {mask n : Nat} {C : CellS} (hk : keysOf S mask = some n) (h : ¬ (C.key < n ∧ 1 ≤ C.count ∧ C.ints.length = S.ints.length ∧ C.nums.length = S.nums.length ∧ C.ints.all okW = true ∧ C.nums.all okR = true)) : rightC S mask C = false := by
  rw [← Bool.not_eq_true]
  intro hh
  rw [rightC_some S mask n C hk] at hh
  simp only [Bool.and_eq_true, decide_eq_true_iff] at hh
  exact h ⟨hh.1.1.1.1.1, hh.1.1.1.1.2, hh.1.1.1.2, hh.1.1.2, hh.1.2, hh.2⟩
theorem rightC_yes {S : Sch} {mask n : Nat} {C : CellS} (hk : keysOf S mask = some n) (h1 : C.key < n) (h2 : 1 ≤ C.count) (h3 : C.ints.length = S.ints.length) (h4 : C.nums.length = S.nums.length) (h5 : C.ints.all okW = true) (h6 : C.nums.all okR = true) : rightC S mask C = true := by
  rw [rightC_some S mask n C hk, h5, h6]; simp [h1, h2, h3, h4]
set_option maxRecDepth 20000 in
set_option maxHeartbeats 16000000 in
theorem aggRight_any (w : World) (B : Nat) (v : Value) (S : Sch) (mask : Nat) (C : CellS) (D2 : Option Addr) (d2 : Nat) (D3 : Option Addr) (d3 : Nat) (h : SchAt w B v S) (ho : SchOk S) (hv : CellV w B C D2 d2 D3 d3) (hB : B ≤ w.heap.size) (hm : mask < 4294967296) :
    Calls Try.prog 42 #[v, .int .u32 (mask : Int), .agg #[.int .u64 (C.key : Int), .int .i64 C.count, .slice D2 C.ints.length d2, .slice D3 C.nums.length d3]] w fun y w' => y = .returned (.bool (rightC S mask C)) ∧ Below w.heap.size w w' := by
  have hh := h
  obtain ⟨A0, c0, A1, c1, A2, c2, A3, c3, rfl, r0, r1, r2, r3, b0, b1, b2, b3⟩ := hh
  clear r0 r1 r2 r3 b0 b1 b2 b3
  have hw1 := belA (belR w) (.cells #[.slice A0 S.dims.length c0, .slice A1 S.ints.length c1, .slice A2 S.nums.length c2, .slice A3 S.views.length c3] 26)
  have hw0 := belA hw1 (.cells #[.int .u64 (C.key : Int), .int .i64 C.count, .slice D2 C.ints.length d2, .slice D3 C.nums.length d3] 52)
  have ks := (Blk.new w 26 #[.slice A0 S.dims.length c0, .slice A1 S.ints.length c1, .slice A2 S.nums.length c2, .slice A3 S.views.length c3]).alloc (.cells #[.int .u64 (C.key : Int), .int .i64 C.count, .slice D2 C.ints.length d2, .slice D3 C.nums.length d3] 52)
  have kc := Blk.new (w.alloc (.cells #[.slice A0 S.dims.length c0, .slice A1 S.ints.length c1, .slice A2 S.nums.length c2, .slice A3 S.views.length c3] 26)) 52 #[.int .u64 (C.key : Int), .int .i64 C.count, .slice D2 C.ints.length d2, .slice D3 C.nums.length d3]
  have hgc : (w.alloc (.cells #[.slice A0 S.dims.length c0, .slice A1 S.ints.length c1, .slice A2 S.nums.length c2, .slice A3 S.views.length c3] 26)).heap.size = w.heap.size + 1 := by simp
  rw [hgc] at kc
  have hc := keys_any ((w.alloc (.cells #[.slice A0 S.dims.length c0, .slice A1 S.ints.length c1, .slice A2 S.nums.length c2, .slice A3 S.views.length c3] 26)).alloc (.cells #[.int .u64 (C.key : Int), .int .i64 C.count, .slice D2 C.ints.length d2, .slice D3 C.nums.length d3] 52)) B _ S mask (h.keep (hw0.mono hB) (Nat.le_refl _)) ho (by simp; omega) hm
  have HC := Lib.hid hc; have HW0 := Lib.hid hw0; have KS := Lib.hid ks; have KC := Lib.hid kc; have HV := Lib.hid hv
  have hml : C.ints.length ≤ 9223372036854775807 := by have h1 := hv.ints.1; have h2 := hv.ints.2.1; unfold maxLen at h2; omega
  have hmn : C.nums.length ≤ 9223372036854775807 := by have h1 := hv.nums.1; have h2 := hv.nums.2.1; unfold maxLen at h2; omega
  clear hc hw0 hw1 ks kc hgc h hv
  go_enter Try.func42, Try.ntmps42
  go_wp2_with fail
  (with_reducible refine HC.out.mono ?_); rintro y w1 ⟨rfl, hb1⟩
  generalize hW : (w.alloc (.cells #[.slice A0 S.dims.length c0, .slice A1 S.ints.length c1, .slice A2 S.nums.length c2, .slice A3 S.views.length c3] 26)).alloc (.cells #[.int .u64 (C.key : Int), .int .i64 C.count, .slice D2 C.ints.length d2, .slice D3 C.nums.length d3] 52) = W at *
  have hWz : W.heap.size = w.heap.size + 2 := by rw [← hW]; simp
  clear hW
  have hks := KS.out.below hb1 (by omega)
  have hkc := KC.out.below hb1 (by omega)
  have s1 := hks.cell 1; have s2 := hks.cell 2
  have m0 := hkc.cell 0; have m1 := hkc.cell 1; have m2 := hkc.cell 2; have m3 := hkc.cell 3
  simp at s1 s2 m0 m1 m2 m3
  have HB1 := Lib.hid hb1
  have HBW := Lib.hid (HW0.out.trans (hb1.mono (show w.heap.size ≤ _ by omega)))
  clear hb1 hks hkc HC
  cases hk : keysOf S mask with
  | none =>
    have HF := Lib.hid (rightC_none S mask C hk)
    simp only [Option.isSome_none, Option.getD_none]
    clear hk
    go_wp2
    go_ret
    exact ⟨(by rw [HF.out] <;> rfl), HBW.out⟩
  | some n =>
    simp only [Option.isSome_some, Option.getD_some]
    have HK := Lib.hid hk
    clear hk
    by_cases g1 : C.key < n
    case neg =>
      have t1 : decide ((n : Int) ≤ (C.key : Int)) = true := decide_eq_true (by omega)
      have HF := Lib.hid (rightC_no (C := C) HK.out fun hh => g1 hh.1)
      have n1 : n ≤ C.key := by omega
      clear g1
      go_wp2
      go_ret
      exact ⟨(by rw [HF.out] <;> rfl), HBW.out⟩
    have t1 : decide ((n : Int) ≤ (C.key : Int)) = false := decide_eq_false (by omega)
    have t1n : decide (n ≤ C.key) = false := decide_eq_false (by omega)
    by_cases g2 : 1 ≤ C.count
    case neg =>
      have t2 : decide (C.count < 1) = true := decide_eq_true (by omega)
      have HF := Lib.hid (rightC_no (C := C) HK.out fun hh => g2 hh.2.1)
      have n2 : C.count < 1 := by omega
      clear g2
      go_wp2
      go_ret
      exact ⟨(by rw [HF.out] <;> rfl), HBW.out⟩
    have t2 : decide (C.count < 1) = false := decide_eq_false (by omega)
    by_cases g3 : C.ints.length = S.ints.length
    case neg =>
      have t3 : ((C.ints.length : Int) != (S.ints.length : Int)) = true := by rw [bne_iff_ne]; omega
      have HF := Lib.hid (rightC_no (C := C) HK.out fun hh => g3 hh.2.2.1)
      clear g3
      go_wp2
      go_ret
      exact ⟨(by rw [HF.out] <;> rfl), HBW.out⟩
    have t3 : ((C.ints.length : Int) != (S.ints.length : Int)) = false := by rw [bne_eq_false_iff_eq]; omega
    by_cases g4 : C.nums.length = S.nums.length
    case neg =>
      have t4 : ((C.nums.length : Int) != (S.nums.length : Int)) = true := by rw [bne_iff_ne]; omega
      have HF := Lib.hid (rightC_no (C := C) HK.out fun hh => g4 hh.2.2.2.1)
      clear g4
      go_wp2
      go_ret
      exact ⟨(by rw [HF.out] <;> rfl), HBW.out⟩
    have t4 : ((C.nums.length : Int) != (S.nums.length : Int)) = false := by rw [bne_eq_false_iff_eq]; omega
    have HNO := Lib.hid fun (hb : ¬ (C.ints.all okW = true ∧ C.nums.all okR = true)) => rightC_no (C := C) HK.out fun hh => hb hh.2.2.2.2
    have HYES := Lib.hid fun (h5 : C.ints.all okW = true) (h6 : C.nums.all okR = true) => rightC_yes HK.out g1 g2 g3 g4 h5 h6
    clear g3 g4 HK
    go_wp2
    clear g1 g2 t1 t1n t2 t3 t4 s1 s2 m0 m1 m2
    go_loopw [55] (fun i wr => ∃ k : Nat, k ≤ C.ints.length ∧ i = .int .i64 (k : Int) ∧ Hid ((C.ints.take k).all okW = true) ∧ Hid (Below W.heap.size W wr)) (fun i _ => C.ints.length - (intOf i).toNat)
    case atStart => exact ⟨0, by omega, rfl, rfl, HB1.out⟩
    case round =>
      obtain ⟨k, hk, rfl, HA, HBl⟩ := hrel
      clear m3
      by_cases hlt : k < C.ints.length
      · obtain ⟨a, Aq, cq, ea, hab, x0, x1, x2, x3, x4, hRq, hq1, hq2, hq3, hs, ha, hmi, hmx⟩ := (HV.out.ints.keep ((HW0.out.trans (HBl.out.mono (show w.heap.size ≤ _ by omega))).mono hB) (Nat.le_refl _)).wholeAt hlt
        have q1 : (0 : Int) ≤ (k : Int) := by omega
        have q2 : (k : Int) < (C.ints.length : Int) := by omega
        have hts := all_take_succ okW C.ints k hlt
        rw [HA.out, Bool.true_and] at hts
        have HN1 := Lib.hid fun (hf : okW C.ints[k] = false) => HNO.out fun hh => by rw [all_no okW C.ints k hlt hf] at hh; exact absurd hh.1 (by decide)
        subst ea
        generalize C.ints[k] = X at *
        have hbx := belA (belR wr) (.cells #[.int .i64 X.sum, .int .i64 X.abs, .slice Aq X.sq.length cq, .int .i64 X.mn, .int .i64 X.mx] 114)
        have hbk := Blk.new wr 114 #[.int .i64 X.sum, .int .i64 X.abs, .slice Aq X.sq.length cq, .int .i64 X.mn, .int .i64 X.mx]
        have hzr : W.heap.size ≤ wr.heap.size := HBl.out.size
        have HBX := Lib.hid (HBl.out.trans (hbx.mono hzr)); have HTS := Lib.hid hts; have HKX := Lib.hid hbk
        have HBV : Hid (∀ W', Below W.heap.size W W' → Below w.heap.size w W') := Lib.hid fun W' hb => HW0.out.trans (hb.mono (show w.heap.size ≤ _ by omega))
        have HRQ := Lib.hid (hRq.below (hbx.mono (show B ≤ wr.heap.size by omega)))
        have hq2' := hq2
        unfold maxLen at hq2'
        clear hRq hbx hbk hts
        go_wp2
        generalize hX : wr.alloc (.cells #[.int .i64 X.sum, .int .i64 X.abs, .slice Aq X.sq.length cq, .int .i64 X.mn, .int .i64 X.mx] 114) = Wx at *
        clear x0 x1 x2 x3 x4
        have hzx : Wx.heap.size = wr.heap.size + 1 := by rw [← hX]; simp
        have hbn : wr.heap.size < Wx.heap.size := by omega
        clear hX
        generalize hbe : wr.heap.size = bn at *
        have y0 := HKX.out.cell 0; have y1 := HKX.out.cell 1; have y2 := HKX.out.cell 2; have y3 := HKX.out.cell 3; have y4 := HKX.out.cell 4
        simp at y0 y1 y2 y3 y4
        by_cases g1 : 0 ≤ X.abs
        case neg =>
          have t1 : decide (X.abs < 0) = true := decide_eq_true (by omega)
          have HF := Lib.hid (HN1.out (okW_no fun hh => g1 hh.1))
          clear g1
          go_quiet (fail)
          go_wp2
          go_ret
          exact ⟨(by rw [HF.out] <;> rfl), belD (HBV.out _ HBX.out) _⟩
        have t1 : decide (X.abs < 0) = false := decide_eq_false (by omega)
        by_cases g2 : X.sum ≤ X.abs
        case neg =>
          have t2 : decide (X.abs < X.sum) = true := decide_eq_true (by omega)
          have HF := Lib.hid (HN1.out (okW_no fun hh => g2 hh.2.1))
          clear g2
          go_quiet (fail)
          go_wp2
          go_ret
          exact ⟨(by rw [HF.out] <;> rfl), belD (HBV.out _ HBX.out) _⟩
        have t2 : decide (X.abs < X.sum) = false := decide_eq_false (by omega)
        have wneg : IntKind.i64.wrap (-X.abs) = -X.abs := IntWalk.i64_in _ (by omega)
        by_cases g3 : -X.abs ≤ X.sum
        case neg =>
          have t3 : decide (X.sum < -X.abs) = true := decide_eq_true (by omega)
          have HF := Lib.hid (HN1.out (okW_no fun hh => g3 hh.2.2.1))
          clear g3
          go_quiet (fail)
          go_wp2
          go_ret
          exact ⟨(by rw [HF.out] <;> rfl), belD (HBV.out _ HBX.out) _⟩
        have t3 : decide (X.sum < -X.abs) = false := decide_eq_false (by omega)
        by_cases g4 : X.mn ≤ X.mx
        case neg =>
          have t4 : decide (X.mx < X.mn) = true := decide_eq_true (by omega)
          have HF := Lib.hid (HN1.out (okW_no fun hh => g4 hh.2.2.2.1))
          clear g4
          go_quiet (fail)
          go_wp2
          go_ret
          exact ⟨(by rw [HF.out] <;> rfl), belD (HBV.out _ HBX.out) _⟩
        have t4 : decide (X.mx < X.mn) = false := decide_eq_false (by omega)
        by_cases g5 : X.sq.length ≤ 7
        case neg =>
          have t5 : decide ((7 : Int) < (X.sq.length : Int)) = true := decide_eq_true (by omega)
          have HF := Lib.hid (HN1.out (okW_no fun hh => g5 hh.2.2.2.2.1))
          clear g5
          go_quiet (fail)
          go_wp2
          go_ret
          exact ⟨(by rw [HF.out] <;> rfl), belD (HBV.out _ HBX.out) _⟩
        have t5 : decide ((7 : Int) < (X.sq.length : Int)) = false := decide_eq_false (by omega)
        have htr := trim_any Wx.drew B Aq cq X.sq HRQ.out.drew (by omega) hq1 hq2
        by_cases g6 : tsz X.sq = X.sq.length
        · have HT2 := Lib.hid (HTS.out.trans (okW_yes g1 g2 g3 g4 g5 g6))
          rw [g6] at htr
          have HT := Lib.hid htr
          have t6 : ((X.sq.length : Int) != (X.sq.length : Int)) = false := by simp
          clear htr g1 g2 g3 g4 g5 g6 HN1
          have HS : Hid (Wx.drew.cell? ⟨bn, 0, none⟩ = some (.int .i64 X.sum) ∧ Wx.drew.cell? ⟨bn, 1, none⟩ = some (.int .i64 X.abs) ∧ Wx.drew.cell? ⟨bn, 2, none⟩ = some (.slice Aq X.sq.length cq) ∧ Wx.drew.cell? ⟨bn, 3, none⟩ = some (.int .i64 X.mn) ∧ Wx.drew.cell? ⟨bn, 4, none⟩ = some (.int .i64 X.mx)) := Lib.hid ⟨y0, y1, y2, y3, y4⟩
          go_region_held (fun W => W.cell? ⟨bn, 0, none⟩ = some (.int .i64 X.sum) ∧ W.cell? ⟨bn, 1, none⟩ = some (.int .i64 X.abs) ∧ W.cell? ⟨bn, 2, none⟩ = some (.slice Aq X.sq.length cq) ∧ W.cell? ⟨bn, 3, none⟩ = some (.int .i64 X.mn) ∧ W.cell? ⟨bn, 4, none⟩ = some (.int .i64 X.mx)) (first | (with_reducible exact HS.out) | (exact hk5)) (first | (go_at_call 95; (with_reducible refine HT.out.mono ?_); rintro y w5 ⟨v5, rfl, ho5, hb5⟩; obtain ⟨A5, c5, rfl, _, _, _⟩ := own_form ho5; have hkx := HKX.out.drew.below hb5 hbn; have hk5 : w5.cell? ⟨bn, 0, none⟩ = some (.int .i64 X.sum) ∧ w5.cell? ⟨bn, 1, none⟩ = some (.int .i64 X.abs) ∧ w5.cell? ⟨bn, 2, none⟩ = some (.slice Aq X.sq.length cq) ∧ w5.cell? ⟨bn, 3, none⟩ = some (.int .i64 X.mn) ∧ w5.cell? ⟨bn, 4, none⟩ = some (.int .i64 X.mx) := ⟨hkx.cell 0, hkx.cell 1, hkx.cell 2, hkx.cell 3, hkx.cell 4⟩; have HB5 := Lib.hid (HBX.out.trans ((belD (belR Wx) 1).trans (hb5.mono (Nat.le_refl _)) |>.mono (by omega))); clear hb5 hkx ho5))
          all_goals
            go_wp2
            go_roundw
            case rel => exact ⟨k + 1, by omega, by go_num, HT2.out, HB5.out⟩
            case measure => simp [intOf]; omega
        · have HF := Lib.hid (HN1.out (okW_no fun hh => g6 hh.2.2.2.2.2))
          have HT := Lib.hid htr
          have t6 : ((tsz X.sq : Int) != (X.sq.length : Int)) = true := by rw [bne_iff_ne]; omega
          clear htr g1 g2 g3 g4 g5 g6 HN1
          have HS : Hid (Wx.drew.cell? ⟨bn, 0, none⟩ = some (.int .i64 X.sum) ∧ Wx.drew.cell? ⟨bn, 1, none⟩ = some (.int .i64 X.abs) ∧ Wx.drew.cell? ⟨bn, 2, none⟩ = some (.slice Aq X.sq.length cq) ∧ Wx.drew.cell? ⟨bn, 3, none⟩ = some (.int .i64 X.mn) ∧ Wx.drew.cell? ⟨bn, 4, none⟩ = some (.int .i64 X.mx)) := Lib.hid ⟨y0, y1, y2, y3, y4⟩
          go_region_held (fun W => W.cell? ⟨bn, 0, none⟩ = some (.int .i64 X.sum) ∧ W.cell? ⟨bn, 1, none⟩ = some (.int .i64 X.abs) ∧ W.cell? ⟨bn, 2, none⟩ = some (.slice Aq X.sq.length cq) ∧ W.cell? ⟨bn, 3, none⟩ = some (.int .i64 X.mn) ∧ W.cell? ⟨bn, 4, none⟩ = some (.int .i64 X.mx)) (first | (with_reducible exact HS.out) | (exact hk5)) (first | (go_at_call 95; (with_reducible refine HT.out.mono ?_); rintro y w5 ⟨v5, rfl, ho5, hb5⟩; obtain ⟨A5, c5, rfl, _, _, _⟩ := own_form ho5; have hkx := HKX.out.drew.below hb5 hbn; have hk5 : w5.cell? ⟨bn, 0, none⟩ = some (.int .i64 X.sum) ∧ w5.cell? ⟨bn, 1, none⟩ = some (.int .i64 X.abs) ∧ w5.cell? ⟨bn, 2, none⟩ = some (.slice Aq X.sq.length cq) ∧ w5.cell? ⟨bn, 3, none⟩ = some (.int .i64 X.mn) ∧ w5.cell? ⟨bn, 4, none⟩ = some (.int .i64 X.mx) := ⟨hkx.cell 0, hkx.cell 1, hkx.cell 2, hkx.cell 3, hkx.cell 4⟩; have HB5 := Lib.hid (HBX.out.trans ((belD (belR Wx) 1).trans (hb5.mono (Nat.le_refl _)) |>.mono (by omega))); clear hb5 hkx ho5))
          all_goals
            go_wp2
            go_ret
            exact ⟨(by rw [HF.out] <;> rfl), HBV.out _ HB5.out⟩
      · obtain rfl : k = C.ints.length := by omega
        rw [List.take_length] at HA
        have hkc := KC.out.below HBl.out (by omega)
        have m3 := hkc.cell 3
        simp at m3
        clear hkc
        have HA1 := HA; have HB2 := HBl
        clear HA HBl
        go_wp2
        go_loopw [104] (fun i ws => ∃ k : Nat, k ≤ C.nums.length ∧ i = .int .i64 (k : Int) ∧ Hid ((C.nums.take k).all okR = true) ∧ Hid (Below W.heap.size W ws)) (fun i _ => C.nums.length - (intOf i).toNat)
        case atStart => exact ⟨0, by omega, rfl, rfl, HB2.out⟩
        case round =>
          obtain ⟨k, hk, rfl, HA, HBl⟩ := hrel
          clear m3
          by_cases hlt : k < C.nums.length
          · obtain ⟨a, Aq, cq, ea, hab, x0, x1, x2, hRq, hq1, hq2, hmi, hmx⟩ := (HV.out.nums.keep ((HW0.out.trans (HBl.out.mono (show w.heap.size ≤ _ by omega))).mono hB) (Nat.le_refl _)).realAt hlt
            have q1 : (0 : Int) ≤ (k : Int) := by omega
            have q2 : (k : Int) < (C.nums.length : Int) := by omega
            have hts := all_take_succ okR C.nums k hlt
            rw [HA.out, Bool.true_and] at hts
            have HN1 := Lib.hid fun (hf : okR C.nums[k] = false) => HNO.out fun hh => by rw [all_no okR C.nums k hlt hf] at hh; exact absurd hh.2 (by decide)
            subst ea
            generalize C.nums[k] = X at *
            have hbx := belA (belR wr) (.cells #[.slice Aq X.sum.length cq, .float .f64 X.mn, .float .f64 X.mx] 117)
            have hbk := Blk.new wr 117 #[.slice Aq X.sum.length cq, .float .f64 X.mn, .float .f64 X.mx]
            have hzr : W.heap.size ≤ wr.heap.size := HBl.out.size
            have hq2' := hq2
            unfold maxLen at hq2'
            have hrd := read_any (wr.alloc (.cells #[.slice Aq X.sum.length cq, .float .f64 X.mn, .float .f64 X.mx] 117)) B Aq cq X.sum (hRq.below (hbx.mono (show B ≤ wr.heap.size by omega))) (by simp; omega) (by omega)
            have HBX := Lib.hid (HBl.out.trans (hbx.mono hzr)); have HTS := Lib.hid hts; have HKX := Lib.hid hbk; have HRD := Lib.hid hrd
            have HBV : Hid (∀ W', Below W.heap.size W W' → Below w.heap.size w W') := Lib.hid fun W' hb => HW0.out.trans (hb.mono (show w.heap.size ≤ _ by omega))
            clear hRq hbx hbk hts hrd
            go_wp2_with fail
            (with_reducible refine HRD.out.mono ?_); rintro y w5 ⟨p, rfl, _, hb5⟩
            have hkx := HKX.out.below hb5 (by simp)
            have y1 := hkx.cell 1; have y2 := hkx.cell 2
            simp at y1 y2
            have HB5 := Lib.hid (HBX.out.trans (hb5.mono (by simp; omega)))
            clear hb5 hkx HKX HBX HRD x0 x1 x2
            by_cases g1 : readE X.sum = 0
            · rw [g1]
              have hls := less_flo X.mx X.mn w5 hmx hmi
              by_cases g2 : keyB X.mn ≤ keyB X.mx
              · have e : decide (keyB X.mx < keyB X.mn) = false := decide_eq_false (by omega)
                rw [e] at hls
                have HLS := Lib.hid hls; have HT2 := Lib.hid (HTS.out.trans (okR_yes g1 g2))
                clear hls e g1 g2
                go_wp2_with (go_at_call 97; (with_reducible refine HLS.out.mono ?_); rintro y w6 ⟨rfl, rfl⟩)
                go_roundw
                case rel => exact ⟨k + 1, by omega, by go_num, HT2.out, HB5.out⟩
                case measure => simp [intOf]; omega
              · have e : decide (keyB X.mx < keyB X.mn) = true := decide_eq_true (by omega)
                rw [e] at hls
                have HLS := Lib.hid hls; have HF := Lib.hid (HN1.out (okR_no fun hh => g2 hh.2))
                clear hls e g1 g2
                go_wp2_with (go_at_call 97; (with_reducible refine HLS.out.mono ?_); rintro y w6 ⟨rfl, rfl⟩)
                go_ret
                exact ⟨(by rw [HF.out] <;> rfl), HBV.out _ HB5.out⟩
            · have t1 := i64_ne0 g1
              have HF := Lib.hid (HN1.out (okR_no fun hh => g1 hh.1))
              clear g1
              go_wp2
              go_ret
              exact ⟨(by rw [HF.out] <;> rfl), HBV.out _ HB5.out⟩
          · obtain rfl : k = C.nums.length := by omega
            rw [List.take_length] at HA
            have HT := Lib.hid (HYES.out HA1.out HA.out)
            have HBV := Lib.hid (HW0.out.trans (HBl.out.mono (show w.heap.size ≤ _ by omega)))
            go_wp2
            go_ret
            exact ⟨(by rw [HT.out] <;> rfl), HBV.out⟩
end Go.Proofs.Ytfhmaincnlaapaa
namespace Go.Proofs.Ytfhmaincnlaapaa
open Go.ChangeShapes Go.WideShapes Go.ChangeAt Go.RowKit
set_option linter.unusedVariables false

end Go.Proofs.Ytfhmaincnlaapaa
namespace Go.Proofs.Ytfhmaincnlaapaa
open Go.ChangeShapes Go.WideShapes Go.ChangeAt Go.RowKit
set_option linter.unusedVariables false

set_option maxRecDepth 20000 in
theorem refFull_any (w : World) (B : Nat) (v : Value) (S : Sch) (h : SchAt w B v S) (hB : B ≤ w.heap.size) (h1 : 1 ≤ S.dims.length) (h6 : S.dims.length ≤ 6) :
    Calls Try.prog 13 #[v] w fun y w' => y = .returned (.int .u32 (fullN S : Int)) ∧ Below w.heap.size w w' := by
  have hle := fullN_le h1 h6
  have hh := h
  obtain ⟨A0, c0, A1, c1, A2, c2, A3, c3, rfl, r0, r1, r2, r3, b0, b1, b2, b3⟩ := hh
  clear r0 r1 r2 r3 h
  have hw0 := belA (belR w) (.cells #[.slice A0 S.dims.length c0, .slice A1 S.ints.length c1, .slice A2 S.nums.length c2, .slice A3 S.views.length c3] 26)
  have HW0 := Lib.hid hw0
  have HT := Lib.hid (fun W => two_any W S.dims.length (by omega))
  have hp2 : fullN S = p2 S.dims.length - 1 := rfl
  have e : IntKind.u32.wrap ((p2 S.dims.length : Int) - 1) = (fullN S : Int) := by rw [IntKind.wrap_u32]; omega
  have e2 : (p2 S.dims.length : Int) - 1 = (fullN S : Int) := by omega
  have e3 : IntKind.u32.wrap (fullN S : Int) = (fullN S : Int) := by rw [IntKind.wrap_u32]; omega
  generalize fullN S = f at *
  generalize p2 S.dims.length = q at *
  clear hw0 hp2
  go_enter Try.func13, Try.ntmps13
  go_wp2_with (go_at_call 44; (with_reducible refine (HT.out _).mono ?_); rintro y w1 ⟨rfl, rfl⟩)
  go_ret
  first
  | exact ⟨rfl, HW0.out⟩
  | exact ⟨by rw [e2], HW0.out⟩
end Go.Proofs.Ytfhmaincnlaapaa
namespace Go.Proofs.Ytfhmaincnlaapaa.Sy
open Go.ChangeShapes Go.WideShapes Go.ChangeAt Go.RowKit
set_option linter.unusedVariables false
theorem check_fn {S : Sch} (hs : SchOk S) : FnOk Try.prog 38 ⟨[.agg (encSch S)], [], .v (.int .i64 (checkN S : Int)), []⟩ :=
  FnOk.of_calls rfl fun E vs hF hl hz => by
    obtain ⟨u, rfl⟩ : ∃ u, vs = [u] := List.length_eq_one_iff.1 hl
    exact refCheck_any E.w E.w.heap.size u S (sch_open hF (okSch_of hs) (hz 0 _ u rfl rfl)) hs (Nat.le_refl _)
theorem full_fn {S : Sch} (hs : SchOk S) (hc : checkN S = 0) : FnOk Try.prog 13 ⟨[.agg (encSch S)], [], .v (.int .u32 (fullN S : Int)), []⟩ :=
  FnOk.of_calls rfl fun E vs hF hl hz => by
    obtain ⟨u, rfl⟩ : ∃ u, vs = [u] := List.length_eq_one_iff.1 hl
    obtain ⟨hm, _⟩ := checkN_zero hc
    exact refFull_any E.w E.w.heap.size u S (sch_open hF (okSch_of hs) (hz 0 _ u rfl rfl)) (Nat.le_refl _) hm.1 hm.2.1
theorem sub_fn {a b : Nat} (ha : a < 4294967296) (hb : b < 4294967296) : FnOk Try.prog 40 ⟨[.v (.int .u32 (a : Int)), .v (.int .u32 (b : Int))], [], .v (.bool (subB a b)), []⟩ :=
  FnOk.of_calls rfl fun E vs hF hl hz => by
    obtain ⟨u, v, rfl⟩ := len2 hl
    obtain ⟨rfl, _⟩ : u = .int .u32 (a : Int) ∧ _ := hz 0 _ u rfl rfl
    obtain ⟨rfl, _⟩ : v = .int .u32 (b : Int) ∧ _ := hz 1 _ v rfl rfl
    refine (sub_any E.w a b ha hb).mono ?_
    rintro y w' ⟨rfl, rfl⟩
    exact ⟨rfl, belR _⟩
theorem sub_keys {S : Sch} {mask : Nat} (hc : checkN S = 0) (hm : mask < 4294967296) : subB mask (fullN S) = (keysOf S mask).isSome := by
  obtain ⟨hmo, _⟩ := checkN_zero hc
  have h6 := hmo.2.1
  have e : subB mask (fullN S) = decide (mask < p2 S.dims.length) := sub_full mask S.dims.length (by omega) hm
  rw [e]
  unfold keysOf
  by_cases h : mask < p2 S.dims.length
  · rw [if_pos ⟨hc, h⟩, decide_eq_true h]; rfl
  · rw [if_neg (fun hh => h hh.2), decide_eq_false h]; rfl
end Go.Proofs.Ytfhmaincnlaapaa.Sy
namespace Go.Proofs.Ytfhmaincnlaapaa.Sy
open Go.ChangeShapes Go.WideShapes Go.ChangeAt Go.RowKit
set_option linter.unusedVariables false
theorem aggRight_fn {S : Sch} {C : CellS} {mask : Nat} (hs : SchOk S) (hC : okCl C) (hm : mask < 4294967296) : FnOk Try.prog 42 ⟨[.agg (encSch S), .v (.int .u32 (mask : Int)), .agg (encCl C)], [], .v (.bool (rightC S mask C)), []⟩ :=
  FnOk.of_calls rfl fun E vs hF hl hz => by
    obtain ⟨u, v, x, rfl⟩ := len3 hl
    obtain ⟨rfl, _⟩ : v = .int .u32 (mask : Int) ∧ _ := hz 1 _ v rfl rfl
    obtain ⟨A2, c2, A3, c3, rfl, hv⟩ := cell_open hF hC (hz 2 _ x rfl rfl)
    exact aggRight_any E.w E.w.heap.size u S mask C A2 c2 A3 c3 (sch_open hF (okSch_of hs) (hz 0 _ u rfl rfl)) hs hv (Nat.le_refl _) hm
/-! ### a sum's bytes read -/
theorem dgw_at {n : Nat} (h : 0 < n) : 0 < (dgw n).length ∧ dg (dgw n) ((dgw n).length - 1) ≠ 0 := by
  have h1 : 0 < (dgw n).length := by
    rcases Nat.eq_zero_or_pos (dgw n).length with h0 | h0
    · exact absurd (dgw_len0.1 h0) (by omega)
    · exact h0
  exact ⟨h1, tsz_at (tsz_dgw n) h1⟩
theorem wordsE_all (b : List UInt8) (n : Nat) (hl : b.length = 3 + 4 * n) (h0 : 0 < n → wordB b 0 ≠ 0) (h1 : 0 < n → wordB b (n - 1) ≠ 0) : ∀ k, k ≤ n → wordsE b n k = 0
  | 0, _ => by unfold wordsE; rw [if_neg (by omega)]
  | k + 1, hk => by
    unfold wordsE
    rw [if_neg (by omega), if_neg (fun hh => ?_), wordsE_all b n hl h0 h1 k (by omega)]
    obtain ⟨ha | ha, hb⟩ := hh
    · rw [ha] at hb; exact h0 (by omega) hb
    · subst ha; exact h1 (by omega) hb
theorem readE_encS {s : SumS} (h : s.all.natAbs < roomN) (hp : s.plus = true) (h0 : 0 < s.all.natAbs) : readE (encS s) = 0 := by
  have hw := Wd_dg s.all.natAbs
  have hlen := dgw_small h
  have hz := lz_le (dgw s.all.natAbs)
  have hfl := flN_lt s
  have hlt : ∀ n ∈ encN (flN s) (dgw s.all.natAbs), n < 256 := encN_lt hw (by omega) (by omega)
  have e0 : hd (encS s) 0 = flN s := by unfold encS; rw [hd_u8 hlt]; rfl
  have e1 : hd (encS s) 1 = lz (dgw s.all.natAbs) := by unfold encS; rw [hd_u8 hlt]; rfl
  have e2 : hd (encS s) 2 = (dgw s.all.natAbs).length - lz (dgw s.all.natAbs) := by unfold encS; rw [hd_u8 hlt]; rfl
  have hl : (encS s).length = 3 + 4 * ((dgw s.all.natAbs).length - lz (dgw s.all.natAbs)) := by
    unfold encS u8L encN; rw [List.length_map, encH_len]
  have hwd : ∀ i, i < (dgw s.all.natAbs).length - lz (dgw s.all.natAbs) → wordB (encS s) i = dg (dgw s.all.natAbs) ((dgw s.all.natAbs).length - 1 - i) := fun i hi => wordB_encH hlt hw hi
  obtain ⟨p1, p2⟩ := dgw_at h0
  have hlz := (lz_dgw s.all.natAbs).resolve_left (fun hh => by rw [hh] at p1; simp at p1)
  have hat := lz_at hlz
  have hbit : flN s / 16 % 2 = 1 := by
    have h5 := (bits_of s.none s.up s.down s.minus s.plus (decide (s.all < 0))).2.2.2.2.1
    have h6 : ((flN s / 16 % 2 : Nat) : Int) = flg s.plus 1 := h5
    rw [hp] at h6
    exact Int.ofNat.inj h6
  generalize dgw s.all.natAbs = w at *
  have hh : headE (encS s) = 0 := by
    unfold headE
    rw [e0, e1, e2, if_neg (by omega), if_neg (by omega), if_neg (by omega)]
  unfold readE
  rw [if_neg (by omega), if_neg (by omega), e2]
  refine wordsE_all _ _ hl (fun hk => ?_) (fun hk => ?_) _ (Nat.le_refl _)
  · rw [hwd 0 hk]; exact p2
  · rw [hwd _ (by omega), show w.length - 1 - (w.length - lz w - 1) = lz w by omega]; exact hat
theorem readE_one (b : Nat) : readE (encS (sumOne b)) = 0 := by
  by_cases hk : kindF b = 1
  · obtain ⟨k0, k1⟩ := kind1 hk
    have e : sumOne b = ⟨false, false, false, false, true, sv b⟩ := if_pos hk
    rw [e]
    exact readE_encS (by rw [show (⟨false, false, false, false, true, sv b⟩ : SumS).all = sv b from rfl, sv_abs]; exact vl_room k1) rfl (by rw [show (⟨false, false, false, false, true, sv b⟩ : SumS).all = sv b from rfl, sv_abs]; exact vl_pos k0)
  · unfold sumOne
    rw [if_neg hk]
    unfold encS
    cases ng b <;> (repeat' split) <;> first | contradiction | (dsimp only; rw [Int.natAbs_zero, dig_zeroW]; decide)
/-! ### the cell -/
theorem okW_one {x : Int} (h : I64 x) (h0 : x ≠ -9223372036854775808) : okW (oneWh x) = true := by
  have h1 := h.1
  have h2 := h.2
  have hn : x.natAbs < 9223372036854775808 := by omega
  refine okW_yes (X := oneWh x) (by show (0 : Int) ≤ (x.natAbs : Int); omega) (by show x ≤ (x.natAbs : Int); omega) (by show -(x.natAbs : Int) ≤ x; omega) (Int.le_refl _) ?_ (tsz_dgw _)
  have h3 : x.natAbs * x.natAbs < 4294967296 ^ 4 := Nat.lt_of_lt_of_le (Nat.mul_lt_mul'' hn hn) (by decide)
  exact Nat.le_trans (dig_lenW h3) (by decide)
theorem right_one {S : Sch} {F : FactS} {mask : Nat} (h : KeyH S F mask) (hF : FacH F) (hl : mask < p2 S.dims.length) (hm : ∀ x ∈ F.ints, x ≠ -9223372036854775808) : rightC S mask (oneC S F mask) = true := by
  refine rightC_yes (n := keysP S mask S.dims.length) (if_pos ⟨h.ck, hl⟩) (h.lt (Nat.le_refl _)) (show (1 : Int) ≤ 1 by decide) ?_ ?_ ?_ ?_
  · show (F.ints.map oneWh).length = _; rw [List.length_map]; exact h.len.2.1
  · show (F.nums.map oneRe).length = _; rw [List.length_map]; exact h.len.2.2
  · show (F.ints.map oneWh).all okW = true
    rw [List.all_map, List.all_eq_true]
    exact fun x hx => okW_one (hF.ints x hx) (hm x hx)
  · show (F.nums.map oneRe).all okR = true
    rw [List.all_map, List.all_eq_true]
    exact fun x hx => okR_yes (X := oneRe x) (readE_one x) (Nat.le_refl _)
theorem okCl_one {S : Sch} {F : FactS} {mask : Nat} (h : KeyH S F mask) (hF : FacH F) (hm : ∀ x ∈ F.ints, x ≠ -9223372036854775808) : okCl (oneC S F mask) := by
  have h1 := h.lt (Nat.le_refl _)
  have h2 := h.room (Nat.le_refl _)
  refine ⟨by show kyS S F mask S.dims.length < _; omega, rfl, fun X hX => ?_, fun X hX => ?_⟩
  · obtain ⟨x, hx, rfl⟩ := List.mem_map.1 hX
    have i1 := hF.ints x hx
    have i2 := hm x hx
    have i3 := i1.1
    have i4 := i1.2
    exact ⟨WalkArith.wf_i64 i1, WalkArith.wf_i64 (show -9223372036854775808 ≤ (x.natAbs : Int) ∧ (x.natAbs : Int) ≤ 9223372036854775807 by omega), dig_ltW _, WalkArith.wf_i64 i1, WalkArith.wf_i64 i1⟩
  · obtain ⟨x, hx, rfl⟩ := List.mem_map.1 hX
    exact ⟨fun _ _ => trivial, hF.nums x hx, hF.nums x hx⟩
end Go.Proofs.Ytfhmaincnlaapaa.Sy
