/-
  agg.Put.
  schema.Full, schema.Keys; nat.size, nat.Trim; flo.Less.
  bushelref14.Light, bushelref15.Light, bushelref20.Same of two equal sheets.
  bushelref25.Sheets says true of two lists that read alike.
  One cell's number of facts is another one.
-/
import Derived.Test.YtfhmaincnlaapaaGreatApRefCode
import Derived.Test.YtfhmaincnlaapaaGreatApFloLess
import Derived.Test.YtfhmaincnlaapaaGreatApBufSmall
import Derived.Test.YtfhmaincnlaapaaGreatApSy14
import Derived.Test.YtfhmaincnlaapaaGreatApBufOutKeep
import Derived.Test.YtfhmaincnlaapaaGreatApCellPure
namespace Go.Proofs.YtfhmaincnlaapaaGreat
open Go.ChangeShapes Go.WideShapes Go.ChangeAt Go.RowKit
set_option linter.unusedVariables false

end Go.Proofs.YtfhmaincnlaapaaGreat
namespace Go.Proofs.YtfhmaincnlaapaaGreat
open Go.ChangeShapes Go.WideShapes Go.ChangeAt Go.RowKit
set_option linter.unusedVariables false

end Go.Proofs.YtfhmaincnlaapaaGreat
namespace Go.Proofs.YtfhmaincnlaapaaGreat
open Go.ChangeShapes Go.WideShapes Go.ChangeAt Go.RowKit
set_option linter.unusedVariables false

theorem lightC_no {C : CellS} (h : ¬ (C.ints.length ≤ 10 ∧ C.nums.length ≤ 10 ∧ C.ints.all lightW = true ∧ C.nums.all lightR = true)) : lightC C = false := by
  rw [← Bool.not_eq_true]
  intro hh
  unfold lightC at hh
  simp only [Bool.and_eq_true, decide_eq_true_iff] at hh
  exact h ⟨hh.1.1.1, hh.1.1.2, hh.1.2, hh.2⟩
theorem lightC_yes {C : CellS} (h1 : C.ints.length ≤ 10) (h2 : C.nums.length ≤ 10) (h3 : C.ints.all lightW = true) (h4 : C.nums.all lightR = true) : lightC C = true := by
  unfold lightC; rw [h3, h4]; simp [h1, h2]
set_option maxRecDepth 20000 in
set_option maxHeartbeats 4000000 in
theorem lightC_any (w : World) (B : Nat) (C : CellS) (D2 : Option Addr) (d2 : Nat) (D3 : Option Addr) (d3 : Nat) (hv : CellV w B C D2 d2 D3 d3) (hB : B ≤ w.heap.size) :
    Calls Tryz.prog 19 #[.agg #[.int .u64 (C.key : Int), .int .i64 C.count, .slice D2 C.ints.length d2, .slice D3 C.nums.length d3]] w fun y w' => y = .returned (.bool (lightC C)) ∧ Below w.heap.size w w' := by
  have hw0 := belA (belR w) (.cells #[.int .u64 (C.key : Int), .int .i64 C.count, .slice D2 C.ints.length d2, .slice D3 C.nums.length d3] 53)
  have kc := Blk.new w 53 #[.int .u64 (C.key : Int), .int .i64 C.count, .slice D2 C.ints.length d2, .slice D3 C.nums.length d3]
  have KC := Lib.hid kc
  have HV := Lib.hid (hv.keep (hw0.mono hB) (Nat.le_refl _)); have HW0 := Lib.hid hw0
  clear hv kc hw0
  by_cases g1 : C.ints.length ≤ 10
  case neg =>
    have t1 : decide ((10 : Int) < (C.ints.length : Int)) = true := decide_eq_true (by omega)
    have HF := Lib.hid (lightC_no (C := C) fun hh => g1 hh.1)
    rw [HF.out]
    clear g1
    go_enter Tryz.func19, Tryz.ntmps19
    go_wp2
    go_ret
    exact ⟨rfl, HW0.out⟩
  have t1 : decide ((10 : Int) < (C.ints.length : Int)) = false := decide_eq_false (by omega)
  by_cases g2 : C.nums.length ≤ 10
  case neg =>
    have t2 : decide ((10 : Int) < (C.nums.length : Int)) = true := decide_eq_true (by omega)
    have HF := Lib.hid (lightC_no (C := C) fun hh => g2 hh.2.1)
    rw [HF.out]
    clear g2
    go_enter Tryz.func19, Tryz.ntmps19
    go_wp2
    go_ret
    exact ⟨rfl, HW0.out⟩
  have t2 : decide ((10 : Int) < (C.nums.length : Int)) = false := decide_eq_false (by omega)
  have HNO := Lib.hid fun (hb : ¬ (C.ints.all lightW = true ∧ C.nums.all lightR = true)) => lightC_no (C := C) fun hh => hb hh.2.2
  have HYES := Lib.hid fun (h5 : C.ints.all lightW = true) (h6 : C.nums.all lightR = true) => lightC_yes g1 g2 h5 h6
  go_enter Tryz.func19, Tryz.ntmps19
  go_wp2
  generalize w.alloc (.cells #[.int .u64 (C.key : Int), .int .i64 C.count, .slice D2 C.ints.length d2, .slice D3 C.nums.length d3] 53) = W at *
  have m2 := KC.out.cell 2; have m3 := KC.out.cell 3
  simp at m2 m3
  clear t1 t2
  go_loop [3] (fun i => ∃ k : Nat, k ≤ C.ints.length ∧ i = .int .i64 (k : Int) ∧ Hid ((C.ints.take k).all lightW = true)) (fun i => C.ints.length - (intOf i).toNat)
  case atStart => exact ⟨0, by omega, rfl, Lib.hid rfl⟩
  case round =>
    obtain ⟨k, hk, rfl, HA⟩ := hrel
    by_cases hlt : k < C.ints.length
    · obtain ⟨a, Aq, cq, ea, hab, x0, x1, x2, _⟩ := HV.out.ints.wholeAt hlt
      have q1 : (0 : Int) ≤ (k : Int) := by omega
      have q2 : (k : Int) < (C.ints.length : Int) := by omega
      have hts := all_take_succ lightW C.ints k hlt
      rw [HA.out, Bool.true_and] at hts
      have HN1 := Lib.hid fun (hf : lightW C.ints[k] = false) => HNO.out fun hh => by rw [all_no lightW C.ints k hlt hf] at hh; exact absurd hh.1 (by decide)
      rw [ea] at m2
      generalize C.ints[k] = X at *
      by_cases hx : X.sq.length ≤ 20
      · have t1 : decide ((20 : Int) < (X.sq.length : Int)) = false := decide_eq_false (by omega)
        have HT2 := Lib.hid (hts.trans (decide_eq_true hx))
        clear hts hx
        go_wp2
        go_round
        case rel => exact ⟨k + 1, by omega, by go_num, HT2⟩
        case measure => simp [intOf]; omega
      · have t1 : decide ((20 : Int) < (X.sq.length : Int)) = true := decide_eq_true (by omega)
        have HF := Lib.hid (HN1.out (decide_eq_false hx))
        clear hts hx
        go_wp2
        go_ret
        exact ⟨(by rw [HF.out] <;> rfl), HW0.out⟩
    · obtain rfl : k = C.ints.length := by omega
      rw [List.take_length] at HA
      have HA1 := HA
      have t0 : decide ((C.ints.length : Int) < (C.ints.length : Int)) = false := decide_eq_false (by omega)
      clear HA
      go_wp2
      go_loop [4] (fun i => ∃ k : Nat, k ≤ C.nums.length ∧ i = .int .i64 (k : Int) ∧ Hid ((C.nums.take k).all lightR = true)) (fun i => C.nums.length - (intOf i).toNat)
      case atStart => exact ⟨0, by omega, rfl, Lib.hid rfl⟩
      case round =>
        obtain ⟨k, hk, rfl, HA⟩ := hrel
        by_cases hlt : k < C.nums.length
        · obtain ⟨a, Aq, cq, ea, hab, x0, x1, x2, _⟩ := HV.out.nums.realAt hlt
          have q1 : (0 : Int) ≤ (k : Int) := by omega
          have q2 : (k : Int) < (C.nums.length : Int) := by omega
          have hts := all_take_succ lightR C.nums k hlt
          rw [HA.out, Bool.true_and] at hts
          have HN1 := Lib.hid fun (hf : lightR C.nums[k] = false) => HNO.out fun hh => by rw [all_no lightR C.nums k hlt hf] at hh; exact absurd hh.2 (by decide)
          rw [ea] at m3
          generalize C.nums[k] = X at *
          by_cases hx : X.sum.length ≤ 300
          · have t1 : decide ((300 : Int) < (X.sum.length : Int)) = false := decide_eq_false (by omega)
            have HT2 := Lib.hid (hts.trans (decide_eq_true hx))
            clear hts hx
            go_wp2
            go_round
            case rel => exact ⟨k + 1, by omega, by go_num, HT2⟩
            case measure => simp [intOf]; omega
          · have t1 : decide ((300 : Int) < (X.sum.length : Int)) = true := decide_eq_true (by omega)
            have HF := Lib.hid (HN1.out (decide_eq_false hx))
            clear hts hx
            go_wp2
            go_ret
            exact ⟨(by rw [HF.out] <;> rfl), HW0.out⟩
        · obtain rfl : k = C.nums.length := by omega
          rw [List.take_length] at HA
          have HT := Lib.hid (HYES.out HA1.out HA.out)
          go_wp2
          go_ret
          exact ⟨(by rw [HT.out] <;> rfl), HW0.out⟩
end Go.Proofs.YtfhmaincnlaapaaGreat
namespace Go.Proofs.YtfhmaincnlaapaaGreat
open Go.ChangeShapes Go.WideShapes Go.ChangeAt Go.RowKit
set_option linter.unusedVariables false

theorem fullP_le (S : Sch) : fullP S < 4294967296 := by
  unfold fullP
  split
  · rename_i h
    obtain ⟨hm, _⟩ := checkN_zero h
    unfold manyOk at hm
    unfold fullN
    have := p2_le _ 31 (show S.dims.length ≤ 31 by omega)
    rw [p2_31] at this
    omega
  · decide
set_option maxRecDepth 20000 in
set_option maxHeartbeats 1000000 in
theorem full_any (w : World) (B : Nat) (v : Value) (S : Sch) (h : SchAt w B v S) (ho : SchOk S) (hB : B ≤ w.heap.size) :
    Calls Tryz.prog 119 #[v] w fun y w' => y = .returned (.int .u32 (fullP S : Int)) ∧ Below w.heap.size w w' := by
  have hh := h
  obtain ⟨A0, c0, A1, c1, A2, c2, A3, c3, rfl, r0, r1, r2, r3, b0, b1, b2, b3⟩ := hh
  clear r0 r1 r2 r3 b0 b1 b2 b3
  have hw0 := belA (belR w) (.cells #[.slice A0 S.dims.length c0, .slice A1 S.ints.length c1, .slice A2 S.nums.length c2, .slice A3 S.views.length c3] 26)
  have hc := schemaCheck_any (w.alloc (.cells #[.slice A0 S.dims.length c0, .slice A1 S.ints.length c1, .slice A2 S.nums.length c2, .slice A3 S.views.length c3] 26)) B _ S (h.keep (hw0.mono hB) (Nat.le_refl _)) ho (by simp; omega)
  have K0 := Lib.hid (Blk.new w 26 #[.slice A0 S.dims.length c0, .slice A1 S.ints.length c1, .slice A2 S.nums.length c2, .slice A3 S.views.length c3])
  have HW0 := Lib.hid hw0
  clear hw0 h
  by_cases h0 : checkN S = 0
  · have e : fullP S = p2 S.dims.length - 1 := if_pos h0
    obtain ⟨hm, _⟩ := checkN_zero h0
    unfold manyOk at hm
    obtain ⟨m1, m2, _⟩ := hm
    rw [h0] at hc
    have hsh := shl_one S.dims.length m1 m2
    have hlt := fullP_le S
    rw [e] at hlt ⊢
    have hw : IntKind.u32.wrap ((p2 S.dims.length - 1 : Nat) : Int) = ((p2 S.dims.length - 1 : Nat) : Int) := by rw [IntKind.wrap_u32]; omega
    have HC := Lib.hid hc
    clear hc h0 e
    generalize p2 S.dims.length - 1 = q at *
    go_enter Tryz.func119, Tryz.ntmps119
    go_wp2_with (go_at_call 39; (with_reducible refine HC.out.mono ?_); rintro y w1 ⟨rfl, hb1⟩; have HB1 := Lib.hid (HW0.out.trans (hb1.mono (show w.heap.size ≤ _ by simp))); have hk := K0.out.below hb1 (by simp); have k0 := hk.cell 0; simp at k0; clear hb1 hk)
    go_ret
    exact ⟨rfl, HB1.out⟩
  · have e : fullP S = 0 := if_neg h0
    rw [e]
    have t0 := i64_ne0 h0
    have HC := Lib.hid hc
    clear hc h0 e
    go_enter Tryz.func119, Tryz.ntmps119
    go_wp2_with (go_at_call 39; (with_reducible refine HC.out.mono ?_); rintro y w1 ⟨rfl, hb1⟩; have HB1 := Lib.hid (HW0.out.trans (hb1.mono (show w.heap.size ≤ _ by simp))); clear hb1)
    go_ret
    exact ⟨rfl, HB1.out⟩
theorem keysP_le (S : Sch) (mask : Nat) : ∀ k p, keysTo S k = some p → keysP S mask k ≤ p := by
  intro k
  induction k with
  | zero => intro p h; have := (keysTo_le S 0 p h).1; exact this
  | succ k ih =>
    intro q h
    cases hk : keysTo S k with
    | none => rw [keysTo_none S k hk (k + 1) (by omega)] at h; cases h
    | some p =>
      have hp := ih p hk
      rw [keysTo_succ S k p hk] at h
      unfold keyStep at h
      split at h
      · rename_i hd
        injection h with h
        subst h
        unfold keysP
        have h1 : 1 ≤ (szAt S k).toNat := by omega
        split
        · exact Nat.mul_le_mul_right _ hp
        · have := Nat.mul_le_mul_left p h1
          omega
      · cases h
theorem keysTo_part (S : Sch) (m p : Nat) (h : keysTo S m = some p) (k : Nat) (hk : k ≤ m) : ∃ q, keysTo S k = some q := by
  cases hq : keysTo S k with
  | none => rw [keysTo_none S k hq m hk] at h; cases h
  | some q => exact ⟨q, rfl⟩
theorem andNot_full (mask n : Nat) (hn : n ≤ 31) (hm : mask < 4294967296) : bits .andNot .u32 (mask : Int) ((p2 n - 1 : Nat) : Int) = ((mask / p2 n * p2 n : Nat) : Int) := by
  have h1 := p2_le n 31 hn
  rw [p2_31] at h1
  rw [u32_andNot_nat mask _ hm (by omega), and_hi mask n hn hm]
theorem keysP_succ (S : Sch) (mask k : Nat) : keysP S mask (k + 1) = if mask.testBit k then keysP S mask k * (szAt S k).toNat else keysP S mask k := rfl
set_option maxRecDepth 20000 in
set_option maxHeartbeats 4000000 in
theorem keys_any (w : World) (B : Nat) (v : Value) (S : Sch) (mask : Nat) (h : SchAt w B v S) (ho : SchOk S) (hB : B ≤ w.heap.size) (hm : mask < 4294967296) :
    Calls Tryz.prog 57 #[v, .int .u32 (mask : Int)] w fun y w' => y = .returned (.tuple #[.int .u64 (((keysOf S mask).getD 0 : Nat) : Int), .bool (keysOf S mask).isSome]) ∧ Below w.heap.size w w' := by
  have hh := h
  obtain ⟨A0, c0, A1, c1, A2, c2, A3, c3, rfl, r0, r1, r2, r3, b0, b1, b2, b3⟩ := hh
  clear r1 r2 r3 b0 b1 b2 b3
  have hw0 := belA (belR w) (.cells #[.slice A0 S.dims.length c0, .slice A1 S.ints.length c1, .slice A2 S.nums.length c2, .slice A3 S.views.length c3] 26)
  have hc := full_any (w.alloc (.cells #[.slice A0 S.dims.length c0, .slice A1 S.ints.length c1, .slice A2 S.nums.length c2, .slice A3 S.views.length c3] 26)) B _ S (h.keep (hw0.mono hB) (Nat.le_refl _)) ho (by simp; omega)
  have K0 := Lib.hid (Blk.new w 26 #[.slice A0 S.dims.length c0, .slice A1 S.ints.length c1, .slice A2 S.nums.length c2, .slice A3 S.views.length c3])
  have HW0 := Lib.hid hw0; have R0 := Lib.hid r0
  clear hw0 h r0
  by_cases h0 : checkN S = 0
  case neg =>
    have e : keysOf S mask = none := if_neg fun hh => h0 hh.1
    have ef : fullP S = 0 := if_neg h0
    rw [ef] at hc
    rw [e]
    have HC := Lib.hid hc
    clear hc h0 e ef
    go_enter Tryz.func57, Tryz.ntmps57
    go_wp2_with (go_at_call 119; (with_reducible refine HC.out.mono ?_); rintro y w1 ⟨rfl, hb1⟩; have HB1 := Lib.hid (HW0.out.trans (hb1.mono (show w.heap.size ≤ _ by simp))); clear hb1)
    go_ret2
    exact ⟨rfl, HB1.out⟩
  case pos =>
    obtain ⟨hmo, p, hp⟩ := checkN_zero h0
    unfold manyOk at hmo
    obtain ⟨m1, m2, _⟩ := hmo
    have ef : fullP S = p2 S.dims.length - 1 := if_pos h0
    have hlt := fullP_le S
    have han := andNot_full mask S.dims.length (by omega) hm
    have hp2 := p2_le 1 _ m1
    have hp1 : p2 1 = 2 := rfl
    rw [hp1] at hp2
    rw [ef] at hc hlt
    have hf0 : (((p2 S.dims.length - 1 : Nat) : Int) == 0) = false := by rw [beq_eq_false_iff_ne]; omega
    by_cases hlm : mask < p2 S.dims.length
    case neg =>
      have e : keysOf S mask = none := if_neg fun hh => hlm hh.2
      have hnz : (((mask / p2 S.dims.length * p2 S.dims.length : Nat) : Int) != 0) = true := by
        have : 0 < mask / p2 S.dims.length := Nat.div_pos (by omega) (by omega)
        have := Nat.mul_pos this (show 0 < p2 S.dims.length by omega)
        rw [bne_iff_ne]; omega
      rw [e]
      have HC := Lib.hid hc
      clear hc h0 e ef hp2 hp hlt hlm
      generalize p2 S.dims.length - 1 = q at *
      generalize mask / p2 S.dims.length * p2 S.dims.length = r at *
      go_enter Tryz.func57, Tryz.ntmps57
      go_wp2_with (go_at_call 119; (with_reducible refine HC.out.mono ?_); rintro y w1 ⟨rfl, hb1⟩; have HB1 := Lib.hid (HW0.out.trans (hb1.mono (show w.heap.size ≤ _ by simp))); clear hb1)
      go_ret2
      exact ⟨rfl, HB1.out⟩
    case pos =>
      have e : keysOf S mask = some (keysP S mask S.dims.length) := if_pos ⟨h0, hlm⟩
      have hz : mask / p2 S.dims.length * p2 S.dims.length = 0 := by rw [Nat.div_eq_of_lt hlm, Nat.zero_mul]
      rw [hz] at han
      have han0 : bits .andNot .u32 (mask : Int) ((p2 S.dims.length - 1 : Nat) : Int) = 0 := han
      rw [e]
      simp only [Option.getD_some, Option.isSome_some]
      have HC := Lib.hid hc; have HSZ := Lib.hid (keysTo_some S _ p hp)
      have HKP : Hid (∀ k, k ≤ S.dims.length → keysP S mask k ≤ 1099511627776) := Lib.hid fun k hk => by
        obtain ⟨q, hq⟩ := keysTo_part S _ p hp k hk
        exact Nat.le_trans (keysP_le S mask k q hq) (keysTo_le S k q hq).2
      clear hc h0 e ef hp2 hp hlt hlm han hz
      generalize p2 S.dims.length - 1 = q at *
      go_enter Tryz.func57, Tryz.ntmps57
      go_wp2_with (go_at_call 119; (with_reducible refine HC.out.mono ?_); rintro y w1 ⟨rfl, hb1⟩; have HB1 := Lib.hid (HW0.out.trans (hb1.mono (show w.heap.size ≤ _ by simp))); have hk := K0.out.below hb1 (by simp); have k0 := hk.cell 0; simp at k0; clear hb1 hk)
      clear k0
      go_loopw [7, 23] (fun kv i wr => ∃ k : Nat, k ≤ S.dims.length ∧ i = .int .i64 (k : Int) ∧ kv = .int .u64 (keysP S mask k : Int) ∧ Hid (Below w.heap.size w wr)) (fun _ i _ => S.dims.length - (intOf i).toNat)
      case atStart => exact ⟨0, by omega, rfl, rfl, HB1.out⟩
      case round =>
        obtain ⟨k, hk, rfl, rfl, HB⟩ := hrel
        by_cases hlt : k < S.dims.length
        · obtain ⟨a, rfl, hab, x0, x1⟩ := (R0.out.below (HB.out.mono hB)).dim hlt
          have q1 : (0 : Int) ≤ (k : Int) := by omega
          have q2 : (k : Int) < (S.dims.length : Int) := by omega
          have hzk := HSZ.out k hlt
          have hsz : szAt S k = S.dims[k].2 := by unfold szAt; simp [List.getD, hlt]
          have hs := keysP_succ S mask k
          have hkp := HKP.out (k + 1) (by omega)
          have hkq := HKP.out k (by omega)
          have hsh : (mask : Int) / 2 ^ k = ((mask / p2 k : Nat) : Int) := by unfold p2; simp
          have hlq : mask / p2 k < 4294967296 := Nat.lt_of_le_of_lt (Nat.div_le_self _ _) hm
          have hbit := bit_of mask k
          have han2 : bits .and .u32 ((mask / p2 k : Nat) : Int) 1 = ((mask / p2 k % 2 : Nat) : Int) := by
            have := u32_and_nat (mask / p2 k) 1 hlq (by decide)
            rw [Nat.and_one_is_mod] at this
            exact this
          rw [hbit] at han2
          generalize mask / p2 k = MK at *
          have hbz := (belA (HB.out.mono (Nat.le_refl _)) (.cells #[.string S.dims[k].1, .int .i64 S.dims[k].2] 79))
          generalize S.dims[k] = d at *
          obtain ⟨nm, sz⟩ := d
          simp only at x0 x1 hsz hbz
          subst hsz
          obtain ⟨z, hz⟩ : ∃ z : Nat, szAt S k = (z : Int) := ⟨(szAt S k).toNat, by omega⟩
          rw [hz] at x1 hs hzk hbz
          rw [Int.toNat_natCast] at hs
          generalize keysP S mask k = K at *
          have wz : IntKind.u64.wrap (z : Int) = (z : Int) := by rw [IntKind.wrap_u64]; omega
          cases hb : mask.testBit k with
          | true =>
            rw [hb] at hs han2
            simp only [if_true] at hs han2
            rw [hs] at hkp
            have wm : IntKind.u64.wrap ((K : Int) * (z : Int)) = ((K * z : Nat) : Int) := by rw [← Int.natCast_mul, IntKind.wrap_u64]; omega
            have HS := Lib.hid hs; have HBZ := Lib.hid hbz
            clear hs hbz hb hbit hz
            go_wp2
            go_roundw
            case rel => exact ⟨k + 1, by omega, by go_num, by rw [HS.out, Int.natCast_mul], HBZ.out⟩
            case measure => simp [intOf]; omega
          | false =>
            rw [hb] at hs han2
            simp only [Bool.false_eq_true, if_false] at hs han2
            have HS := Lib.hid hs; have HBZ := Lib.hid hbz
            clear hs hbz hb hbit hz
            go_wp2
            go_roundw
            case rel => exact ⟨k + 1, by omega, by go_num, by rw [HS.out], HBZ.out⟩
            case measure => simp [intOf]; omega
        · obtain rfl : k = S.dims.length := by omega
          go_wp2
          go_ret2
          exact ⟨rfl, HB.out⟩
theorem Rd.u32n {w : World} {B : Nat} {A : Option Addr} {l : List Nat} (h : Rd w B 1 A l.length (u32n l)) {k : Nat} (hk : k < l.length) : ∃ a, A = some a ∧ a.block < B ∧ w.cell? (a.add k) = some (.int .u32 ((l.getD k 0 : Nat) : Int)) := by
  obtain ⟨a, u, e, hb, hx, hc⟩ := h.at1 hk
  refine ⟨a, e, hb, ?_⟩
  rw [hc]
  simp [hk] at hx
  simp [List.getD, hk, ← hx]
theorem tsz_take (l : List Nat) (m : Nat) (h : m < l.length) : tsz (l.take (m + 1)) = if l.getD m 0 = 0 then tsz (l.take m) else m + 1 := by
  rw [List.take_succ_eq_append_getElem h, tsz_last, List.length_take, Nat.min_eq_left (by omega)]
  simp [List.getD, h]
set_option maxRecDepth 20000 in
theorem size_any (w : World) (B : Nat) (A : Option Addr) (c : Nat) (l : List Nat) (hR : Rd w B 1 A l.length (u32n l)) (hl : l.length ≤ 1000000) :
    Calls Tryz.prog 140 #[.slice A l.length c] w fun y w' => y = .returned (.int .i64 (tsz l : Int)) ∧ w = w' := by
  have HR := Lib.hid hR
  clear hR
  go_enter Tryz.func140, Tryz.ntmps140
  go_wp2
  go_loop [3] (fun i => ∃ m : Nat, m ≤ l.length ∧ i = .int .i64 (m : Int) ∧ Hid (tsz (l.take m) = tsz l)) (fun i => (intOf i).toNat)
  case atStart => exact ⟨l.length, Nat.le_refl _, rfl, by rw [List.take_length]; exact Lib.hid rfl⟩
  case round =>
    obtain ⟨m, hm, rfl, HT⟩ := hrel
    cases m with
    | zero =>
      have ht := HT.out
      rw [List.take_zero] at ht
      have hz : tsz l = 0 := by rw [← ht]; rfl
      have HZ := Lib.hid hz
      simp only [show ((0 : Nat) : Int) = 0 from rfl]
      clear ht HT hz
      go_wp2
      go_ret
      exact ⟨by rw [HZ.out]; rfl, rfl⟩
    | succ m =>
      obtain ⟨a, rfl, hab, x0⟩ := HR.out.u32n (k := m) (by omega)
      have ht := tsz_take l m (by omega)
      rw [HT.out] at ht
      have q1 : (0 : Int) ≤ (m : Int) := by omega
      have q2 : (m : Int) < (l.length : Int) := by omega
      have e1 : ((m + 1 : Nat) : Int) - 1 = (m : Int) := by omega
      have g1 : decide ((0 : Int) < ((m + 1 : Nat) : Int)) = true := decide_eq_true (by omega)
      have w1 : IntKind.i64.wrap (m : Int) = (m : Int) := IntWalk.i64_in _ (by omega)
      generalize l.getD m 0 = x at *
      by_cases hx : x = 0
      · subst hx
        rw [if_pos rfl] at ht
        have HT2 := Lib.hid ht
        simp only [show ((0 : Nat) : Int) = 0 from rfl] at x0
        clear ht
        go_wp2
        go_round
        case rel => exact ⟨m, by omega, (by first | rfl | rw [w1] | go_num), HT2.out.symm⟩
        case measure => first | (simp [intOf]; done) | simp [intOf, w1]
      · rw [if_neg hx] at ht
        have HZ := Lib.hid ht
        have t0 : ((x : Int) == 0) = false := by rw [beq_eq_false_iff_ne]; omega
        clear ht hx
        go_wp2
        go_ret
        exact ⟨by rw [HZ.out]; rfl, rfl⟩
theorem info_u32 : (Tryz.prog.info? 39).map (fun i => (i.zero, i.size, i.bytes)) = some (some (.int .u32 0), 1, 4) := by kernel_rfl
theorem u32n_one (l : List Nat) : ∀ u ∈ u32n l, u.oneCell' = true := by intro u hu; obtain ⟨x, _, rfl⟩ := List.mem_map.1 hu; rfl
theorem rd_take1 {w : World} {B n k : Nat} {A : Option Addr} {xs : List Value} (h : Rd w B 1 A n xs) (hk : k ≤ n) : Rd w B 1 A k (xs.take k) := by
  have hl := h.1
  refine ⟨by rw [List.length_take]; omega, fun hn => ?_⟩
  obtain ⟨a, rfl, hb, hcell⟩ := h.2 (by omega)
  refine ⟨a, rfl, hb, fun j u hu => hcell j u ?_⟩
  rw [List.getElem?_take] at hu
  split at hu
  · exact hu
  · cases hu
set_option maxRecDepth 20000 in
theorem trim_any (w : World) (B : Nat) (A : Option Addr) (c : Nat) (l : List Nat) (hR : Rd w B 1 A l.length (u32n l)) (hl : l.length ≤ 1000000) (hlc : l.length ≤ c) (hc : c ≤ maxLen) :
    Calls Tryz.prog 71 #[.slice A l.length c] w fun y w' => ∃ v, y = .returned v ∧ w'.ownsRow w.heap.size 39 1 v (tsz l) (u32n (l.take (tsz l))) ∧ Below w.heap.size w w' := by
  have ht := tsz_le l
  have hs := size_any w B A c l hR hl
  have hr := rd_take1 hR ht
  rw [show (u32n l).take (tsz l) = u32n (l.take (tsz l)) from by simp [u32n, List.map_take]] at hr
  have hone := u32n_one (l.take (tsz l))
  have q1 : (0 : Int) ≤ (tsz l : Int) := by omega
  have q2 : (tsz l : Int) ≤ (c : Int) := by omega
  have hcc := hc
  unfold maxLen at hcc
  have HS := Lib.hid hs; have HR := Lib.hid hr; have HO := Lib.hid hone; have HN := Lib.hid (World.ownsRow_nil w w.heap.size 39 1)
  clear hs hr hone hR
  generalize tsz l = m at *
  generalize l.take m = l' at *
  go_enter Tryz.func71, Tryz.ntmps71
  go_wp2_with (first
    | (go_at_call 140; (with_reducible refine HS.out.mono ?_); rintro y w1 ⟨rfl, rfl⟩)
    | (at_builtin; refine wpList_appS w rfl _ _ 24 rfl w.heap.size 39 _ 1 4 info_u32 rfl (by decide) Tryz.underlying24 (.slice none 0 0) 0 [] HN.out rfl _ _ m _ (u32n l') HR.out rfl HO.out ?_ ?_ ?_ ?_; omega; omega; exact Nat.le_refl _; intro v2 w2 ho2 hap2; have HO2 := Lib.hid ho2; have HB2 := Lib.hid (hap2.below (Nat.le_refl _) HN.out); clear ho2 hap2))
  go_ret
  have h2 := HO2.out
  rw [Nat.zero_add, List.nil_append] at h2
  exact ⟨_, rfl, h2, HB2.out⟩
theorem less_flo (a b : Nat) (w : World) (ha : a < 18446744073709551616) (hb : b < 18446744073709551616) : Calls Tryz.prog 72 #[.float .f64 a, .float .f64 b] w fun y w' => y = .returned (.bool (decide (keyB a < keyB b))) ∧ w = w' := by
  have HA := Lib.hid (fun W => key_any a W ha); have HB := Lib.hid (fun W => key_any b W hb)
  go_enter Tryz.func72, Tryz.ntmps72
  go_wp2_with fail
  (with_reducible refine (HA.out _).mono ?_); rintro y w1 ⟨rfl, rfl⟩
  go_wp2_with fail
  (with_reducible refine (HB.out _).mono ?_); rintro y w1 ⟨rfl, rfl⟩
  go_wp2
  go_ret
  first
  | exact ⟨rfl, rfl⟩
  | (refine ⟨?_, rfl⟩; congr 2; rw [Bool.eq_iff_iff]; simp)
end Go.Proofs.YtfhmaincnlaapaaGreat
namespace Go.Proofs.YtfhmaincnlaapaaGreat
open Go.ChangeShapes Go.WideShapes Go.ChangeAt Go.RowKit
set_option linter.unusedVariables false

theorem flat_take_le {α : Type} (f : α → List UInt8) (c : Nat) (l : List α) (h : ∀ x ∈ l, (f x).length ≤ c) (k m : Nat) (hk : l.length ≤ m) : ((l.take k).flatMap f).length ≤ c * m := by
  have h1 := flat_le f c (l.take k) fun x hx => h x (List.mem_of_mem_take hx)
  have h2 : (l.take k).length ≤ m := by rw [List.length_take]; omega
  exact Nat.le_trans h1 (Nat.mul_le_mul_left c h2)
theorem lightC_parts {C : CellS} (h : lightC C = true) : C.ints.length ≤ 10 ∧ C.nums.length ≤ 10 ∧ (∀ x ∈ C.ints, x.sq.length ≤ 20) ∧ ∀ x ∈ C.nums, x.sum.length ≤ 300 := by
  unfold lightC lightW lightR at h
  simp only [Bool.and_eq_true, decide_eq_true_iff, List.all_eq_true] at h
  exact ⟨h.1.1.1, h.1.1.2, h.1.2, h.2⟩
def putW (C : CellS) (k : Nat) : List UInt8 := encU C.key ++ encI C.count ++ encWholes (C.ints.take k)
def putR (C : CellS) (k : Nat) : List UInt8 := encU C.key ++ encI C.count ++ encWholes C.ints ++ encReals (C.nums.take k)
theorem putW_zero (C : CellS) : putW C 0 = encU C.key ++ encI C.count := by unfold putW encWholes; simp
theorem putW_all (C : CellS) : putW C C.ints.length = putR C 0 := by unfold putW putR encReals; rw [List.take_length]; simp
theorem putR_all (C : CellS) : putR C C.nums.length = encCell C := by unfold putR encCell; rw [List.take_length]
theorem putW_succ (C : CellS) (k : Nat) (hk : k < C.ints.length) : putW C (k + 1) = putW C k ++ encI C.ints[k].sum ++ encI C.ints[k].abs ++ encU C.ints[k].sq.length ++ encSq C.ints[k].sq ++ encI C.ints[k].mn ++ encI C.ints[k].mx := by
  unfold putW encWholes
  rw [List.take_succ_eq_append_getElem hk, List.flatMap_append, List.flatMap_singleton]
  unfold encWhole
  simp only [List.append_assoc]
theorem putR_succ (C : CellS) (k : Nat) (hk : k < C.nums.length) : putR C (k + 1) = putR C k ++ encU C.nums[k].sum.length ++ C.nums[k].sum ++ be 8 (keyB C.nums[k].mn) ++ be 8 (keyB C.nums[k].mx) := by
  unfold putR encReals
  rw [List.take_succ_eq_append_getElem hk, List.flatMap_append, List.flatMap_singleton]
  unfold encReal
  simp only [List.append_assoc]
theorem putW_le {C : CellS} (h : lightC C = true) (k : Nat) : (putW C k).length ≤ 3000 := by
  obtain ⟨h1, h2, h3, h4⟩ := lightC_parts h
  have := flat_take_le encWhole 225 C.ints (fun x hx => encWhole_le (decide_eq_true (h3 x hx))) k 10 h1
  have := encU_9 C.key; have := encI_9 C.count
  unfold putW encWholes; simp only [List.length_append]; omega
theorem putR_le {C : CellS} (h : lightC C = true) (k : Nat) : (putR C k).length ≤ 7000 := by
  obtain ⟨h1, h2, h3, h4⟩ := lightC_parts h
  have hw := putW_le h C.ints.length
  have := flat_take_le encReal 325 C.nums (fun x hx => encReal_le (decide_eq_true (h4 x hx))) k 10 h2
  rw [putW_all] at hw
  unfold putR encReals at hw ⊢
  simp only [List.length_append] at hw ⊢; omega
theorem run_store_fA {P : Program} {w : World} {a : Addr} {m : Mode} (k : FloatKind) (b : Nat) : (store a (.float k b) m).run P w = stored P w a (.float k b) m := run_store P w a _ m rfl
attribute [local go_sem] run_store_fA
theorem encSq_succ (l : List Nat) (k : Nat) (hk : k < l.length) : encSq (l.take (k + 1)) = encSq (l.take k) ++ encU (l.getD k 0) := flat_snoc encU 0 l k hk
set_option maxRecDepth 20000 in
set_option maxHeartbeats 8000000 in
theorem aggPut_any (w : World) (B : Nat) (C : CellS) (A2 : Option Addr) (c2 : Nat) (A3 : Option Addr) (c3 : Nat) (hv : CellV w B C A2 c2 A3 c3) (hl : lightC C = true) (hB : B ≤ w.heap.size) :
    Calls Tryz.prog 36 #[.agg #[.int .u64 (C.key : Int), .int .i64 C.count, .slice A2 C.ints.length c2, .slice A3 C.nums.length c3]] w fun y w' => ∃ v', y = .returned v' ∧ w'.ownsRow w.heap.size 5 1 v' (encCell C).length (u8s (encCell C)) ∧ Below w.heap.size w w' := by
  have hw0 := belA (belR w) (.cells #[.int .u64 (C.key : Int), .int .i64 C.count, .slice A2 C.ints.length c2, .slice A3 C.nums.length c3] 53)
  have hbk := Blk.new w 53 #[.int .u64 (C.key : Int), .int .i64 C.count, .slice A2 C.ints.length c2, .slice A3 C.nums.length c3]
  obtain ⟨hk1, hk2, hsi, hsn⟩ := hv.keep (hw0.mono hB) (Nat.le_refl _)
  obtain ⟨l1, l2, l3, l4⟩ := lightC_parts hl
  have HWL := Lib.hid (putW_le hl); have HRL := Lib.hid (putR_le hl); have HL3 := Lib.hid l3; have HL4 := Lib.hid l4
  have HW0 := Lib.hid hw0; have HBK := Lib.hid hbk; have G1 := Lib.hid hsi; have G2 := Lib.hid hsn
  clear hw0 hbk hsi hsn hv hl l3 l4
  go_enter Tryz.func36, Tryz.ntmps36
  go_wp2_with fail
  (with_reducible refine (newOut_any _).mono ?_); rintro y w2 ⟨rfl, ho2, hb2⟩
  generalize hW : w.alloc (.cells #[.int .u64 (C.key : Int), .int .i64 C.count, .slice A2 C.ints.length c2, .slice A3 C.nums.length c3] 53) = W at *
  have hzW : W.heap.size = w.heap.size + 1 := by rw [← hW]; simp
  clear hW
  rw [hzW] at ho2 hb2
  generalize hbase : w.heap.size + 1 = base at *
  generalize hgb : w.heap.size = gb at *
  have hkb := HBK.out.below hb2 (by omega)
  have k0 := hkb.cell 0
  simp at k0
  have HB2 := Lib.hid hb2
  have hc := outUK_any w2 base base C.key [] ho2 hk1 (by simp)
  have HC := Lib.hid hc; have HKB := Lib.hid hkb
  clear hc hkb hb2 ho2 HBK
  go_wp2_with fail
  (with_reducible refine HC.out.mono ?_); rintro y w3 ⟨rfl, ho3, hb3, hk3⟩
  have hkb := hk3 _ _ _ HKB.out (by decide) (by decide)
  have k1 := hkb.cell 1
  simp at k1
  have h9 := encU_9 C.key
  have HB3 := Lib.hid (HB2.out.trans hb3)
  have hc := outIK_any w3 base base C.count _ ho3 hk2.1 hk2.2 (by rw [List.nil_append]; omega)
  have HC4 := Lib.hid hc; have HKB3 := Lib.hid hkb
  clear hc hkb hb3 ho3 hk3 HKB HC HB2 k0
  go_wp2_with fail
  (with_reducible refine HC4.out.mono ?_); rintro y w4 ⟨rfl, ho4, hb4, hk4⟩
  have hkb := hk4 _ _ _ HKB3.out (by decide) (by decide)
  have k2 := hkb.cell 2
  simp at k2
  have HB4 := Lib.hid (HB3.out.trans hb4)
  have HO4 : Hid (OutS w4 base base (putW C 0)) := Lib.hid (by rw [putW_zero]; exact ho4)
  have HKB4 := Lib.hid hkb
  clear hkb hb4 ho4 hk4 HKB3 HC4 HB3 k1
  go_wp2
  go_loopw [22] (fun i wr => ∃ k : Nat, k ≤ C.ints.length ∧ i = .int .i64 (k : Int) ∧ Hid (OutS wr base base (putW C k)) ∧ Hid (Below base W wr) ∧ Hid (Blk wr gb 53 #[.int .u64 (C.key : Int), .int .i64 C.count, .slice A2 C.ints.length c2, .slice A3 C.nums.length c3])) (fun i _ => C.ints.length - (intOf i).toNat)
  case atStart => exact ⟨0, by omega, rfl, HO4.out, HB4.out, HKB4.out⟩
  case round =>
    obtain ⟨k, hk, rfl, HO, HBl, HKC⟩ := hrel
    have hzr : base ≤ wr.heap.size := by rw [← hzW]; exact HBl.out.size
    clear k2 HO4 HB4 HKB4
    by_cases hlt : k < C.ints.length
    · obtain ⟨a, Aq, cq, ea, hab, x0, x1, x2, x3, x4, hRq, hq1, hq2, hq3, hs, ha, hmn, hmx⟩ := (G1.out.keep (HBl.out.mono (show B ≤ base by omega)) (Nat.le_refl _)).wholeAt hlt
      have q1 : (0 : Int) ≤ (k : Int) := by omega
      have q2 : (k : Int) < (C.ints.length : Int) := by omega
      have hsn := putW_succ C k hlt
      have hll := HWL.out k
      have hq20 := HL3.out _ (List.getElem_mem hlt)
      subst ea
      generalize C.ints[k] = X at *
      have hbx := belA (belR wr) (.cells #[.int .i64 X.sum, .int .i64 X.abs, .slice Aq X.sq.length cq, .int .i64 X.mn, .int .i64 X.mx] 122)
      have hbk := Blk.new wr 122 #[.int .i64 X.sum, .int .i64 X.abs, .slice Aq X.sq.length cq, .int .i64 X.mn, .int .i64 X.mx]
      have HKX := Lib.hid hbk; have HKC2 := Lib.hid (HKC.out.below hbx HKC.out.lt)
      have SQ := Lib.hid (hRq.below (hbx.mono (show B ≤ wr.heap.size by omega)))
      have HOX := Lib.hid (HO.out.below hbx); have HBX := Lib.hid (HBl.out.trans (hbx.mono hzr)); have HSN := Lib.hid hsn; have HQ3 := Lib.hid hq3
      generalize putW C k = L at *
      clear hbx hbk hRq hsn HO HKC hq3
      have e1 := encI_9 X.sum; have e2 := encI_9 X.abs; have e3 := encU_9 X.sq.length; have e4 := encI_9 X.mn; have e5 := encSq_le X.sq
      have hc := outIK_any (wr.alloc (.cells #[.int .i64 X.sum, .int .i64 X.abs, .slice Aq X.sq.length cq, .int .i64 X.mn, .int .i64 X.mx] 122)) base base X.sum L HOX.out hs.1 hs.2 (by omega)
      have HC := Lib.hid hc
      clear hc
      go_wp2_with fail
      (with_reducible refine HC.out.mono ?_)
      generalize hX : wr.alloc (.cells #[.int .i64 X.sum, .int .i64 X.abs, .slice Aq X.sq.length cq, .int .i64 X.mn, .int .i64 X.mx] 122) = Wx at *
      rintro y w5 ⟨rfl, ho5, hb5, hk5⟩
      clear x0 x1 x2 x3 x4 HC hX
      generalize hbn : wr.heap.size = bn at *
      have hkx := hk5 _ _ _ HKX.out (by decide) (by decide); have hkc := hk5 _ _ _ HKC2.out (by decide) (by decide)
      have HBA := Lib.hid (HBX.out.trans hb5)
      have y1 := hkx.cell 1
      simp at y1
      have hc := outIK_any w5 base base X.abs _ ho5 ha.1 ha.2 (by rw [List.length_append]; omega)
      have HC := Lib.hid hc; have HKX5 := Lib.hid hkx; have HKC5 := Lib.hid hkc; have HB5 := Lib.hid hb5
      clear hc hkx hkc ho5 hb5 hk5 HKX HKC2 HBX HOX
      go_wp2_with fail
      (with_reducible refine HC.out.mono ?_); rintro y w6 ⟨rfl, ho6, hb6, hk6⟩
      have hkx := hk6 _ _ _ HKX5.out (by decide) (by decide); have hkc := hk6 _ _ _ HKC5.out (by decide) (by decide)
      have HBB := Lib.hid (HBA.out.trans hb6)
      have HB6 := Lib.hid (HB5.out.trans hb6)
      have y2 := hkx.cell 2
      simp at y2
      have wl : IntKind.u64.wrap (X.sq.length : Int) = (X.sq.length : Int) := by rw [IntKind.wrap_u64]; omega
      have hc := outUK_any w6 base base X.sq.length _ ho6 (by omega) (by rw [List.length_append, List.length_append]; omega)
      clear HC
      have HC := Lib.hid hc; have HKX6 := Lib.hid hkx; have HKC6 := Lib.hid hkc
      clear hc hkx hkc ho6 hb6 hk6 HKX5 HKC5 HBA HB5 y1
      go_wp2_with fail
      (with_reducible refine HC.out.mono ?_); rintro y w7 ⟨rfl, ho7, hb7, hk7⟩
      have hkx := hk7 _ _ _ HKX6.out (by decide) (by decide); have hkc := hk7 _ _ _ HKC6.out (by decide) (by decide)
      have y2 := hkx.cell 2
      simp at y2
      have HB7 := Lib.hid (HB6.out.trans hb7)
      have HBC := Lib.hid (HBB.out.trans hb7)
      have hl7 : (L ++ encI X.sum ++ encI X.abs ++ encU X.sq.length).length ≤ 3030 := by simp only [List.length_append]; omega
      have HO7 := Lib.hid ho7; have HKX7 := Lib.hid hkx; have HKC7 := Lib.hid hkc
      have HSQ7 := Lib.hid (SQ.out.below (HB7.out.mono (show B ≤ base by omega)))
      clear hkx hkc ho7 hb7 hk7 HKX6 HKC6 HC HB6 HBB HB7 SQ
      generalize L ++ encI X.sum ++ encI X.abs ++ encU X.sq.length = L7 at *
      go_wp2
      go_loopw [43] (fun i ws => ∃ j : Nat, j ≤ X.sq.length ∧ i = .int .i64 (j : Int) ∧ Hid (OutS ws base base (L7 ++ encSq (X.sq.take j))) ∧ Hid (Below base w7 ws) ∧ Hid (Blk ws bn 122 #[.int .i64 X.sum, .int .i64 X.abs, .slice Aq X.sq.length cq, .int .i64 X.mn, .int .i64 X.mx]) ∧ Hid (Blk ws gb 53 #[.int .u64 (C.key : Int), .int .i64 C.count, .slice (some a) C.ints.length c2, .slice A3 C.nums.length c3])) (fun i _ => X.sq.length - (intOf i).toNat)
      case atStart => exact ⟨0, by omega, rfl, by show OutS w7 base base (L7 ++ []); rw [List.append_nil]; exact HO7.out, Below.refl _ _, HKX7.out, HKC7.out⟩
      case round =>
        obtain ⟨j, hj, rfl, HO, HBs, HKXs, HKCs⟩ := hrel
        by_cases hjl : j < X.sq.length
        · obtain ⟨a', ea', hab', z0⟩ := (HSQ7.out.below (HBs.out.mono (show B ≤ base by omega))).u32n hjl
          subst ea'
          have p1 : (0 : Int) ≤ (j : Int) := by omega
          have p2 : (j : Int) < (X.sq.length : Int) := by omega
          have hcs := encSq_succ X.sq j hjl
          have hle := encSq_le (X.sq.take j)
          rw [List.length_take, Nat.min_eq_left (by omega)] at hle
          have hx := HQ3.out (X.sq.getD j 0) (by rw [List.getD_eq_getElem?_getD, List.getElem?_eq_getElem hjl]; exact List.getElem_mem hjl)
          generalize X.sq.getD j 0 = x at *
          have hcc := outUK_any wr base base x (L7 ++ encSq (X.sq.take j)) HO.out (by omega) (by rw [List.length_append]; omega)
          have wx : IntKind.u64.wrap (x : Int) = (x : Int) := by rw [IntKind.wrap_u64]; omega
          have HCS := Lib.hid hcs; have HCC := Lib.hid hcc
          clear hcs hle hcc hx
          go_wp2_with (go_at_call 94; (with_reducible refine HCC.out.mono ?_); rintro y w8 ⟨rfl, ho8, hb8, hk8⟩; have HO8 := Lib.hid ho8; have HB8 := Lib.hid hb8; have HK8 := Lib.hid hk8; clear ho8 hb8 hk8)
          go_roundw
          case rel => exact ⟨j + 1, by omega, by go_num, by show OutS _ base base (L7 ++ encSq (X.sq.take (j + 1))); rw [HCS.out, ← List.append_assoc]; exact HO8.out, HBs.out.trans HB8.out, HK8.out _ _ _ HKXs.out (by decide) (by decide), HK8.out _ _ _ HKCs.out (by decide) (by decide)⟩
          case measure => simp [intOf]; omega
        · obtain rfl : j = X.sq.length := by omega
          rw [List.take_length] at HO
          have hkb := HKXs.out
          have y3 := hkb.cell 3
          simp at y3
          have hc := outIK_any wr base base X.mn _ HO.out hmn.1 hmn.2 (by rw [List.length_append]; omega)
          have HC := Lib.hid hc
          clear hc hkb
          go_wp2_with fail
          (with_reducible refine HC.out.mono ?_); rintro y w9 ⟨rfl, ho9, hb9, hk9⟩
          have hkx := hk9 _ _ _ HKXs.out (by decide) (by decide); have hkc := hk9 _ _ _ HKCs.out (by decide) (by decide)
          have y4 := hkx.cell 4
          simp at y4
          have HB9 := Lib.hid (HBC.out.trans (HBs.out.trans hb9))
          have hc := outIK_any w9 base base X.mx _ ho9 hmx.1 hmx.2 (by rw [List.length_append, List.length_append]; omega)
          clear HC
          have HC := Lib.hid hc; have HKC9 := Lib.hid hkc
          clear hc hkx hkc ho9 hb9 hk9 y3 y2
          go_wp2_with (go_at_call 95; (with_reducible refine HC.out.mono ?_); rintro y w10 ⟨rfl, ho10, hb10, hk10⟩; have HO10 := Lib.hid ho10; have HB10 := Lib.hid (HB9.out.trans hb10); have HKC10 := Lib.hid (hk10 _ _ _ HKC9.out (by decide) (by decide)); clear ho10 hb10 hk10)
          go_roundw
          case rel => exact ⟨k + 1, by omega, by go_num, by show OutS _ base base (putW C (k + 1)); rw [HSN.out]; exact HO10.out, HB10.out, HKC10.out⟩
          case measure => simp [intOf]; omega
    · obtain rfl : k = C.ints.length := by omega
      rw [putW_all] at HO
      have hkb := HKC.out
      have k3 := hkb.cell 3
      simp at k3
      clear hkb
      have HBl0 := HBl; have HO0 := HO; have HKC0 := HKC
      have hlt2 : decide ((C.ints.length : Int) < (C.ints.length : Int)) = false := decide_eq_false (by omega)
      clear HBl HO HKC
      go_wp2
      go_loopw [64] (fun i ws => ∃ k : Nat, k ≤ C.nums.length ∧ i = .int .i64 (k : Int) ∧ Hid (OutS ws base base (putR C k)) ∧ Hid (Below base W ws)) (fun i _ => C.nums.length - (intOf i).toNat)
      case atStart => exact ⟨0, by omega, rfl, HO0.out, HBl0.out⟩
      case round =>
        obtain ⟨k, hk, rfl, HO, HBl⟩ := hrel
        have hzr : base ≤ wr.heap.size := by rw [← hzW]; exact HBl.out.size
        clear k3 HO0
        by_cases hlt : k < C.nums.length
        · obtain ⟨a, Aq, cq, ea, hab, x0, x1, x2, hRq, hq1, hq2, hmn, hmx⟩ := (G2.out.keep (HBl.out.mono (show B ≤ base by omega)) (Nat.le_refl _)).realAt hlt
          have q1 : (0 : Int) ≤ (k : Int) := by omega
          have q2 : (k : Int) < (C.nums.length : Int) := by omega
          have hsn := putR_succ C k hlt
          have hll := HRL.out k
          have hq20 := HL4.out _ (List.getElem_mem hlt)
          subst ea
          generalize C.nums[k] = X at *
          have hbx := belA (belR wr) (.cells #[.slice Aq X.sum.length cq, .float .f64 X.mn, .float .f64 X.mx] 60)
          have hbk := Blk.new wr 60 #[.slice Aq X.sum.length cq, .float .f64 X.mn, .float .f64 X.mx]
          have HKX := Lib.hid hbk
          have SQ := hRq.below (hbx.mono (show B ≤ wr.heap.size by omega))
          have HOX := Lib.hid (HO.out.below hbx); have HBX := Lib.hid (HBl.out.trans (hbx.mono hzr)); have HSN := Lib.hid hsn
          have e3 := encU_9 X.sum.length
          have hc := outBK_any (wr.alloc (.cells #[.slice Aq X.sum.length cq, .float .f64 X.mn, .float .f64 X.mx] 60)) base base X.sum (putR C k) Aq X.sum.length cq B HOX.out SQ (by omega) (by omega) (by omega)
          have HC := Lib.hid hc
          generalize putR C k = L at *
          clear hbx hbk hRq hsn HO SQ hc
          go_wp2_with fail
          (with_reducible refine HC.out.mono ?_)
          generalize hX : wr.alloc (.cells #[.slice Aq X.sum.length cq, .float .f64 X.mn, .float .f64 X.mx] 60) = Wx at *
          rintro y w5 ⟨rfl, ho5, hb5, hk5⟩
          clear x0 x1 x2 HC hX
          generalize hbn : wr.heap.size = bn at *
          have hkx := hk5 _ _ _ HKX.out (by decide) (by decide)
          have HBA := Lib.hid (HBX.out.trans hb5)
          have y1 := hkx.cell 1
          simp at y1
          have hc := outFK_any w5 base base X.mn _ ho5 hmn (by simp only [List.length_append]; omega)
          have HC := Lib.hid hc; have HKX5 := Lib.hid hkx
          clear hc hkx ho5 hb5 hk5 HKX HBX HOX
          go_wp2_with fail
          (with_reducible refine HC.out.mono ?_); rintro y w6 ⟨rfl, ho6, hb6, hk6⟩
          have hkx := hk6 _ _ _ HKX5.out (by decide) (by decide)
          have HBB := Lib.hid (HBA.out.trans hb6)
          have y2 := hkx.cell 2
          simp at y2
          have hc := outFK_any w6 base base X.mx _ ho6 hmx (by simp only [List.length_append, be_length]; omega)
          clear HC
          have HC := Lib.hid hc
          clear hc hkx ho6 hb6 hk6 HKX5 HBA y1
          go_wp2_with (go_at_call 97; (with_reducible refine HC.out.mono ?_); rintro y w10 ⟨rfl, ho10, hb10, hk10⟩; have HO10 := Lib.hid ho10; have HB10 := Lib.hid (HBB.out.trans hb10); clear ho10 hb10 hk10)
          go_roundw
          case rel => exact ⟨k + 1, by omega, by go_num, by show OutS _ base base (putR C (k + 1)); rw [HSN.out]; exact HO10.out, HB10.out⟩
          case measure => simp [intOf]; omega
        · obtain rfl : k = C.nums.length := by omega
          have hll := HRL.out C.nums.length
          rw [putR_all] at HO hll
          have hc7 := outBytes_any wr base base (encCell C) HO.out (by omega)
          have HC7 := Lib.hid hc7; have HBW := Lib.hid (HW0.out.trans (HBl.out.mono (show gb ≤ base by omega)))
          clear hc7 hll
          go_wp2_with (go_at_call 98; (with_reducible refine HC7.out.mono ?_); rintro y w8 ⟨v8, rfl, ho8, hb8⟩; have HO8 := Lib.hid ho8; have HB8 := Lib.hid hb8; clear ho8 hb8)
          subst hgb
          go_ret
          exact ⟨_, rfl, own_mono HO8.out (by omega), HBW.out.trans (HB8.out.mono (by omega))⟩
end Go.Proofs.YtfhmaincnlaapaaGreat
