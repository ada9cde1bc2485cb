/-
  schema.Full, schema.Keys; nat.size, nat.Trim; flo.Less.
-/
import Derived.Test.YtfhmaincnlaapaaCellPure
import Derived.Test.YtfhmaincnlaapaaSchemaCheck
import Derived.Test.YtfhmaincnlaapaaFloLess
namespace Go.Proofs.Ytfhmaincnlaapaa
open Go.ChangeShapes Go.WideShapes Go.ChangeAt Go.RowKit
set_option linter.unusedVariables false

theorem fullP_le (S : Sch) : fullP S < 4294967296 := by
  unfold fullP
  split
  · rename_i h
    obtain ⟨hm, _⟩ := checkN_zero h
    unfold manyOk at hm
    unfold fullN
    have := p2_le _ 31 (show S.dims.length ≤ 31 by omega)
    rw [p2_31] at this
    omega
  · decide
set_option maxRecDepth 20000 in
set_option maxHeartbeats 1000000 in
theorem full_any (w : World) (B : Nat) (v : Value) (S : Sch) (h : SchAt w B v S) (ho : SchOk S) (hB : B ≤ w.heap.size) :
    Calls Try.prog 103 #[v] w fun y w' => y = .returned (.int .u32 (fullP S : Int)) ∧ Below w.heap.size w w' := by
  have hh := h
  obtain ⟨A0, c0, A1, c1, A2, c2, A3, c3, rfl, r0, r1, r2, r3, b0, b1, b2, b3⟩ := hh
  clear r0 r1 r2 r3 b0 b1 b2 b3
  have hw0 := belA (belR w) (.cells #[.slice A0 S.dims.length c0, .slice A1 S.ints.length c1, .slice A2 S.nums.length c2, .slice A3 S.views.length c3] 26)
  have hc := schemaCheck_any (w.alloc (.cells #[.slice A0 S.dims.length c0, .slice A1 S.ints.length c1, .slice A2 S.nums.length c2, .slice A3 S.views.length c3] 26)) B _ S (h.keep (hw0.mono hB) (Nat.le_refl _)) ho (by simp; omega)
  have K0 := Lib.hid (Blk.new w 26 #[.slice A0 S.dims.length c0, .slice A1 S.ints.length c1, .slice A2 S.nums.length c2, .slice A3 S.views.length c3])
  have HW0 := Lib.hid hw0
  clear hw0 h
  by_cases h0 : checkN S = 0
  · have e : fullP S = p2 S.dims.length - 1 := if_pos h0
    obtain ⟨hm, _⟩ := checkN_zero h0
    unfold manyOk at hm
    obtain ⟨m1, m2, _⟩ := hm
    rw [h0] at hc
    have hsh := shl_one S.dims.length m1 m2
    have hlt := fullP_le S
    rw [e] at hlt ⊢
    have hw : IntKind.u32.wrap ((p2 S.dims.length - 1 : Nat) : Int) = ((p2 S.dims.length - 1 : Nat) : Int) := by rw [IntKind.wrap_u32]; omega
    have HC := Lib.hid hc
    clear hc h0 e
    generalize p2 S.dims.length - 1 = q at *
    go_enter Try.func103, Try.ntmps103
    go_wp2_with (go_at_call 46; (with_reducible refine HC.out.mono ?_); rintro y w1 ⟨rfl, hb1⟩; have HB1 := Lib.hid (HW0.out.trans (hb1.mono (show w.heap.size ≤ _ by simp))); have hk := K0.out.below hb1 (by simp); have k0 := hk.cell 0; simp at k0; clear hb1 hk)
    go_ret
    exact ⟨rfl, HB1.out⟩
  · have e : fullP S = 0 := if_neg h0
    rw [e]
    have t0 := i64_ne0 h0
    have HC := Lib.hid hc
    clear hc h0 e
    go_enter Try.func103, Try.ntmps103
    go_wp2_with (go_at_call 46; (with_reducible refine HC.out.mono ?_); rintro y w1 ⟨rfl, hb1⟩; have HB1 := Lib.hid (HW0.out.trans (hb1.mono (show w.heap.size ≤ _ by simp))); clear hb1)
    go_ret
    exact ⟨rfl, HB1.out⟩
theorem keysP_le (S : Sch) (mask : Nat) : ∀ k p, keysTo S k = some p → keysP S mask k ≤ p := by
  intro k
  induction k with
  | zero => intro p h; have := (keysTo_le S 0 p h).1; exact this
  | succ k ih =>
    intro q h
    cases hk : keysTo S k with
    | none => rw [keysTo_none S k hk (k + 1) (by omega)] at h; cases h
    | some p =>
      have hp := ih p hk
      rw [keysTo_succ S k p hk] at h
      unfold keyStep at h
      split at h
      · rename_i hd
        injection h with h
        subst h
        unfold keysP
        have h1 : 1 ≤ (szAt S k).toNat := by omega
        split
        · exact Nat.mul_le_mul_right _ hp
        · have := Nat.mul_le_mul_left p h1
          omega
      · cases h
theorem keysTo_part (S : Sch) (m p : Nat) (h : keysTo S m = some p) (k : Nat) (hk : k ≤ m) : ∃ q, keysTo S k = some q := by
  cases hq : keysTo S k with
  | none => rw [keysTo_none S k hq m hk] at h; cases h
  | some q => exact ⟨q, rfl⟩
theorem andNot_full (mask n : Nat) (hn : n ≤ 31) (hm : mask < 4294967296) : bits .andNot .u32 (mask : Int) ((p2 n - 1 : Nat) : Int) = ((mask / p2 n * p2 n : Nat) : Int) := by
  have h1 := p2_le n 31 hn
  rw [p2_31] at h1
  rw [u32_andNot_nat mask _ hm (by omega), and_hi mask n hn hm]
theorem keysP_succ (S : Sch) (mask k : Nat) : keysP S mask (k + 1) = if mask.testBit k then keysP S mask k * (szAt S k).toNat else keysP S mask k := rfl
set_option maxRecDepth 20000 in
set_option maxHeartbeats 4000000 in
theorem keys_any (w : World) (B : Nat) (v : Value) (S : Sch) (mask : Nat) (h : SchAt w B v S) (ho : SchOk S) (hB : B ≤ w.heap.size) (hm : mask < 4294967296) :
    Calls Try.prog 94 #[v, .int .u32 (mask : Int)] w fun y w' => y = .returned (.tuple #[.int .u64 (((keysOf S mask).getD 0 : Nat) : Int), .bool (keysOf S mask).isSome]) ∧ Below w.heap.size w w' := by
  have hh := h
  obtain ⟨A0, c0, A1, c1, A2, c2, A3, c3, rfl, r0, r1, r2, r3, b0, b1, b2, b3⟩ := hh
  clear r1 r2 r3 b0 b1 b2 b3
  have hw0 := belA (belR w) (.cells #[.slice A0 S.dims.length c0, .slice A1 S.ints.length c1, .slice A2 S.nums.length c2, .slice A3 S.views.length c3] 26)
  have hc := full_any (w.alloc (.cells #[.slice A0 S.dims.length c0, .slice A1 S.ints.length c1, .slice A2 S.nums.length c2, .slice A3 S.views.length c3] 26)) B _ S (h.keep (hw0.mono hB) (Nat.le_refl _)) ho (by simp; omega)
  have K0 := Lib.hid (Blk.new w 26 #[.slice A0 S.dims.length c0, .slice A1 S.ints.length c1, .slice A2 S.nums.length c2, .slice A3 S.views.length c3])
  have HW0 := Lib.hid hw0; have R0 := Lib.hid r0
  clear hw0 h r0
  by_cases h0 : checkN S = 0
  case neg =>
    have e : keysOf S mask = none := if_neg fun hh => h0 hh.1
    have ef : fullP S = 0 := if_neg h0
    rw [ef] at hc
    rw [e]
    have HC := Lib.hid hc
    clear hc h0 e ef
    go_enter Try.func94, Try.ntmps94
    go_wp2_with (go_at_call 103; (with_reducible refine HC.out.mono ?_); rintro y w1 ⟨rfl, hb1⟩; have HB1 := Lib.hid (HW0.out.trans (hb1.mono (show w.heap.size ≤ _ by simp))); clear hb1)
    go_ret2
    exact ⟨rfl, HB1.out⟩
  case pos =>
    obtain ⟨hmo, p, hp⟩ := checkN_zero h0
    unfold manyOk at hmo
    obtain ⟨m1, m2, _⟩ := hmo
    have ef : fullP S = p2 S.dims.length - 1 := if_pos h0
    have hlt := fullP_le S
    have han := andNot_full mask S.dims.length (by omega) hm
    have hp2 := p2_le 1 _ m1
    have hp1 : p2 1 = 2 := rfl
    rw [hp1] at hp2
    rw [ef] at hc hlt
    have hf0 : (((p2 S.dims.length - 1 : Nat) : Int) == 0) = false := by rw [beq_eq_false_iff_ne]; omega
    by_cases hlm : mask < p2 S.dims.length
    case neg =>
      have e : keysOf S mask = none := if_neg fun hh => hlm hh.2
      have hnz : (((mask / p2 S.dims.length * p2 S.dims.length : Nat) : Int) != 0) = true := by
        have : 0 < mask / p2 S.dims.length := Nat.div_pos (by omega) (by omega)
        have := Nat.mul_pos this (show 0 < p2 S.dims.length by omega)
        rw [bne_iff_ne]; omega
      rw [e]
      have HC := Lib.hid hc
      clear hc h0 e ef hp2 hp hlt hlm
      generalize p2 S.dims.length - 1 = q at *
      generalize mask / p2 S.dims.length * p2 S.dims.length = r at *
      go_enter Try.func94, Try.ntmps94
      go_wp2_with (go_at_call 103; (with_reducible refine HC.out.mono ?_); rintro y w1 ⟨rfl, hb1⟩; have HB1 := Lib.hid (HW0.out.trans (hb1.mono (show w.heap.size ≤ _ by simp))); clear hb1)
      go_ret2
      exact ⟨rfl, HB1.out⟩
    case pos =>
      have e : keysOf S mask = some (keysP S mask S.dims.length) := if_pos ⟨h0, hlm⟩
      have hz : mask / p2 S.dims.length * p2 S.dims.length = 0 := by rw [Nat.div_eq_of_lt hlm, Nat.zero_mul]
      rw [hz] at han
      have han0 : bits .andNot .u32 (mask : Int) ((p2 S.dims.length - 1 : Nat) : Int) = 0 := han
      rw [e]
      simp only [Option.getD_some, Option.isSome_some]
      have HC := Lib.hid hc; have HSZ := Lib.hid (keysTo_some S _ p hp)
      have HKP : Hid (∀ k, k ≤ S.dims.length → keysP S mask k ≤ 1099511627776) := Lib.hid fun k hk => by
        obtain ⟨q, hq⟩ := keysTo_part S _ p hp k hk
        exact Nat.le_trans (keysP_le S mask k q hq) (keysTo_le S k q hq).2
      clear hc h0 e ef hp2 hp hlt hlm han hz
      generalize p2 S.dims.length - 1 = q at *
      go_enter Try.func94, Try.ntmps94
      go_wp2_with (go_at_call 103; (with_reducible refine HC.out.mono ?_); rintro y w1 ⟨rfl, hb1⟩; have HB1 := Lib.hid (HW0.out.trans (hb1.mono (show w.heap.size ≤ _ by simp))); have hk := K0.out.below hb1 (by simp); have k0 := hk.cell 0; simp at k0; clear hb1 hk)
      clear k0
      go_loopw [7, 23] (fun kv i wr => ∃ k : Nat, k ≤ S.dims.length ∧ i = .int .i64 (k : Int) ∧ kv = .int .u64 (keysP S mask k : Int) ∧ Hid (Below w.heap.size w wr)) (fun _ i _ => S.dims.length - (intOf i).toNat)
      case atStart => exact ⟨0, by omega, rfl, rfl, HB1.out⟩
      case round =>
        obtain ⟨k, hk, rfl, rfl, HB⟩ := hrel
        by_cases hlt : k < S.dims.length
        · obtain ⟨a, rfl, hab, x0, x1⟩ := (R0.out.below (HB.out.mono hB)).dim hlt
          have q1 : (0 : Int) ≤ (k : Int) := by omega
          have q2 : (k : Int) < (S.dims.length : Int) := by omega
          have hzk := HSZ.out k hlt
          have hsz : szAt S k = S.dims[k].2 := by unfold szAt; simp [List.getD, hlt]
          have hs := keysP_succ S mask k
          have hkp := HKP.out (k + 1) (by omega)
          have hkq := HKP.out k (by omega)
          have hsh : (mask : Int) / 2 ^ k = ((mask / p2 k : Nat) : Int) := by unfold p2; simp
          have hlq : mask / p2 k < 4294967296 := Nat.lt_of_le_of_lt (Nat.div_le_self _ _) hm
          have hbit := bit_of mask k
          have han2 : bits .and .u32 ((mask / p2 k : Nat) : Int) 1 = ((mask / p2 k % 2 : Nat) : Int) := by
            have := u32_and_nat (mask / p2 k) 1 hlq (by decide)
            rw [Nat.and_one_is_mod] at this
            exact this
          rw [hbit] at han2
          generalize mask / p2 k = MK at *
          have hbz := (belA (HB.out.mono (Nat.le_refl _)) (.cells #[.string S.dims[k].1, .int .i64 S.dims[k].2] 89))
          generalize S.dims[k] = d at *
          obtain ⟨nm, sz⟩ := d
          simp only at x0 x1 hsz hbz
          subst hsz
          obtain ⟨z, hz⟩ : ∃ z : Nat, szAt S k = (z : Int) := ⟨(szAt S k).toNat, by omega⟩
          rw [hz] at x1 hs hzk hbz
          rw [Int.toNat_natCast] at hs
          generalize keysP S mask k = K at *
          have wz : IntKind.u64.wrap (z : Int) = (z : Int) := by rw [IntKind.wrap_u64]; omega
          cases hb : mask.testBit k with
          | true =>
            rw [hb] at hs han2
            simp only [if_true] at hs han2
            rw [hs] at hkp
            have wm : IntKind.u64.wrap ((K : Int) * (z : Int)) = ((K * z : Nat) : Int) := by rw [← Int.natCast_mul, IntKind.wrap_u64]; omega
            have HS := Lib.hid hs; have HBZ := Lib.hid hbz
            clear hs hbz hb hbit hz
            go_wp2
            go_roundw
            case rel => exact ⟨k + 1, by omega, by go_num, by rw [HS.out, Int.natCast_mul], HBZ.out⟩
            case measure => simp [intOf]; omega
          | false =>
            rw [hb] at hs han2
            simp only [Bool.false_eq_true, if_false] at hs han2
            have HS := Lib.hid hs; have HBZ := Lib.hid hbz
            clear hs hbz hb hbit hz
            go_wp2
            go_roundw
            case rel => exact ⟨k + 1, by omega, by go_num, by rw [HS.out], HBZ.out⟩
            case measure => simp [intOf]; omega
        · obtain rfl : k = S.dims.length := by omega
          go_wp2
          go_ret2
          exact ⟨rfl, HB.out⟩
theorem Rd.u32n {w : World} {B : Nat} {A : Option Addr} {l : List Nat} (h : Rd w B 1 A l.length (u32n l)) {k : Nat} (hk : k < l.length) : ∃ a, A = some a ∧ a.block < B ∧ w.cell? (a.add k) = some (.int .u32 ((l.getD k 0 : Nat) : Int)) := by
  obtain ⟨a, u, e, hb, hx, hc⟩ := h.at1 hk
  refine ⟨a, e, hb, ?_⟩
  rw [hc]
  simp [hk] at hx
  simp [List.getD, hk, ← hx]
theorem tsz_take (l : List Nat) (m : Nat) (h : m < l.length) : tsz (l.take (m + 1)) = if l.getD m 0 = 0 then tsz (l.take m) else m + 1 := by
  rw [List.take_succ_eq_append_getElem h, tsz_last, List.length_take, Nat.min_eq_left (by omega)]
  simp [List.getD, h]
set_option maxRecDepth 20000 in
theorem size_any (w : World) (B : Nat) (A : Option Addr) (c : Nat) (l : List Nat) (hR : Rd w B 1 A l.length (u32n l)) (hl : l.length ≤ 1000000) :
    Calls Try.prog 143 #[.slice A l.length c] w fun y w' => y = .returned (.int .i64 (tsz l : Int)) ∧ w = w' := by
  have HR := Lib.hid hR
  clear hR
  go_enter Try.func143, Try.ntmps143
  go_wp2
  go_loop [3] (fun i => ∃ m : Nat, m ≤ l.length ∧ i = .int .i64 (m : Int) ∧ Hid (tsz (l.take m) = tsz l)) (fun i => (intOf i).toNat)
  case atStart => exact ⟨l.length, Nat.le_refl _, rfl, by rw [List.take_length]; exact Lib.hid rfl⟩
  case round =>
    obtain ⟨m, hm, rfl, HT⟩ := hrel
    cases m with
    | zero =>
      have ht := HT.out
      rw [List.take_zero] at ht
      have hz : tsz l = 0 := by rw [← ht]; rfl
      have HZ := Lib.hid hz
      simp only [show ((0 : Nat) : Int) = 0 from rfl]
      clear ht HT hz
      go_wp2
      go_ret
      exact ⟨by rw [HZ.out]; rfl, rfl⟩
    | succ m =>
      obtain ⟨a, rfl, hab, x0⟩ := HR.out.u32n (k := m) (by omega)
      have ht := tsz_take l m (by omega)
      rw [HT.out] at ht
      have q1 : (0 : Int) ≤ (m : Int) := by omega
      have q2 : (m : Int) < (l.length : Int) := by omega
      have e1 : ((m + 1 : Nat) : Int) - 1 = (m : Int) := by omega
      have g1 : decide ((0 : Int) < ((m + 1 : Nat) : Int)) = true := decide_eq_true (by omega)
      have w1 : IntKind.i64.wrap (m : Int) = (m : Int) := IntWalk.i64_in _ (by omega)
      generalize l.getD m 0 = x at *
      by_cases hx : x = 0
      · subst hx
        rw [if_pos rfl] at ht
        have HT2 := Lib.hid ht
        simp only [show ((0 : Nat) : Int) = 0 from rfl] at x0
        clear ht
        go_wp2
        go_round
        case rel => exact ⟨m, by omega, (by first | rfl | rw [w1] | go_num), HT2.out.symm⟩
        case measure => simp [intOf, w1]
      · rw [if_neg hx] at ht
        have HZ := Lib.hid ht
        have t0 : ((x : Int) == 0) = false := by rw [beq_eq_false_iff_ne]; omega
        clear ht hx
        go_wp2
        go_ret
        exact ⟨by rw [HZ.out]; rfl, rfl⟩
theorem info_u32 : (Try.prog.info? 33).map (fun i => (i.zero, i.size, i.bytes)) = some (some (.int .u32 0), 1, 4) := by kernel_rfl
theorem u32n_one (l : List Nat) : ∀ u ∈ u32n l, u.oneCell' = true := by intro u hu; obtain ⟨x, _, rfl⟩ := List.mem_map.1 hu; rfl
theorem rd_take1 {w : World} {B n k : Nat} {A : Option Addr} {xs : List Value} (h : Rd w B 1 A n xs) (hk : k ≤ n) : Rd w B 1 A k (xs.take k) := by
  have hl := h.1
  refine ⟨by rw [List.length_take]; omega, fun hn => ?_⟩
  obtain ⟨a, rfl, hb, hcell⟩ := h.2 (by omega)
  refine ⟨a, rfl, hb, fun j u hu => hcell j u ?_⟩
  rw [List.getElem?_take] at hu
  split at hu
  · exact hu
  · cases hu
set_option maxRecDepth 20000 in
theorem trim_any (w : World) (B : Nat) (A : Option Addr) (c : Nat) (l : List Nat) (hR : Rd w B 1 A l.length (u32n l)) (hl : l.length ≤ 1000000) (hlc : l.length ≤ c) (hc : c ≤ maxLen) :
    Calls Try.prog 95 #[.slice A l.length c] w fun y w' => ∃ v, y = .returned v ∧ w'.ownsRow w.heap.size 33 1 v (tsz l) (u32n (l.take (tsz l))) ∧ Below w.heap.size w w' := by
  have ht := tsz_le l
  have hs := size_any w B A c l hR hl
  have hr := rd_take1 hR ht
  rw [show (u32n l).take (tsz l) = u32n (l.take (tsz l)) from by simp [u32n, List.map_take]] at hr
  have hone := u32n_one (l.take (tsz l))
  have q1 : (0 : Int) ≤ (tsz l : Int) := by omega
  have q2 : (tsz l : Int) ≤ (c : Int) := by omega
  have hcc := hc
  unfold maxLen at hcc
  have HS := Lib.hid hs; have HR := Lib.hid hr; have HO := Lib.hid hone; have HN := Lib.hid (World.ownsRow_nil w w.heap.size 33 1)
  clear hs hr hone hR
  generalize tsz l = m at *
  generalize l.take m = l' at *
  go_enter Try.func95, Try.ntmps95
  go_wp2_with (first
    | (go_at_call 143; (with_reducible refine HS.out.mono ?_); rintro y w1 ⟨rfl, rfl⟩)
    | (at_builtin; refine wpList_appS w rfl _ _ 24 rfl w.heap.size 33 _ 1 4 info_u32 rfl (by decide) Try.underlying24 (.slice none 0 0) 0 [] HN.out rfl _ _ m _ (u32n l') HR.out rfl HO.out ?_ ?_ ?_ ?_; omega; omega; exact Nat.le_refl _; intro v2 w2 ho2 hap2; have HO2 := Lib.hid ho2; have HB2 := Lib.hid (hap2.below (Nat.le_refl _) HN.out); clear ho2 hap2))
  go_ret
  have h2 := HO2.out
  rw [Nat.zero_add, List.nil_append] at h2
  exact ⟨_, rfl, h2, HB2.out⟩
theorem less_flo (a b : Nat) (w : World) (ha : a < 18446744073709551616) (hb : b < 18446744073709551616) : Calls Try.prog 97 #[.float .f64 a, .float .f64 b] w fun y w' => y = .returned (.bool (decide (keyB a < keyB b))) ∧ w = w' := by
  have HA := Lib.hid (fun W => key_any a W ha); have HB := Lib.hid (fun W => key_any b W hb)
  go_enter Try.func97, Try.ntmps97
  go_wp2_with fail
  (with_reducible refine (HA.out _).mono ?_); rintro y w1 ⟨rfl, rfl⟩
  go_wp2_with fail
  (with_reducible refine (HB.out _).mono ?_); rintro y w1 ⟨rfl, rfl⟩
  go_wp2
  go_ret
  first
  | exact ⟨rfl, rfl⟩
  | (refine ⟨?_, rfl⟩; congr 2; rw [Bool.eq_iff_iff]; simp)
end Go.Proofs.Ytfhmaincnlaapaa
