/-
  key.ask, key.Of on trees.
  bushelref13.Of, key.Of on trees.
  Facts as trees; what is known of functions on them.
  schema.Full, schema.Keys; nat.size, nat.Trim; flo.Less.
-/
import Derived.Test.YtfhmaincnlaapaaUnRefRead
import Derived.Test.YtfhmaincnlaapaaUnBufSmall
import Derived.Test.YtfhmaincnlaapaaUnSchemaCheck
import Derived.Test.YtfhmaincnlaapaaUnNumMath
import Derived.Test.YtfhmaincnlaapaaUnEncC
namespace Go.Proofs.Ytfhmaincnlaapaa
open Go.ChangeShapes Go.WideShapes Go.ChangeAt Go.RowKit
set_option linter.unusedVariables false

theorem fullP_le (S : Sch) : fullP S < 4294967296 := by
  unfold fullP
  split
  · rename_i h
    obtain ⟨hm, _⟩ := checkN_zero h
    unfold manyOk at hm
    unfold fullN
    have := p2_le _ 31 (show S.dims.length ≤ 31 by omega)
    rw [p2_31] at this
    omega
  · decide
set_option maxRecDepth 20000 in
set_option maxHeartbeats 1000000 in
theorem full_any (w : World) (B : Nat) (v : Value) (S : Sch) (h : SchAt w B v S) (ho : SchOk S) (hB : B ≤ w.heap.size) :
    Calls Try.prog 103 #[v] w fun y w' => y = .returned (.int .u32 (fullP S : Int)) ∧ Below w.heap.size w w' := by
  have hh := h
  obtain ⟨A0, c0, A1, c1, A2, c2, A3, c3, rfl, r0, r1, r2, r3, b0, b1, b2, b3⟩ := hh
  clear r0 r1 r2 r3 b0 b1 b2 b3
  have hw0 := belA (belR w) (.cells #[.slice A0 S.dims.length c0, .slice A1 S.ints.length c1, .slice A2 S.nums.length c2, .slice A3 S.views.length c3] 26)
  have hc := schemaCheck_any (w.alloc (.cells #[.slice A0 S.dims.length c0, .slice A1 S.ints.length c1, .slice A2 S.nums.length c2, .slice A3 S.views.length c3] 26)) B _ S (h.keep (hw0.mono hB) (Nat.le_refl _)) ho (by simp; omega)
  have K0 := Lib.hid (Blk.new w 26 #[.slice A0 S.dims.length c0, .slice A1 S.ints.length c1, .slice A2 S.nums.length c2, .slice A3 S.views.length c3])
  have HW0 := Lib.hid hw0
  clear hw0 h
  by_cases h0 : checkN S = 0
  · have e : fullP S = p2 S.dims.length - 1 := if_pos h0
    obtain ⟨hm, _⟩ := checkN_zero h0
    unfold manyOk at hm
    obtain ⟨m1, m2, _⟩ := hm
    rw [h0] at hc
    have hsh := shl_one S.dims.length m1 m2
    have hlt := fullP_le S
    rw [e] at hlt ⊢
    have hw : IntKind.u32.wrap ((p2 S.dims.length - 1 : Nat) : Int) = ((p2 S.dims.length - 1 : Nat) : Int) := by rw [IntKind.wrap_u32]; omega
    have HC := Lib.hid hc
    clear hc h0 e
    generalize p2 S.dims.length - 1 = q at *
    go_enter Try.func103, Try.ntmps103
    go_wp2_with (go_at_call 46; (with_reducible refine HC.out.mono ?_); rintro y w1 ⟨rfl, hb1⟩; have HB1 := Lib.hid (HW0.out.trans (hb1.mono (show w.heap.size ≤ _ by simp))); have hk := K0.out.below hb1 (by simp); have k0 := hk.cell 0; simp at k0; clear hb1 hk)
    go_ret
    exact ⟨rfl, HB1.out⟩
  · have e : fullP S = 0 := if_neg h0
    rw [e]
    have t0 := i64_ne0 h0
    have HC := Lib.hid hc
    clear hc h0 e
    go_enter Try.func103, Try.ntmps103
    go_wp2_with (go_at_call 46; (with_reducible refine HC.out.mono ?_); rintro y w1 ⟨rfl, hb1⟩; have HB1 := Lib.hid (HW0.out.trans (hb1.mono (show w.heap.size ≤ _ by simp))); clear hb1)
    go_ret
    exact ⟨rfl, HB1.out⟩
theorem keysP_le (S : Sch) (mask : Nat) : ∀ k p, keysTo S k = some p → keysP S mask k ≤ p := by
  intro k
  induction k with
  | zero => intro p h; have := (keysTo_le S 0 p h).1; exact this
  | succ k ih =>
    intro q h
    cases hk : keysTo S k with
    | none => rw [keysTo_none S k hk (k + 1) (by omega)] at h; cases h
    | some p =>
      have hp := ih p hk
      rw [keysTo_succ S k p hk] at h
      unfold keyStep at h
      split at h
      · rename_i hd
        injection h with h
        subst h
        unfold keysP
        have h1 : 1 ≤ (szAt S k).toNat := by omega
        split
        · exact Nat.mul_le_mul_right _ hp
        · have := Nat.mul_le_mul_left p h1
          omega
      · cases h
theorem keysTo_part (S : Sch) (m p : Nat) (h : keysTo S m = some p) (k : Nat) (hk : k ≤ m) : ∃ q, keysTo S k = some q := by
  cases hq : keysTo S k with
  | none => rw [keysTo_none S k hq m hk] at h; cases h
  | some q => exact ⟨q, rfl⟩
theorem andNot_full (mask n : Nat) (hn : n ≤ 31) (hm : mask < 4294967296) : bits .andNot .u32 (mask : Int) ((p2 n - 1 : Nat) : Int) = ((mask / p2 n * p2 n : Nat) : Int) := by
  have h1 := p2_le n 31 hn
  rw [p2_31] at h1
  rw [u32_andNot_nat mask _ hm (by omega), and_hi mask n hn hm]
theorem keysP_succ (S : Sch) (mask k : Nat) : keysP S mask (k + 1) = if mask.testBit k then keysP S mask k * (szAt S k).toNat else keysP S mask k := rfl
set_option maxRecDepth 20000 in
set_option maxHeartbeats 4000000 in
theorem keys_any (w : World) (B : Nat) (v : Value) (S : Sch) (mask : Nat) (h : SchAt w B v S) (ho : SchOk S) (hB : B ≤ w.heap.size) (hm : mask < 4294967296) :
    Calls Try.prog 94 #[v, .int .u32 (mask : Int)] w fun y w' => y = .returned (.tuple #[.int .u64 (((keysOf S mask).getD 0 : Nat) : Int), .bool (keysOf S mask).isSome]) ∧ Below w.heap.size w w' := by
  have hh := h
  obtain ⟨A0, c0, A1, c1, A2, c2, A3, c3, rfl, r0, r1, r2, r3, b0, b1, b2, b3⟩ := hh
  clear r1 r2 r3 b0 b1 b2 b3
  have hw0 := belA (belR w) (.cells #[.slice A0 S.dims.length c0, .slice A1 S.ints.length c1, .slice A2 S.nums.length c2, .slice A3 S.views.length c3] 26)
  have hc := full_any (w.alloc (.cells #[.slice A0 S.dims.length c0, .slice A1 S.ints.length c1, .slice A2 S.nums.length c2, .slice A3 S.views.length c3] 26)) B _ S (h.keep (hw0.mono hB) (Nat.le_refl _)) ho (by simp; omega)
  have K0 := Lib.hid (Blk.new w 26 #[.slice A0 S.dims.length c0, .slice A1 S.ints.length c1, .slice A2 S.nums.length c2, .slice A3 S.views.length c3])
  have HW0 := Lib.hid hw0; have R0 := Lib.hid r0
  clear hw0 h r0
  by_cases h0 : checkN S = 0
  case neg =>
    have e : keysOf S mask = none := if_neg fun hh => h0 hh.1
    have ef : fullP S = 0 := if_neg h0
    rw [ef] at hc
    rw [e]
    have HC := Lib.hid hc
    clear hc h0 e ef
    go_enter Try.func94, Try.ntmps94
    go_wp2_with (go_at_call 103; (with_reducible refine HC.out.mono ?_); rintro y w1 ⟨rfl, hb1⟩; have HB1 := Lib.hid (HW0.out.trans (hb1.mono (show w.heap.size ≤ _ by simp))); clear hb1)
    go_ret2
    exact ⟨rfl, HB1.out⟩
  case pos =>
    obtain ⟨hmo, p, hp⟩ := checkN_zero h0
    unfold manyOk at hmo
    obtain ⟨m1, m2, _⟩ := hmo
    have ef : fullP S = p2 S.dims.length - 1 := if_pos h0
    have hlt := fullP_le S
    have han := andNot_full mask S.dims.length (by omega) hm
    have hp2 := p2_le 1 _ m1
    have hp1 : p2 1 = 2 := rfl
    rw [hp1] at hp2
    rw [ef] at hc hlt
    have hf0 : (((p2 S.dims.length - 1 : Nat) : Int) == 0) = false := by rw [beq_eq_false_iff_ne]; omega
    by_cases hlm : mask < p2 S.dims.length
    case neg =>
      have e : keysOf S mask = none := if_neg fun hh => hlm hh.2
      have hnz : (((mask / p2 S.dims.length * p2 S.dims.length : Nat) : Int) != 0) = true := by
        have : 0 < mask / p2 S.dims.length := Nat.div_pos (by omega) (by omega)
        have := Nat.mul_pos this (show 0 < p2 S.dims.length by omega)
        rw [bne_iff_ne]; omega
      rw [e]
      have HC := Lib.hid hc
      clear hc h0 e ef hp2 hp hlt hlm
      generalize p2 S.dims.length - 1 = q at *
      generalize mask / p2 S.dims.length * p2 S.dims.length = r at *
      go_enter Try.func94, Try.ntmps94
      go_wp2_with (go_at_call 103; (with_reducible refine HC.out.mono ?_); rintro y w1 ⟨rfl, hb1⟩; have HB1 := Lib.hid (HW0.out.trans (hb1.mono (show w.heap.size ≤ _ by simp))); clear hb1)
      go_ret2
      exact ⟨rfl, HB1.out⟩
    case pos =>
      have e : keysOf S mask = some (keysP S mask S.dims.length) := if_pos ⟨h0, hlm⟩
      have hz : mask / p2 S.dims.length * p2 S.dims.length = 0 := by rw [Nat.div_eq_of_lt hlm, Nat.zero_mul]
      rw [hz] at han
      have han0 : bits .andNot .u32 (mask : Int) ((p2 S.dims.length - 1 : Nat) : Int) = 0 := han
      rw [e]
      simp only [Option.getD_some, Option.isSome_some]
      have HC := Lib.hid hc; have HSZ := Lib.hid (keysTo_some S _ p hp)
      have HKP : Hid (∀ k, k ≤ S.dims.length → keysP S mask k ≤ 1099511627776) := Lib.hid fun k hk => by
        obtain ⟨q, hq⟩ := keysTo_part S _ p hp k hk
        exact Nat.le_trans (keysP_le S mask k q hq) (keysTo_le S k q hq).2
      clear hc h0 e ef hp2 hp hlt hlm han hz
      generalize p2 S.dims.length - 1 = q at *
      go_enter Try.func94, Try.ntmps94
      go_wp2_with (go_at_call 103; (with_reducible refine HC.out.mono ?_); rintro y w1 ⟨rfl, hb1⟩; have HB1 := Lib.hid (HW0.out.trans (hb1.mono (show w.heap.size ≤ _ by simp))); have hk := K0.out.below hb1 (by simp); have k0 := hk.cell 0; simp at k0; clear hb1 hk)
      clear k0
      go_loopw [7, 23] (fun kv i wr => ∃ k : Nat, k ≤ S.dims.length ∧ i = .int .i64 (k : Int) ∧ kv = .int .u64 (keysP S mask k : Int) ∧ Hid (Below w.heap.size w wr)) (fun _ i _ => S.dims.length - (intOf i).toNat)
      case atStart => exact ⟨0, by omega, rfl, rfl, HB1.out⟩
      case round =>
        obtain ⟨k, hk, rfl, rfl, HB⟩ := hrel
        by_cases hlt : k < S.dims.length
        · obtain ⟨a, rfl, hab, x0, x1⟩ := (R0.out.below (HB.out.mono hB)).dim hlt
          have q1 : (0 : Int) ≤ (k : Int) := by omega
          have q2 : (k : Int) < (S.dims.length : Int) := by omega
          have hzk := HSZ.out k hlt
          have hsz : szAt S k = S.dims[k].2 := by unfold szAt; simp [List.getD, hlt]
          have hs := keysP_succ S mask k
          have hkp := HKP.out (k + 1) (by omega)
          have hkq := HKP.out k (by omega)
          have hsh : (mask : Int) / 2 ^ k = ((mask / p2 k : Nat) : Int) := by unfold p2; simp
          have hlq : mask / p2 k < 4294967296 := Nat.lt_of_le_of_lt (Nat.div_le_self _ _) hm
          have hbit := bit_of mask k
          have han2 : bits .and .u32 ((mask / p2 k : Nat) : Int) 1 = ((mask / p2 k % 2 : Nat) : Int) := by
            have := u32_and_nat (mask / p2 k) 1 hlq (by decide)
            rw [Nat.and_one_is_mod] at this
            exact this
          rw [hbit] at han2
          generalize mask / p2 k = MK at *
          have hbz := (belA (HB.out.mono (Nat.le_refl _)) (.cells #[.string S.dims[k].1, .int .i64 S.dims[k].2] 89))
          generalize S.dims[k] = d at *
          obtain ⟨nm, sz⟩ := d
          simp only at x0 x1 hsz hbz
          subst hsz
          obtain ⟨z, hz⟩ : ∃ z : Nat, szAt S k = (z : Int) := ⟨(szAt S k).toNat, by omega⟩
          rw [hz] at x1 hs hzk hbz
          rw [Int.toNat_natCast] at hs
          generalize keysP S mask k = K at *
          have wz : IntKind.u64.wrap (z : Int) = (z : Int) := by rw [IntKind.wrap_u64]; omega
          cases hb : mask.testBit k with
          | true =>
            rw [hb] at hs han2
            simp only [if_true] at hs han2
            rw [hs] at hkp
            have wm : IntKind.u64.wrap ((K : Int) * (z : Int)) = ((K * z : Nat) : Int) := by rw [← Int.natCast_mul, IntKind.wrap_u64]; omega
            have HS := Lib.hid hs; have HBZ := Lib.hid hbz
            clear hs hbz hb hbit hz
            go_wp2
            go_roundw
            case rel => exact ⟨k + 1, by omega, by go_num, by rw [HS.out, Int.natCast_mul], HBZ.out⟩
            case measure => simp [intOf]; omega
          | false =>
            rw [hb] at hs han2
            simp only [Bool.false_eq_true, if_false] at hs han2
            have HS := Lib.hid hs; have HBZ := Lib.hid hbz
            clear hs hbz hb hbit hz
            go_wp2
            go_roundw
            case rel => exact ⟨k + 1, by omega, by go_num, by rw [HS.out], HBZ.out⟩
            case measure => simp [intOf]; omega
        · obtain rfl : k = S.dims.length := by omega
          go_wp2
          go_ret2
          exact ⟨rfl, HB.out⟩
theorem Rd.u32n {w : World} {B : Nat} {A : Option Addr} {l : List Nat} (h : Rd w B 1 A l.length (u32n l)) {k : Nat} (hk : k < l.length) : ∃ a, A = some a ∧ a.block < B ∧ w.cell? (a.add k) = some (.int .u32 ((l.getD k 0 : Nat) : Int)) := by
  obtain ⟨a, u, e, hb, hx, hc⟩ := h.at1 hk
  refine ⟨a, e, hb, ?_⟩
  rw [hc]
  simp [hk] at hx
  simp [List.getD, hk, ← hx]
theorem tsz_take (l : List Nat) (m : Nat) (h : m < l.length) : tsz (l.take (m + 1)) = if l.getD m 0 = 0 then tsz (l.take m) else m + 1 := by
  rw [List.take_succ_eq_append_getElem h, tsz_last, List.length_take, Nat.min_eq_left (by omega)]
  simp [List.getD, h]
set_option maxRecDepth 20000 in
theorem size_any (w : World) (B : Nat) (A : Option Addr) (c : Nat) (l : List Nat) (hR : Rd w B 1 A l.length (u32n l)) (hl : l.length ≤ 1000000) :
    Calls Try.prog 143 #[.slice A l.length c] w fun y w' => y = .returned (.int .i64 (tsz l : Int)) ∧ w = w' := by
  have HR := Lib.hid hR
  clear hR
  go_enter Try.func143, Try.ntmps143
  go_wp2
  go_loop [3] (fun i => ∃ m : Nat, m ≤ l.length ∧ i = .int .i64 (m : Int) ∧ Hid (tsz (l.take m) = tsz l)) (fun i => (intOf i).toNat)
  case atStart => exact ⟨l.length, Nat.le_refl _, rfl, by rw [List.take_length]; exact Lib.hid rfl⟩
  case round =>
    obtain ⟨m, hm, rfl, HT⟩ := hrel
    cases m with
    | zero =>
      have ht := HT.out
      rw [List.take_zero] at ht
      have hz : tsz l = 0 := by rw [← ht]; rfl
      have HZ := Lib.hid hz
      simp only [show ((0 : Nat) : Int) = 0 from rfl]
      clear ht HT hz
      go_wp2
      go_ret
      exact ⟨by rw [HZ.out]; rfl, rfl⟩
    | succ m =>
      obtain ⟨a, rfl, hab, x0⟩ := HR.out.u32n (k := m) (by omega)
      have ht := tsz_take l m (by omega)
      rw [HT.out] at ht
      have q1 : (0 : Int) ≤ (m : Int) := by omega
      have q2 : (m : Int) < (l.length : Int) := by omega
      have e1 : ((m + 1 : Nat) : Int) - 1 = (m : Int) := by omega
      have g1 : decide ((0 : Int) < ((m + 1 : Nat) : Int)) = true := decide_eq_true (by omega)
      have w1 : IntKind.i64.wrap (m : Int) = (m : Int) := IntWalk.i64_in _ (by omega)
      generalize l.getD m 0 = x at *
      by_cases hx : x = 0
      · subst hx
        rw [if_pos rfl] at ht
        have HT2 := Lib.hid ht
        simp only [show ((0 : Nat) : Int) = 0 from rfl] at x0
        clear ht
        go_wp2
        go_round
        case rel => exact ⟨m, by omega, (by first | rfl | rw [w1] | go_num), HT2.out.symm⟩
        case measure => first | (simp [intOf]; done) | simp [intOf, w1]
      · rw [if_neg hx] at ht
        have HZ := Lib.hid ht
        have t0 : ((x : Int) == 0) = false := by rw [beq_eq_false_iff_ne]; omega
        clear ht hx
        go_wp2
        go_ret
        exact ⟨by rw [HZ.out]; rfl, rfl⟩
theorem info_u32 : (Try.prog.info? 33).map (fun i => (i.zero, i.size, i.bytes)) = some (some (.int .u32 0), 1, 4) := by kernel_rfl
theorem u32n_one (l : List Nat) : ∀ u ∈ u32n l, u.oneCell' = true := by intro u hu; obtain ⟨x, _, rfl⟩ := List.mem_map.1 hu; rfl
theorem rd_take1 {w : World} {B n k : Nat} {A : Option Addr} {xs : List Value} (h : Rd w B 1 A n xs) (hk : k ≤ n) : Rd w B 1 A k (xs.take k) := by
  have hl := h.1
  refine ⟨by rw [List.length_take]; omega, fun hn => ?_⟩
  obtain ⟨a, rfl, hb, hcell⟩ := h.2 (by omega)
  refine ⟨a, rfl, hb, fun j u hu => hcell j u ?_⟩
  rw [List.getElem?_take] at hu
  split at hu
  · exact hu
  · cases hu
set_option maxRecDepth 20000 in
theorem trim_any (w : World) (B : Nat) (A : Option Addr) (c : Nat) (l : List Nat) (hR : Rd w B 1 A l.length (u32n l)) (hl : l.length ≤ 1000000) (hlc : l.length ≤ c) (hc : c ≤ maxLen) :
    Calls Try.prog 95 #[.slice A l.length c] w fun y w' => ∃ v, y = .returned v ∧ w'.ownsRow w.heap.size 33 1 v (tsz l) (u32n (l.take (tsz l))) ∧ Below w.heap.size w w' := by
  have ht := tsz_le l
  have hs := size_any w B A c l hR hl
  have hr := rd_take1 hR ht
  rw [show (u32n l).take (tsz l) = u32n (l.take (tsz l)) from by simp [u32n, List.map_take]] at hr
  have hone := u32n_one (l.take (tsz l))
  have q1 : (0 : Int) ≤ (tsz l : Int) := by omega
  have q2 : (tsz l : Int) ≤ (c : Int) := by omega
  have hcc := hc
  unfold maxLen at hcc
  have HS := Lib.hid hs; have HR := Lib.hid hr; have HO := Lib.hid hone; have HN := Lib.hid (World.ownsRow_nil w w.heap.size 33 1)
  clear hs hr hone hR
  generalize tsz l = m at *
  generalize l.take m = l' at *
  go_enter Try.func95, Try.ntmps95
  go_wp2_with (first
    | (go_at_call 143; (with_reducible refine HS.out.mono ?_); rintro y w1 ⟨rfl, rfl⟩)
    | (at_builtin; refine wpList_appS w rfl _ _ 24 rfl w.heap.size 33 _ 1 4 info_u32 rfl (by decide) Try.underlying24 (.slice none 0 0) 0 [] HN.out rfl _ _ m _ (u32n l') HR.out rfl HO.out ?_ ?_ ?_ ?_; omega; omega; exact Nat.le_refl _; intro v2 w2 ho2 hap2; have HO2 := Lib.hid ho2; have HB2 := Lib.hid (hap2.below (Nat.le_refl _) HN.out); clear ho2 hap2))
  go_ret
  have h2 := HO2.out
  rw [Nat.zero_add, List.nil_append] at h2
  exact ⟨_, rfl, h2, HB2.out⟩
theorem less_flo (a b : Nat) (w : World) (ha : a < 18446744073709551616) (hb : b < 18446744073709551616) : Calls Try.prog 97 #[.float .f64 a, .float .f64 b] w fun y w' => y = .returned (.bool (decide (keyB a < keyB b))) ∧ w = w' := by
  have HA := Lib.hid (fun W => key_any a W ha); have HB := Lib.hid (fun W => key_any b W hb)
  go_enter Try.func97, Try.ntmps97
  go_wp2_with fail
  (with_reducible refine (HA.out _).mono ?_); rintro y w1 ⟨rfl, rfl⟩
  go_wp2_with fail
  (with_reducible refine (HB.out _).mono ?_); rintro y w1 ⟨rfl, rfl⟩
  go_wp2
  go_ret
  first
  | exact ⟨rfl, rfl⟩
  | (refine ⟨?_, rfl⟩; congr 2; rw [Bool.eq_iff_iff]; simp)
end Go.Proofs.Ytfhmaincnlaapaa
namespace Go.Proofs.Ytfhmaincnlaapaa.Sy
open Go.ChangeShapes Go.WideShapes Go.ChangeAt Go.RowKit
set_option linter.unusedVariables false
def encFact (F : FactS) : List AV := encL encI64 F.codes ++ (encL encI64 F.ints ++ encL encF64 F.nums)
def okFact (F : FactS) : Prop := (∀ x ∈ F.codes, okI64 x) ∧ (∀ x ∈ F.ints, okI64 x) ∧ ∀ x ∈ F.nums, x < 18446744073709551616
theorem enc_fact : Enc factR encFact okFact := Enc.two (Enc.sl enc_i64) (Enc.two (Enc.sl enc_i64) (Enc.sl Enc.val))
theorem okFact_of {F : FactS} (h : FactOk F) : okFact F := ⟨fun x hx => WalkArith.wf_i64 (h.codes x hx), fun x hx => WalkArith.wf_i64 (h.ints x hx), h.nums⟩
theorem fact_open {E : Env} {F : FactS} {u : Value} (hF : ∀ b, E.F b → b < E.w.heap.size) (ho : okFact F) (h : Sees1 E (.agg (encFact F)) u) : FactAt E.w E.w.heap.size u F := by
  obtain ⟨cs, rfl, hr⟩ := enc_fact.unsee hF rfl h ho
  obtain ⟨v0, v1, v2, rfl, hv, _⟩ := factR_at hr
  exact ⟨v0, v1, v2, rfl, hv⟩
theorem fits_fn {S : Sch} {F : FactS} (hs : SchOk S) (ho : okFact F) : FnOk Try.prog 39 ⟨[.agg (encSch S), .agg (encFact F)], [], .v (.int .i64 (fitsN S F : Int)), []⟩ :=
  FnOk.of_calls rfl fun E vs hF hl hz => by
    obtain ⟨u, v, rfl⟩ := len2 hl
    exact refFits_any E.w E.w.heap.size u v S F (sch_open hF (okSch_of hs) (hz 0 _ u rfl rfl)) (fact_open hF ho (hz 1 _ v rfl rfl)) (Nat.le_refl _)
theorem factCheck_fn {S : Sch} {F : FactS} (hs : SchOk S) (ho : okFact F) : FnOk Try.prog 79 ⟨[.agg (encSch S), .agg (encFact F)], [], .v (.int .i64 (factCheckN S F : Int)), []⟩ :=
  FnOk.of_calls rfl fun E vs hF hl hz => by
    obtain ⟨u, v, rfl⟩ := len2 hl
    exact factCheck_any E.w E.w.heap.size u v S F (sch_open hF (okSch_of hs) (hz 0 _ u rfl rfl)) hs (fact_open hF ho (hz 1 _ v rfl rfl)) (Nat.le_refl _)
theorem light12_fn {F : FactS} (ho : okFact F) : FnOk Try.prog 24 ⟨[.lst 1 (encFact F)], [], .v (.bool (lightFs [F])), []⟩ :=
  FnOk.of_calls rfl fun E vs hF hl hz => by
    obtain ⟨u, rfl⟩ : ∃ u, vs = [u] := List.length_eq_one_iff.1 hl
    have hr : Rep E.w E.F (.lst 1 (encFact F)) u := hz 0 _ u rfl rfl
    have e : encL encFact [F] = [.lst 1 (encFact F)] := by unfold encL; simp
    have h := (Enc.sl enc_fact).bw (F := E.F) (x := [F]) hF (by rw [e]; exact RepL.one.2 hr) (fun x hx => by rw [List.mem_singleton.1 hx]; exact ho)
    obtain ⟨A, c, rfl, hs⟩ := Rp.sl_iff.1 h
    refine (lightFs_any E.w E.w.heap.size A c [F] hs).mono ?_
    rintro y w' ⟨rfl, rfl⟩
    exact ⟨rfl, belR _⟩
theorem in_fn {m i : Nat} (hi : i ≤ 31) (hm : m < 4294967296) : FnOk Try.prog 89 ⟨[.v (.int .u32 (m : Int)), .v (.int .i64 (i : Int))], [], .v (.bool (m.testBit i)), []⟩ :=
  FnOk.of_calls rfl fun E vs hF hl hz => by
    obtain ⟨u, v, rfl⟩ := len2 hl
    obtain ⟨rfl, _⟩ : u = .int .u32 (m : Int) ∧ _ := hz 0 _ u rfl rfl
    obtain ⟨rfl, _⟩ : v = .int .i64 (i : Int) ∧ _ := hz 1 _ v rfl rfl
    refine (in_any E.w m i hi hm).mono ?_
    rintro y w' ⟨rfl, rfl⟩
    exact ⟨by rw [inB_bit], belR _⟩
end Go.Proofs.Ytfhmaincnlaapaa.Sy
namespace Go.Proofs.Ytfhmaincnlaapaa.Sy
open Go.ChangeShapes Go.WideShapes Go.ChangeAt Go.RowKit
set_option linter.unusedVariables false
set_option linter.unusedSimpArgs false
/-- the key of the first k codes -/
def kyS (S : Sch) (F : FactS) (mask : Nat) : Nat → Nat
  | 0 => 0
  | k + 1 => if mask.testBit k then kyS S F mask k * (szAt S k).toNat + (codeAt F k).toNat else kyS S F mask k
structure KeyH (S : Sch) (F : FactS) (mask : Nat) : Prop where
  ck : checkN S = 0
  len : lensOk S F
  ok : codesTo S F F.codes.length = true
  m : mask < 4294967296
section
variable {S : Sch} {F : FactS} {mask : Nat} (h : KeyH S F mask)
include h
theorem KeyH.code {k : Nat} (hk : k < S.dims.length) : 0 ≤ codeAt F k ∧ codeAt F k < szAt S k := by
  have h1 := h.ok
  unfold codesTo at h1
  have h2 := List.all_eq_true.1 h1 k (List.mem_range.2 (by rw [h.len.1]; exact hk))
  unfold codeOk at h2
  simpa using h2
theorem KeyH.sz {k : Nat} (hk : k < S.dims.length) : 1 ≤ szAt S k ∧ szAt S k ≤ 4096 := by
  obtain ⟨_, p, hp⟩ := checkN_zero h.ck
  exact keysTo_some S _ p hp k hk
theorem KeyH.dims : S.dims.length ≤ 6 := (checkN_zero h.ck).1.2.1
theorem KeyH.room {k : Nat} (hk : k ≤ S.dims.length) : keysP S mask k ≤ 1099511627776 := by
  obtain ⟨_, p, hp⟩ := checkN_zero h.ck
  obtain ⟨q, hq⟩ := keysTo_part S _ p hp k hk
  exact Nat.le_trans (keysP_le S mask k q hq) (keysTo_le S k q hq).2
theorem KeyH.lt : ∀ {k : Nat}, k ≤ S.dims.length → kyS S F mask k < keysP S mask k
  | 0, _ => by show 0 < 1; decide
  | k + 1, hk => by
    have ih := KeyH.lt (k := k) (by omega)
    have h1 := h.code (k := k) (by omega)
    rw [keysP_succ]
    unfold kyS
    by_cases hb : mask.testBit k = true
    · rw [if_pos hb, if_pos hb]
      have h2 : (kyS S F mask k + 1) * (szAt S k).toNat ≤ keysP S mask k * (szAt S k).toNat := Nat.mul_le_mul_right _ ih
      rw [Nat.add_mul, Nat.one_mul] at h2
      omega
    · rw [if_neg hb, if_neg hb]; exact ih
end
/-! ### what is read -/
theorem flat2 {α : Type} (e : α → List AV) (k : Nat) (hk : ∀ x, (e x).length = k) (d : α) : ∀ (l : List α) (i : Nat), i < l.length → ((l.flatMap e).drop (i * k)).take k = e (l.getD i d) ∧ i * k + k ≤ (l.flatMap e).length
  | x :: l, 0, _ => by
    simp only [Nat.zero_mul, List.drop_zero, List.flatMap_cons, List.getD_cons_zero, List.length_append, hk]
    exact ⟨by rw [← hk x, List.take_left], by omega⟩
  | x :: l, i + 1, h => by
    obtain ⟨h1, h2⟩ := flat2 e k hk d l i (by simpa using h)
    have e1 : (i + 1) * k = (e x).length + i * k := by rw [hk, Nat.succ_mul]; omega
    simp only [List.flatMap_cons, List.getD_cons_succ, List.length_append]
    rw [e1, ← List.drop_drop, List.drop_left]
    exact ⟨h1, by omega⟩
  | [], i, h => absurd h (by simp)
theorem rd_code (l : List Int) (i : Nat) (h : i < l.length) : rd1 false 1 (l.flatMap encI64) ((i : Int).toNat * 1) = some (iz (l.getD i 0)) := by
  obtain ⟨h1, h2⟩ := flat2 encI64 1 (fun _ => rfl) 0 l i h
  unfold rd1
  rw [Int.toNat_natCast, cond_false]
  have h3 := congrArg (fun x => x[0]?) h1
  simp only [List.getElem?_take_of_lt (Nat.zero_lt_one), List.getElem?_drop, Nat.add_zero] at h3
  rw [h3]; rfl
theorem rd_dim (S : Sch) (i : Nat) (h : i < S.dims.length) : rd1 true 2 (S.dims.flatMap encDim) ((i : Int).toNat * 2) = some (.agg [.v (.string (S.dims.getD i (⟨#[]⟩, 0)).1), iz (szAt S i)]) := by
  obtain ⟨h1, h2⟩ := flat2 encDim 2 (fun _ => rfl) (⟨#[]⟩, 0) S.dims i h
  unfold rd1
  rw [Int.toNat_natCast, cond_true, if_pos h2, h1]; rfl
theorem rd_size (S : Sch) (i : Nat) (h : i < S.dims.length) : rd1 false 1 (S.dims.flatMap encDim) ((i : Int).toNat * 2 + 1) = some (iz (szAt S i)) := by
  obtain ⟨h1, h2⟩ := flat2 encDim 2 (fun _ => rfl) (⟨#[]⟩, 0) S.dims i h
  unfold rd1
  rw [Int.toNat_natCast, cond_false]
  have h3 := congrArg (fun x => x[1]?) h1
  simp only [List.getElem?_take_of_lt (Nat.one_lt_two), List.getElem?_drop] at h3
  rw [h3]; rfl
def codT (F : FactS) : AV := .lst F.codes.length (F.codes.flatMap encI64)
/-! ### bushelref13.Of -/
def k13I (S : Sch) (F : FactS) (mask y i : Nat) : AS := ⟨[(1, .v (.int .u32 (mask : Int))), (2, codT F), (3, .ptr 3 0), (7, uz (y : Nat)), (8, iz (i : Nat))], [(3, .cells 26 (encSch S))], 35, []⟩
def k13E (y : Nat) : AS := ⟨[(7, uz (y : Nat))], [], 35, []⟩
section
variable {S : Sch} {F : FactS} {mask : Nat} (h : KeyH S F mask)
include h
theorem k13_loop {y : Nat} (hy : kyS S F mask S.dims.length = y) : LoopOk Try.prog (loopBody Try.f90 3) (k13I S F mask 0 0) (.exit 0) (k13E y) := by
  refine LoopOk.of hmo (fun x : {x : Nat × Nat // x.1 ≤ S.dims.length ∧ kyS S F mask x.1 = x.2} => k13I S F mask x.1.2 x.1.1) (fun x => S.dims.length - x.1.1) (fun x => ?_) ⟨(0, 0), Nat.zero_le _, rfl⟩
  obtain ⟨⟨i, c⟩, hi, hx⟩ := x
  simp only at hi hx
  have hd := h.dims
  rcases Nat.lt_or_eq_of_le hi with hlt | rfl
  · have e1 := in_fn (m := mask) (i := i) (by omega) h.m
    have r1 := rd_size S i hlt
    have hcl : F.codes.length = S.dims.length := h.len.1
    have r2 := rd_code F.codes i (by omega)
    obtain ⟨c1, c2⟩ := h.code hlt
    obtain ⟨z1, z2⟩ := h.sz hlt
    have hlt1 := h.lt (k := i + 1) (by omega)
    have hrm := h.room (k := i + 1) (by omega)
    have hlt0 := h.lt (k := i) (by omega)
    have hrm0 := h.room (k := i) (by omega)
    have hs : kyS S F mask (i + 1) = if mask.testBit i then c * (szAt S i).toNat + (codeAt F i).toNat else c := by rw [← hx]; rfl
    rw [show F.codes.getD i 0 = codeAt F i from rfl] at r2
    obtain ⟨sz, hsz⟩ := Int.eq_ofNat_of_zero_le (show 0 ≤ szAt S i by omega)
    obtain ⟨cd, hcd⟩ := Int.eq_ofNat_of_zero_le c1
    rw [hsz] at r1 z1 z2 hs
    rw [hcd] at r2 hs
    rw [Int.toNat_natCast, Int.toNat_natCast] at hs
    rw [hx] at hlt0
    cases hb : mask.testBit i with
    | true =>
      rw [hb] at e1 hs
      rw [if_pos rfl] at hs
      rw [hs] at hlt1
      have hmul : c * sz ≤ 1099511627776 := by omega
      obtain ⟨q, hq⟩ : ∃ q, q = c * sz := ⟨_, rfl⟩
      rw [← hq] at hs hlt1 hmul
      have hw : IntKind.u64.wrap ((c : Int) * (sz : Int)) = (q : Int) := by
        rw [← Int.natCast_mul, ← hq, IntKind.wrap_u64]; omega
      refine Round.on [(13, Hint.val (AV.v (Value.bool true))), (18, Hint.call (Inst.mk [AV.v (Value.int IntKind.u32 (↑mask : Int)), AV.v (Value.int IntKind.i64 (↑i : Int))] [] (AV.v (Value.bool true)) [])), (25, Hint.val (iz (↑sz : Int))), (26, Hint.val (AV.v (Value.int IntKind.u64 (↑sz : Int)))), (27, Hint.val (uz (↑q : Int))), (31, Hint.val (iz (↑cd : Int))), (32, Hint.val (AV.v (Value.int IntKind.u64 (↑cd : Int)))), (33, Hint.val (AV.v (Value.int IntKind.u64 (↑(q + cd) : Int)))), (15, Hint.val (AV.v (Value.int IntKind.i64 (↑(i + (1 : Nat)) : Int))))] [] ⟨(i + 1, q + cd), hlt, by rw [hs]⟩ [(↑mask : Int) = (↑mask : Int), F.codes.length = F.codes.length ∧ List.flatMap encI64 F.codes = List.flatMap encI64 F.codes, (3 : Nat) = (3 : Nat) ∧ (0 : Nat) = (0 : Nat), (↑(q + cd) : Int) = (↑(i + (1 : Nat), q + cd).snd : Int), (↑(i + (1 : Nat)) : Int) = (↑(i + (1 : Nat), q + cd).fst : Int), [AV.lst S.dims.length (List.flatMap encDim S.dims), AV.lst S.ints.length (List.flatMap encStr S.ints), AV.lst S.nums.length (List.flatMap encStr S.nums), AV.lst S.views.length (List.flatMap encU32 S.views)] = [AV.lst S.dims.length (List.flatMap encDim S.dims), AV.lst S.ints.length (List.flatMap encStr S.ints), AV.lst S.nums.length (List.flatMap encStr S.nums), AV.lst S.views.length (List.flatMap encU32 S.views)], decide ((↑(i, c).fst : Int) < (↑S.dims.length : Int)) = true, (↑mask : Int) = (↑mask : Int) ∧ (↑(i, c).fst : Int) = (↑i : Int) ∧ True, FnOk Try.prog (89 : Nat) (Inst.mk [AV.v (Value.int IntKind.u32 (↑mask : Int)), AV.v (Value.int IntKind.i64 (↑i : Int))] [] (AV.v (Value.bool true)) []), (0 : Int) ≤ (↑(i, c).fst : Int) ∧ (↑(i, c).fst : Int) < (↑S.dims.length : Int), rd1 false (1 : Nat) (List.flatMap encDim S.dims) ((↑(i, c).fst : Int).toNat * (2 : Nat) + (1 : Nat)) = some (AV.v (Value.int IntKind.i64 (↑sz : Int))), IntKind.u64.wrap (↑sz : Int) = (↑sz : Int), IntKind.u64.wrap ((↑(i, c).snd : Int) * (↑sz : Int)) = (↑q : Int), (0 : Int) ≤ (↑(i, c).fst : Int) ∧ (↑(i, c).fst : Int) < (↑F.codes.length : Int), rd1 false (1 : Nat) (List.flatMap encI64 F.codes) ((↑(i, c).fst : Int).toNat * (1 : Nat)) = some (AV.v (Value.int IntKind.i64 (↑cd : Int))), IntKind.u64.wrap (↑cd : Int) = (↑cd : Int), IntKind.u64.wrap ((↑q : Int) + (↑cd : Int)) = (↑(q + cd) : Int), IntKind.i64.wrap ((↑(i, c).fst : Int) + (1 : Int)) = (↑(i + (1 : Nat)) : Int)] (by kernel_rfl) (by show S.dims.length - (i + 1) < S.dims.length - i; omega) ?_
      ((repeat' refine And.intro ?_ ?_); (iterate 8 (with_reducible rfl)); ((with_reducible refine Dt ?_; omega)); (iterate 2 (with_reducible rfl)); (exact True.intro); (with_reducible assumption); (iterate 2 (omega)); ((show rd1 _ _ _ _ = _; assumption)); ((rw [IntKind.wrap_u64]; omega)); (with_reducible assumption); (iterate 2 (omega)); ((show rd1 _ _ _ _ = _; assumption)); (iterate 2 ((rw [IntKind.wrap_u64]; omega))); (exact Wi _ (by omega)); (exact True.intro))
      all_goals exact hw
    | false =>
      rw [hb] at e1 hs
      rw [if_neg (by simp)] at hs
      refine Round.on [(13, Hint.val (AV.v (Value.bool true))), (18, Hint.call (Inst.mk [AV.v (Value.int IntKind.u32 (↑mask : Int)), AV.v (Value.int IntKind.i64 (↑i : Int))] [] (AV.v (Value.bool false)) [])), (15, Hint.val (AV.v (Value.int IntKind.i64 (↑(i + (1 : Nat)) : Int))))] [] ⟨(i + 1, c), hlt, hs⟩ [(↑mask : Int) = (↑mask : Int), F.codes.length = F.codes.length ∧ List.flatMap encI64 F.codes = List.flatMap encI64 F.codes, (3 : Nat) = (3 : Nat) ∧ (0 : Nat) = (0 : Nat), (↑(i, c).snd : Int) = (↑(i + (1 : Nat), c).snd : Int), (↑(i + (1 : Nat)) : Int) = (↑(i + (1 : Nat), c).fst : Int), [AV.lst S.dims.length (List.flatMap encDim S.dims), AV.lst S.ints.length (List.flatMap encStr S.ints), AV.lst S.nums.length (List.flatMap encStr S.nums), AV.lst S.views.length (List.flatMap encU32 S.views)] = [AV.lst S.dims.length (List.flatMap encDim S.dims), AV.lst S.ints.length (List.flatMap encStr S.ints), AV.lst S.nums.length (List.flatMap encStr S.nums), AV.lst S.views.length (List.flatMap encU32 S.views)], decide ((↑(i, c).fst : Int) < (↑S.dims.length : Int)) = true, (↑mask : Int) = (↑mask : Int) ∧ (↑(i, c).fst : Int) = (↑i : Int) ∧ True, FnOk Try.prog (89 : Nat) (Inst.mk [AV.v (Value.int IntKind.u32 (↑mask : Int)), AV.v (Value.int IntKind.i64 (↑i : Int))] [] (AV.v (Value.bool false)) []), IntKind.i64.wrap ((↑(i, c).fst : Int) + (1 : Int)) = (↑(i + (1 : Nat)) : Int)] (by kernel_rfl) (by show S.dims.length - (i + 1) < S.dims.length - i; omega) ?_
      ((repeat' refine And.intro ?_ ?_); (iterate 8 (with_reducible rfl)); ((with_reducible refine Dt ?_; omega)); (iterate 2 (with_reducible rfl)); (exact True.intro); (with_reducible assumption); (exact Wi _ (by omega)); (exact True.intro))
  · obtain rfl := hx.symm.trans hy
    refine Round.out [(13, Hint.val (AV.v (Value.bool false)))] [] [(↑(S.dims.length, c).snd : Int) = (↑c : Int), decide ((↑(S.dims.length, c).fst : Int) < (↑S.dims.length : Int)) = false] (by kernel_rfl) ?_
    ((repeat' refine And.intro ?_ ?_); (with_reducible rfl); ((with_reducible refine Df ?_; omega)); (exact True.intro))
theorem of13_fn : FnOk Try.prog 90 ⟨[.agg (encSch S), .v (.int .u32 (mask : Int)), codT F], [], uz (kyS S F mask S.dims.length : Nat), []⟩ := by
  have h1 := k13_loop h rfl
  generalize kyS S F mask S.dims.length = y at *
  refine fn_go hmo Try.func90 (by kernel_rfl) [] [(3, ⟨.exit 0, k13I S F mask 0 0, k13E y⟩)] [(↑y : Int) = (↑y : Int), LoopOk Try.prog (loopBody Try.f90 (3 : Nat)) (k13I S F mask (0 : Nat) (0 : Nat)) (Exit.exit (0 : Nat)) (k13E y), (↑mask : Int) = (↑mask : Int), F.codes.length = F.codes.length ∧ List.flatMap encI64 F.codes = List.flatMap encI64 F.codes, (3 : Nat) = (3 : Nat) ∧ (0 : Nat) = (0 : Nat), (0 : Int) = (↑(0 : Nat) : Int), (0 : Int) = (↑(0 : Nat) : Int), [AV.lst S.dims.length (List.flatMap encDim S.dims), AV.lst S.ints.length (List.flatMap encStr S.ints), AV.lst S.nums.length (List.flatMap encStr S.nums), AV.lst S.views.length (List.flatMap encU32 S.views)] = [AV.lst S.dims.length (List.flatMap encDim S.dims), AV.lst S.ints.length (List.flatMap encStr S.ints), AV.lst S.nums.length (List.flatMap encStr S.nums), AV.lst S.views.length (List.flatMap encU32 S.views)]] (by kernel_rfl) ?_
  ((repeat' refine And.intro ?_ ?_); (with_reducible rfl); (with_reducible assumption); (iterate 5 (with_reducible rfl)); (iterate 2 (omega)); (with_reducible rfl); (exact True.intro))
end
end Go.Proofs.Ytfhmaincnlaapaa.Sy
namespace Go.Proofs.Ytfhmaincnlaapaa.Sy
open Go.ChangeShapes Go.WideShapes Go.ChangeAt Go.RowKit
set_option linter.unusedVariables false
set_option linter.unusedSimpArgs false
theorem schFull_fn {S : Sch} (hs : SchOk S) : FnOk Try.prog 103 ⟨[.agg (encSch S)], [], .v (.int .u32 (fullP S : Int)), []⟩ :=
  FnOk.of_calls rfl fun E vs hF hl hz => by
    obtain ⟨u, rfl⟩ : ∃ u, vs = [u] := List.length_eq_one_iff.1 hl
    exact full_any E.w E.w.heap.size u S (sch_open hF (okSch_of hs) (hz 0 _ u rfl rfl)) hs (Nat.le_refl _)
theorem fullP_pos {S : Sch} (hc : checkN S = 0) : fullP S = p2 S.dims.length - 1 ∧ 1 ≤ p2 S.dims.length - 1 := by
  obtain ⟨hm, _⟩ := checkN_zero hc
  unfold manyOk at hm
  have := p2_le 1 _ hm.1
  rw [show p2 1 = 2 from rfl] at this
  exact ⟨if_pos hc, by omega⟩
theorem ask13_fn {S : Sch} {mask : Nat} (hs : SchOk S) (hc : checkN S = 0) (hm : mask < 4294967296) : FnOk Try.prog 142 ⟨[.agg (encSch S), .v (.int .u32 (mask : Int))], [], iz (if mask < p2 S.dims.length then 0 else 11), []⟩ := by
  obtain ⟨e1, e2⟩ := fullP_pos hc
  have hlt := fullP_le S
  have hf := schFull_fn hs
  have hd : S.dims.length ≤ 6 := (checkN_zero hc).1.2.1
  have ha := andNot_full mask S.dims.length (by omega) hm
  rw [← e1] at ha
  rw [← e1] at e2
  have hle := Nat.div_mul_le_self mask (p2 S.dims.length)
  generalize fullP S = q at *
  by_cases hl : mask < p2 S.dims.length
  · rw [if_pos hl]
    rw [Nat.div_eq_of_lt hl, Nat.zero_mul] at ha
    refine fn_go hmo Try.func142 (by kernel_rfl) [(7, Hint.call (Inst.mk [AV.agg (encSch S)] [] (AV.v (Value.int IntKind.u32 (↑q : Int))) [])), (10, Hint.val (AV.v (Value.bool false))), (14, Hint.val (AV.v (Value.int IntKind.u32 (0 : Int))))] [] [(0 : Int) = (0 : Int), [AV.lst S.dims.length (List.flatMap encDim S.dims), AV.lst S.ints.length (List.flatMap encStr S.ints), AV.lst S.nums.length (List.flatMap encStr S.nums), AV.lst S.views.length (List.flatMap encU32 S.views)] = [AV.lst S.dims.length (List.flatMap encDim S.dims), AV.lst S.ints.length (List.flatMap encStr S.ints), AV.lst S.nums.length (List.flatMap encStr S.nums), AV.lst S.views.length (List.flatMap encU32 S.views)] ∧ True, FnOk Try.prog (103 : Nat) (Inst.mk [AV.agg [AV.lst S.dims.length (List.flatMap encDim S.dims), AV.lst S.ints.length (List.flatMap encStr S.ints), AV.lst S.nums.length (List.flatMap encStr S.nums), AV.lst S.views.length (List.flatMap encU32 S.views)]] [] (AV.v (Value.int IntKind.u32 (↑q : Int))) []), ((↑q : Int) == (0 : Int)) = false, IntKind.u32.wrap (↑(BitVec.ofInt (32 : Nat) (↑mask : Int) &&& ~~~BitVec.ofInt (32 : Nat) (↑q : Int)).toNat : Int) = (0 : Int)] (by kernel_rfl) ?_
    ((repeat' refine And.intro ?_ ?_); (iterate 2 (with_reducible rfl)); (exact True.intro); ((show FnOk _ _ _; assumption)); ((with_reducible refine Bn ?_; omega)); rotate_left 1; (exact True.intro))
    all_goals exact ha
  · rw [if_neg hl]
    have hg : 1 ≤ mask / p2 S.dims.length * p2 S.dims.length := by
      have h1 : 1 ≤ mask / p2 S.dims.length := (Nat.le_div_iff_mul_le (p2_pos _)).2 (by omega)
      have h2 := p2_pos S.dims.length
      have := Nat.mul_le_mul h1 h2
      omega
    generalize mask / p2 S.dims.length * p2 S.dims.length = r at *
    refine fn_go hmo Try.func142 (by kernel_rfl) [(7, Hint.call (Inst.mk [AV.agg (encSch S)] [] (AV.v (Value.int IntKind.u32 (↑q : Int))) [])), (10, Hint.val (AV.v (Value.bool false))), (14, Hint.val (AV.v (Value.int IntKind.u32 (↑r : Int)))), (15, Hint.val (AV.v (Value.bool true)))] [] [(11 : Int) = (11 : Int), [AV.lst S.dims.length (List.flatMap encDim S.dims), AV.lst S.ints.length (List.flatMap encStr S.ints), AV.lst S.nums.length (List.flatMap encStr S.nums), AV.lst S.views.length (List.flatMap encU32 S.views)] = [AV.lst S.dims.length (List.flatMap encDim S.dims), AV.lst S.ints.length (List.flatMap encStr S.ints), AV.lst S.nums.length (List.flatMap encStr S.nums), AV.lst S.views.length (List.flatMap encU32 S.views)] ∧ True, FnOk Try.prog (103 : Nat) (Inst.mk [AV.agg [AV.lst S.dims.length (List.flatMap encDim S.dims), AV.lst S.ints.length (List.flatMap encStr S.ints), AV.lst S.nums.length (List.flatMap encStr S.nums), AV.lst S.views.length (List.flatMap encU32 S.views)]] [] (AV.v (Value.int IntKind.u32 (↑q : Int))) []), ((↑q : Int) == (0 : Int)) = false, IntKind.u32.wrap (↑(BitVec.ofInt (32 : Nat) (↑mask : Int) &&& ~~~BitVec.ofInt (32 : Nat) (↑q : Int)).toNat : Int) = (↑r : Int), ((↑r : Int) != (0 : Int)) = true] (by kernel_rfl) ?_
    ((repeat' refine And.intro ?_ ?_); (iterate 2 (with_reducible rfl)); (exact True.intro); ((show FnOk _ _ _; assumption)); ((with_reducible refine Bn ?_; omega)); rotate_left 1; ((with_reducible refine Ne ?_; omega)); (exact True.intro))
    all_goals exact ha
/-! ### key.Of -/
def k80I (S : Sch) (F : FactS) (mask y i : Nat) : AS := ⟨[(1, .v (.int .u32 (mask : Int))), (2, codT F), (25, .lst S.dims.length (S.dims.flatMap encDim)), (26, iz (S.dims.length : Int)), (9, uz (y : Nat)), (27, iz (i : Nat))], [], 64, []⟩
def k80E (y : Nat) : AS := ⟨[(9, uz (y : Nat))], [], 64, []⟩
section
variable {S : Sch} {F : FactS} {mask : Nat} (h : KeyH S F mask)
include h
theorem ofN_fn (hs : SchOk S) (hl : ¬ mask < p2 S.dims.length) : FnOk Try.prog 80 ⟨[.agg (encSch S), .v (.int .u32 (mask : Int)), codT F], [], .tup [uz 0, iz 11], []⟩ := by
  have ha := ask13_fn hs h.ck h.m
  rw [if_neg hl] at ha
  refine fn_go hmo Try.func80 (by kernel_rfl) [(14, Hint.call (Inst.mk [AV.agg (encSch S), AV.v (Value.int IntKind.u32 (↑mask : Int))] [] (iz (11 : Int)) []))] [] [(0 : Int) = (0 : Int) ∧ (11 : Int) = (11 : Int) ∧ True, [AV.lst S.dims.length (List.flatMap encDim S.dims), AV.lst S.ints.length (List.flatMap encStr S.ints), AV.lst S.nums.length (List.flatMap encStr S.nums), AV.lst S.views.length (List.flatMap encU32 S.views)] = [AV.lst S.dims.length (List.flatMap encDim S.dims), AV.lst S.ints.length (List.flatMap encStr S.ints), AV.lst S.nums.length (List.flatMap encStr S.nums), AV.lst S.views.length (List.flatMap encU32 S.views)] ∧ (↑mask : Int) = (↑mask : Int) ∧ True, FnOk Try.prog (142 : Nat) (Inst.mk [AV.agg [AV.lst S.dims.length (List.flatMap encDim S.dims), AV.lst S.ints.length (List.flatMap encStr S.ints), AV.lst S.nums.length (List.flatMap encStr S.nums), AV.lst S.views.length (List.flatMap encU32 S.views)], AV.v (Value.int IntKind.u32 (↑mask : Int))] [] (AV.v (Value.int IntKind.i64 (11 : Int))) [])] (by kernel_rfl) ?_
  ((repeat' refine And.intro ?_ ?_); (iterate 2 (with_reducible rfl)); (exact True.intro); (iterate 2 (with_reducible rfl)); (exact True.intro); ((show FnOk _ _ _; assumption)); (exact True.intro))
theorem k80_loop {y : Nat} (hy : kyS S F mask S.dims.length = y) : LoopOk Try.prog (loopBody Try.f80 8) (k80I S F mask 0 0) (.exit 0) (k80E y) := by
  refine LoopOk.of hmo (fun x : {x : Nat × Nat // x.1 ≤ S.dims.length ∧ kyS S F mask x.1 = x.2} => k80I S F mask x.1.2 x.1.1) (fun x => S.dims.length - x.1.1) (fun x => ?_) ⟨(0, 0), Nat.zero_le _, rfl⟩
  obtain ⟨⟨i, c⟩, hi, hx⟩ := x
  simp only at hi hx
  have hd := h.dims
  rcases Nat.lt_or_eq_of_le hi with hlt | rfl
  · have r0 := rd_dim S i hlt
    have hcl : F.codes.length = S.dims.length := h.len.1
    have r2 := rd_code F.codes i (by omega)
    obtain ⟨c1, c2⟩ := h.code hlt
    obtain ⟨z1, z2⟩ := h.sz hlt
    have hlt1 := h.lt (k := i + 1) (by omega)
    have hrm := h.room (k := i + 1) (by omega)
    have hlt0 := h.lt (k := i) (by omega)
    have hrm0 := h.room (k := i) (by omega)
    have hm := h.m
    have hs : kyS S F mask (i + 1) = if mask.testBit i then c * (szAt S i).toNat + (codeAt F i).toNat else c := by rw [← hx]; rfl
    rw [show F.codes.getD i 0 = codeAt F i from rfl] at r2
    have hlq : mask / p2 i < 4294967296 := Nat.lt_of_le_of_lt (Nat.div_le_self _ _) hm
    have han2 : bits .and .u32 ((mask / p2 i : Nat) : Int) 1 = ((mask / p2 i % 2 : Nat) : Int) := by
      have := u32_and_nat (mask / p2 i) 1 hlq (by decide)
      rw [Nat.and_one_is_mod] at this
      exact this
    rw [bit_of mask i] at han2
    have hsh : (mask : Int).fdiv ((2 : Int) ^ min ((i : Int)).toNat 32) = ((mask / p2 i : Nat) : Int) := by
      rw [Int.toNat_natCast, Nat.min_eq_left (by omega), Int.fdiv_eq_ediv_of_nonneg _ (Int.le_of_lt (Int.pow_pos (by decide)))]
      unfold p2; simp
    generalize mask / p2 i = MK at *
    obtain ⟨sz, hsz⟩ := Int.eq_ofNat_of_zero_le (show 0 ≤ szAt S i by omega)
    obtain ⟨cd, hcd⟩ := Int.eq_ofNat_of_zero_le c1
    rw [hsz] at r0 z1 z2 hs
    rw [hcd] at r2 hs
    rw [Int.toNat_natCast, Int.toNat_natCast] at hs
    rw [hx] at hlt0
    rw [hcd] at c2
    rw [hsz] at c2
    generalize (S.dims.getD i (⟨#[]⟩, 0)).1 = nm at *
    cases hb : mask.testBit i with
    | true =>
      rw [hb] at han2 hs
      rw [if_pos rfl] at hs han2
      rw [hs] at hlt1
      have hmul : c * sz ≤ 1099511627776 := by omega
      obtain ⟨q, hq⟩ : ∃ q, q = c * sz := ⟨_, rfl⟩
      rw [← hq] at hs hlt1 hmul
      have hw : IntKind.u64.wrap ((c : Int) * (sz : Int)) = (q : Int) := by
        rw [← Int.natCast_mul, ← hq, IntKind.wrap_u64]; omega
      refine Round.on [(28, Hint.val (AV.v (Value.bool true))), (31, Hint.val (AV.agg [AV.v (Value.string nm), iz (↑sz : Int)])), (34, Hint.val (AV.v (Value.int IntKind.u32 (↑MK : Int)))), (35, Hint.val (AV.v (Value.int IntKind.u32 (1 : Int)))), (40, Hint.val (iz (↑cd : Int))), (46, Hint.val (iz (↑cd : Int))), (49, Hint.val (AV.v (Value.bool false))), (54, Hint.val (AV.v (Value.int IntKind.u64 (↑sz : Int)))), (55, Hint.val (uz (↑q : Int))), (59, Hint.val (iz (↑cd : Int))), (60, Hint.val (AV.v (Value.int IntKind.u64 (↑cd : Int)))), (61, Hint.val (AV.v (Value.int IntKind.u64 (↑(q + cd) : Int)))), (62, Hint.val (AV.v (Value.int IntKind.i64 (↑(i + (1 : Nat)) : Int))))] [] ⟨(i + 1, q + cd), hlt, by rw [hs]⟩ [(↑mask : Int) = (↑mask : Int), F.codes.length = F.codes.length ∧ List.flatMap encI64 F.codes = List.flatMap encI64 F.codes, S.dims.length = S.dims.length ∧ List.flatMap encDim S.dims = List.flatMap encDim S.dims, (↑S.dims.length : Int) = (↑S.dims.length : Int), (↑(q + cd) : Int) = (↑(i + (1 : Nat), q + cd).snd : Int), (↑(i + (1 : Nat)) : Int) = (↑(i + (1 : Nat), q + cd).fst : Int), decide ((↑(i, c).fst : Int) < (↑S.dims.length : Int)) = true, (0 : Int) ≤ (↑(i, c).fst : Int) ∧ (↑(i, c).fst : Int) < (↑S.dims.length : Int), rd1 true (2 : Nat) (List.flatMap encDim S.dims) ((↑(i, c).fst : Int).toNat * (2 : Nat)) = some (AV.agg [AV.v (Value.string nm), AV.v (Value.int IntKind.i64 (↑sz : Int))]), (↑mask : Int).fdiv ((2 : Int) ^ min (↑(i, c).fst : Int).toNat (32 : Nat)) = (↑MK : Int), (0 : Int) ≤ (↑(i, c).fst : Int), IntKind.u32.wrap (↑(BitVec.ofInt (32 : Nat) (↑MK : Int) &&& BitVec.ofInt (32 : Nat) (1 : Int)).toNat : Int) = (1 : Int), (0 : Int) ≤ (↑(i, c).fst : Int) ∧ (↑(i, c).fst : Int) < (↑F.codes.length : Int), rd1 false (1 : Nat) (List.flatMap encI64 F.codes) ((↑(i, c).fst : Int).toNat * (1 : Nat)) = some (AV.v (Value.int IntKind.i64 (↑cd : Int))), (0 : Int) ≤ (↑(i, c).fst : Int) ∧ (↑(i, c).fst : Int) < (↑F.codes.length : Int), rd1 false (1 : Nat) (List.flatMap encI64 F.codes) ((↑(i, c).fst : Int).toNat * (1 : Nat)) = some (AV.v (Value.int IntKind.i64 (↑cd : Int))), decide ((↑sz : Int) ≤ (↑cd : Int)) = false, IntKind.u64.wrap (↑sz : Int) = (↑sz : Int), IntKind.u64.wrap ((↑(i, c).snd : Int) * (↑sz : Int)) = (↑q : Int), (0 : Int) ≤ (↑(i, c).fst : Int) ∧ (↑(i, c).fst : Int) < (↑F.codes.length : Int), rd1 false (1 : Nat) (List.flatMap encI64 F.codes) ((↑(i, c).fst : Int).toNat * (1 : Nat)) = some (AV.v (Value.int IntKind.i64 (↑cd : Int))), IntKind.u64.wrap (↑cd : Int) = (↑cd : Int), IntKind.u64.wrap ((↑q : Int) + (↑cd : Int)) = (↑(q + cd) : Int), IntKind.i64.wrap ((↑(i, c).fst : Int) + (1 : Int)) = (↑(i + (1 : Nat)) : Int)] (by kernel_rfl) (by show S.dims.length - (i + 1) < S.dims.length - i; omega) ?_
      ((repeat' refine And.intro ?_ ?_); (iterate 8 (with_reducible rfl)); ((with_reducible refine Dt ?_; omega)); (iterate 2 (omega)); ((show rd1 _ _ _ _ = _; assumption)); (with_reducible assumption); (omega); rotate_left 1; (iterate 2 (omega)); ((show rd1 _ _ _ _ = _; assumption)); (iterate 2 (omega)); ((show rd1 _ _ _ _ = _; assumption)); ((with_reducible refine Df ?_; omega)); ((rw [IntKind.wrap_u64]; omega)); (with_reducible assumption); (iterate 2 (omega)); ((show rd1 _ _ _ _ = _; assumption)); (iterate 2 ((rw [IntKind.wrap_u64]; omega))); (exact Wi _ (by omega)); (exact True.intro))
      all_goals first | exact hsh | exact han2 | exact hw
    | false =>
      rw [hb] at han2 hs
      rw [if_neg (by simp)] at hs han2
      refine Round.on [(28, Hint.val (AV.v (Value.bool true))), (31, Hint.val (AV.agg [AV.v (Value.string nm), iz (↑sz : Int)])), (34, Hint.val (AV.v (Value.int IntKind.u32 (↑MK : Int)))), (35, Hint.val (AV.v (Value.int IntKind.u32 (0 : Int)))), (62, Hint.val (AV.v (Value.int IntKind.i64 (↑(i + (1 : Nat)) : Int))))] [] ⟨(i + 1, c), hlt, hs⟩ [(↑mask : Int) = (↑mask : Int), F.codes.length = F.codes.length ∧ List.flatMap encI64 F.codes = List.flatMap encI64 F.codes, S.dims.length = S.dims.length ∧ List.flatMap encDim S.dims = List.flatMap encDim S.dims, (↑S.dims.length : Int) = (↑S.dims.length : Int), (↑(i, c).snd : Int) = (↑(i + (1 : Nat), c).snd : Int), (↑(i + (1 : Nat)) : Int) = (↑(i + (1 : Nat), c).fst : Int), decide ((↑(i, c).fst : Int) < (↑S.dims.length : Int)) = true, (0 : Int) ≤ (↑(i, c).fst : Int) ∧ (↑(i, c).fst : Int) < (↑S.dims.length : Int), rd1 true (2 : Nat) (List.flatMap encDim S.dims) ((↑(i, c).fst : Int).toNat * (2 : Nat)) = some (AV.agg [AV.v (Value.string nm), AV.v (Value.int IntKind.i64 (↑sz : Int))]), (↑mask : Int).fdiv ((2 : Int) ^ min (↑(i, c).fst : Int).toNat (32 : Nat)) = (↑MK : Int), (0 : Int) ≤ (↑(i, c).fst : Int), IntKind.u32.wrap (↑(BitVec.ofInt (32 : Nat) (↑MK : Int) &&& BitVec.ofInt (32 : Nat) (1 : Int)).toNat : Int) = (0 : Int), IntKind.i64.wrap ((↑(i, c).fst : Int) + (1 : Int)) = (↑(i + (1 : Nat)) : Int)] (by kernel_rfl) (by show S.dims.length - (i + 1) < S.dims.length - i; omega) ?_
      ((repeat' refine And.intro ?_ ?_); (iterate 8 (with_reducible rfl)); ((with_reducible refine Dt ?_; omega)); (iterate 2 (omega)); ((show rd1 _ _ _ _ = _; assumption)); (with_reducible assumption); (omega); rotate_left 1; (exact Wi _ (by omega)); (exact True.intro))
      all_goals first | exact hsh | exact han2
  · obtain rfl := hx.symm.trans hy
    refine Round.out [(28, Hint.val (AV.v (Value.bool false)))] [] [(↑(S.dims.length, c).snd : Int) = (↑c : Int), decide ((↑(S.dims.length, c).fst : Int) < (↑S.dims.length : Int)) = false] (by kernel_rfl) ?_
    ((repeat' refine And.intro ?_ ?_); (with_reducible rfl); ((with_reducible refine Df ?_; omega)); (exact True.intro))
theorem ofT_fn (hs : SchOk S) (hl : mask < p2 S.dims.length) : FnOk Try.prog 80 ⟨[.agg (encSch S), .v (.int .u32 (mask : Int)), codT F], [], .tup [uz (kyS S F mask S.dims.length : Nat), iz 0], []⟩ := by
  have ha := ask13_fn hs h.ck h.m
  rw [if_pos hl] at ha
  have hcl : F.codes.length = S.dims.length := h.len.1
  have hd := h.dims
  have h1 := k80_loop h rfl
  generalize kyS S F mask S.dims.length = y at *
  refine fn_go hmo Try.func80 (by kernel_rfl) [(14, Hint.call (Inst.mk [AV.agg (encSch S), AV.v (Value.int IntKind.u32 (↑mask : Int))] [] (iz (0 : Int)) [])), (23, Hint.val (AV.v (Value.bool false)))] [(8, ⟨.exit 0, k80I S F mask 0 0, k80E y⟩)] [(↑y : Int) = (↑y : Int) ∧ (0 : Int) = (0 : Int) ∧ True, [AV.lst S.dims.length (List.flatMap encDim S.dims), AV.lst S.ints.length (List.flatMap encStr S.ints), AV.lst S.nums.length (List.flatMap encStr S.nums), AV.lst S.views.length (List.flatMap encU32 S.views)] = [AV.lst S.dims.length (List.flatMap encDim S.dims), AV.lst S.ints.length (List.flatMap encStr S.ints), AV.lst S.nums.length (List.flatMap encStr S.nums), AV.lst S.views.length (List.flatMap encU32 S.views)] ∧ (↑mask : Int) = (↑mask : Int) ∧ True, FnOk Try.prog (142 : Nat) (Inst.mk [AV.agg [AV.lst S.dims.length (List.flatMap encDim S.dims), AV.lst S.ints.length (List.flatMap encStr S.ints), AV.lst S.nums.length (List.flatMap encStr S.nums), AV.lst S.views.length (List.flatMap encU32 S.views)], AV.v (Value.int IntKind.u32 (↑mask : Int))] [] (AV.v (Value.int IntKind.i64 (0 : Int))) []), ((↑F.codes.length : Int) != (↑S.dims.length : Int)) = false, LoopOk Try.prog (loopBody Try.f80 (8 : Nat)) (k80I S F mask (0 : Nat) (0 : Nat)) (Exit.exit (0 : Nat)) (k80E y), (↑mask : Int) = (↑mask : Int), F.codes.length = F.codes.length ∧ List.flatMap encI64 F.codes = List.flatMap encI64 F.codes, S.dims.length = S.dims.length ∧ List.flatMap encDim S.dims = List.flatMap encDim S.dims, (↑S.dims.length : Int) = (↑S.dims.length : Int), (0 : Int) = (↑(0 : Nat) : Int), (0 : Int) = (↑(0 : Nat) : Int)] (by kernel_rfl) ?_
  ((repeat' refine And.intro ?_ ?_); (iterate 2 (with_reducible rfl)); (exact True.intro); (iterate 2 (with_reducible rfl)); (exact True.intro); ((show FnOk _ _ _; assumption)); ((with_reducible refine Nq ?_; omega)); (with_reducible assumption); (iterate 6 (with_reducible rfl)); (iterate 2 (omega)); (exact True.intro))
end
end Go.Proofs.Ytfhmaincnlaapaa.Sy
