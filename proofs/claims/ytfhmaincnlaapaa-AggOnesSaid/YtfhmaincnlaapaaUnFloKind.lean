/-
  math.Abs, math.IsInf, flo.Kind, flo.Split.
  bushelref03.Split for any real number: an odd whole number times a power of two.
-/
import Derived.Test.YtfhmaincnlaapaaUnBufSmall
namespace Go.Proofs.Ytfhmaincnlaapaa
open Go.ChangeShapes Go.WideShapes Go.ChangeAt Go.RowKit
set_option linter.unusedVariables false
/-- what Split says of a number's rung: an odd whole number times a power of two, and the sign -/
def SplitsO (r : Nat) (g : Bool) (w : World) (e : Ending) (w' : World) : Prop :=
  ∃ m a : Nat, m % 2 = 1 ∧ m < 9007199254740992 ∧ a < 2098 ∧ m * 2 ^ a = vl r ∧ e = .returned (.tuple #[.bool g, .int .u64 (m : Int), .int .i64 ((a : Int) - 1074)]) ∧ Drws w w'
theorem kind_fin (b : Nat) (h0 : 0 < rg b) (h : rg b < irg) : kindF b = 1 := by
  unfold kindF nanB
  rw [if_neg (by rw [decide_eq_true_iff]; omega), if_neg (by omega), if_neg (by omega)]
theorem nan_fin {b : Nat} (h : rg b < irg) : nanB b = false := decide_eq_false (by omega)
theorem lt0_fin (b : Nat) (hb : b < 18446744073709551616) (h0 : 0 < rg b) (h : rg b < irg) : (FloatKind.f64.format.order b 0 == some .lt) = ng b := by
  rw [order_lt b 0 (nan_fin h) (by decide), show sv 0 = 0 from by decide]
  have hp : 0 < vl (rg b) := vl_pos h0
  unfold sv
  cases ng b <;> simp <;> omega
set_option maxRecDepth 20000 in
set_option maxHeartbeats 8000000 in
theorem split_any (b : Nat) (w : World) (hb64 : b < 18446744073709551616) (h0' : 0 < rg b) (h' : rg b < irg) :
    Calls Try.prog 174 #[.float .f64 b] w (SplitsO (rg b) (ng b) w) := by
  have hk := refKind_any b w hb64
  rw [kind_fin b h0' h'] at hk
  have hlt0 := lt0_fin b hb64 h0' h'
  have hneg := fun hg => neg_float (P := Try.prog) b hb64 hg
  have hpos : ng b = false → b = rg b := fun hg => by
    have h1 := ng_iff b hb64
    rw [hg] at h1
    have h2 : ¬ 9223372036854775808 ≤ b := of_decide_eq_false h1.symm
    unfold rg; omega
  obtain ⟨r, hrr⟩ : ∃ r, rg b = r := ⟨_, rfl⟩
  obtain ⟨g, hgg⟩ : ∃ g, ng b = g := ⟨_, rfl⟩
  rw [hrr] at h0' h' hneg hpos
  rw [hgg] at hlt0 hneg hpos
  rw [hrr, hgg]
  have h0 : 0 < r := h0'
  have h : r < irg := h'
  have HK := Lib.hid hk; clear hk
  have H := Lib.hid h; have HR := Lib.hid hb64; clear h hb64 h0' h' hrr hgg
  have HP := Lib.hid hpos; have HNEG := Lib.hid hneg; clear hpos hneg
  cases g with
  | false =>
    obtain rfl : r = b := (HP.out rfl).symm
    clear HNEG HP
    go_enter Try.func174, Try.ntmps174
    go_wp2_with (go_at_call 140; (with_reducible refine HK.out.mono ?_); rintro e w' ⟨rfl, n, rfl⟩)
    go_loop [5, 6] (fun y e => ∃ r1 e1 : Nat, 0 < r1 ∧ r1 < irg ∧ y = .float .f64 r1 ∧ e = .int .i64 (e1 : Int) ∧ r1 + e1 * 4503599627370496 ≤ 9218868437227405312 ∧ Hid (vl r1 * 2 ^ e1 = vl r)) (fun y _ => bitsOf y)
    case atStart => exact ⟨r, 0, h0, H.out, rfl, rfl, by have := H.out; unfold irg at this; omega, by show _ = _; simp⟩
    case round =>
      obtain ⟨r1, e1, hr0, hr1, rfl, rfl, hbd, E1⟩ := hrel
      have hgt := ord_gt r1 c53 (by omega) (Nat.le_of_lt c53_lt)
      have heq := ord_eq r1 c53 (by omega) (Nat.le_of_lt c53_lt)
      have he1 : e1 ≤ 2047 := by omega
      have C1 := Lib.hid hr1; have BD := Lib.hid hbd; clear hr1 hbd
      by_cases hc : c53 ≤ r1
      · obtain ⟨s, hdiv, hs1, hs2, hs3⟩ := div_two r1 (by unfold c53 at hc; omega) C1.out
        have hrun := run_float_arith (P := Try.prog) (w.drewN n) .quo 115 .f64 r1 4611686018427387904 s hdiv
        have hge : (FloatKind.f64.format.order r1 4845873199050653696 == some .gt || FloatKind.f64.format.order r1 4845873199050653696 == some .eq) = true := by
          show (FloatKind.f64.format.order r1 c53 == some .gt || FloatKind.f64.format.order r1 c53 == some .eq) = true
          rw [hgt, heq]; simp; omega
        have D := Lib.hid hdiv; have S1 := Lib.hid hs1; have S3 := Lib.hid hs3; have G := Lib.hid hgt; have Q := Lib.hid heq; clear hdiv hs1 hs3 hgt heq
        go_wp2
        go_round
        case rel => exact ⟨s, e1 + 1, hs2, by have := S1.out; have := C1.out; omega, rfl, by go_num, by have := S1.out; have := BD.out; omega, by show _ = _; rw [Nat.pow_succ, Nat.mul_comm _ 2, ← Nat.mul_assoc, Nat.mul_comm _ 2, S3.out, E1.out]⟩
        case measure => have := S1.out; simp [bitsOf]; omega
      · have hgt' : (FloatKind.f64.format.order r1 4845873199050653696 == some .gt) = false := by
          show (FloatKind.f64.format.order r1 c53 == some .gt) = false
          rw [hgt]; simp; omega
        have heq' : (FloatKind.f64.format.order r1 4845873199050653696 == some .eq) = false := by
          show (FloatKind.f64.format.order r1 c53 == some .eq) = false
          rw [heq]; simp; omega
        have G := Lib.hid hgt; have Q := Lib.hid heq; clear hgt heq
        have hc' : r1 < c53 := by omega
        clear hc
        go_wp2
        go_loop [5, 6] (fun y e => ∃ r2 t : Nat, 0 < r2 ∧ r2 < c53 ∧ t ≤ EE ∧ y = .float .f64 r2 ∧ e = .int .i64 ((e1 : Int) - (t : Int)) ∧ Hid (vl r2 = vl r1 * 2 ^ t)) (fun _ e => (intOf e + 4000).toNat)
        case atStart => exact ⟨r1, 0, hr0, hc', by omega, rfl, by go_num, by show _ = _; simp⟩
        case round =>
          obtain ⟨r2, t, hr20, hr2c, htE, rfl, rfl, E2⟩ := hrel
          have hEE := EE_eq
          have ht : t ≤ 1074 := by omega
          have hr2i : r2 < irg := by have := c53_lt; omega
          have hwl := whole_lt r2 hr2c
          have hcv := run_convert_float_int (P := Try.prog) (w := w.drewN n) 115 48 .f64 .u64 r2 _ (by kernel_rfl) Try.underlying48 (toInt_exact r2 hr2i (by omega))
          have hback := ofInt_exact (vl r2 / UU) hwl
          have hird := ir_vl (vl r2 / UU) hwl
          have hiff := ir_iff r2 hr2i hwl
          have hoe := ord_eq r2 (ir (vl r2 / UU)) (by omega) (Nat.le_of_lt hird.1)
          have IRD := Lib.hid hird; have IFF := Lib.hid hiff; have OE := Lib.hid hoe; have R2I := Lib.hid hr2i; have R2C := Lib.hid hr2c; have HEE := Lib.hid hEE; have HTE := Lib.hid htE
          clear hird hiff hoe hr2i hr2c hEE htE
          generalize hz : vl r2 / UU = z at *
          have HZ := Lib.hid hz; clear hz
          by_cases hw : vl r2 % UU = 0
          · have hne : (FloatKind.f64.format.order r2 (ir z) != some .eq) = false := by
              have := OE.out; rw [← IFF.out.2 hw] at this ⊢; simp only [bne, this]; simp
            have HW := Lib.hid hw; clear hw
            -- the whole number
            have hzz : z * UU = vl r2 := by
              have := Nat.div_add_mod (vl r2) UU
              rw [HZ.out, HW.out, Nat.add_zero, Nat.mul_comm] at this
              exact this
            have hz0 : 0 < z := by
              rcases Nat.eq_zero_or_pos z with h | h
              · rw [h, Nat.zero_mul] at hzz; have := vl_pos hr20; omega
              · exact h
            have hza : z * 2 ^ (EE + e1 - t) = vl r := by
              have h1 : z * 2 ^ EE = vl r1 * 2 ^ t := by rw [← UU_eq, hzz, E2.out]
              have h2 : z * 2 ^ (EE + e1 - t) * 2 ^ t = vl r * 2 ^ t := by
                have ht' := HTE.out
                rw [Nat.mul_assoc, ← Nat.pow_add, Nat.sub_add_cancel (by omega), Nat.pow_add, ← Nat.mul_assoc, h1, Nat.mul_right_comm, E1.out]
              exact Nat.eq_of_mul_eq_mul_right (Nat.two_pow_pos t) h2
            have hae : ((e1 : Int) - (t : Int)) = ((EE + e1 - t : Nat) : Int) - 1074 := by have := HTE.out; have := HEE.out; omega
            have HZZ := Lib.hid hzz; have HZA := Lib.hid hza; have HAE := Lib.hid hae; clear hzz hza hae
            go_wp2
            go_loop [7, 6] (fun v e => ∃ m a : Nat, 0 < m ∧ m < 9007199254740992 ∧ a < 2098 ∧ v = .int .u64 (m : Int) ∧ e = .int .i64 ((a : Int) - 1074) ∧ Hid (m * 2 ^ a = vl r)) (fun v _ => (intOf v).toNat)
            case atStart => exact ⟨z, EE + e1 - t, hz0, hwl, pow_le_vl z _ r hz0 HZA.out H.out, rfl, by rw [← HAE.out], HZA.out⟩
            case round =>
              obtain ⟨m, a, hm0, hm1, ha, rfl, rfl, E3⟩ := hrel
              by_cases hm2 : m % 2 = 0
              · have ht1 : ((m : Int) % 2 == 0) = true := by rw [beq_iff_eq]; omega
                have hnew : m / 2 * 2 ^ (a + 1) = vl r := by rw [← E3.out, Nat.pow_succ, Nat.mul_comm _ 2, ← Nat.mul_assoc]; congr 1; omega
                have ha2 := pow_le_vl (m / 2) (a + 1) r (by omega) hnew H.out
                have HN := Lib.hid hnew; have HM := Lib.hid hm2; clear hnew hm2
                go_wp2
                go_round
                case rel => exact ⟨m / 2, a + 1, by have := HM.out; omega, by omega, ha2, by go_num, by go_num, HN.out⟩
                case measure => simp [intOf]; omega
              · have ht1 : ((m : Int) % 2 == 0) = false := by rw [beq_eq_false_iff_ne]; omega
                have HM := Lib.hid hm2; clear hm2
                go_wp2
                go_ret3
                exact ⟨m, a, by have := HM.out; omega, hm1, ha, E3.out, rfl, drws_step (drws_refl _) _⟩
          · have hne : (FloatKind.f64.format.order r2 (ir z) != some .eq) = true := by
              have h1 := OE.out
              rw [decide_eq_false (fun h => hw (IFF.out.1 h))] at h1
              simp only [bne, h1]; rfl
            obtain ⟨hd1, hd2⟩ := double_ok r2 R2C.out hw
            obtain ⟨s, hmul, hs1, hs2, hs3⟩ := mul_two r2 hr20 hd1
            have hrun := run_float_arith (P := Try.prog) (w.drewN n) .mul 115 .f64 r2 4611686018427387904 s hmul
            have ht2 : t + 1 ≤ EE := by
              rcases Nat.lt_or_ge t EE with h | h
              · omega
              · exfalso
                have : t = EE := by have := HTE.out; omega
                apply hw
                rw [E2.out, this, ← UU_eq, Nat.mul_mod_left]
            have hsc : s < c53 := vl_le_iff.1 (by omega)
            have M := Lib.hid hmul; have S1 := Lib.hid hs1; have S2 := Lib.hid hs2; have S3 := Lib.hid hs3; have D1 := Lib.hid hd1; have D2 := Lib.hid hd2; have HW := Lib.hid hw; have SC := Lib.hid hsc; have T2 := Lib.hid ht2
            clear hmul hs1 hs2 hs3 hd1 hd2 hw hsc ht2
            go_wp2
            go_round
            case rel => exact ⟨s, t + 1, by have := S1.out; omega, SC.out, T2.out, rfl, by go_num, by show _ = _; rw [S3.out, E2.out, Nat.pow_succ, Nat.mul_comm 2, Nat.mul_assoc]⟩
            case measure => simp [intOf]; omega
  | true =>
    have hng := HNEG.out rfl
    clear HNEG HP
    go_enter Try.func174, Try.ntmps174
    go_wp2_with (go_at_call 140; (with_reducible refine HK.out.mono ?_); rintro e w' ⟨rfl, n, rfl⟩)
    go_loop [5, 6] (fun y e => ∃ r1 e1 : Nat, 0 < r1 ∧ r1 < irg ∧ y = .float .f64 r1 ∧ e = .int .i64 (e1 : Int) ∧ r1 + e1 * 4503599627370496 ≤ 9218868437227405312 ∧ Hid (vl r1 * 2 ^ e1 = vl r)) (fun y _ => bitsOf y)
    case atStart => exact ⟨r, 0, h0, H.out, rfl, rfl, by have := H.out; unfold irg at this; omega, by show _ = _; simp⟩
    case round =>
      obtain ⟨r1, e1, hr0, hr1, rfl, rfl, hbd, E1⟩ := hrel
      have hgt := ord_gt r1 c53 (by omega) (Nat.le_of_lt c53_lt)
      have heq := ord_eq r1 c53 (by omega) (Nat.le_of_lt c53_lt)
      have he1 : e1 ≤ 2047 := by omega
      have C1 := Lib.hid hr1; have BD := Lib.hid hbd; clear hr1 hbd
      by_cases hc : c53 ≤ r1
      · obtain ⟨s, hdiv, hs1, hs2, hs3⟩ := div_two r1 (by unfold c53 at hc; omega) C1.out
        have hrun := run_float_arith (P := Try.prog) (w.drewN n) .quo 115 .f64 r1 4611686018427387904 s hdiv
        have hge : (FloatKind.f64.format.order r1 4845873199050653696 == some .gt || FloatKind.f64.format.order r1 4845873199050653696 == some .eq) = true := by
          show (FloatKind.f64.format.order r1 c53 == some .gt || FloatKind.f64.format.order r1 c53 == some .eq) = true
          rw [hgt, heq]; simp; omega
        have D := Lib.hid hdiv; have S1 := Lib.hid hs1; have S3 := Lib.hid hs3; have G := Lib.hid hgt; have Q := Lib.hid heq; clear hdiv hs1 hs3 hgt heq
        go_wp2
        go_round
        case rel => exact ⟨s, e1 + 1, hs2, by have := S1.out; have := C1.out; omega, rfl, by go_num, by have := S1.out; have := BD.out; omega, by show _ = _; rw [Nat.pow_succ, Nat.mul_comm _ 2, ← Nat.mul_assoc, Nat.mul_comm _ 2, S3.out, E1.out]⟩
        case measure => have := S1.out; simp [bitsOf]; omega
      · have hgt' : (FloatKind.f64.format.order r1 4845873199050653696 == some .gt) = false := by
          show (FloatKind.f64.format.order r1 c53 == some .gt) = false
          rw [hgt]; simp; omega
        have heq' : (FloatKind.f64.format.order r1 4845873199050653696 == some .eq) = false := by
          show (FloatKind.f64.format.order r1 c53 == some .eq) = false
          rw [heq]; simp; omega
        have G := Lib.hid hgt; have Q := Lib.hid heq; clear hgt heq
        have hc' : r1 < c53 := by omega
        clear hc
        go_wp2
        go_loop [5, 6] (fun y e => ∃ r2 t : Nat, 0 < r2 ∧ r2 < c53 ∧ t ≤ EE ∧ y = .float .f64 r2 ∧ e = .int .i64 ((e1 : Int) - (t : Int)) ∧ Hid (vl r2 = vl r1 * 2 ^ t)) (fun _ e => (intOf e + 4000).toNat)
        case atStart => exact ⟨r1, 0, hr0, hc', by omega, rfl, by go_num, by show _ = _; simp⟩
        case round =>
          obtain ⟨r2, t, hr20, hr2c, htE, rfl, rfl, E2⟩ := hrel
          have hEE := EE_eq
          have ht : t ≤ 1074 := by omega
          have hr2i : r2 < irg := by have := c53_lt; omega
          have hwl := whole_lt r2 hr2c
          have hcv := run_convert_float_int (P := Try.prog) (w := w.drewN n) 115 48 .f64 .u64 r2 _ (by kernel_rfl) Try.underlying48 (toInt_exact r2 hr2i (by omega))
          have hback := ofInt_exact (vl r2 / UU) hwl
          have hird := ir_vl (vl r2 / UU) hwl
          have hiff := ir_iff r2 hr2i hwl
          have hoe := ord_eq r2 (ir (vl r2 / UU)) (by omega) (Nat.le_of_lt hird.1)
          have IRD := Lib.hid hird; have IFF := Lib.hid hiff; have OE := Lib.hid hoe; have R2I := Lib.hid hr2i; have R2C := Lib.hid hr2c; have HEE := Lib.hid hEE; have HTE := Lib.hid htE
          clear hird hiff hoe hr2i hr2c hEE htE
          generalize hz : vl r2 / UU = z at *
          have HZ := Lib.hid hz; clear hz
          by_cases hw : vl r2 % UU = 0
          · have hne : (FloatKind.f64.format.order r2 (ir z) != some .eq) = false := by
              have := OE.out; rw [← IFF.out.2 hw] at this ⊢; simp only [bne, this]; simp
            have HW := Lib.hid hw; clear hw
            -- the whole number
            have hzz : z * UU = vl r2 := by
              have := Nat.div_add_mod (vl r2) UU
              rw [HZ.out, HW.out, Nat.add_zero, Nat.mul_comm] at this
              exact this
            have hz0 : 0 < z := by
              rcases Nat.eq_zero_or_pos z with h | h
              · rw [h, Nat.zero_mul] at hzz; have := vl_pos hr20; omega
              · exact h
            have hza : z * 2 ^ (EE + e1 - t) = vl r := by
              have h1 : z * 2 ^ EE = vl r1 * 2 ^ t := by rw [← UU_eq, hzz, E2.out]
              have h2 : z * 2 ^ (EE + e1 - t) * 2 ^ t = vl r * 2 ^ t := by
                have ht' := HTE.out
                rw [Nat.mul_assoc, ← Nat.pow_add, Nat.sub_add_cancel (by omega), Nat.pow_add, ← Nat.mul_assoc, h1, Nat.mul_right_comm, E1.out]
              exact Nat.eq_of_mul_eq_mul_right (Nat.two_pow_pos t) h2
            have hae : ((e1 : Int) - (t : Int)) = ((EE + e1 - t : Nat) : Int) - 1074 := by have := HTE.out; have := HEE.out; omega
            have HZZ := Lib.hid hzz; have HZA := Lib.hid hza; have HAE := Lib.hid hae; clear hzz hza hae
            go_wp2
            go_loop [7, 6] (fun v e => ∃ m a : Nat, 0 < m ∧ m < 9007199254740992 ∧ a < 2098 ∧ v = .int .u64 (m : Int) ∧ e = .int .i64 ((a : Int) - 1074) ∧ Hid (m * 2 ^ a = vl r)) (fun v _ => (intOf v).toNat)
            case atStart => exact ⟨z, EE + e1 - t, hz0, hwl, pow_le_vl z _ r hz0 HZA.out H.out, rfl, by rw [← HAE.out], HZA.out⟩
            case round =>
              obtain ⟨m, a, hm0, hm1, ha, rfl, rfl, E3⟩ := hrel
              by_cases hm2 : m % 2 = 0
              · have ht1 : ((m : Int) % 2 == 0) = true := by rw [beq_iff_eq]; omega
                have hnew : m / 2 * 2 ^ (a + 1) = vl r := by rw [← E3.out, Nat.pow_succ, Nat.mul_comm _ 2, ← Nat.mul_assoc]; congr 1; omega
                have ha2 := pow_le_vl (m / 2) (a + 1) r (by omega) hnew H.out
                have HN := Lib.hid hnew; have HM := Lib.hid hm2; clear hnew hm2
                go_wp2
                go_round
                case rel => exact ⟨m / 2, a + 1, by have := HM.out; omega, by omega, ha2, by go_num, by go_num, HN.out⟩
                case measure => simp [intOf]; omega
              · have ht1 : ((m : Int) % 2 == 0) = false := by rw [beq_eq_false_iff_ne]; omega
                have HM := Lib.hid hm2; clear hm2
                go_wp2
                go_ret3
                exact ⟨m, a, by have := HM.out; omega, hm1, ha, E3.out, rfl, drws_step (drws_refl _) _⟩
          · have hne : (FloatKind.f64.format.order r2 (ir z) != some .eq) = true := by
              have h1 := OE.out
              rw [decide_eq_false (fun h => hw (IFF.out.1 h))] at h1
              simp only [bne, h1]; rfl
            obtain ⟨hd1, hd2⟩ := double_ok r2 R2C.out hw
            obtain ⟨s, hmul, hs1, hs2, hs3⟩ := mul_two r2 hr20 hd1
            have hrun := run_float_arith (P := Try.prog) (w.drewN n) .mul 115 .f64 r2 4611686018427387904 s hmul
            have ht2 : t + 1 ≤ EE := by
              rcases Nat.lt_or_ge t EE with h | h
              · omega
              · exfalso
                have : t = EE := by have := HTE.out; omega
                apply hw
                rw [E2.out, this, ← UU_eq, Nat.mul_mod_left]
            have hsc : s < c53 := vl_le_iff.1 (by omega)
            have M := Lib.hid hmul; have S1 := Lib.hid hs1; have S2 := Lib.hid hs2; have S3 := Lib.hid hs3; have D1 := Lib.hid hd1; have D2 := Lib.hid hd2; have HW := Lib.hid hw; have SC := Lib.hid hsc; have T2 := Lib.hid ht2
            clear hmul hs1 hs2 hs3 hd1 hd2 hw hsc ht2
            go_wp2
            go_round
            case rel => exact ⟨s, t + 1, by have := S1.out; omega, SC.out, T2.out, rfl, by go_num, by show _ = _; rw [S3.out, E2.out, Nat.pow_succ, Nat.mul_comm 2, Nat.mul_assoc]⟩
            case measure => simp [intOf]; omega
end Go.Proofs.Ytfhmaincnlaapaa
namespace Go.Proofs.Ytfhmaincnlaapaa
open Go.ChangeShapes Go.WideShapes Go.ChangeAt Go.RowKit
set_option linter.unusedVariables false
theorem u64_andNot_top (b : Nat) (h : b < 18446744073709551616) : bits .andNot .u64 (b : Int) 9223372036854775808 = ((rg b : Nat) : Int) := by
  show IntKind.u64.wrap ((BitVec.ofInt 64 (b : Int) &&& ~~~ (BitVec.ofInt 64 9223372036854775808)).toNat : Int) = _
  rw [show ~~~ (BitVec.ofInt 64 9223372036854775808) = BitVec.ofInt 64 9223372036854775807 by decide]
  exact and63 b h
set_option maxRecDepth 20000 in
theorem mabs_any (b : Nat) (w : World) (hb : b < 18446744073709551616) : Calls Try.prog 182 #[.float .f64 b] w fun e w' => e = .returned (.float .f64 (rg b)) ∧ w = w' := by
  have hf := f64bits b
  have hg := f64from (rg b)
  have ha := u64_andNot_top b hb
  go_enter Try.func182, Try.ntmps182
  go_wp2
  go_ret
  exact ⟨rfl, rfl⟩
theorem gt_max (r : Nat) (h : r ≤ irg) : (FloatKind.f64.format.order r 9218868437227405311 == some .gt) = decide (r = irg) := by
  rw [ord_gt r 9218868437227405311 h (by unfold irg; omega), decide_eq_decide]
  unfold irg at *; omega
set_option maxRecDepth 20000 in
theorem isInf_any (b : Nat) (w : World) (hb : b < 18446744073709551616) (hn : nanB b = false) : Calls Try.prog 170 #[.float .f64 b, .int .i64 0] w fun e w' => e = .returned (.bool (decide (rg b = irg))) ∧ w = w' := by
  have hm := mabs_any b w hb
  have hg := gt_max (rg b) (by unfold nanB at hn; have := of_decide_eq_false hn; omega)
  generalize decide (rg b = irg) = d at *
  generalize rg b = r at *
  have HM := Lib.hid hm; clear hm
  go_enter Try.func170, Try.ntmps170
  go_wp2_with (go_at_call 182; (with_reducible refine HM.out.mono ?_); rintro e w' ⟨rfl, rfl⟩)
  go_ret
  exact ⟨rfl, rfl⟩
set_option maxRecDepth 20000 in
theorem floKind_any (b : Nat) (w : World) (hb : b < 18446744073709551616) : Calls Try.prog 146 #[.float .f64 b] w fun e w' => e = .returned (.int .i64 (kindF b : Nat)) ∧ w = w' := by
  have hs := order_selfF b
  unfold kindF
  cases h : nanB b
  · rw [h] at hs
    have hi := isInf_any b w hb h
    have hz := order_zero b h
    rw [if_neg (by simp)]
    by_cases h0 : rg b = 0
    · rw [decide_eq_true h0] at hz
      rw [decide_eq_false (by rw [h0]; unfold irg; omega)] at hi
      rw [if_pos h0]
      have HI := Lib.hid hi; clear hi h0
      go_enter Try.func146, Try.ntmps146
      go_wp2_with (go_at_call 170; (with_reducible refine HI.out.mono ?_); rintro e w' ⟨rfl, rfl⟩)
      go_ret
      exact ⟨rfl, rfl⟩
    · rw [decide_eq_false h0] at hz
      rw [if_neg h0]
      by_cases hf : rg b = irg
      · rw [decide_eq_true hf] at hi
        rw [if_pos hf]
        have HI := Lib.hid hi; clear hi h0 hf
        go_enter Try.func146, Try.ntmps146
        go_wp2_with (go_at_call 170; (with_reducible refine HI.out.mono ?_); rintro e w' ⟨rfl, rfl⟩)
        go_ret
        exact ⟨rfl, rfl⟩
      · rw [decide_eq_false hf] at hi
        rw [if_neg hf]
        have HI := Lib.hid hi; clear hi h0 hf
        go_enter Try.func146, Try.ntmps146
        go_wp2_with (go_at_call 170; (with_reducible refine HI.out.mono ?_); rintro e w' ⟨rfl, rfl⟩)
        go_ret
        exact ⟨rfl, rfl⟩
  · rw [h] at hs
    rw [if_pos rfl]
    go_enter Try.func146, Try.ntmps146
    go_wp2
    go_ret
    exact ⟨rfl, rfl⟩
/-! ### flo.Split -/
theorem shr63 (b : Nat) : (b : Int) / 9223372036854775808 = ((b / 9223372036854775808 : Nat) : Int) := by omega
theorem and52 (b : Nat) (h : b < 18446744073709551616) : bits .and .u64 (b : Int) 4503599627370495 = ((b % 4503599627370496 : Nat) : Int) := by
  have e : (4503599627370495 : Int) = ((4503599627370495 : Nat) : Int) := rfl
  rw [e, u64_and_nat _ _ h (by omega)]
  congr 1
  exact Nat.and_two_pow_sub_one_eq_mod b 52
theorem and11 (x : Nat) (h : x < 18446744073709551616) : bits .and .u64 (x : Int) 2047 = ((x % 2048 : Nat) : Int) := by
  have e : (2047 : Int) = ((2047 : Nat) : Int) := rfl
  rw [e, u64_and_nat _ _ h (by omega)]
  congr 1
  exact Nat.and_two_pow_sub_one_eq_mod x 11
theorem or52 (x : Nat) (h : x < 4503599627370496) : bits .or .u64 (x : Int) 4503599627370496 = ((4503599627370496 + x : Nat) : Int) := by
  have e : (4503599627370496 : Int) = ((4503599627370496 : Nat) : Int) := rfl
  rw [e, u64_or_nat _ _ (by omega) (by omega)]
  congr 1
  have := Nat.two_pow_add_eq_or_of_lt (show x < 2 ^ 52 from h) 1
  rw [Nat.or_comm]
  simpa using this.symm
/-- the mantissa and the exponent that the bits tell -/
theorem mgex (r : Nat) : mg r = (if 0 < r / 4503599627370496 then 4503599627370496 + r % 4503599627370496 else r % 4503599627370496) ∧ ex r = (if 0 < r / 4503599627370496 then r / 4503599627370496 else 1) - 1 := by
  unfold mg ex
  by_cases h : r < 4503599627370496
  · rw [if_pos h, if_pos h, if_neg (by omega), if_neg (by omega)]; omega
  · rw [if_neg h, if_neg h, if_pos (by omega), if_pos (by omega)]; omega
set_option maxRecDepth 20000 in
set_option maxHeartbeats 4000000 in
theorem floSplit_any (b : Nat) (w : World) (hb : b < 18446744073709551616) (h0 : 0 < rg b) (h : rg b < irg) :
    Calls Try.prog 145 #[.float .f64 b] w (SplitsO (rg b) (ng b) w) := by
  have hf := f64bits b
  have hk := floKind_any b w hb
  rw [kind_fin b h0 h] at hk
  have hng : ((b : Int) / 9223372036854775808 == 1) = ng b := by
    unfold ng
    rw [shr63, Bool.eq_iff_iff, beq_iff_eq, beq_iff_eq]
    omega
  have hsh : (b : Int) / 4503599627370496 = ((b / 4503599627370496 : Nat) : Int) := by omega
  have ha := and11 (b / 4503599627370496) (by omega)
  have hm := and52 b hb
  have hE : b / 4503599627370496 % 2048 = rg b / 4503599627370496 := by unfold rg; omega
  have hM : b % 4503599627370496 = rg b % 4503599627370496 := by unfold rg; omega
  obtain ⟨g1, g2⟩ := mgex (rg b)
  obtain ⟨b1, b2, b3, b4⟩ := mg_bound (rg b) h
  rw [hE] at ha
  rw [hM] at hm
  have ho := or52 (rg b % 4503599627370496) (by omega)
  have hvl : mg (rg b) * 2 ^ ex (rg b) = vl (rg b) := rfl
  have hmg : 0 < mg (rg b) := by
    rcases Nat.eq_zero_or_pos (mg (rg b)) with hz | hz
    · rw [hz, Nat.zero_mul] at hvl; have := vl_pos h0; omega
    · exact hz
  generalize ng b = g at *
  generalize rg b = r at *
  obtain ⟨E, hEE⟩ : ∃ E, r / 4503599627370496 = E := ⟨_, rfl⟩
  obtain ⟨M, hMM⟩ : ∃ M, r % 4503599627370496 = M := ⟨_, rfl⟩
  have hE2 : E ≤ 2046 := by rw [← hEE]; unfold irg at h; omega
  have hM2 : M < 4503599627370496 := by omega
  rw [hEE] at ha g1 g2
  generalize b / 4503599627370496 = x at hsh ha
  rw [hMM] at hm ho g1
  have HB := Lib.hid hb; have HK := Lib.hid hk; have H := Lib.hid h; have HV := Lib.hid hvl; have H0 := Lib.hid h0
  clear hb hk h hvl h0 hE hM hEE hMM b2 b3 b4
  by_cases hE0 : 0 < E
  · rw [if_pos hE0] at g1 g2
    have G1 := Lib.hid g1; have G2 := Lib.hid g2; have B1 := Lib.hid b1; have HMG := Lib.hid hmg
    clear g1 g2 b1 hmg
    go_enter Try.func145, Try.ntmps145
    go_wp2_with (go_at_call 146; (with_reducible refine HK.out.mono ?_); rintro e w' ⟨rfl, rfl⟩)
    go_loop [8, 7] (fun v e => ∃ m a : Nat, 0 < m ∧ m < 9007199254740992 ∧ a < 2098 ∧ v = .int .u64 (m : Int) ∧ e = .int .i64 ((a : Int) - 1074) ∧ Hid (m * 2 ^ a = vl r)) (fun v _ => (intOf v).toNat)
    case atStart =>
      exact ⟨4503599627370496 + M, E - 1, by omega, by omega, by omega, rfl, by go_num, by show _ = _; rw [← HV.out, G1.out, G2.out]⟩
    case round =>
      obtain ⟨m, a, hm0, hm1, ha', rfl, rfl, E3⟩ := hrel
      by_cases hm2 : m % 2 = 0
      · have ht1 : ((m : Int) % 2 == 0) = true := by rw [beq_iff_eq]; omega
        have hnew : m / 2 * 2 ^ (a + 1) = vl r := by rw [← E3.out, Nat.pow_succ, Nat.mul_comm _ 2, ← Nat.mul_assoc]; congr 1; omega
        have ha2 := pow_le_vl (m / 2) (a + 1) r (by omega) hnew H.out
        have HN := Lib.hid hnew; have HM := Lib.hid hm2; clear hnew hm2
        go_wp2
        go_round
        case rel => exact ⟨m / 2, a + 1, by have := HM.out; omega, by omega, ha2, by go_num, by go_num, HN.out⟩
        case measure => simp [intOf]; omega
      · have ht1 : ((m : Int) % 2 == 0) = false := by rw [beq_eq_false_iff_ne]; omega
        have HM := Lib.hid hm2; clear hm2
        go_wp2
        go_ret3
        exact ⟨m, a, by have := HM.out; omega, hm1, ha', E3.out, rfl, drws_refl _⟩
  · rw [if_neg hE0] at g1 g2
    have G1 := Lib.hid g1; have G2 := Lib.hid g2; have B1 := Lib.hid b1; have HMG := Lib.hid hmg
    clear g1 g2 b1 hmg
    go_enter Try.func145, Try.ntmps145
    go_wp2_with (go_at_call 146; (with_reducible refine HK.out.mono ?_); rintro e w' ⟨rfl, rfl⟩)
    go_loop [8, 7] (fun v e => ∃ m a : Nat, 0 < m ∧ m < 9007199254740992 ∧ a < 2098 ∧ v = .int .u64 (m : Int) ∧ e = .int .i64 ((a : Int) - 1074) ∧ Hid (m * 2 ^ a = vl r)) (fun v _ => (intOf v).toNat)
    case atStart =>
      exact ⟨M, 0, by have := HMG.out; rw [G1.out] at this; exact this, by omega, by omega, rfl, by go_num, by show _ = _; rw [← HV.out, G1.out, G2.out]⟩
    case round =>
      obtain ⟨m, a, hm0, hm1, ha', rfl, rfl, E3⟩ := hrel
      by_cases hm2 : m % 2 = 0
      · have ht1 : ((m : Int) % 2 == 0) = true := by rw [beq_iff_eq]; omega
        have hnew : m / 2 * 2 ^ (a + 1) = vl r := by rw [← E3.out, Nat.pow_succ, Nat.mul_comm _ 2, ← Nat.mul_assoc]; congr 1; omega
        have ha2 := pow_le_vl (m / 2) (a + 1) r (by omega) hnew H.out
        have HN := Lib.hid hnew; have HM := Lib.hid hm2; clear hnew hm2
        go_wp2
        go_round
        case rel => exact ⟨m / 2, a + 1, by have := HM.out; omega, by omega, ha2, by go_num, by go_num, HN.out⟩
        case measure => simp [intOf]; omega
      · have ht1 : ((m : Int) % 2 == 0) = false := by rw [beq_eq_false_iff_ne]; omega
        have HM := Lib.hid hm2; clear hm2
        go_wp2
        go_ret3
        exact ⟨m, a, by have := HM.out; omega, hm1, ha', E3.out, rfl, drws_refl _⟩
/-! ### numbers that are none, infinite, nought -/
theorem kind_le (b : Nat) : kindF b ≤ 3 := by unfold kindF; (repeat' split) <;> omega
set_option maxRecDepth 20000 in
theorem floSplit_oth (b : Nat) (w : World) (hb : b < 18446744073709551616) (h : kindF b ≠ 1) :
    Calls Try.prog 145 #[.float .f64 b] w fun e w' => e = .returned (.tuple #[.bool (decide (kindF b ≠ 3) && ng b), .int .u64 0, .int .i64 0]) ∧ w = w' := by
  have hf := f64bits b
  have hk := floKind_any b w hb
  have hng : ((b : Int) / 9223372036854775808 == 1) = ng b := by
    unfold ng
    rw [shr63, Bool.eq_iff_iff, beq_iff_eq, beq_iff_eq]
    omega
  have hkl := kind_le b
  generalize ng b = g at *
  generalize kindF b = k at *
  have HK := Lib.hid hk; clear hk
  by_cases h3 : k = 3
  · subst h3
    go_enter Try.func145, Try.ntmps145
    go_wp2_with (go_at_call 146; (with_reducible refine HK.out.mono ?_); rintro e w' ⟨rfl, rfl⟩)
    go_ret3
    exact ⟨rfl, rfl⟩
  · have e3 : decide (k ≠ 3) = true := decide_eq_true h3
    rw [e3, Bool.true_and]
    have f1 : ((k : Int) != 1) = true := by rw [bne_iff_ne]; omega
    have f3 : ((k : Int) != 3) = true := by rw [bne_iff_ne]; omega
    clear h h3 e3 hkl
    go_enter Try.func145, Try.ntmps145
    go_wp2_with (go_at_call 146; (with_reducible refine HK.out.mono ?_); rintro e w' ⟨rfl, rfl⟩)
    go_ret3
    exact ⟨rfl, rfl⟩
set_option maxRecDepth 20000 in
theorem below_nan (b : Nat) (w : World) (hb : b < 18446744073709551616) (h : nanB b = true) : Calls Try.prog 141 #[.float .f64 b] w fun e w' => e = .returned (.bool false) ∧ w = w' := by
  have hn : FloatKind.f64.format.order b 0 = none := order_nan b 0 (.inl (by unfold nanB at h; simpa using h))
  have h1 : (FloatKind.f64.format.order b 0 == some .lt) = false := by rw [hn]; rfl
  have h2 : (FloatKind.f64.format.order b 0 == some .eq) = false := by rw [hn]; rfl
  clear hn
  go_enter Try.func141, Try.ntmps141
  go_wp2
  go_ret
  exact ⟨rfl, rfl⟩
set_option maxRecDepth 20000 in
theorem split_oth (b : Nat) (w : World) (hb : b < 18446744073709551616) (h : kindF b ≠ 1) :
    Calls Try.prog 174 #[.float .f64 b] w fun e w' => e = .returned (.tuple #[.bool (decide (kindF b ≠ 3) && ng b), .int .u64 0, .int .i64 0]) ∧ Drws w w' := by
  have hk := refKind_any b w hb
  have hbl : ∀ W : World, Calls Try.prog 141 #[.float .f64 b] W fun e w' => e = .returned (.bool (decide (kindF b ≠ 3) && ng b)) ∧ W = w' := fun W => by
    cases hn : nanB b with
    | true =>
      have e : kindF b = 3 := by unfold kindF; rw [if_pos hn]
      rw [e]
      exact below_nan b W hb hn
    | false =>
      have e : kindF b ≠ 3 := by unfold kindF; rw [hn]; simp only [Bool.false_eq_true, if_false]; (repeat' split) <;> omega
      rw [decide_eq_true e, Bool.true_and]
      exact below_any b W hb hn
  generalize (decide (kindF b ≠ 3) && ng b) = g at *
  have hkl := kind_le b
  generalize kindF b = k at *
  have f1 : ((k : Int) != 1) = true := by rw [bne_iff_ne]; omega
  have HK := Lib.hid hk; have HBL := Lib.hid hbl; clear hk hbl h hkl
  go_enter Try.func174, Try.ntmps174
  go_wp2_with (first | (go_at_call 140; (with_reducible refine HK.out.mono ?_); rintro e w' ⟨rfl, n, rfl⟩) | (go_at_call 141; (with_reducible refine (HBL.out _).mono ?_); rintro e w' ⟨rfl, rfl⟩))
  go_ret3
  exact ⟨rfl, n, rfl⟩
end Go.Proofs.Ytfhmaincnlaapaa
