/-
  bushelref03.Split and Rank, at a finite number above 0: the rung; bushelref03.Key: the key.
-/
import Derived.Test.YtpnolgghbenekaaFloLess
import Derived.Test.YtpnolgghbenekaaRankPure
namespace Go.Proofs.Ytpnolgghbenekaa
open Go.ChangeShapes Go.WideShapes Go.ChangeAt Go.RowKit
set_option linter.unusedVariables false

/-- what Split says of a rung: a whole number below 2^53 times a power of two -/
def Splits (r : Nat) (w : World) (e : Ending) (w' : World) : Prop :=
  ∃ m a : Nat, 0 < m ∧ m < 9007199254740992 ∧ a < 2098 ∧ m * 2 ^ a = vl r ∧ e = .returned (.tuple #[.bool false, .int .u64 (m : Int), .int .i64 ((a : Int) - 1074)]) ∧ Drws w w'
theorem kind_one (r : Nat) (h0 : 0 < r) (h : r < irg) : kindF r = 1 := by
  obtain ⟨_, h2, h3⟩ := sv_pos r (by omega)
  unfold kindF
  rw [h2, h3, if_neg (by simp), if_neg (by omega), if_neg (by omega)]
theorem pow_le_vl (m a r : Nat) (hm : 0 < m) (h : m * 2 ^ a = vl r) (hr : r < irg) : a < 2098 := by
  have h1 := vl_pow r hr
  have h2 : 2 ^ a ≤ m * 2 ^ a := Nat.le_mul_of_pos_left _ hm
  have := (Nat.pow_lt_pow_iff_right (by decide : 1 < 2)).1 (show 2 ^ a < 2 ^ FF by omega)
  have hF := FF_eq
  omega
/-- the whole part of a number below 2^53 -/
theorem whole_lt (r : Nat) (hr : r < c53) : vl r / UU < 9007199254740992 := by
  rw [Nat.div_lt_iff_lt_mul UU_pos, ← c53_vl]
  exact vl_lt hr
theorem double_ok (r : Nat) (hr : r < c53) (hne : vl r % UU ≠ 0) : r < irg - 4503599627370496 ∧ 2 * vl r < vl c53 := by
  have h1 : vl r < 4503599627370496 * UU := by
    rcases Nat.lt_or_ge (vl r) (4503599627370496 * UU) with h | h
    · exact h
    · exact absurd (whole_of_ge r (by unfold c53 irg at *; omega) h) hne
  refine ⟨by unfold c53 irg at *; omega, ?_⟩
  rw [c53_vl]
  generalize UU = u at *
  omega

set_option maxRecDepth 20000 in
set_option maxHeartbeats 4000000 in
theorem split_pos (r : Nat) (w : World) (h0 : 0 < r) (h : r < irg) :
    Calls Try.prog 130 #[.float .f64 r] w (Splits r w) := by
  have hr64 : r < 18446744073709551616 := by unfold irg at h; omega
  have hk := refKind_any r w hr64
  rw [kind_one r h0 h] at hk
  have hlt0 := ord_lt r 0 (by omega) (by omega)
  rw [decide_eq_false (by omega)] at hlt0
  have HK := Lib.hid hk; clear hk
  have H := Lib.hid h; have HR := Lib.hid hr64; clear h hr64
  go_enter Try.func130, Try.ntmps130
  go_wp2_with (go_at_call 103; (with_reducible refine HK.out.mono ?_); rintro e w' ⟨rfl, n, rfl⟩)
  go_loop [5, 6] (fun y e => ∃ r1 e1 : Nat, 0 < r1 ∧ r1 < irg ∧ y = .float .f64 r1 ∧ e = .int .i64 (e1 : Int) ∧ r1 + e1 * 4503599627370496 ≤ 9218868437227405312 ∧ Hid (vl r1 * 2 ^ e1 = vl r)) (fun y _ => bitsOf y)
  case atStart => exact ⟨r, 0, h0, H.out, rfl, rfl, by have := H.out; unfold irg at this; omega, by show _ = _; simp⟩
  case round =>
    obtain ⟨r1, e1, hr0, hr1, rfl, rfl, hbd, E1⟩ := hrel
    have hgt := ord_gt r1 c53 (by omega) (Nat.le_of_lt c53_lt)
    have heq := ord_eq r1 c53 (by omega) (Nat.le_of_lt c53_lt)
    have he1 : e1 ≤ 2047 := by omega
    have C1 := Lib.hid hr1; have BD := Lib.hid hbd; clear hr1 hbd
    by_cases hc : c53 ≤ r1
    · obtain ⟨s, hdiv, hs1, hs2, hs3⟩ := div_two r1 (by unfold c53 at hc; omega) C1.out
      have hrun := run_float_arith (P := Try.prog) (w.drewN n) .quo 77 .f64 r1 4611686018427387904 s hdiv
      have hge : (FloatKind.f64.format.order r1 4845873199050653696 == some .gt || FloatKind.f64.format.order r1 4845873199050653696 == some .eq) = true := by
        show (FloatKind.f64.format.order r1 c53 == some .gt || FloatKind.f64.format.order r1 c53 == some .eq) = true
        rw [hgt, heq]; simp; omega
      have D := Lib.hid hdiv; have S1 := Lib.hid hs1; have S3 := Lib.hid hs3; have G := Lib.hid hgt; have Q := Lib.hid heq; clear hdiv hs1 hs3 hgt heq
      go_wp2
      go_round
      case rel => exact ⟨s, e1 + 1, hs2, by have := S1.out; have := C1.out; omega, rfl, by go_num, by have := S1.out; have := BD.out; omega, by show _ = _; rw [Nat.pow_succ, Nat.mul_comm _ 2, ← Nat.mul_assoc, Nat.mul_comm _ 2, S3.out, E1.out]⟩
      case measure => have := S1.out; simp [bitsOf]; omega
    · have hgt' : (FloatKind.f64.format.order r1 4845873199050653696 == some .gt) = false := by
        show (FloatKind.f64.format.order r1 c53 == some .gt) = false
        rw [hgt]; simp; omega
      have heq' : (FloatKind.f64.format.order r1 4845873199050653696 == some .eq) = false := by
        show (FloatKind.f64.format.order r1 c53 == some .eq) = false
        rw [heq]; simp; omega
      have G := Lib.hid hgt; have Q := Lib.hid heq; clear hgt heq
      have hc' : r1 < c53 := by omega
      clear hc
      go_wp2
      go_loop [5, 6] (fun y e => ∃ r2 t : Nat, 0 < r2 ∧ r2 < c53 ∧ t ≤ EE ∧ y = .float .f64 r2 ∧ e = .int .i64 ((e1 : Int) - (t : Int)) ∧ Hid (vl r2 = vl r1 * 2 ^ t)) (fun _ e => (intOf e + 4000).toNat)
      case atStart => exact ⟨r1, 0, hr0, hc', by omega, rfl, by go_num, by show _ = _; simp⟩
      case round =>
        obtain ⟨r2, t, hr20, hr2c, htE, rfl, rfl, E2⟩ := hrel
        have hEE := EE_eq
        have ht : t ≤ 1074 := by omega
        have hr2i : r2 < irg := by have := c53_lt; omega
        have hwl := whole_lt r2 hr2c
        have hcv := run_convert_float_int (P := Try.prog) (w := w.drewN n) 77 35 .f64 .u64 r2 _ (by kernel_rfl) Try.underlying35 (toInt_exact r2 hr2i (by omega))
        have hback := ofInt_exact (vl r2 / UU) hwl
        have hird := ir_vl (vl r2 / UU) hwl
        have hiff := ir_iff r2 hr2i hwl
        have hoe := ord_eq r2 (ir (vl r2 / UU)) (by omega) (Nat.le_of_lt hird.1)
        have IRD := Lib.hid hird; have IFF := Lib.hid hiff; have OE := Lib.hid hoe; have R2I := Lib.hid hr2i; have R2C := Lib.hid hr2c; have HEE := Lib.hid hEE; have HTE := Lib.hid htE
        clear hird hiff hoe hr2i hr2c hEE htE
        generalize hz : vl r2 / UU = z at *
        have HZ := Lib.hid hz; clear hz
        by_cases hw : vl r2 % UU = 0
        · have hne : (FloatKind.f64.format.order r2 (ir z) != some .eq) = false := by
            have := OE.out; rw [← IFF.out.2 hw] at this ⊢; simp only [bne, this]; simp
          have HW := Lib.hid hw; clear hw
          -- the whole number
          have hzz : z * UU = vl r2 := by
            have := Nat.div_add_mod (vl r2) UU
            rw [HZ.out, HW.out, Nat.add_zero, Nat.mul_comm] at this
            exact this
          have hz0 : 0 < z := by
            rcases Nat.eq_zero_or_pos z with h | h
            · rw [h, Nat.zero_mul] at hzz; have := vl_pos hr20; omega
            · exact h
          have hza : z * 2 ^ (EE + e1 - t) = vl r := by
            have h1 : z * 2 ^ EE = vl r1 * 2 ^ t := by rw [← UU_eq, hzz, E2.out]
            have h2 : z * 2 ^ (EE + e1 - t) * 2 ^ t = vl r * 2 ^ t := by
              have ht' := HTE.out
              rw [Nat.mul_assoc, ← Nat.pow_add, Nat.sub_add_cancel (by omega), Nat.pow_add, ← Nat.mul_assoc, h1, Nat.mul_right_comm, E1.out]
            exact Nat.eq_of_mul_eq_mul_right (Nat.two_pow_pos t) h2
          have hae : ((e1 : Int) - (t : Int)) = ((EE + e1 - t : Nat) : Int) - 1074 := by have := HTE.out; have := HEE.out; omega
          have HZZ := Lib.hid hzz; have HZA := Lib.hid hza; have HAE := Lib.hid hae; clear hzz hza hae
          go_wp2
          go_loop [7, 6] (fun v e => ∃ m a : Nat, 0 < m ∧ m < 9007199254740992 ∧ a < 2098 ∧ v = .int .u64 (m : Int) ∧ e = .int .i64 ((a : Int) - 1074) ∧ Hid (m * 2 ^ a = vl r)) (fun v _ => (intOf v).toNat)
          case atStart => exact ⟨z, EE + e1 - t, hz0, hwl, pow_le_vl z _ r hz0 HZA.out H.out, rfl, by rw [← HAE.out], HZA.out⟩
          case round =>
            obtain ⟨m, a, hm0, hm1, ha, rfl, rfl, E3⟩ := hrel
            by_cases hm2 : m % 2 = 0
            · have ht1 : ((m : Int) % 2 == 0) = true := by rw [beq_iff_eq]; omega
              have hnew : m / 2 * 2 ^ (a + 1) = vl r := by rw [← E3.out, Nat.pow_succ, Nat.mul_comm _ 2, ← Nat.mul_assoc]; congr 1; omega
              have ha2 := pow_le_vl (m / 2) (a + 1) r (by omega) hnew H.out
              have HN := Lib.hid hnew; have HM := Lib.hid hm2; clear hnew hm2
              go_wp2
              go_round
              case rel => exact ⟨m / 2, a + 1, by have := HM.out; omega, by omega, ha2, by go_num, by go_num, HN.out⟩
              case measure => simp [intOf]; omega
            · have ht1 : ((m : Int) % 2 == 0) = false := by rw [beq_eq_false_iff_ne]; omega
              have HM := Lib.hid hm2; clear hm2
              go_wp2
              go_ret3
              exact ⟨m, a, hm0, hm1, ha, E3.out, rfl, drws_step (drws_refl _) _⟩
        · have hne : (FloatKind.f64.format.order r2 (ir z) != some .eq) = true := by
            have h1 := OE.out
            rw [decide_eq_false (fun h => hw (IFF.out.1 h))] at h1
            simp only [bne, h1]; rfl
          obtain ⟨hd1, hd2⟩ := double_ok r2 R2C.out hw
          obtain ⟨s, hmul, hs1, hs2, hs3⟩ := mul_two r2 hr20 hd1
          have hrun := run_float_arith (P := Try.prog) (w.drewN n) .mul 77 .f64 r2 4611686018427387904 s hmul
          have ht2 : t + 1 ≤ EE := by
            rcases Nat.lt_or_ge t EE with h | h
            · omega
            · exfalso
              have : t = EE := by have := HTE.out; omega
              apply hw
              rw [E2.out, this, ← UU_eq, Nat.mul_mod_left]
          have hsc : s < c53 := vl_le_iff.1 (by omega)
          have M := Lib.hid hmul; have S1 := Lib.hid hs1; have S2 := Lib.hid hs2; have S3 := Lib.hid hs3; have D1 := Lib.hid hd1; have D2 := Lib.hid hd2; have HW := Lib.hid hw; have SC := Lib.hid hsc; have T2 := Lib.hid ht2
          clear hmul hs1 hs2 hs3 hd1 hd2 hw hsc ht2
          go_wp2
          go_round
          case rel => exact ⟨s, t + 1, by have := S1.out; omega, SC.out, T2.out, rfl, by go_num, by show _ = _; rw [S3.out, E2.out, Nat.pow_succ, Nat.mul_comm 2, Nat.mul_assoc]⟩
          case measure => simp [intOf]; omega

set_option maxRecDepth 20000 in
set_option maxHeartbeats 1000000 in
theorem rank_pos (r : Nat) (w : World) (h0 : 0 < r) (h : r < irg) :
    Calls Try.prog 115 #[.float .f64 r] w fun e w' => e = .returned (.int .u64 (r : Int)) ∧ Drws w w' := by
  have hr64 : r < 18446744073709551616 := by unfold irg at h; omega
  have hk := refKind_any r w hr64
  rw [kind_one r h0 h] at hk
  have heq0 := ord_eq r 0 (by omega) (by omega)
  rw [decide_eq_false (by omega)] at heq0
  have HK := Lib.hid hk; clear hk
  have hsp := fun W => split_pos r W h0 h
  have H := Lib.hid h; have HR := Lib.hid hr64; have HS := Lib.hid hsp; clear h hr64 hsp
  go_enter Try.func115, Try.ntmps115
  go_wp2_with (first | (go_at_call 103; (with_reducible refine HK.out.mono ?_); rintro e w' ⟨rfl, n, rfl⟩) | (go_at_call 130; (with_reducible refine (HS.out _).mono ?_); rintro e w1 ⟨m1, a1, hm0, hm1, ha, e3, rfl, hdr⟩; have E3 := Lib.hid e3; have HDR := Lib.hid hdr; clear e3 hdr))
  go_loop [4, 5] (fun v e => ∃ (m a : Nat) (z : Int), 0 < m ∧ m < 9007199254740992 ∧ v = .int .u64 (m : Int) ∧ e = .int .i64 z ∧ -1074 ≤ z ∧ z < 1024 ∧ Hid (z = (a : Int) - 1074 ∧ m * 2 ^ a = vl r)) (fun _ e => (intOf e + 1074).toNat)
  case atStart => exact ⟨m1, a1, _, hm0, hm1, rfl, rfl, by omega, by omega, ⟨rfl, E3.out⟩⟩
  case round =>
    obtain ⟨m, a, z, hm0', hm1', rfl, rfl, hz1, hz2, E⟩ := hrel
    have hD : Drws w w1 := by
      obtain ⟨k, hk⟩ := HDR.out
      exact ⟨_, by rw [hk, World.drewN_drewN]⟩
    have HD := Lib.hid hD; clear hD ha
    by_cases h1 : m < 4503599627370496
    · have t4 : decide ((m : Int) < 4503599627370496) = true := decide_eq_true (by omega)
      by_cases h2 : -1074 < z
      · have hnew : z - 1 = ((a - 1 : Nat) : Int) - 1074 ∧ m * 2 * 2 ^ (a - 1) = vl r := by
          obtain ⟨e1, e2⟩ := E.out
          obtain ⟨b, rfl⟩ : ∃ b, a = b + 1 := ⟨a - 1, by omega⟩
          refine ⟨by omega, ?_⟩
          rw [← e2, Nat.add_sub_cancel, Nat.pow_succ, Nat.mul_assoc, Nat.mul_comm 2]
        have HN := Lib.hid hnew; have H1 := Lib.hid h1; have HM1 := Lib.hid hm1'; clear hnew h1 hm1'
        have hm2 : (m : Int) * 2 ≤ 18014398509481984 := by have := HM1.out; omega
        go_wp2
        go_round
        case rel => exact ⟨m * 2, a - 1, z - 1, by omega, by have := H1.out; omega, by go_num, by go_num, by omega, by omega, HN.out⟩
        case measure => simp [intOf]; omega
      · have hmr : m = r := by
          obtain ⟨e1, e2⟩ := E.out
          have ha0 : a = 0 := by omega
          rw [ha0, Nat.pow_zero, Nat.mul_one] at e2
          exact rank_sub m r H.out h1 e2
        have HMR := Lib.hid hmr; have H1 := Lib.hid h1; have HM1 := Lib.hid hm1'; clear hmr h1 hm1'
        go_wp2
        go_ret
        exact ⟨by rw [← HMR.out]; rfl, HD.out⟩
    · have t4 : decide ((m : Int) < 4503599627370496) = false := decide_eq_false (by omega)
      have hmr := rank_norm m a r (by omega) hm1' E.out.2
      have hbig : (z + 1074) * 4503599627370496 + (m : Int) < 9218868437227405312 := by
        obtain ⟨e1, _⟩ := E.out
        have h3 := H.out
        unfold irg at h3
        have e4 : (z + 1074) = (a : Int) := by omega
        rw [e4]
        omega
      have hfin : (z + 1074) * 4503599627370496 + (m : Int) = (r : Int) := by
        obtain ⟨e1, _⟩ := E.out
        have e4 : (z + 1074) = (a : Int) := by omega
        rw [e4]
        omega
      have HMR := Lib.hid hmr; have HF := Lib.hid hfin; have H1 := Lib.hid h1; have HM1 := Lib.hid hm1'; clear hmr hfin h1 hm1'
      go_wp2
      go_ret
      exact ⟨by rw [← HF.out]; rfl, HD.out⟩

set_option maxRecDepth 20000 in
theorem rank_any (r : Nat) (w : World) (h : r ≤ irg) :
    Calls Try.prog 115 #[.float .f64 r] w fun e w' => e = .returned (.int .u64 (r : Int)) ∧ Drws w w' := by
  by_cases h1 : r = irg
  · subst h1
    have hk := refKind_any irg w (by unfold irg; omega)
    have hki : kindF irg = 2 := by decide
    rw [hki] at hk
    have HK := Lib.hid hk; clear hk hki
    generalize hi : (irg : Nat) = i at *
    have HI := Lib.hid hi; clear hi
    go_enter Try.func115, Try.ntmps115
    go_wp2_with (go_at_call 103; (with_reducible refine HK.out.mono ?_); rintro e w' ⟨rfl, n, rfl⟩)
    go_ret
    exact ⟨by rw [← HI.out]; rfl, drws_step (drws_refl _) _⟩
  · by_cases h0 : r = 0
    · subst h0
      have hk := refKind_any 0 w (by omega)
      have hki : kindF 0 = 0 := by decide
      rw [hki] at hk
      have heq0 : (FloatKind.f64.format.order 0 0 == some .eq) = true := by decide
      have HK := Lib.hid hk; clear hk hki
      go_enter Try.func115, Try.ntmps115
      go_wp2_with (go_at_call 103; (with_reducible refine HK.out.mono ?_); rintro e w' ⟨rfl, n, rfl⟩)
      go_ret
      exact ⟨rfl, drws_step (drws_refl _) _⟩
    · exact rank_pos r w (by omega) (by omega)
theorem xor_top (b : Nat) (h1 : 9223372036854775808 ≤ b) (h2 : b < 18446744073709551616) : b ^^^ 2 ^ 63 = b % 2 ^ 63 := by
  apply Nat.eq_of_testBit_eq
  intro i
  rw [Nat.testBit_xor, Nat.testBit_two_pow, Nat.testBit_mod_two_pow]
  rcases Nat.lt_trichotomy i 63 with h | h | h
  · have e : ¬ 63 = i := by omega
    simp [h, e]
  · subst h
    rw [Nat.testBit_eq_decide_div_mod_eq]
    have : b / 2 ^ 63 % 2 = 1 := by omega
    simp [this]
  · have e : ¬ 63 = i := by omega
    have e2 : b.testBit i = false := by
      apply Nat.testBit_lt_two_pow
      exact Nat.lt_of_lt_of_le h2 (show 2 ^ 64 ≤ 2 ^ i from Nat.pow_le_pow_right (by decide) (by omega))
    have e3 : ¬ i < 63 := by omega
    simp [e, e2, e3]
theorem neg_float {P : Program} (b : Nat) (hb : b < 18446744073709551616) (hg : ng b = true) : ∀ W : World, (Op.unary .neg (.float .f64 b)).run P W = .ok (.float .f64 (rg b)) W := by
  intro W
  have h1 := ng_iff b hb
  rw [hg] at h1
  have h2 : 9223372036854775808 ≤ b := of_decide_eq_true h1.symm
  have e : Op.negFloat .f64 b = rg b := xor_top b h2 hb
  show Result.ok (Value.float .f64 (Op.negFloat .f64 b)) W = _
  rw [e]
set_option maxRecDepth 20000 in
theorem refKey_any (b : Nat) (w : World) (hb : b < 18446744073709551616) :
    Calls Try.prog 78 #[.float .f64 b] w fun e w' => e = .returned (.int .u64 (keyB b : Nat)) ∧ Drws w w' := by
  have hk := refKind_any b w hb
  cases hn : nanB b
  · have t1 : ((kindF b : Int) == 3) = false := by rw [beq_eq_false_iff_ne]; have := kindF_num b hn; omega
    have hri : rg b ≤ irg := by unfold nanB at hn; simpa using hn
    have hrl : (rg b : Int) ≤ 9218868437227405312 := by unfold irg at hri; omega
    have hbel := fun W => below_any b W hb hn
    have hrank := fun W => rank_any (rg b) W hri
    cases hg : ng b
    · have hkey : keyB b = 9223372036854775808 + rg b := by unfold keyB; rw [hn, hg]; rfl
      have hbr : b = rg b := by have := ng_iff b hb; rw [hg] at this; have := of_decide_eq_false this.symm; unfold rg; omega
      rw [hg] at hbel
      rw [← hbr] at hrank hrl
      have HK := Lib.hid hk; have HB := Lib.hid hbel; have HR := Lib.hid hrank; have HKEY := Lib.hid hkey; have HBR := Lib.hid hbr; have HN := Lib.hid hn; have HG := Lib.hid hg; have HRI := Lib.hid hri; clear hk hbel hrank hkey hbr hn hg hri
      go_enter Try.func78, Try.ntmps78
      go_wp2_with (first | (go_at_call 103; (with_reducible refine HK.out.mono ?_); rintro e w' ⟨rfl, n, rfl⟩) | (go_at_call 104; (with_reducible refine (HB.out _).mono ?_); rintro e w' ⟨rfl, rfl⟩) | (go_at_call 115; (with_reducible refine (HR.out _).mono ?_); rintro e w1 ⟨rfl, k1, rfl⟩))
      go_ret
      exact ⟨by rw [HKEY.out, ← HBR.out]; go_num, by first | exact drws_step (drws_refl _) _ | exact drws_step (drws_step (drws_refl _) _) _⟩
    · have hkey : keyB b = 9223372036854775807 - rg b := by unfold keyB; rw [hn, hg]; rfl
      have hneg := neg_float (P := Try.prog) b hb hg
      rw [hg] at hbel
      have HK := Lib.hid hk; have HB := Lib.hid hbel; have HR := Lib.hid hrank; have HKEY := Lib.hid hkey; have HN := Lib.hid hn; have HG := Lib.hid hg; have HRI := Lib.hid hri; clear hk hbel hrank hkey hn hg hri
      go_enter Try.func78, Try.ntmps78
      go_wp2_with (first | (go_at_call 103; (with_reducible refine HK.out.mono ?_); rintro e w' ⟨rfl, n, rfl⟩) | (go_at_call 104; (with_reducible refine (HB.out _).mono ?_); rintro e w' ⟨rfl, rfl⟩) | (go_at_call 115; (with_reducible refine (HR.out _).mono ?_); rintro e w1 ⟨rfl, k1, rfl⟩))
      go_ret
      exact ⟨by rw [HKEY.out]; go_num, by first | exact drws_step (drws_refl _) _ | exact drws_step (drws_step (drws_refl _) _) _⟩
  · have t1 : ((kindF b : Int) == 3) = true := by rw [kindF_nan b hn]; rfl
    rw [keyB_nan b hn]
    have HK := Lib.hid hk; have HN := Lib.hid hn; clear hk hn
    go_enter Try.func78, Try.ntmps78
    go_wp2_with (go_at_call 103; (with_reducible refine HK.out.mono ?_); rintro e w' ⟨rfl, n, rfl⟩)
    go_ret
    exact ⟨rfl, drws_step (drws_refl _) _⟩
end Go.Proofs.Ytpnolgghbenekaa
