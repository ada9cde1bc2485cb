/-
  code.number, GetU, GetI, GetT: what they read of any bytes.
-/
import Derived.Test.YtpnolgghbenekaaGetPure
import Derived.Test.YtpnolgghbenekaaCodeWrite
namespace Go.Proofs.Ytpnolgghbenekaa
open Go.ChangeShapes Go.WideShapes Go.ChangeAt Go.RowKit
set_option linter.unusedVariables false

/-- no draws, or some: a function that only reads -/
theorem number_any (A : Option Addr) (m c n B : Nat) (t : List UInt8) (w : World) (h : Rd w B 1 A m (u8s t)) (hn : n ≤ 8) (hm : m ≤ maxLen) :
    Calls Try.prog 123 #[.slice A m c, .int .i64 (n : Int)] w fun e w' => e = .returned (.tuple #[.int .u64 ((numB t n).1 : Nat), .int .i64 ((numB t n).2 : Nat)]) ∧ ∃ k, w' = w.drewN k := by
  obtain rfl : m = t.length := h.u8.symm
  unfold maxLen at hm
  have H := Lib.hid h; clear h
  go_enter Try.func123, Try.ntmps123
  go_wp2
  go_loopw [6, 9] (fun x i wr => ∃ k : Nat, k ≤ n ∧ k ≤ t.length ∧ i = .int .i64 (k : Int) ∧ x = .int .u64 (bv (t.take k) : Nat) ∧ (0 < k → t.headD 0 ≠ 0) ∧ ∃ q, wr = w.drewN q) (fun _ i _ => n - (intOf i).toNat)
  case atStart => exact ⟨0, by omega, by omega, rfl, rfl, fun h => absurd h (by omega), 0, rfl⟩
  case round =>
    obtain ⟨k, hk, hk', rfl, rfl, hnz, q, rfl⟩ := hrel
    have NZ := Lib.hid hnz; clear hnz
    by_cases h1 : k < n
    · by_cases h2 : k < t.length
      · obtain ⟨a, rfl, hb, hc⟩ := H.out.byte h2
        have hbt := bv_take t k h2
        have hlt := bv_lt (t.take k)
        have hlt2 : 256 ^ (t.take k).length ≤ 256 ^ 7 := Nat.pow_le_pow_right (by decide) (by rw [List.length_take]; omega)
        have hbb : bv (t.take k) < 72057594037927936 := by simpa using Nat.lt_of_lt_of_le hlt hlt2
        have hc8 := t[k].toNat_lt
        clear hlt hlt2
        by_cases h3 : k = 0
        · subst h3
          have e0 : a.add 0 = a := by simp [Addr.add]
          rw [e0] at hc
          have hne : t ≠ [] := by intro h; rw [h] at h2; simp at h2
          have hbb0 : bv (List.take 0 t) = 0 := rfl
          have hor := or_byte0 t[0].toNat hc8
          have hhd := headD_get t h2
          rw [show ((0 : Nat) : Int) = 0 from rfl, hbb0]
          rw [hbb0] at hbt
          simp only [Nat.zero_mul, Nat.zero_add] at hbt
          have E0 := Lib.hid e0; have HB := Lib.hid hbb0; have HT := Lib.hid hbt; have HH := Lib.hid hhd; clear e0 hbb0 hbt hhd
          by_cases h4 : t[0] = 0
          · have t1 : ((t[0].toNat : Int) == 0) = true := by rw [h4]; rfl
            have hfin := numB_form t n h1 h2 h4
            have H4 := Lib.hid h4; have HF := Lib.hid hfin; clear h4 hfin
            go_wp2
            go_ret2
            exact ⟨by rw [HF.out]; rfl, _, rfl⟩
          · have t1 : ((t[0].toNat : Int) == 0) = false := by rw [beq_eq_false_iff_ne]; intro h; exact h4 (UInt8.toNat_inj.1 (by simp; omega))
            have H4 := Lib.hid h4; clear h4
            go_wp2
            go_roundw
            case rel => exact ⟨1, by omega, by omega, rfl, by rw [HT.out], fun _ => by rw [HH.out]; exact H4.out, _, rfl⟩
            case measure => simp [intOf]; omega
        · have t0 : ((k : Int) == 0) = false := by rw [beq_eq_false_iff_ne]; omega
          have hor := or_byte (bv (t.take k)) t[k].toNat hbb hc8
          have HT := Lib.hid hbt; clear hbt
          go_wp2
          go_roundw
          case rel => exact ⟨k + 1, by omega, by omega, by go_num, by rw [HT.out]; go_num, fun _ => NZ.out (by omega), _, rfl⟩
          case measure => simp [intOf]; omega
      · obtain rfl : k = t.length := by omega
        have hfin := numB_short t n h1 NZ.out
        have HF := Lib.hid hfin; clear hfin
        go_wp2
        go_ret2
        exact ⟨by rw [HF.out]; rfl, _, rfl⟩
    · obtain rfl : k = n := by omega
      have hfin := numB_ok t k hk' NZ.out
      have HF := Lib.hid hfin; clear hfin
      go_wp2
      go_ret2
      exact ⟨by rw [HF.out]; rfl, _, rfl⟩

theorem getU_any (A : Option Addr) (m c B : Nat) (t : List UInt8) (w : World) (h : Rd w B 1 A m (u8s t)) (hmc : m ≤ c) (hc : c ≤ maxLen) :
    Calls Try.prog 93 #[.slice A m c] w fun e w' => e = .returned (.tuple #[.int .u64 ((getU t).1 : Nat), .int .i64 ((getU t).2.1 : Nat), .int .i64 ((getU t).2.2 : Nat)]) ∧ ∃ k, w' = w.drewN k := by
  obtain rfl : m = t.length := h.u8.symm
  have hcc := hc
  unfold maxLen at hcc
  cases t with
  | nil =>
    go_enter Try.func93, Try.ntmps93
    go_wp2
    go_ret3
    exact ⟨rfl, 0, rfl⟩
  | cons x t =>
    have hl : (x :: t).length = t.length + 1 := rfl
    rw [hl] at h hmc ⊢
    obtain ⟨a, rfl, hb, hx⟩ := h.byte (k := 0) (by simp)
    have e0 : a.add 0 = a := by simp [Addr.add]
    rw [e0] at hx
    simp only [List.getElem_cons_zero] at hx
    have hx8 := x.toNat_lt
    have h1 := h.rest
    have h10 := fun h0 => h.rest0 (n := t.length) h0
    have hmt : t.length ≤ maxLen := by unfold maxLen; omega
    have H1 := Lib.hid h1; have H10 := Lib.hid h10; have E0 := Lib.hid e0; clear h1 h10 e0 hl
    by_cases h8 : 8 < x.toNat
    · have hfin : getU (x :: t) = (0, 0, 6) := by simp [getU, h8]
      have HF := Lib.hid hfin; clear hfin
      go_enter Try.func93, Try.ntmps93
      go_wp2
      go_ret3
      exact ⟨by rw [HF.out]; rfl, 0, rfl⟩
    · have hfin : getU (x :: t) = if (numB t x.toNat).2 = 0 then ((numB t x.toNat).1, x.toNat + 1, 0) else (0, 0, (numB t x.toNat).2) := by simp [getU, h8]
      have hnum := fun A' c' (hR : Rd w B 1 A' t.length (u8s t)) => number_any A' t.length c' x.toNat B t w hR (by omega) hmt
      generalize hN : numB t x.toNat = N at *
      have HN := Lib.hid hN
      have HNUM := Lib.hid hnum; clear hnum hN
      by_cases he : N.2 = 0
      · have t1 : ((N.2 : Int) != 0) = false := by rw [he]; rfl
        rw [if_pos he] at hfin
        have HF := Lib.hid hfin; have HE := Lib.hid he; clear hfin he
        by_cases hc1 : c = 1
        · obtain rfl : t = [] := List.eq_nil_of_length_eq_zero (by omega)
          subst hc1
          clear hmc hmt hcc
          go_enter Try.func93, Try.ntmps93
          go_wp2_with (go_at_call 123; (refine (HNUM.out (some a) 0 (H10.out rfl)).mono ?_); rintro e w' ⟨rfl, k1, rfl⟩)
          go_ret3
          exact ⟨by rw [HF.out]; go_num, _, rfl⟩
        · go_enter Try.func93, Try.ntmps93
          go_wp2_with (go_at_call 123; (with_reducible refine (HNUM.out (some ⟨a.block, a.off + 1, none⟩) _ H1.out).mono ?_); rintro e w' ⟨rfl, k1, rfl⟩)
          go_ret3
          exact ⟨by rw [HF.out]; go_num, _, rfl⟩
      · have t1 : ((N.2 : Int) != 0) = true := by rw [bne_iff_ne]; omega
        rw [if_neg he] at hfin
        have HF := Lib.hid hfin; have HE := Lib.hid he; clear hfin he
        by_cases hc1 : c = 1
        · obtain rfl : t = [] := List.eq_nil_of_length_eq_zero (by omega)
          subst hc1
          clear hmc hmt hcc
          go_enter Try.func93, Try.ntmps93
          go_wp2_with (go_at_call 123; (refine (HNUM.out (some a) 0 (H10.out rfl)).mono ?_); rintro e w' ⟨rfl, k1, rfl⟩)
          go_ret3
          exact ⟨by rw [HF.out]; rfl, _, rfl⟩
        · go_enter Try.func93, Try.ntmps93
          go_wp2_with (go_at_call 123; (with_reducible refine (HNUM.out (some ⟨a.block, a.off + 1, none⟩) _ H1.out).mono ?_); rintro e w' ⟨rfl, k1, rfl⟩)
          go_ret3
          exact ⟨by rw [HF.out]; rfl, _, rfl⟩

theorem u8_z {b : UInt8} (h : b = 0) : ((b.toNat : Int) == 0) = true := by rw [h]; rfl
theorem u8_nz {b : UInt8} (h : b ≠ 0) : ((b.toNat : Int) == 0) = false := by rw [beq_eq_false_iff_ne]; intro e; exact h (UInt8.toNat_inj.1 (by simp; omega))
theorem u8_zb {b : UInt8} (h : b = 0) : ((b.toNat : Int) != 0) = false := by rw [h]; rfl
theorem u8_nzb {b : UInt8} (h : b ≠ 0) : ((b.toNat : Int) != 0) = true := by rw [bne_iff_ne]; intro e; exact h (UInt8.toNat_inj.1 (by simp; omega))
theorem u8_o {b : UInt8} (h : b = 1) : ((b.toNat : Int) == 1) = true := by rw [h]; rfl
theorem u8_no {b : UInt8} (h : b ≠ 1) : ((b.toNat : Int) == 1) = false := by rw [beq_eq_false_iff_ne]; intro e; exact h (UInt8.toNat_inj.1 (by simp; omega))

set_option maxRecDepth 20000 in
set_option maxHeartbeats 1000000 in
theorem getT_any (A : Option Addr) (m c : Nat) (t : List UInt8) (w : World) (h : Rd w w.heap.size 1 A m (u8s t)) (hm : m ≤ 1000000) :
    Calls Try.prog 117 #[.slice A m c] w fun e w' => e = .returned (.tuple #[.string ⟨(getT t).1.toArray⟩, .int .i64 ((getT t).2.1 : Nat), .int .i64 ((getT t).2.2 : Nat)]) ∧ Below w.heap.size w w' := by
  obtain rfl : m = t.length := h.u8.symm
  have H := Lib.hid h; clear h
  go_enter Try.func117, Try.ntmps117
  go_wp2
  go_loopw [5, 6] (fun v i wr => ∃ (p n : Nat) (acc : List UInt8), p ≤ t.length ∧ n ≤ p ∧ i = .int .i64 (p : Int) ∧ wr.ownsRow w.heap.size 5 1 v n (u8s acc) ∧ Below w.heap.size w wr ∧ Hid (getT t = comb acc p (getT (t.drop p)))) (fun _ i _ => t.length - (intOf i).toNat)
  case atStart => exact ⟨0, 0, [], by omega, by omega, rfl, by simpa [u8s] using World.ownsRow_nil w w.heap.size _ 1, Below.refl _ _, comb_zero t⟩
  case round =>
    obtain ⟨p, n, acc, hp, hn, rfl, ho, hb, E⟩ := hrel
    have hbz := hb.size
    have hR := H.out.below hb
    by_cases h1 : p < t.length
    · obtain ⟨a, rfl, hab, hc⟩ := hR.byte h1
      have hdr := List.drop_eq_getElem_cons h1
      have HDR := Lib.hid hdr; have HR := Lib.hid hR; clear hdr hR
      have hc8 := t[p].toNat_lt
      by_cases h2 : t[p] = 0
      · have t1 := u8_zb h2
        have t1' := u8_z h2
        have H2 := Lib.hid h2; clear h2
        by_cases h3 : p + 1 < t.length
        · obtain ⟨a', ea, _, hc'⟩ := HR.out.byte h3
          injection ea with ea
          subst ea
          rw [add_succ] at hc'
          have hdr2 := List.drop_eq_getElem_cons h3
          have HDR2 := Lib.hid hdr2; clear hdr2
          have t2 : (((p : Int) + 1) == (t.length : Int)) = false := by rw [beq_eq_false_iff_ne]; omega
          have hc8' := t[p + 1].toNat_lt
          by_cases h4 : t[p + 1] = 0
          · have t3 := u8_z h4
            have hcv := run_str_own (P := Try.prog) (src := 36) (dst := 9) ho Try.underlying36 Try.underlying5 Try.underlying9
            have hfin : getT t = (acc, p + 2, 0) := by rw [E.out, HDR.out, H2.out, HDR2.out, h4, comb_end]
            have H4 := Lib.hid h4; have HF := Lib.hid hfin; clear h4 hfin
            go_wp2
            go_ret3
            exact ⟨by rw [HF.out]; go_num, hb⟩
          · have t3 := u8_nz h4
            by_cases h5 : t[p + 1] = 1
            · have t4 := u8_o h5
              have H4 := Lib.hid h4; have H5 := Lib.hid h5; clear h4 h5
              go_wp2_with (at_builtin; refine wpList_app1 _ _ rfl rfl _ _ 36 rfl w.heap.size 5 _ 1 info_u8 rfl Try.underlying36 _ _ _ ho rfl rfl ?_ ?_ ?_ ?_; omega; omega; exact hbz; intro v2 w2 ho2 hb2)
              go_roundw
              case rel =>
                refine ⟨p + 2, n + 1, acc ++ [0], by omega, by omega, by go_num, ?_, hb.trans (hb2.below hbz ho), ?_⟩
                · rw [← u8s_snoc acc 0 _ rfl]; exact ho2
                · show getT t = _
                  rw [E.out, HDR.out, H2.out, HDR2.out, H5.out, comb_one]
              case measure => simp [intOf]; omega
            · have t4 := u8_no h5
              have hfin : getT t = ([], 0, 6) := by rw [E.out, HDR.out, H2.out, HDR2.out, comb_form _ _ _ _ h4 h5]
              have H4 := Lib.hid h4; have H5 := Lib.hid h5; have HF := Lib.hid hfin; clear h4 h5 hfin
              go_wp2
              go_ret3
              exact ⟨by rw [HF.out]; rfl, hb⟩
        · have t2 : (((p : Int) + 1) == (t.length : Int)) = true := by rw [beq_iff_eq]; omega
          have hfin : getT t = ([], 0, 5) := by rw [E.out, HDR.out, H2.out, List.drop_eq_nil_of_le (by omega), comb_short1]
          have HF := Lib.hid hfin; clear hfin
          go_wp2
          go_ret3
          exact ⟨by rw [HF.out]; rfl, hb⟩
      · have t1 := u8_nzb h2
        have t1' := u8_nz h2
        have H2 := Lib.hid h2; clear h2
        go_wp2_with (at_builtin; refine wpList_app1 _ _ rfl rfl _ _ 36 rfl w.heap.size 5 _ 1 info_u8 rfl Try.underlying36 _ _ _ ho rfl rfl ?_ ?_ ?_ ?_; omega; omega; exact hbz; intro v2 w2 ho2 hb2)
        go_roundw
        case rel =>
          refine ⟨p + 1, n + 1, acc ++ [t[p]], by omega, by omega, by go_num, ?_, hb.trans (hb2.below hbz ho), ?_⟩
          · rw [← u8s_snoc acc t[p] _ rfl]; exact ho2
          · show getT t = _
            rw [E.out, HDR.out, comb_step _ _ _ _ H2.out]
        case measure => simp [intOf]; omega
    · have hfin : getT t = ([], 0, 5) := by rw [E.out, List.drop_eq_nil_of_le (by omega), comb_short]
      have HF := Lib.hid hfin; clear hfin hR
      go_wp2
      go_ret3
      exact ⟨by rw [HF.out]; rfl, hb⟩
end Go.Proofs.Ytpnolgghbenekaa
