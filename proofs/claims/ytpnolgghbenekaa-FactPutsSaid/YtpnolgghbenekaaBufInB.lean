/-
  THE READER's B.
-/
import Derived.Test.YtpnolgghbenekaaBufInAll
namespace Go.Proofs.Ytpnolgghbenekaa
open Go.ChangeShapes Go.WideShapes Go.ChangeAt Go.RowKit
set_option linter.unusedVariables false

theorem inB_bad (w : World) (g : Nat) (t : List UInt8) (p e : Nat) (ms : Int) (h : InS w g t p e) (he : e ≠ 0) :
    Calls Try.prog 80 #[.pointer (some ⟨g, 0, none⟩), .int .i64 ms] w fun y w' => y = .returned (.slice none 0 0) ∧ w = w' := by
  have hf := fine_any w g t p e h
  rw [decide_eq_false he] at hf
  have HF := Lib.hid hf; have HE := Lib.hid he; clear hf he
  go_enter Try.func80, Try.ntmps80
  go_wp2_with (go_at_call 81; (with_reducible refine HF.out.mono ?_); rintro y w' ⟨rfl, rfl⟩)
  go_ret
  exact ⟨rfl, rfl⟩
theorem rd_cut {w : World} {B n k N : Nat} {a : Addr} {t : List UInt8} (h : Rd w B 1 (some a) n (u8s t)) (hk : k ≤ n) (hN : k + N ≤ n) : Rd w B 1 (some (a.add k)) N (u8s ((t.drop k).take N)) := by
  have h1 := h.cut (k := k) (c := n + 1) (by omega) (by omega)
  rw [if_neg (by omega), Nat.mul_one, u8s_drop] at h1
  have h2 := h1.take (k := N) (by omega)
  simpa only [Option.map_some, Nat.mul_one] using h2
set_option maxRecDepth 20000 in
set_option maxHeartbeats 2000000 in
theorem inB_ok (w : World) (g : Nat) (t : List UInt8) (p : Nat) (ms : Int) (h : InS w g t p 0) (ht : t.length ≤ 1000000) (hms : ms ≤ 9223372036854775807) :
    Calls Try.prog 80 #[.pointer (some ⟨g, 0, none⟩), .int .i64 ms] w fun y w' => ∃ v, y = .returned v ∧ w'.ownsRow w.heap.size 5 1 v (rdB ms (t.drop p)).t.length (u8s (rdB ms (t.drop p)).t) ∧
      InS w' g t (p + (rdB ms (t.drop p)).n) (rdB ms (t.drop p)).e ∧ Only g w w' := by
  have hf := fine_any w g t p 0 h
  rw [decide_eq_true rfl] at hf
  have hgl := h.lt
  have hp : p ≤ t.length := by obtain ⟨A, c, _, _, _, _, h⟩ := h; exact h
  have hg := fun (W : World) (A : Option Addr) (c : Nat) (hR : Rd W g 1 A (t.length - p) (u8s (t.drop p))) (h1 : t.length - p ≤ c) (h2 : c ≤ maxLen) => getU_any A (t.length - p) c g (t.drop p) W hR h1 h2
  have hlt := getU_lt (t.drop p)
  have hfit := getU_fits (t.drop p)
  rw [List.length_drop] at hfit
  have hne : t.drop p = [] → (getU (t.drop p)).2.2 = 5 := fun e => by rw [e]; rfl
  have hmx := mx_eq ms
  have hM : mx ms ≤ 9223372036854775807 := by unfold mx; omega
  unfold rdB
  rw [List.length_drop]
  generalize getU (t.drop p) = r at *
  obtain ⟨x, n, er⟩ := r
  simp only at hg hlt hfit hne ⊢
  generalize mx ms = M at *
  have wM : IntKind.u64.wrap (M : Int) = (M : Int) := by rw [IntKind.wrap_u64]; omega
  obtain ⟨m, hm⟩ : ∃ m, t.length - p = m := ⟨_, rfl⟩
  rw [hm] at hfit hg ⊢
  have hm6 : m ≤ 1000000 := by omega
  have HF := Lib.hid hf; have H := Lib.hid h; have HG := Lib.hid hg; have HM := Lib.hid hm; clear hf h hg hm
  by_cases h1 : er = 0
  · subst h1
    rw [if_neg (by omega)]
    have hn := hfit rfl
    have hm0 : 0 < m := by
      rcases Nat.eq_zero_or_pos m with h0 | h0
      · have : t.drop p = [] := List.eq_nil_of_length_eq_zero (by rw [List.length_drop, HM.out, h0])
        exact absurd (hne this) (by decide)
      · exact h0
    clear hne hfit
    obtain ⟨k, hk⟩ : ∃ k, n + k = m := ⟨m - n, by omega⟩
    have hkz : (m : Int) - (n : Int) = (k : Int) := by omega
    have wk : IntKind.u64.wrap (k : Int) = (k : Int) := by rw [IntKind.wrap_u64]; omega
    have hl : m - n = k := by omega
    rw [hl]
    have hkm : k ≤ 1000000 := by omega
    have HK := Lib.hid hk; have HL := Lib.hid hl; clear hk hl
    by_cases h2 : M < x
    · rw [if_pos h2]
      go_enter Try.func80, Try.ntmps80
      go_wp2_with (go_at_call 81; (with_reducible refine HF.out.mono ?_); rintro y w' ⟨rfl, rfl⟩)
      refine (rest_any _ _ _ _ _ H.out).mono ?_
      rintro y w1 ⟨A1, c1, rfl, hR1, hc1, hm1, k1⟩
      rw [HM.out] at hR1 hc1 ⊢
      have HR1 := Lib.hid hR1; have HC1 := Lib.hid hc1; clear hR1 hc1
      go_wp2_with fail
      refine (HG.out w1 A1 c1 HR1.out HC1.out hm1).mono ?_
      rintro y w2 ⟨rfl, hd2⟩
      have k2 : Drw w1 w2 := hd2
      have hi2 := (H.out.drw k1).drw k2
      have hw2 : Drw w w2 := k1.trans k2
      have HI2 := Lib.hid hi2; have HW2 := Lib.hid hw2; clear hi2 hw2 hd2 k2 k1 HR1 HC1 hm1
      have hfl := fail_any _ g t p 0 4 HI2.out
      rw [show ((4 : Nat) : Int) = 4 from rfl] at hfl
      have HFL := Lib.hid hfl; clear hfl
      go_wp2_with (go_at_call 120; (with_reducible refine HFL.out.mono ?_); rintro y w5 ⟨rfl, rfl⟩)
      go_ret
      exact ⟨_, rfl, World.ownsRow_nil _ _ _ 1, HI2.out.bad 4, ((Only.refl g w).drw HW2.out).set_ (.inl rfl) _⟩
    · rw [if_neg h2]
      by_cases h3 : k < x
      · rw [if_pos h3]
        go_enter Try.func80, Try.ntmps80
        go_wp2_with (go_at_call 81; (with_reducible refine HF.out.mono ?_); rintro y w' ⟨rfl, rfl⟩)
        refine (rest_any _ _ _ _ _ H.out).mono ?_
        rintro y w1 ⟨A1, c1, rfl, hR1, hc1, hm1, k1⟩
        rw [HM.out] at hR1 hc1 ⊢
        have HR1 := Lib.hid hR1; have HC1 := Lib.hid hc1; clear hR1 hc1
        go_wp2_with fail
        refine (HG.out w1 A1 c1 HR1.out HC1.out hm1).mono ?_
        rintro y w2 ⟨rfl, hd2⟩
        have k2 : Drw w1 w2 := hd2
        have hi2 := (H.out.drw k1).drw k2
        have hw2 : Drw w w2 := k1.trans k2
        have HI2 := Lib.hid hi2; have HW2 := Lib.hid hw2; clear hi2 hw2 hd2 k2 k1 HR1 HC1 hm1
        go_wp2_with fail
        refine (rest_any _ _ _ _ _ HI2.out).mono ?_
        rintro y w3 ⟨A3, c3, rfl, hR3, hc3, hm3, k3⟩
        rw [HM.out] at hR3 hc3 ⊢
        have hi3 := HI2.out.drw k3
        have HW3 := Lib.hid (HW2.out.trans k3); have HI3 := Lib.hid hi3; clear HI2 HW2 hR3 hc3 hm3 k3 hi3
        have hfl := fail_any _ g t p 0 5 HI3.out
        rw [show ((5 : Nat) : Int) = 5 from rfl] at hfl
        have HFL := Lib.hid hfl; clear hfl
        go_wp2_with (go_at_call 120; (with_reducible refine HFL.out.mono ?_); rintro y w5 ⟨rfl, rfl⟩)
        go_ret
        exact ⟨_, rfl, World.ownsRow_nil _ _ _ 1, HI3.out.bad 5, ((Only.refl g w).drw HW3.out).set_ (.inl rfl) _⟩
      · rw [if_neg h3]
        have hxk : x ≤ k := by omega
        have hxz : (x : Int) ≤ 1000000 := by omega
        have key : ∀ (T : List UInt8), ((t.drop p).drop n).take x = T → T.length = x := fun T hT => by
          rw [← hT, List.length_take, List.length_drop, List.length_drop, HM.out]; have := HK.out; omega
        obtain ⟨T, hT⟩ : ∃ T, ((t.drop p).drop n).take x = T := ⟨_, rfl⟩
        have hTl := key T hT
        rw [hT, hTl]
        have HT := Lib.hid hT; have HTL := Lib.hid hTl; clear key hT hTl
        go_enter Try.func80, Try.ntmps80
        go_wp2_with (go_at_call 81; (with_reducible refine HF.out.mono ?_); rintro y w' ⟨rfl, rfl⟩)
        refine (rest_any _ _ _ _ _ H.out).mono ?_
        rintro y w1 ⟨A1, c1, rfl, hR1, hc1, hm1, k1⟩
        rw [HM.out] at hR1 hc1 ⊢
        have HR1 := Lib.hid hR1; have HC1 := Lib.hid hc1; clear hR1 hc1
        go_wp2_with fail
        refine (HG.out w1 A1 c1 HR1.out HC1.out hm1).mono ?_
        rintro y w2 ⟨rfl, hd2⟩
        have k2 : Drw w1 w2 := hd2
        have hi2 := (H.out.drw k1).drw k2
        have hw2 : Drw w w2 := k1.trans k2
        have HI2 := Lib.hid hi2; have HW2 := Lib.hid hw2; clear hi2 hw2 hd2 k2 k1 HR1 HC1 hm1
        go_wp2_with fail
        refine (rest_any _ _ _ _ _ HI2.out).mono ?_
        rintro y w3 ⟨A3, c3, rfl, hR3, hc3, hm3, k3⟩
        rw [HM.out] at hR3 hc3 ⊢
        have HW3 := Lib.hid (HW2.out.trans k3); have HI3 := Lib.hid (HI2.out.drw k3); clear HI2 HW2 hR3 hc3 hm3 k3
        go_wp2_with fail
        refine (rest_any _ _ _ _ _ HI3.out).mono ?_
        rintro y w4 ⟨A4, c4, rfl, hR4, hc4, hm4, k4⟩
        rw [HM.out] at hR4 hc4 ⊢
        obtain ⟨a, rfl, hab, _⟩ := hR4.2 hm0
        have HW4 := Lib.hid (HW3.out.trans k4); have HI4 := Lib.hid (HI3.out.drw k4); have HR4 := Lib.hid hR4; clear HI3 HW3 hR4 k4
        have hcc := hm4
        unfold maxLen at hcc
        have hnx : (n : Int) + (x : Int) ≤ (c4 : Int) := by have := HK.out; omega
        have hz4 : w.heap.size = w4.heap.size := by obtain ⟨j, hj⟩ := HW4.out; rw [hj]; rfl
        have hnil := World.ownsRow_nil w4 w.heap.size 5 1
        have HZ4 := Lib.hid hz4; have HNIL := Lib.hid hnil; clear hz4 hnil
        by_cases hnc : n = c4
        · have hx0 : x = 0 := by have := HK.out; omega
          subst hx0
          subst hnc
          have hT0 : T = [] := List.eq_nil_of_length_eq_zero HTL.out
          have hrd : Rd w4 g 1 (some a) 0 (u8s T) := by rw [hT0]; exact ⟨rfl, fun h => absurd h (by omega)⟩
          have HRD := Lib.hid hrd; clear hrd
          have hT0' := Lib.hid hT0; clear hT0
          go_wp2_with (at_builtin; (refine wpList_appS _ rfl _ (.tmp 49) 36 rfl w.heap.size 5 (.int .u8 0) 1 1 info_u8 rfl (by decide) Try.underlying36 (.slice none 0 0) 0 [] HNIL.out ?_ _ (some a) 0 0 (u8s T) HRD.out ?_ (u8s_one _) ?_ ?_ ?_ ?_); rfl; rfl; omega; omega; (have := HZ4.out; omega); intro v5 w5 ho5 hap5; have hb5 := hap5.below_nil (Nat.le_refl _); rw [Nat.zero_add, List.nil_append] at ho5; have hi5 := HI4.out.below hb5 (by have := HZ4.out; omega); obtain ⟨A6, c6, hb6, _, _, _, _⟩ := hi5; have x2 := hb6.cell 2; have f2 := hb6.frozen 2; simp at x2; have HI5 := Lib.hid (HI4.out.below hb5 (by have := HZ4.out; omega)); have HO5 := Lib.hid ho5; have HB5 := Lib.hid hb5; have HB6 := Lib.hid hb6; clear ho5 hb5 hap5 hb6)
          go_ret
          have hmv := HI5.out.move (p + (n + 0)) (by have := HK.out; have := HM.out; omega)
          rw [show ((p + (n + 0) : Nat) : Int) = (p : Int) + (n : Int) from by omega] at hmv
          have hne5 : v5.ownBlock ≠ some g := fun e => by have := (HO5.out.lt g e).1; omega
          exact ⟨_, rfl, (Only.set1 w5 g 2 _).own HO5.out hne5, hmv, (((Only.refl g w).drw HW4.out).belowT HB5.out).set_ (.inl rfl) _⟩
        · have hnc2 : (n : Int) < (c4 : Int) := by have := HK.out; omega
          have hnc3 : n ≠ c4 := hnc
          have hrd : Rd w4 g 1 (some (a.add n)) (n + x - n) (u8s T) := by
            rw [Nat.add_sub_cancel_left, ← HT.out]
            exact rd_cut HR4.out (by have := HK.out; omega) (by have := HK.out; omega)
          have HRD := Lib.hid hrd; clear hrd hnc3
          go_wp2_with (at_builtin; (refine wpList_appS _ rfl _ (.tmp 49) 36 rfl w.heap.size 5 (.int .u8 0) 1 1 info_u8 rfl (by decide) Try.underlying36 (.slice none 0 0) 0 [] HNIL.out ?_ _ (some (a.add n)) (n + x - n) (c4 - n) (u8s T) HRD.out ?_ (u8s_one _) ?_ ?_ ?_ ?_); rfl; rfl; omega; omega; (have := HZ4.out; omega); intro v5 w5 ho5 hap5; have hb5 := hap5.below_nil (Nat.le_refl _); rw [Nat.zero_add, Nat.add_sub_cancel_left, List.nil_append] at ho5; have hi5 := HI4.out.below hb5 (by have := HZ4.out; omega); obtain ⟨A6, c6, hb6, _, _, _, _⟩ := hi5; have x2 := hb6.cell 2; have f2 := hb6.frozen 2; simp at x2; have HI5 := Lib.hid (HI4.out.below hb5 (by have := HZ4.out; omega)); have HO5 := Lib.hid ho5; have HB5 := Lib.hid hb5; have HB6 := Lib.hid hb6; clear ho5 hb5 hap5 hb6)
          go_ret
          have hmv := HI5.out.move (p + (n + x)) (by have := HK.out; have := HM.out; omega)
          rw [show ((p + (n + x) : Nat) : Int) = (p : Int) + ((n : Int) + (x : Int)) from by omega] at hmv
          have hne5 : v5.ownBlock ≠ some g := fun e => by have := (HO5.out.lt g e).1; omega
          exact ⟨_, rfl, (Only.set1 w5 g 2 _).own HO5.out hne5, hmv, (((Only.refl g w).drw HW4.out).belowT HB5.out).set_ (.inl rfl) _⟩
  · rw [if_pos h1]
    have t1 : ((er : Int) == 0) = false := by rw [beq_eq_false_iff_ne]; omega
    have t2 : ((er : Int) != 0) = true := by rw [bne_iff_ne]; omega
    have H1 := Lib.hid h1; clear h1 hne hfit
    go_enter Try.func80, Try.ntmps80
    go_wp2_with (go_at_call 81; (with_reducible refine HF.out.mono ?_); rintro y w' ⟨rfl, rfl⟩)
    refine (rest_any _ _ _ _ _ H.out).mono ?_
    rintro y w1 ⟨A1, c1, rfl, hR1, hc1, hm1, k1⟩
    rw [HM.out] at hR1 hc1 ⊢
    have HR1 := Lib.hid hR1; have HC1 := Lib.hid hc1; clear hR1 hc1
    go_wp2_with fail
    refine (HG.out w1 A1 c1 HR1.out HC1.out hm1).mono ?_
    rintro y w2 ⟨rfl, hd2⟩
    have k2 : Drw w1 w2 := hd2
    have hi2 := (H.out.drw k1).drw k2
    have hw2 : Drw w w2 := k1.trans k2
    have HI2 := Lib.hid hi2; have HW2 := Lib.hid hw2; clear hi2 hw2 hd2 k2 k1 HR1 HC1 hm1
    have hfl := fail_any _ g t p 0 er HI2.out
    skip
    have HFL := Lib.hid hfl; clear hfl
    go_wp2_with (go_at_call 120; (with_reducible refine HFL.out.mono ?_); rintro y w5 ⟨rfl, rfl⟩)
    go_ret
    exact ⟨_, rfl, World.ownsRow_nil _ _ _ 1, HI2.out.bad er, ((Only.refl g w).drw HW2.out).set_ (.inl rfl) _⟩
end Go.Proofs.Ytpnolgghbenekaa
