/-
  An argument of cells: what its cells read as.
  An argument of facts: what its cells read as.
  An argument of asks: a slice of structs of six fields.
  An argument that is a schema: what its cells read as.
  READING DATA WITH DEPTH: how a thing is read out of cells; slices and structs of such things; what a law's argument reads as.
  bushellaw08.small, awake; bushelref08.Read and bushellaw08.read of any thing.
  bushellaw08.read: a thing is asked for, and is what must be.
  THE READER's B.
  THE READER's I, F, T.
-/
import Derived.Deep.RegionHeld
import Derived.Deep.Slices
import Derived.Deep.Fields
import Derived.ChangeArms
import Derived.Test.YtfhmaincnlaapaaGreatTlGetWalks
import Derived.Test.YtfhmaincnlaapaaGreatTlBufOutKeep
import Derived.Test.YtfhmaincnlaapaaGreatTlRefTwice
import Derived.Test.YtfhmaincnlaapaaGreatTlRefCode
import Derived.Test.YtfhmaincnlaapaaGreatTlReadPure
namespace Go.Proofs.YtfhmaincnlaapaaGreat
open Go.ChangeShapes Go.WideShapes Go.ChangeAt Go.RowKit
set_option linter.unusedVariables false

theorem getI_fits (t : List UInt8) (h : (getI t).2.2 = 0) : (getI t).2.1 ≤ t.length := by
  cases t with
  | nil => simp [getI]
  | cons c t =>
    unfold getI at h ⊢
    simp only at h ⊢
    split at h
    · simp at h
    · rename_i h1
      rw [if_neg h1]
      split at h
      · simp at h
      · rename_i h2
        rw [if_neg h2]
        split at h
        · rename_i h3
          rw [if_pos h3]
          simp only [List.length_cons]
          have hp : (prt c t).length ≤ t.length := by unfold prt; split <;> simp <;> omega
          have := numB_fits (prt c t) _ h3
          omega
        · rename_i h3; exact absurd h h3
theorem getF_fits (t : List UInt8) (h : (getF t).2.2 = 0) : (getF t).2.1 ≤ t.length := by
  unfold getF at h ⊢
  split at h
  · split at h <;> simp at h
  · rename_i h8
    rw [if_neg h8]
    split <;> simp <;> omega

theorem allF_any (x : Nat) (w : World) : Calls Tryz.prog 150 #[.float .f64 x] w fun y w' => y = .returned (.int .i64 ((0 : Nat) : Int)) ∧ w = w' := by
  go_enter Tryz.func150, Tryz.ntmps150
  go_wp2
  go_ret
  exact ⟨rfl, rfl⟩
theorem inI_any (w : World) (g : Nat) (t : List UInt8) (p e : Nat) (h : InS w g t p e) :
    Calls Tryz.prog 87 #[.pointer (some ⟨g, 0, none⟩)] w
      fun y w' => y = .returned (.int .i64 (stepV (0 : Int) (getI (t.drop p)).1 (stepE e (getI (t.drop p)).2.2 0))) ∧ InS w' g t (stepP p (getI (t.drop p)).2.1 (stepE e (getI (t.drop p)).2.2 0)) (stepE e (getI (t.drop p)).2.2 0) ∧ Only g w w' := by
  have hr := readI_any w g t p e (getI (t.drop p)).1 (getI (t.drop p)).2.1 (getI (t.drop p)).2.2 0 h
    (fun _ W A c hgW hR h1 h2 => getI_any A (t.length - p) c (t.drop p) W (hR.more hgW) h1 h2)
    (fun W => all64_any _ W) (fun _ h0 => by have := getI_fits (t.drop p) h0; rwa [List.length_drop] at this)
  have HR := Lib.hid hr; clear hr
  go_enter Tryz.func87, Tryz.ntmps87
  go_wp2_with (go_at_call 143; (with_reducible refine HR.out.mono ?_); rintro y w1 ⟨rfl, hi1, ho1⟩)
  go_ret
  exact ⟨rfl, hi1, ho1⟩
theorem inF_any (w : World) (g : Nat) (t : List UInt8) (p e : Nat) (h : InS w g t p e) :
    Calls Tryz.prog 90 #[.pointer (some ⟨g, 0, none⟩)] w
      fun y w' => y = .returned (.float .f64 (stepV (0 : Nat) (getF (t.drop p)).1 (stepE e (getF (t.drop p)).2.2 0))) ∧ InS w' g t (stepP p (getF (t.drop p)).2.1 (stepE e (getF (t.drop p)).2.2 0)) (stepE e (getF (t.drop p)).2.2 0) ∧ Only g w w' := by
  have hr := readF_any w g t p e (getF (t.drop p)).1 (getF (t.drop p)).2.1 (getF (t.drop p)).2.2 0 h
    (fun _ W A c hgW hR h1 h2 => getF_any A (t.length - p) c g (t.drop p) W hR h1 h2)
    (fun W => allF_any _ W) (fun _ h0 => by have := getF_fits (t.drop p) h0; rwa [List.length_drop] at this)
  have HR := Lib.hid hr; clear hr
  go_enter Tryz.func90, Tryz.ntmps90
  go_wp2_with (go_at_call 148; (with_reducible refine HR.out.mono ?_); rintro y w1 ⟨rfl, hi1, ho1⟩)
  go_ret
  exact ⟨rfl, hi1, ho1⟩
end Go.Proofs.YtfhmaincnlaapaaGreat
namespace Go.Proofs.YtfhmaincnlaapaaGreat
open Go.ChangeShapes Go.WideShapes Go.ChangeAt Go.RowKit
set_option linter.unusedVariables false

theorem inB_bad (w : World) (g : Nat) (t : List UInt8) (p e : Nat) (ms : Int) (h : InS w g t p e) (he : e ≠ 0) :
    Calls Tryz.prog 89 #[.pointer (some ⟨g, 0, none⟩), .int .i64 ms] w fun y w' => y = .returned (.slice none 0 0) ∧ w = w' := by
  have hf := fine_any w g t p e h
  rw [decide_eq_false he] at hf
  have HF := Lib.hid hf; have HE := Lib.hid he; clear hf he
  go_enter Tryz.func89, Tryz.ntmps89
  go_wp2_with (go_at_call 108; (with_reducible refine HF.out.mono ?_); rintro y w' ⟨rfl, rfl⟩)
  go_ret
  exact ⟨rfl, rfl⟩
theorem rd_cut {w : World} {B n k N : Nat} {a : Addr} {t : List UInt8} (h : Rd w B 1 (some a) n (u8s t)) (hk : k ≤ n) (hN : k + N ≤ n) : Rd w B 1 (some (a.add k)) N (u8s ((t.drop k).take N)) := by
  have h1 := h.cut (k := k) (c := n + 1) (by omega) (by omega)
  rw [if_neg (by omega), Nat.mul_one, u8s_drop] at h1
  have h2 := h1.take (k := N) (by omega)
  simpa only [Option.map_some, Nat.mul_one] using h2
set_option maxRecDepth 20000 in
set_option maxHeartbeats 2000000 in
theorem inB_ok (w : World) (g : Nat) (t : List UInt8) (p : Nat) (ms : Int) (h : InS w g t p 0) (ht : t.length ≤ 1000000) (hms : ms ≤ 9223372036854775807) :
    Calls Tryz.prog 89 #[.pointer (some ⟨g, 0, none⟩), .int .i64 ms] w fun y w' => ∃ v, y = .returned v ∧ w'.ownsRow w.heap.size 5 1 v (rdB ms (t.drop p)).t.length (u8s (rdB ms (t.drop p)).t) ∧
      InS w' g t (p + (rdB ms (t.drop p)).n) (rdB ms (t.drop p)).e ∧ Only g w w' := by
  have hf := fine_any w g t p 0 h
  rw [decide_eq_true rfl] at hf
  have hgl := h.lt
  have hp : p ≤ t.length := by obtain ⟨A, c, _, _, _, _, h⟩ := h; exact h
  have hg := fun (W : World) (A : Option Addr) (c : Nat) (hR : Rd W g 1 A (t.length - p) (u8s (t.drop p))) (h1 : t.length - p ≤ c) (h2 : c ≤ maxLen) => getU_any A (t.length - p) c g (t.drop p) W hR h1 h2
  have hlt := getU_lt (t.drop p)
  have hfit := getU_fits (t.drop p)
  rw [List.length_drop] at hfit
  have hne : t.drop p = [] → (getU (t.drop p)).2.2 = 5 := fun e => by rw [e]; rfl
  have hmx := mx_eq ms
  have hM : mx ms ≤ 9223372036854775807 := by unfold mx; omega
  unfold rdB
  rw [List.length_drop]
  generalize getU (t.drop p) = r at *
  obtain ⟨x, n, er⟩ := r
  simp only at hg hlt hfit hne ⊢
  generalize mx ms = M at *
  have wM : IntKind.u64.wrap (M : Int) = (M : Int) := by rw [IntKind.wrap_u64]; omega
  obtain ⟨m, hm⟩ : ∃ m, t.length - p = m := ⟨_, rfl⟩
  rw [hm] at hfit hg ⊢
  have hm6 : m ≤ 1000000 := by omega
  have HF := Lib.hid hf; have H := Lib.hid h; have HG := Lib.hid hg; have HM := Lib.hid hm; clear hf h hg hm
  by_cases h1 : er = 0
  · subst h1
    rw [if_neg (by omega)]
    have hn := hfit rfl
    have hm0 : 0 < m := by
      rcases Nat.eq_zero_or_pos m with h0 | h0
      · have : t.drop p = [] := List.eq_nil_of_length_eq_zero (by rw [List.length_drop, HM.out, h0])
        exact absurd (hne this) (by decide)
      · exact h0
    clear hne hfit
    obtain ⟨k, hk⟩ : ∃ k, n + k = m := ⟨m - n, by omega⟩
    have hkz : (m : Int) - (n : Int) = (k : Int) := by omega
    have wk : IntKind.u64.wrap (k : Int) = (k : Int) := by rw [IntKind.wrap_u64]; omega
    have hl : m - n = k := by omega
    rw [hl]
    have hkm : k ≤ 1000000 := by omega
    have HK := Lib.hid hk; have HL := Lib.hid hl; clear hk hl
    by_cases h2 : M < x
    · rw [if_pos h2]
      go_enter Tryz.func89, Tryz.ntmps89
      go_wp2_with (go_at_call 108; (with_reducible refine HF.out.mono ?_); rintro y w' ⟨rfl, rfl⟩)
      refine (rest_any _ _ _ _ _ H.out).mono ?_
      rintro y w1 ⟨A1, c1, rfl, hR1, hc1, hm1, k1⟩
      rw [HM.out] at hR1 hc1 ⊢
      have HR1 := Lib.hid hR1; have HC1 := Lib.hid hc1; clear hR1 hc1
      go_wp2_with fail
      refine (HG.out w1 A1 c1 HR1.out HC1.out hm1).mono ?_
      rintro y w2 ⟨rfl, hd2⟩
      have k2 : Drw w1 w2 := hd2
      have hi2 := (H.out.drw k1).drw k2
      have hw2 : Drw w w2 := k1.trans k2
      have HI2 := Lib.hid hi2; have HW2 := Lib.hid hw2; clear hi2 hw2 hd2 k2 k1 HR1 HC1 hm1
      have hfl := fail_any _ g t p 0 4 HI2.out
      rw [show ((4 : Nat) : Int) = 4 from rfl] at hfl
      have HFL := Lib.hid hfl; clear hfl
      go_wp2_with (go_at_call 147; (with_reducible refine HFL.out.mono ?_); rintro y w5 ⟨rfl, rfl⟩)
      go_ret
      exact ⟨_, rfl, World.ownsRow_nil _ _ _ 1, HI2.out.bad 4, ((Only.refl g w).drw HW2.out).set_ (.inl rfl) _⟩
    · rw [if_neg h2]
      by_cases h3 : k < x
      · rw [if_pos h3]
        go_enter Tryz.func89, Tryz.ntmps89
        go_wp2_with (go_at_call 108; (with_reducible refine HF.out.mono ?_); rintro y w' ⟨rfl, rfl⟩)
        refine (rest_any _ _ _ _ _ H.out).mono ?_
        rintro y w1 ⟨A1, c1, rfl, hR1, hc1, hm1, k1⟩
        rw [HM.out] at hR1 hc1 ⊢
        have HR1 := Lib.hid hR1; have HC1 := Lib.hid hc1; clear hR1 hc1
        go_wp2_with fail
        refine (HG.out w1 A1 c1 HR1.out HC1.out hm1).mono ?_
        rintro y w2 ⟨rfl, hd2⟩
        have k2 : Drw w1 w2 := hd2
        have hi2 := (H.out.drw k1).drw k2
        have hw2 : Drw w w2 := k1.trans k2
        have HI2 := Lib.hid hi2; have HW2 := Lib.hid hw2; clear hi2 hw2 hd2 k2 k1 HR1 HC1 hm1
        go_wp2_with fail
        refine (rest_any _ _ _ _ _ HI2.out).mono ?_
        rintro y w3 ⟨A3, c3, rfl, hR3, hc3, hm3, k3⟩
        rw [HM.out] at hR3 hc3 ⊢
        have hi3 := HI2.out.drw k3
        have HW3 := Lib.hid (HW2.out.trans k3); have HI3 := Lib.hid hi3; clear HI2 HW2 hR3 hc3 hm3 k3 hi3
        have hfl := fail_any _ g t p 0 5 HI3.out
        rw [show ((5 : Nat) : Int) = 5 from rfl] at hfl
        have HFL := Lib.hid hfl; clear hfl
        go_wp2_with (go_at_call 147; (with_reducible refine HFL.out.mono ?_); rintro y w5 ⟨rfl, rfl⟩)
        go_ret
        exact ⟨_, rfl, World.ownsRow_nil _ _ _ 1, HI3.out.bad 5, ((Only.refl g w).drw HW3.out).set_ (.inl rfl) _⟩
      · rw [if_neg h3]
        have hxk : x ≤ k := by omega
        have hxz : (x : Int) ≤ 1000000 := by omega
        have key : ∀ (T : List UInt8), ((t.drop p).drop n).take x = T → T.length = x := fun T hT => by
          rw [← hT, List.length_take, List.length_drop, List.length_drop, HM.out]; have := HK.out; omega
        obtain ⟨T, hT⟩ : ∃ T, ((t.drop p).drop n).take x = T := ⟨_, rfl⟩
        have hTl := key T hT
        rw [hT, hTl]
        have HT := Lib.hid hT; have HTL := Lib.hid hTl; clear key hT hTl
        go_enter Tryz.func89, Tryz.ntmps89
        go_wp2_with (go_at_call 108; (with_reducible refine HF.out.mono ?_); rintro y w' ⟨rfl, rfl⟩)
        refine (rest_any _ _ _ _ _ H.out).mono ?_
        rintro y w1 ⟨A1, c1, rfl, hR1, hc1, hm1, k1⟩
        rw [HM.out] at hR1 hc1 ⊢
        have HR1 := Lib.hid hR1; have HC1 := Lib.hid hc1; clear hR1 hc1
        go_wp2_with fail
        refine (HG.out w1 A1 c1 HR1.out HC1.out hm1).mono ?_
        rintro y w2 ⟨rfl, hd2⟩
        have k2 : Drw w1 w2 := hd2
        have hi2 := (H.out.drw k1).drw k2
        have hw2 : Drw w w2 := k1.trans k2
        have HI2 := Lib.hid hi2; have HW2 := Lib.hid hw2; clear hi2 hw2 hd2 k2 k1 HR1 HC1 hm1
        go_wp2_with fail
        refine (rest_any _ _ _ _ _ HI2.out).mono ?_
        rintro y w3 ⟨A3, c3, rfl, hR3, hc3, hm3, k3⟩
        rw [HM.out] at hR3 hc3 ⊢
        have HW3 := Lib.hid (HW2.out.trans k3); have HI3 := Lib.hid (HI2.out.drw k3); clear HI2 HW2 hR3 hc3 hm3 k3
        go_wp2_with fail
        refine (rest_any _ _ _ _ _ HI3.out).mono ?_
        rintro y w4 ⟨A4, c4, rfl, hR4, hc4, hm4, k4⟩
        rw [HM.out] at hR4 hc4 ⊢
        obtain ⟨a, rfl, hab, _⟩ := hR4.2 hm0
        have HW4 := Lib.hid (HW3.out.trans k4); have HI4 := Lib.hid (HI3.out.drw k4); have HR4 := Lib.hid hR4; clear HI3 HW3 hR4 k4
        have hcc := hm4
        unfold maxLen at hcc
        have hnx : (n : Int) + (x : Int) ≤ (c4 : Int) := by have := HK.out; omega
        have hz4 : w.heap.size = w4.heap.size := by obtain ⟨j, hj⟩ := HW4.out; rw [hj]; rfl
        have hnil := World.ownsRow_nil w4 w.heap.size 5 1
        have HZ4 := Lib.hid hz4; have HNIL := Lib.hid hnil; clear hz4 hnil
        by_cases hnc : n = c4
        · have hx0 : x = 0 := by have := HK.out; omega
          subst hx0
          subst hnc
          have hT0 : T = [] := List.eq_nil_of_length_eq_zero HTL.out
          have hrd : Rd w4 g 1 (some a) 0 (u8s T) := by rw [hT0]; exact ⟨rfl, fun h => absurd h (by omega)⟩
          have HRD := Lib.hid hrd; clear hrd
          have hT0' := Lib.hid hT0; clear hT0
          go_wp2_with (at_builtin; (refine wpList_appS _ rfl _ (.tmp 49) 27 rfl w.heap.size 5 (.int .u8 0) 1 1 info_u8 rfl (by decide) Tryz.underlying27 (.slice none 0 0) 0 [] HNIL.out ?_ _ (some a) 0 0 (u8s T) HRD.out ?_ (u8s_one _) ?_ ?_ ?_ ?_); rfl; rfl; omega; omega; (have := HZ4.out; omega); intro v5 w5 ho5 hap5; have hb5 := hap5.below_nil (Nat.le_refl _); rw [Nat.zero_add, List.nil_append] at ho5; have hi5 := HI4.out.below hb5 (by have := HZ4.out; omega); obtain ⟨A6, c6, hb6, _, _, _, _⟩ := hi5; have x2 := hb6.cell 2; have f2 := hb6.frozen 2; simp at x2; have HI5 := Lib.hid (HI4.out.below hb5 (by have := HZ4.out; omega)); have HO5 := Lib.hid ho5; have HB5 := Lib.hid hb5; have HB6 := Lib.hid hb6; clear ho5 hb5 hap5 hb6)
          go_ret
          have hmv := HI5.out.move (p + (n + 0)) (by have := HK.out; have := HM.out; omega)
          rw [show ((p + (n + 0) : Nat) : Int) = (p : Int) + (n : Int) from by omega] at hmv
          have hne5 : v5.ownBlock ≠ some g := fun e => by have := (HO5.out.lt g e).1; omega
          exact ⟨_, rfl, (Only.set1 w5 g 2 _).own HO5.out hne5, hmv, (((Only.refl g w).drw HW4.out).belowT HB5.out).set_ (.inl rfl) _⟩
        · have hnc2 : (n : Int) < (c4 : Int) := by have := HK.out; omega
          have hnc3 : n ≠ c4 := hnc
          have hrd : Rd w4 g 1 (some (a.add n)) (n + x - n) (u8s T) := by
            rw [Nat.add_sub_cancel_left, ← HT.out]
            exact rd_cut HR4.out (by have := HK.out; omega) (by have := HK.out; omega)
          have HRD := Lib.hid hrd; clear hrd hnc3
          go_wp2_with (at_builtin; (refine wpList_appS _ rfl _ (.tmp 49) 27 rfl w.heap.size 5 (.int .u8 0) 1 1 info_u8 rfl (by decide) Tryz.underlying27 (.slice none 0 0) 0 [] HNIL.out ?_ _ (some (a.add n)) (n + x - n) (c4 - n) (u8s T) HRD.out ?_ (u8s_one _) ?_ ?_ ?_ ?_); rfl; rfl; omega; omega; (have := HZ4.out; omega); intro v5 w5 ho5 hap5; have hb5 := hap5.below_nil (Nat.le_refl _); rw [Nat.zero_add, Nat.add_sub_cancel_left, List.nil_append] at ho5; have hi5 := HI4.out.below hb5 (by have := HZ4.out; omega); obtain ⟨A6, c6, hb6, _, _, _, _⟩ := hi5; have x2 := hb6.cell 2; have f2 := hb6.frozen 2; simp at x2; have HI5 := Lib.hid (HI4.out.below hb5 (by have := HZ4.out; omega)); have HO5 := Lib.hid ho5; have HB5 := Lib.hid hb5; have HB6 := Lib.hid hb6; clear ho5 hb5 hap5 hb6)
          go_ret
          have hmv := HI5.out.move (p + (n + x)) (by have := HK.out; have := HM.out; omega)
          rw [show ((p + (n + x) : Nat) : Int) = (p : Int) + ((n : Int) + (x : Int)) from by omega] at hmv
          have hne5 : v5.ownBlock ≠ some g := fun e => by have := (HO5.out.lt g e).1; omega
          exact ⟨_, rfl, (Only.set1 w5 g 2 _).own HO5.out hne5, hmv, (((Only.refl g w).drw HW4.out).belowT HB5.out).set_ (.inl rfl) _⟩
  · rw [if_pos h1]
    have t1 : ((er : Int) == 0) = false := by rw [beq_eq_false_iff_ne]; omega
    have t2 : ((er : Int) != 0) = true := by rw [bne_iff_ne]; omega
    have H1 := Lib.hid h1; clear h1 hne hfit
    go_enter Tryz.func89, Tryz.ntmps89
    go_wp2_with (go_at_call 108; (with_reducible refine HF.out.mono ?_); rintro y w' ⟨rfl, rfl⟩)
    refine (rest_any _ _ _ _ _ H.out).mono ?_
    rintro y w1 ⟨A1, c1, rfl, hR1, hc1, hm1, k1⟩
    rw [HM.out] at hR1 hc1 ⊢
    have HR1 := Lib.hid hR1; have HC1 := Lib.hid hc1; clear hR1 hc1
    go_wp2_with fail
    refine (HG.out w1 A1 c1 HR1.out HC1.out hm1).mono ?_
    rintro y w2 ⟨rfl, hd2⟩
    have k2 : Drw w1 w2 := hd2
    have hi2 := (H.out.drw k1).drw k2
    have hw2 : Drw w w2 := k1.trans k2
    have HI2 := Lib.hid hi2; have HW2 := Lib.hid hw2; clear hi2 hw2 hd2 k2 k1 HR1 HC1 hm1
    have hfl := fail_any _ g t p 0 er HI2.out
    skip
    have HFL := Lib.hid hfl; clear hfl
    go_wp2_with (go_at_call 147; (with_reducible refine HFL.out.mono ?_); rintro y w5 ⟨rfl, rfl⟩)
    go_ret
    exact ⟨_, rfl, World.ownsRow_nil _ _ _ 1, HI2.out.bad er, ((Only.refl g w).drw HW2.out).set_ (.inl rfl) _⟩
end Go.Proofs.YtfhmaincnlaapaaGreat
namespace Go.Proofs.YtfhmaincnlaapaaGreat
open Go.ChangeShapes Go.WideShapes Go.ChangeAt Go.RowKit
set_option linter.unusedVariables false

/-- a thing that is asked for -/
structure AskS where
  d : Int
  u : Nat
  i : Int
  f : Nat
  s : ByteArray
  m : Int
end Go.Proofs.YtfhmaincnlaapaaGreat
namespace Go.Proofs.YtfhmaincnlaapaaGreat
open Go.ChangeShapes Go.WideShapes Go.ChangeAt Go.RowKit
set_option linter.unusedVariables false

section
variable {w : World} {B n : Nat} {A : Option Addr} {l : List AskS}
end
end Go.Proofs.YtfhmaincnlaapaaGreat
namespace Go.Proofs.YtfhmaincnlaapaaGreat
open Go.ChangeShapes Go.WideShapes Go.ChangeAt Go.RowKit Go.Deep
set_option linter.unusedVariables false

/-- how a thing is read out of some cells; what it leads to lies below block B -/
structure Rp (α : Type) where
  size : Nat
  rep : World → Nat → α → List Value → Prop
  len : ∀ {w : World} {B : Nat} {x : α} {cs : List Value}, rep w B x cs → cs.length = size
  one : ∀ {w : World} {B : Nat} {x : α} {cs : List Value}, rep w B x cs → ∀ u ∈ cs, u.oneCell' = true
  keep : ∀ {w w' : World} {B B' : Nat} {x : α} {cs : List Value}, rep w B x cs → Below B w w' → B ≤ B' → rep w' B' x cs

def Rp.val {α : Type} (f : α → Value) (ok : α → Prop) (h1 : ∀ x, (f x).oneCell' = true) : Rp α where
  size := 1
  rep _ _ x cs := cs = [f x] ∧ ok x
  len h := by rw [h.1]; rfl
  one h := by rw [h.1]; intro u hu; rw [List.mem_singleton] at hu; rw [hu]; exact h1 _
  keep h _ _ := h
def Rp.two {α β γ : Type} (p : α → β) (q : α → γ) (R : Rp β) (S : Rp γ) : Rp α where
  size := R.size + S.size
  rep w B x cs := ∃ c d, cs = c ++ d ∧ R.rep w B (p x) c ∧ S.rep w B (q x) d
  len h := by obtain ⟨c, d, rfl, h1, h2⟩ := h; rw [List.length_append, R.len h1, S.len h2]
  one h := by
    obtain ⟨c, d, rfl, h1, h2⟩ := h
    intro u hu
    rcases List.mem_append.1 hu with hu | hu
    · exact R.one h1 u hu
    · exact S.one h2 u hu
  keep h hb hB := by obtain ⟨c, d, rfl, h1, h2⟩ := h; exact ⟨c, d, rfl, R.keep h1 hb hB, S.keep h2 hb hB⟩

/-- the cells of a list of things -/
def Chunk {α : Type} (R : Rp α) (w : World) (B : Nat) : List α → List Value → Prop
  | [], xs => xs = []
  | x :: l, xs => ∃ c rest, xs = c ++ rest ∧ R.rep w B x c ∧ Chunk R w B l rest
section
variable {α : Type} {R : Rp α} {w w' : World} {B B' : Nat} {l m : List α} {xs ys : List Value}
theorem Chunk.len (h : Chunk R w B l xs) : xs.length = l.length * R.size := by
  induction l generalizing xs with
  | nil => cases h; simp
  | cons x l ih => obtain ⟨c, rest, rfl, h1, h2⟩ := h; rw [List.length_append, R.len h1, ih h2, List.length_cons, Nat.succ_mul]; omega
theorem Chunk.one (h : Chunk R w B l xs) : ∀ u ∈ xs, u.oneCell' = true := by
  induction l generalizing xs with
  | nil => cases h; simp
  | cons x l ih =>
    obtain ⟨c, rest, rfl, h1, h2⟩ := h
    intro u hu
    rcases List.mem_append.1 hu with hu | hu
    · exact R.one h1 u hu
    · exact ih h2 u hu
theorem Chunk.keep (h : Chunk R w B l xs) (hb : Below B w w') (hB : B ≤ B') : Chunk R w' B' l xs := by
  induction l generalizing xs with
  | nil => exact h
  | cons x l ih => obtain ⟨c, rest, rfl, h1, h2⟩ := h; exact ⟨c, rest, rfl, R.keep h1 hb hB, ih h2⟩
theorem Chunk.nil : Chunk R w B [] [] := rfl
theorem Chunk.app (h : Chunk R w B l xs) (k : Chunk R w B m ys) : Chunk R w B (l ++ m) (xs ++ ys) := by
  induction l generalizing xs with
  | nil => cases h; exact k
  | cons x l ih => obtain ⟨c, rest, rfl, h1, h2⟩ := h; exact ⟨c, rest ++ ys, by rw [List.append_assoc], h1, ih h2⟩
theorem Chunk.snoc {x : α} {c : List Value} (h : Chunk R w B l xs) (k : R.rep w B x c) : Chunk R w B (l ++ [x]) (xs ++ c) := h.app ⟨c, [], by simp, k, rfl⟩
theorem Chunk.get (h : Chunk R w B l xs) (i : Nat) (hi : i < l.length) : ∃ c, R.rep w B l[i] c ∧ ∀ j, j < R.size → xs[i * R.size + j]? = c[j]? := by
  induction l generalizing xs i with
  | nil => simp at hi
  | cons x l ih =>
    obtain ⟨c, rest, rfl, h1, h2⟩ := h
    have hl := R.len h1
    cases i with
    | zero => exact ⟨c, h1, fun j hj => by rw [Nat.zero_mul, Nat.zero_add, List.getElem?_append_left (by omega)]⟩
    | succ i =>
      obtain ⟨c', k1, k2⟩ := ih h2 i (by simpa using hi)
      refine ⟨c', k1, fun j hj => ?_⟩
      rw [List.getElem?_append_right (by rw [hl, Nat.succ_mul]; omega), hl, show (i + 1) * R.size + j - R.size = i * R.size + j from by rw [Nat.succ_mul]; omega]
      exact k2 j hj
theorem chunk_val {β : Type} {f : β → Value} {ok : β → Prop} {h1 : ∀ x, (f x).oneCell' = true} {l : List β} : Chunk (Rp.val f ok h1) w B l xs ↔ xs = l.map f ∧ ∀ x ∈ l, ok x := by
  induction l generalizing xs with
  | nil => simp [Chunk]
  | cons x l ih =>
    constructor
    · rintro ⟨c, rest, rfl, ⟨rfl, h2⟩, h3⟩
      obtain ⟨rfl, h4⟩ := ih.1 h3
      exact ⟨rfl, fun y hy => by rcases List.mem_cons.1 hy with rfl | hy; exact h2; exact h4 y hy⟩
    · rintro ⟨rfl, h2⟩
      exact ⟨[f x], l.map f, rfl, ⟨rfl, h2 x (by simp)⟩, ih.2 ⟨rfl, fun y hy => h2 y (by simp [hy])⟩⟩
end

def Rp.sl {α : Type} (R : Rp α) : Rp (List α) where
  size := 1
  rep w B l cs := ∃ A c xs, cs = [.slice A l.length c] ∧ l.length ≤ c ∧ c ≤ maxLen ∧ Rd w B R.size A l.length xs ∧ Chunk R w B l xs
  len h := by obtain ⟨A, c, xs, rfl, _⟩ := h; rfl
  one h := by obtain ⟨A, c, xs, rfl, _⟩ := h; intro u hu; rw [List.mem_singleton] at hu; rw [hu]; rfl
  keep h hb hB := by obtain ⟨A, c, xs, rfl, h1, h2, h3, h4⟩ := h; exact ⟨A, c, xs, rfl, h1, h2, (h3.below hb).more hB, h4.keep hb hB⟩

/-- a slice value that reads as a list of things -/
def SlR {α : Type} (R : Rp α) (w : World) (B : Nat) (l : List α) (A : Option Addr) (c : Nat) : Prop := l.length ≤ c ∧ c ≤ maxLen ∧ ∃ xs, Rd w B R.size A l.length xs ∧ Chunk R w B l xs
section
variable {α : Type} {R : Rp α} {w w' : World} {B B' c : Nat} {A : Option Addr} {l : List α}
theorem SlR.keep (h : SlR R w B l A c) (hb : Below B w w') (hB : B ≤ B') : SlR R w' B' l A c := by
  obtain ⟨h1, h2, xs, h3, h4⟩ := h; exact ⟨h1, h2, xs, (h3.below hb).more hB, h4.keep hb hB⟩
theorem SlR.mono (h : SlR R w B l A c) (hB : B ≤ B') : SlR R w B' l A c := h.keep (Below.refl _ _) hB
theorem SlR.drewN (h : SlR R w B l A c) (k : Nat) : SlR R (w.drewN k) B l A c := h.keep (below_drewN (Below.refl _ _) k) (Nat.le_refl _)
theorem SlR.get (h : SlR R w B l A c) {i : Nat} (hi : i < l.length) : ∃ a cs, A = some a ∧ a.block < B ∧ R.rep w B l[i] cs ∧ ∀ j, j < R.size → w.cell? (a.add (i * R.size + j)) = cs[j]? := by
  obtain ⟨_, _, xs, h3, h4⟩ := h
  obtain ⟨a, rfl, hb, hc⟩ := h3.2 (by omega)
  obtain ⟨cs, h5, h6⟩ := h4.get i hi
  refine ⟨a, cs, rfl, hb, h5, fun j hj => ?_⟩
  have hl : j < cs.length := by rw [R.len h5]; exact hj
  have e := h6 j hj
  rw [List.getElem?_eq_getElem hl] at e
  rw [List.getElem?_eq_getElem hl]
  exact hc _ _ e
theorem SlR.nil : SlR R w B [] none 0 := ⟨Nat.le_refl _, by simp [maxLen], [], Rd.nil, rfl⟩
theorem SlR.own {base : Nat} {e : TypeId} {xs : List Value} (h : w.ownsRow base e R.size (.slice A l.length c) l.length xs) (hx : Chunk R w w.heap.size l xs) : SlR R w w.heap.size l A c := by
  have := Rd.own h
  obtain ⟨A', c', e', h1, h2, _⟩ : ∃ A' c', (Value.slice A l.length c) = .slice A' l.length c' ∧ l.length ≤ c' ∧ c' ≤ maxLen ∧ l.length ≤ maxLen := own_form h
  injection e' with _ _ e'
  exact ⟨by omega, by omega, xs, this, hx⟩
end

/-! ### what an argument reads as -/
def Opens {α : Type} (P : Program) (t : TypeId) (R : Rp α) : Prop :=
  ∀ (H : Type) (enc : TypeId × Value → H) (w : World) (base : Nat) (spare : Nat → Bool) (held : Bool) (fuel : Nat) (cs : List Value) (x : DataW H × List MemPlace), DataW.trod enc P w base spare held fuel t cs = some x → ∃ y, R.rep w w.heap.size y cs
section
variable {P : Program} {t : TypeId}
theorem opens_slice {α : Type} {R : Rp α} {e : TypeId} (ht : P.underlying t = some (.slice e)) (hC : P.cellsOf e = R.size) (hp : 0 < R.size) (he : Opens P e R) : Opens P t R.sl := by
  intro H enc w base spare held fuel cs x h
  rcases open_slice ht h with ⟨rfl, _⟩ | ⟨a, len, cap, m, n, D, Pl, rfl, hb, hl, hm, hmm, hx, hi⟩
  · exact ⟨[], none, 0, [], rfl, Nat.le_refl _, by simp [maxLen], Rd.nil, rfl⟩
  · have key : ∀ i, i < len → ∃ yc : α × List Value, R.rep w w.heap.size yc.1 yc.2 ∧ ∀ j, j < R.size → w.cell? (a.add (i * R.size + j)) = yc.2[j]? := by
      intro i hil
      obtain ⟨cs', hc, ht'⟩ := hi i (by split at hmm <;> omega)
      obtain ⟨_, hcl, hat⟩ := World.cells?_some hc
      obtain ⟨y, hy⟩ := he H enc w base spare held n cs' _ ht'
      refine ⟨(y, cs'), hy, fun j hj => ?_⟩
      have := hat j (by omega)
      rw [Go.Deep.add_add, hC] at this
      exact this
    have build : ∀ k, k ≤ len → ∃ (l : List α) (xs : List Value), l.length = k ∧ Chunk R w w.heap.size l xs ∧ ∀ i j, i < k → j < R.size → w.cell? (a.add (i * R.size + j)) = xs[i * R.size + j]? := by
      intro k
      induction k with
      | zero => intro _; exact ⟨[], [], rfl, rfl, fun i j hi => by omega⟩
      | succ k ih =>
        intro hk
        obtain ⟨l, xs, rfl, h1, h2⟩ := ih (by omega)
        obtain ⟨⟨y, c⟩, h3, h4⟩ := key l.length (by omega)
        refine ⟨l ++ [y], xs ++ c, by simp, h1.snoc h3, fun i j hi hj => ?_⟩
        have hxl := h1.len
        have hcl := R.len h3
        by_cases e : i = l.length
        · subst e
          rw [List.getElem?_append_right (by omega), hxl, Nat.add_sub_cancel_left]; exact h4 j hj
        · have : (i + 1) * R.size ≤ l.length * R.size := Nat.mul_le_mul_right _ (by omega)
          rw [Nat.succ_mul] at this
          rw [List.getElem?_append_left (by omega)]; exact h2 i j (by omega) hj
    obtain ⟨l, xs, rfl, h1, h2⟩ := build len (Nat.le_refl _)
    refine ⟨l, some a, cap, xs, rfl, hl, hm, ⟨h1.len, fun hn => ⟨a, rfl, ?_, fun j u hu => ?_⟩⟩, h1⟩
    · have := h2 0 0 hn hp
      rw [Nat.zero_mul, Nat.zero_add] at this
      have hx0 : 0 < xs.length := by rw [h1.len]; exact Nat.mul_pos hn hp
      rw [List.getElem?_eq_getElem hx0] at this
      have := World.block_lt_of_cell? w _ this
      rwa [block_add] at this
    · have hj : j < xs.length := (List.getElem?_eq_some_iff.1 hu).1
      rw [h1.len] at hj
      have hd : j / R.size < l.length := Nat.div_lt_of_lt_mul (by rw [Nat.mul_comm]; exact hj)
      have := h2 (j / R.size) (j % R.size) hd (Nat.mod_lt _ hp)
      rw [Nat.mul_comm, Nat.div_add_mod] at this
      rw [this]; exact hu
theorem opens_string (ht : P.underlying t = some .string) (h1 : ∀ x : ByteArray, (Value.string x).oneCell' = true) : Opens P t (Rp.val Value.string (fun s => s.size ≤ maxLen) h1) := by
  intro H enc w base spare held fuel cs x h
  obtain ⟨s, rfl, _, hs⟩ := DataW.trod_string ht h
  exact ⟨s, rfl, hs⟩
theorem opens_int {k : IntKind} (ht : P.underlying t = some (.int k)) (h1 : ∀ x : Int, (Value.int k x).oneCell' = true) : Opens P t (Rp.val (Value.int k) (fun z => (Lit.int k z).wf = true) h1) := by
  intro H enc w base spare held fuel cs x h
  obtain ⟨s, rfl, _, hs⟩ := DataW.trod_int ht h
  exact ⟨s, rfl, hs⟩
theorem opens_two {α β γ : Type} {R : Rp β} {S : Rp γ} {p : α → β} {q : α → γ} {t : TypeId} {f0 f1 : Field} (ht : P.underlying t = some (.struct #[f0, f1])) (ho0 : f0.offset = 0) (ho1 : f1.offset = R.size) (hs0 : P.cellsOf f0.type = R.size) (hs1 : P.cellsOf f1.type = S.size) (hC : P.cellsOf t = R.size + S.size)
    (h0 : Opens P f0.type R) (h1 : Opens P f1.type S) (mk : β → γ → α) (hp : ∀ a b, p (mk a b) = a) (hq : ∀ a b, q (mk a b) = b) : Opens P t (Rp.two p q R S) := by
  intro H enc w base spare held fuel cs x h
  obtain ⟨xs, n, _, hx, hlen, hxl, hg⟩ := DataW.trod_struct ht h
  rw [hC] at hlen
  match xs, hxl with
  | [a0, a1], _ =>
    have g0 := hg 0 f0 rfl
    have g1 := hg 1 f1 rfl
    rw [ho0, hs0, List.drop_zero] at g0
    rw [ho1, hs1] at g1
    obtain ⟨b0, r0⟩ := h0 H enc w base spare held n _ _ g0
    obtain ⟨b1, r1⟩ := h1 H enc w base spare held n _ _ g1
    rw [List.take_of_length_le (by rw [List.length_drop]; omega)] at r1
    exact ⟨mk b0 b1, _, _, (List.take_append_drop R.size cs).symm, by rw [hp]; exact r0, by rw [hq]; exact r1⟩
theorem opens_three {α β γ δ : Type} {R : Rp β} {S : Rp γ} {T : Rp δ} {p : α → β} {q : α → γ} {r : α → δ} {t : TypeId} {f0 f1 f2 : Field} (ht : P.underlying t = some (.struct #[f0, f1, f2])) (ho0 : f0.offset = 0) (ho1 : f1.offset = R.size) (ho2 : f2.offset = R.size + S.size) (hs0 : P.cellsOf f0.type = R.size) (hs1 : P.cellsOf f1.type = S.size) (hs2 : P.cellsOf f2.type = T.size) (hC : P.cellsOf t = R.size + S.size + T.size)
    (h0 : Opens P f0.type R) (h1 : Opens P f1.type S) (h2 : Opens P f2.type T) (mk : β → γ → δ → α) (hp : ∀ a b c, p (mk a b c) = a) (hq : ∀ a b c, q (mk a b c) = b) (hr : ∀ a b c, r (mk a b c) = c) : Opens P t (Rp.two p id R (Rp.two q r S T)) := by
  intro H enc w base spare held fuel cs x h
  obtain ⟨xs, n, _, hx, hlen, hxl, hg⟩ := DataW.trod_struct ht h
  rw [hC] at hlen
  match xs, hxl with
  | [a0, a1, a2], _ =>
    have g0 := hg 0 f0 rfl
    have g1 := hg 1 f1 rfl
    have g2 := hg 2 f2 rfl
    rw [ho0, hs0, List.drop_zero] at g0
    rw [ho1, hs1] at g1
    rw [ho2, hs2] at g2
    obtain ⟨b0, r0⟩ := h0 H enc w base spare held n _ _ g0
    obtain ⟨b1, r1⟩ := h1 H enc w base spare held n _ _ g1
    obtain ⟨b2, r2⟩ := h2 H enc w base spare held n _ _ g2
    rw [List.take_of_length_le (by rw [List.length_drop]; omega), ← List.drop_drop] at r2
    exact ⟨mk b0 b1 b2, _, _, (List.take_append_drop R.size cs).symm, by rw [hp]; exact r0, _, _, (List.take_append_drop S.size _).symm, by simp only [id_eq]; rw [hq]; exact r1, by simp only [id_eq]; rw [hr]; exact r2⟩
theorem opens_four {α β γ δ ε : Type} {R : Rp β} {S : Rp γ} {T : Rp δ} {U : Rp ε} {p : α → β} {q : α → γ} {r : α → δ} {s : α → ε} {t : TypeId} {f0 f1 f2 f3 : Field} (ht : P.underlying t = some (.struct #[f0, f1, f2, f3])) (ho0 : f0.offset = 0) (ho1 : f1.offset = R.size) (ho2 : f2.offset = R.size + S.size) (ho3 : f3.offset = R.size + S.size + T.size) (hs0 : P.cellsOf f0.type = R.size) (hs1 : P.cellsOf f1.type = S.size) (hs2 : P.cellsOf f2.type = T.size) (hs3 : P.cellsOf f3.type = U.size) (hC : P.cellsOf t = R.size + S.size + T.size + U.size)
    (h0 : Opens P f0.type R) (h1 : Opens P f1.type S) (h2 : Opens P f2.type T) (h3 : Opens P f3.type U) (mk : β → γ → δ → ε → α) (hp : ∀ a b c d, p (mk a b c d) = a) (hq : ∀ a b c d, q (mk a b c d) = b) (hr : ∀ a b c d, r (mk a b c d) = c) (hs : ∀ a b c d, s (mk a b c d) = d) : Opens P t (Rp.two p id R (Rp.two q id S (Rp.two r s T U))) := by
  intro H enc w base spare held fuel cs x h
  obtain ⟨xs, n, _, hx, hlen, hxl, hg⟩ := DataW.trod_struct ht h
  rw [hC] at hlen
  match xs, hxl with
  | [a0, a1, a2, a3], _ =>
    have g0 := hg 0 f0 rfl
    have g1 := hg 1 f1 rfl
    have g2 := hg 2 f2 rfl
    have g3 := hg 3 f3 rfl
    rw [ho0, hs0, List.drop_zero] at g0
    rw [ho1, hs1] at g1
    rw [ho2, hs2] at g2
    rw [ho3, hs3] at g3
    obtain ⟨b0, r0⟩ := h0 H enc w base spare held n _ _ g0
    obtain ⟨b1, r1⟩ := h1 H enc w base spare held n _ _ g1
    obtain ⟨b2, r2⟩ := h2 H enc w base spare held n _ _ g2
    obtain ⟨b3, r3⟩ := h3 H enc w base spare held n _ _ g3
    rw [← List.drop_drop] at r2
    rw [List.take_of_length_le (by rw [List.length_drop]; omega), ← List.drop_drop, ← List.drop_drop] at r3
    exact ⟨mk b0 b1 b2 b3, _, _, (List.take_append_drop R.size cs).symm, by rw [hp]; exact r0, _, _, (List.take_append_drop S.size _).symm, by simp only [id_eq]; rw [hq]; exact r1, _, _, (List.take_append_drop T.size _).symm, by simp only [id_eq]; rw [hr]; exact r2, by simp only [id_eq]; rw [hs]; exact r3⟩
theorem open_arg_sl {α : Type} {R : Rp α} {H : Type} {enc : TypeId × Value → H} {w : World} {base : Nat} {spare : Nat → Bool} {held : Bool} {r : Reach} {b0 : Nat} {e : TypeId} {v : Value} {d : DataW H} {ps : List MemPlace} (ht : P.underlying t = some (.slice e)) (hC : P.cellsOf e = R.size) (hp : 0 < R.size) (he : Opens P e R)
    (hv : Value.okWide P w r b0 t v) (h : DataW.Trod enc P w base spare held t v d ps) : ∃ l A c, v = .slice A l.length c ∧ SlR R w w.heap.size l A c := by
  obtain ⟨a, len, cap, rfl⟩ := okWide_slice ht hv
  obtain ⟨fuel, hf⟩ := h
  obtain ⟨y, hy⟩ := opens_slice ht hC hp he H enc w base spare held fuel _ _ hf
  obtain ⟨A, c, xs, e1, h1, h2, h3, h4⟩ := hy
  simp [Value.cells] at e1
  obtain ⟨rfl, rfl, rfl⟩ := e1
  exact ⟨y, _, _, rfl, h1, h2, xs, h3, h4⟩
end
end Go.Proofs.YtfhmaincnlaapaaGreat
namespace Go.Proofs.YtfhmaincnlaapaaGreat
open Go.ChangeShapes Go.WideShapes Go.ChangeAt Go.RowKit Go.Deep Go.Joins
set_option linter.unusedVariables false

structure Sch where
  dims : List (ByteArray × Int)
  ints : List ByteArray
  nums : List ByteArray
  views : List Int
abbrev strR : Rp ByteArray := Rp.val Value.string (fun s => s.size ≤ maxLen) (fun _ => rfl)
abbrev i64R : Rp Int := Rp.val (Value.int .i64) (fun z => (Lit.int .i64 z).wf = true) (fun _ => rfl)
abbrev u32R : Rp Int := Rp.val (Value.int .u32) (fun z => (Lit.int .u32 z).wf = true) (fun _ => rfl)
def dimR : Rp (ByteArray × Int) := Rp.two Prod.fst Prod.snd strR i64R
def schR : Rp Sch := Rp.two Sch.dims id dimR.sl (Rp.two Sch.ints id strR.sl (Rp.two Sch.nums Sch.views strR.sl u32R.sl))
theorem opens_dim : Opens Tryz.prog 79 dimR :=
  opens_two Tryz.underlying79 rfl rfl (by kernel_rfl) (by kernel_rfl) (by kernel_rfl) (opens_string Tryz.underlying9 _) (opens_int Tryz.underlying3 _) Prod.mk (fun _ _ => rfl) (fun _ _ => rfl)
theorem opens_strs : Opens Tryz.prog 23 strR.sl := opens_slice Tryz.underlying23 (by kernel_rfl) (by decide) (opens_string Tryz.underlying9 _)
theorem opens_sch : Opens Tryz.prog 26 schR :=
  opens_four Tryz.underlying26 rfl rfl rfl rfl (by kernel_rfl) (by kernel_rfl) (by kernel_rfl) (by kernel_rfl) (by kernel_rfl)
    (opens_slice Tryz.underlying22 (by kernel_rfl) (by decide) opens_dim) opens_strs opens_strs (opens_slice Tryz.underlying24 (by kernel_rfl) (by decide) (opens_int Tryz.underlying39 _))
    Sch.mk (fun _ _ _ _ => rfl) (fun _ _ _ _ => rfl) (fun _ _ _ _ => rfl) (fun _ _ _ _ => rfl)
def dimC (l : List (ByteArray × Int)) : List Value := l.flatMap fun x => [.string x.1, .int .i64 x.2]
abbrev u32s (l : List Int) : List Value := l.map (Value.int .u32)
theorem dim_chunk {w : World} {B : Nat} {l : List (ByteArray × Int)} {xs : List Value} (h : Chunk dimR w B l xs) : xs = dimC l ∧ ∀ x ∈ l, x.1.size ≤ maxLen ∧ -9223372036854775808 ≤ x.2 ∧ x.2 ≤ 9223372036854775807 := by
  induction l generalizing xs with
  | nil => cases h; exact ⟨rfl, fun x hx => by cases hx⟩
  | cons x l ih =>
    obtain ⟨c, rest, rfl, ⟨c1, c2, rfl, ⟨rfl, h1⟩, rfl, h2⟩, h3⟩ := h
    obtain ⟨rfl, e3⟩ := ih h3
    refine ⟨rfl, fun y hy => ?_⟩
    rcases List.mem_cons.1 hy with rfl | hy
    · exact ⟨h1, bounds_i64 h2⟩
    · exact e3 y hy
/-- a value that is a schema, in world w, all that it leads to below block B -/
def SchAt (w : World) (B : Nat) (v : Value) (S : Sch) : Prop :=
  ∃ A0 c0 A1 c1 A2 c2 A3 c3, v = .agg #[.slice A0 S.dims.length c0, .slice A1 S.ints.length c1, .slice A2 S.nums.length c2, .slice A3 S.views.length c3] ∧
    Rd w B 2 A0 S.dims.length (dimC S.dims) ∧ Rd w B 1 A1 S.ints.length (strs S.ints) ∧ Rd w B 1 A2 S.nums.length (strs S.nums) ∧ Rd w B 1 A3 S.views.length (u32s S.views) ∧
    (S.dims.length ≤ c0 ∧ c0 ≤ maxLen) ∧ (S.ints.length ≤ c1 ∧ c1 ≤ maxLen) ∧ (S.nums.length ≤ c2 ∧ c2 ≤ maxLen) ∧ (S.views.length ≤ c3 ∧ c3 ≤ maxLen)
structure SchOk (S : Sch) : Prop where
  dims : ∀ x ∈ S.dims, x.1.size ≤ maxLen ∧ -9223372036854775808 ≤ x.2 ∧ x.2 ≤ 9223372036854775807
  ints : ∀ x ∈ S.ints, x.size ≤ maxLen
  nums : ∀ x ∈ S.nums, x.size ≤ maxLen
  views : ∀ x ∈ S.views, 0 ≤ x ∧ x ≤ 4294967295
theorem schR_at {w : World} {B : Nat} {S : Sch} {cs : Array Value} (h : schR.rep w B S cs.toList) : SchAt w B (.agg cs) S ∧ SchOk S := by
  obtain ⟨_, _, e0, ⟨A0, c0, x0, rfl, a0, b0, r0, k0⟩, _, _, rfl, ⟨A1, c1, x1, rfl, a1, b1, r1, k1⟩, _, _, rfl, ⟨A2, c2, x2, rfl, a2, b2, r2, k2⟩, A3, c3, x3, rfl, a3, b3, r3, k3⟩ := h
  obtain ⟨rfl, d0⟩ := dim_chunk k0
  obtain ⟨rfl, d1⟩ := chunk_val.1 k1
  obtain ⟨rfl, d2⟩ := chunk_val.1 k2
  obtain ⟨rfl, d3⟩ := chunk_val.1 k3
  refine ⟨⟨A0, c0, A1, c1, A2, c2, A3, c3, ?_, r0, r1, r2, r3, ⟨a0, b0⟩, ⟨a1, b1⟩, ⟨a2, b2⟩, a3, b3⟩, ⟨d0, d1, d2, fun x hx => bounds_u32 (d3 x hx)⟩⟩
  congr 1
  apply Array.ext'
  rw [e0]; rfl
set_option maxRecDepth 100000 in
theorem open_schema {H : Type} {enc : TypeId × Value → H} {w : World} {base : Nat} {spare : Nat → Bool} {held : Bool} {r : Reach} {b0 : Nat} {v : Value} {d : DataW H} {p : List MemPlace} (hv : Value.okWide Tryz.prog w r b0 26 v) (h : DataW.Trod enc Tryz.prog w base spare held 26 v d p) :
    ∃ S : Sch, SchAt w w.heap.size v S ∧ SchOk S := by
  obtain ⟨cs, rfl, hsz⟩ := okWide_struct Tryz.underlying26 hv
  obtain ⟨fuel, hf⟩ := h
  obtain ⟨S, hS⟩ := opens_sch H enc w base spare held fuel _ _ hf
  have : schR.rep w w.heap.size S cs.toList := by simpa [Value.cells] using hS
  exact ⟨S, schR_at this⟩
end Go.Proofs.YtfhmaincnlaapaaGreat
namespace Go.Proofs.YtfhmaincnlaapaaGreat
open Go.ChangeShapes Go.WideShapes Go.ChangeAt Go.RowKit Go.Deep
set_option linter.unusedVariables false

theorem opens_f64 {P : Program} {t : TypeId} (ht : P.underlying t = some (.float .f64)) (h1 : ∀ x : Nat, (Value.float .f64 x).oneCell' = true) : Opens P t (Rp.val (Value.float .f64) (fun b => b < 18446744073709551616) h1) := by
  intro H enc w base spare held fuel cs x h
  obtain ⟨s, rfl, hs⟩ := trod_f64 ht h
  exact ⟨s, rfl, hs⟩
end Go.Proofs.YtfhmaincnlaapaaGreat
namespace Go.Proofs.YtfhmaincnlaapaaGreat
open Go.ChangeShapes Go.WideShapes Go.ChangeAt Go.RowKit Go.Deep Go.Joins
set_option linter.unusedVariables false

structure FactS where
  codes : List Int
  ints : List Int
  nums : List Nat
abbrev f64R : Rp Nat := Rp.val (Value.float .f64) (fun b => b < 18446744073709551616) (fun _ => rfl)
def factR : Rp FactS := Rp.two FactS.codes id i64R.sl (Rp.two FactS.ints FactS.nums i64R.sl f64R.sl)
abbrev i64s (l : List Int) : List Value := l.map (Value.int .i64)
abbrev f64s (l : List Nat) : List Value := l.map (Value.float .f64)
/-- three slices that are a fact's -/
def FactV (w : World) (B : Nat) (F : FactS) (v0 v1 v2 : Value) : Prop :=
  ∃ A0 c0 A1 c1 A2 c2, v0 = .slice A0 F.codes.length c0 ∧ v1 = .slice A1 F.ints.length c1 ∧ v2 = .slice A2 F.nums.length c2 ∧
    Rd w B 1 A0 F.codes.length (i64s F.codes) ∧ Rd w B 1 A1 F.ints.length (i64s F.ints) ∧ Rd w B 1 A2 F.nums.length (f64s F.nums) ∧
    (F.codes.length ≤ c0 ∧ c0 ≤ maxLen) ∧ (F.ints.length ≤ c1 ∧ c1 ≤ maxLen) ∧ (F.nums.length ≤ c2 ∧ c2 ≤ maxLen)
structure FactOk (F : FactS) : Prop where
  codes : ∀ x ∈ F.codes, -9223372036854775808 ≤ x ∧ x ≤ 9223372036854775807
  ints : ∀ x ∈ F.ints, -9223372036854775808 ≤ x ∧ x ≤ 9223372036854775807
  nums : ∀ x ∈ F.nums, x < 18446744073709551616
end Go.Proofs.YtfhmaincnlaapaaGreat
namespace Go.Proofs.YtfhmaincnlaapaaGreat
open Go.ChangeShapes Go.WideShapes Go.ChangeAt Go.RowKit Go.Deep Go.Joins
set_option linter.unusedVariables false

theorem opens_u64n {P : Program} {t : TypeId} (ht : P.underlying t = some (.int .u64)) (h1 : ∀ n : Nat, (Value.int .u64 (n : Int)).oneCell' = true) : Opens P t (Rp.val (fun n : Nat => Value.int .u64 (n : Int)) (fun n => n < 18446744073709551616) h1) := by
  intro H enc w base spare held fuel cs x h
  obtain ⟨z, rfl, _, hz⟩ := DataW.trod_int ht h
  have hb := bounds_u64 hz
  exact ⟨z.toNat, by simp only [show ((z.toNat : Nat) : Int) = z from by omega], show z.toNat < _ by omega⟩
theorem opens_u32n {P : Program} {t : TypeId} (ht : P.underlying t = some (.int .u32)) (h1 : ∀ n : Nat, (Value.int .u32 (n : Int)).oneCell' = true) : Opens P t (Rp.val (fun n : Nat => Value.int .u32 (n : Int)) (fun n => n < 4294967296) h1) := by
  intro H enc w base spare held fuel cs x h
  obtain ⟨z, rfl, _, hz⟩ := DataW.trod_int ht h
  have hb := bounds_u32 hz
  exact ⟨z.toNat, by simp only [show ((z.toNat : Nat) : Int) = z from by omega], show z.toNat < _ by omega⟩
theorem opens_u8n {P : Program} {t : TypeId} (ht : P.underlying t = some (.int .u8)) (h1 : ∀ b : UInt8, (Value.int .u8 (b.toNat : Int)).oneCell' = true) : Opens P t (Rp.val (fun b : UInt8 => Value.int .u8 (b.toNat : Int)) (fun _ => True) h1) := by
  intro H enc w base spare held fuel cs x h
  obtain ⟨z, rfl, _, hz⟩ := DataW.trod_int ht h
  have hb := bounds_u8 hz
  refine ⟨UInt8.ofNat z.toNat, ?_, trivial⟩
  have : (UInt8.ofNat z.toNat).toNat = z.toNat := by
    rw [UInt8.toNat_ofNat']; omega
  simp only [this, show ((z.toNat : Nat) : Int) = z from by omega]
/-- five fields -/
theorem opens_five {P : Program} {t : TypeId} {α β0 β1 β2 β3 β4 : Type} {R0 : Rp β0} {R1 : Rp β1} {R2 : Rp β2} {R3 : Rp β3} {R4 : Rp β4} {p0 : α → β0} {p1 : α → β1} {p2 : α → β2} {p3 : α → β3} {p4 : α → β4} {f0 f1 f2 f3 f4 : Field}
    (ht : P.underlying t = some (.struct #[f0, f1, f2, f3, f4])) (o0 : f0.offset = 0) (o1 : f1.offset = R0.size) (o2 : f2.offset = R0.size + R1.size) (o3 : f3.offset = R0.size + R1.size + R2.size) (o4 : f4.offset = R0.size + R1.size + R2.size + R3.size)
    (s0 : P.cellsOf f0.type = R0.size) (s1 : P.cellsOf f1.type = R1.size) (s2 : P.cellsOf f2.type = R2.size) (s3 : P.cellsOf f3.type = R3.size) (s4 : P.cellsOf f4.type = R4.size) (hC : P.cellsOf t = R0.size + R1.size + R2.size + R3.size + R4.size)
    (h0 : Opens P f0.type R0) (h1 : Opens P f1.type R1) (h2 : Opens P f2.type R2) (h3 : Opens P f3.type R3) (h4 : Opens P f4.type R4) (mk : β0 → β1 → β2 → β3 → β4 → α)
    (q0 : ∀ a b c d e, p0 (mk a b c d e) = a) (q1 : ∀ a b c d e, p1 (mk a b c d e) = b) (q2 : ∀ a b c d e, p2 (mk a b c d e) = c) (q3 : ∀ a b c d e, p3 (mk a b c d e) = d) (q4 : ∀ a b c d e, p4 (mk a b c d e) = e) :
    Opens P t (Rp.two p0 id R0 (Rp.two p1 id R1 (Rp.two p2 id R2 (Rp.two p3 p4 R3 R4)))) := by
  intro H enc w base spare held fuel cs x h
  obtain ⟨xs, n, _, hx, hlen, hxl, hg⟩ := DataW.trod_struct ht h
  rw [hC] at hlen
  match xs, hxl with
  | [a0, a1, a2, a3, a4], _ =>
    have g0 := hg 0 f0 rfl
    have g1 := hg 1 f1 rfl
    have g2 := hg 2 f2 rfl
    have g3 := hg 3 f3 rfl
    have g4 := hg 4 f4 rfl
    rw [o0, s0, List.drop_zero] at g0
    rw [o1, s1] at g1
    rw [o2, s2] at g2
    rw [o3, s3] at g3
    rw [o4, s4] at g4
    obtain ⟨b0, r0⟩ := h0 H enc w base spare held n _ _ g0
    obtain ⟨b1, r1⟩ := h1 H enc w base spare held n _ _ g1
    obtain ⟨b2, r2⟩ := h2 H enc w base spare held n _ _ g2
    obtain ⟨b3, r3⟩ := h3 H enc w base spare held n _ _ g3
    obtain ⟨b4, r4⟩ := h4 H enc w base spare held n _ _ g4
    rw [← List.drop_drop] at r2
    rw [← List.drop_drop, ← List.drop_drop] at r3
    rw [List.take_of_length_le (by rw [List.length_drop]; omega), ← List.drop_drop, ← List.drop_drop, ← List.drop_drop] at r4
    exact ⟨mk b0 b1 b2 b3 b4, _, _, (List.take_append_drop R0.size cs).symm, by rw [q0]; exact r0, _, _, (List.take_append_drop R1.size _).symm, by simp only [id_eq]; rw [q1]; exact r1, _, _, (List.take_append_drop R2.size _).symm, by simp only [id_eq]; rw [q2]; exact r2,
      _, _, (List.take_append_drop R3.size _).symm, by simp only [id_eq]; rw [q3]; exact r3, by simp only [id_eq]; rw [q4]; exact r4⟩
structure WholeS where
  sum : Int
  abs : Int
  sq : List Nat
  mn : Int
  mx : Int
structure RealS where
  sum : List UInt8
  mn : Nat
  mx : Nat
structure CellS where
  key : Nat
  count : Int
  ints : List WholeS
  nums : List RealS
abbrev u64nR : Rp Nat := Rp.val (fun n : Nat => Value.int .u64 (n : Int)) (fun n => n < 18446744073709551616) (fun _ => rfl)
abbrev u32nR : Rp Nat := Rp.val (fun n : Nat => Value.int .u32 (n : Int)) (fun n => n < 4294967296) (fun _ => rfl)
abbrev u8R : Rp UInt8 := Rp.val (fun b : UInt8 => Value.int .u8 (b.toNat : Int)) (fun _ => True) (fun _ => rfl)
def wholeR : Rp WholeS := Rp.two WholeS.sum id i64R (Rp.two WholeS.abs id i64R (Rp.two WholeS.sq id u32nR.sl (Rp.two WholeS.mn WholeS.mx i64R i64R)))
def realR : Rp RealS := Rp.two RealS.sum id u8R.sl (Rp.two RealS.mn RealS.mx f64R f64R)
def cellR : Rp CellS := Rp.two CellS.key id u64nR (Rp.two CellS.count id i64R (Rp.two CellS.ints CellS.nums wholeR.sl realR.sl))
theorem opens_whole : Opens Tryz.prog 122 wholeR :=
  opens_five Tryz.underlying122 rfl rfl rfl rfl rfl (by kernel_rfl) (by kernel_rfl) (by kernel_rfl) (by kernel_rfl) (by kernel_rfl) (by kernel_rfl)
    (opens_int Tryz.underlying2 _) (opens_int Tryz.underlying2 _) (opens_slice Tryz.underlying24 (by kernel_rfl) (by decide) (opens_u32n Tryz.underlying39 _)) (opens_int Tryz.underlying2 _) (opens_int Tryz.underlying2 _)
    WholeS.mk (fun _ _ _ _ _ => rfl) (fun _ _ _ _ _ => rfl) (fun _ _ _ _ _ => rfl) (fun _ _ _ _ _ => rfl) (fun _ _ _ _ _ => rfl)
theorem opens_real : Opens Tryz.prog 60 realR :=
  opens_three Tryz.underlying60 rfl rfl rfl (by kernel_rfl) (by kernel_rfl) (by kernel_rfl) (by kernel_rfl)
    (opens_slice Tryz.underlying27 (by kernel_rfl) (by decide) (opens_u8n Tryz.underlying5 _)) (opens_f64 Tryz.underlying57 _) (opens_f64 Tryz.underlying57 _) RealS.mk (fun _ _ _ => rfl) (fun _ _ _ => rfl) (fun _ _ _ => rfl)
theorem opens_cell : Opens Tryz.prog 53 cellR :=
  opens_four Tryz.underlying53 rfl rfl rfl rfl (by kernel_rfl) (by kernel_rfl) (by kernel_rfl) (by kernel_rfl) (by kernel_rfl)
    (opens_u64n Tryz.underlying40 _) (opens_int Tryz.underlying2 _) (opens_slice Tryz.underlying50 (by kernel_rfl) (by decide) opens_whole) (opens_slice Tryz.underlying51 (by kernel_rfl) (by decide) opens_real)
    CellS.mk (fun _ _ _ _ => rfl) (fun _ _ _ _ => rfl) (fun _ _ _ _ => rfl) (fun _ _ _ _ => rfl)
abbrev u32n (l : List Nat) : List Value := l.map (fun n : Nat => Value.int .u32 (n : Int))
/-- a whole measure's five cells -/
theorem wholeR_at {w : World} {B : Nat} {x : WholeS} {cs : List Value} (h : wholeR.rep w B x cs) : ∃ A c, cs = [.int .i64 x.sum, .int .i64 x.abs, .slice A x.sq.length c, .int .i64 x.mn, .int .i64 x.mx] ∧ Rd w B 1 A x.sq.length (u32n x.sq) ∧ x.sq.length ≤ c ∧ c ≤ maxLen ∧
    (∀ n ∈ x.sq, n < 4294967296) ∧ (-9223372036854775808 ≤ x.sum ∧ x.sum ≤ 9223372036854775807) ∧ (-9223372036854775808 ≤ x.abs ∧ x.abs ≤ 9223372036854775807) ∧ (-9223372036854775808 ≤ x.mn ∧ x.mn ≤ 9223372036854775807) ∧ (-9223372036854775808 ≤ x.mx ∧ x.mx ≤ 9223372036854775807) := by
  obtain ⟨_, _, rfl, ⟨rfl, w0⟩, _, _, rfl, ⟨rfl, w1⟩, _, _, rfl, ⟨A, c, xs, rfl, a2, b2, r2, k2⟩, _, _, rfl, ⟨rfl, w3⟩, rfl, w4⟩ := h
  obtain ⟨rfl, d2⟩ := chunk_val.1 k2
  exact ⟨A, c, rfl, r2, a2, b2, d2, bounds_i64 w0, bounds_i64 w1, bounds_i64 w3, bounds_i64 w4⟩
theorem realR_at {w : World} {B : Nat} {x : RealS} {cs : List Value} (h : realR.rep w B x cs) : ∃ A c, cs = [.slice A x.sum.length c, .float .f64 x.mn, .float .f64 x.mx] ∧ Rd w B 1 A x.sum.length (u8s x.sum) ∧ x.sum.length ≤ c ∧ c ≤ maxLen ∧ x.mn < 18446744073709551616 ∧ x.mx < 18446744073709551616 := by
  obtain ⟨_, _, rfl, ⟨A, c, xs, rfl, a2, b2, r2, k2⟩, _, _, rfl, ⟨rfl, w3⟩, rfl, w4⟩ := h
  obtain ⟨rfl, d2⟩ := chunk_val.1 k2
  exact ⟨A, c, rfl, r2, a2, b2, w3, w4⟩
/-- a cell, its lists at A2 and A3 -/
structure CellV (w : World) (B : Nat) (C : CellS) (A2 : Option Addr) (c2 : Nat) (A3 : Option Addr) (c3 : Nat) : Prop where
  key : C.key < 18446744073709551616
  count : -9223372036854775808 ≤ C.count ∧ C.count ≤ 9223372036854775807
  ints : SlR wholeR w B C.ints A2 c2
  nums : SlR realR w B C.nums A3 c3
theorem CellV.keep {w w' : World} {B B' : Nat} {C : CellS} {A2 A3 : Option Addr} {c2 c3 : Nat} (h : CellV w B C A2 c2 A3 c3) (hb : Below B w w') (hB : B ≤ B') : CellV w' B' C A2 c2 A3 c3 := ⟨h.key, h.count, h.ints.keep hb hB, h.nums.keep hb hB⟩
def cellC (C : CellS) (A2 : Option Addr) (c2 : Nat) (A3 : Option Addr) (c3 : Nat) : List Value := [.int .u64 (C.key : Int), .int .i64 C.count, .slice A2 C.ints.length c2, .slice A3 C.nums.length c3]
theorem cellR_at {w : World} {B : Nat} {C : CellS} {cs : List Value} (h : cellR.rep w B C cs) : ∃ A2 c2 A3 c3, cs = cellC C A2 c2 A3 c3 ∧ CellV w B C A2 c2 A3 c3 := by
  obtain ⟨_, _, rfl, ⟨rfl, w0⟩, _, _, rfl, ⟨rfl, w1⟩, _, _, rfl, ⟨A2, c2, x2, rfl, a2, b2, r2, k2⟩, A3, c3, x3, rfl, a3, b3, r3, k3⟩ := h
  exact ⟨A2, c2, A3, c3, rfl, ⟨w0, bounds_i64 w1, ⟨a2, b2, x2, r2, k2⟩, ⟨a3, b3, x3, r3, k3⟩⟩⟩
theorem cellR_mk {w : World} {B : Nat} {C : CellS} {A2 A3 : Option Addr} {c2 c3 : Nat} (h : CellV w B C A2 c2 A3 c3) : cellR.rep w B C (cellC C A2 c2 A3 c3) := by
  obtain ⟨w0, w1, ⟨a2, b2, x2, r2, k2⟩, a3, b3, x3, r3, k3⟩ := h
  exact ⟨[_], [_, _, _], rfl, ⟨rfl, w0⟩, [_], [_, _], rfl, ⟨rfl, WalkArith.wf_i64 w1⟩, [_], [_], rfl, ⟨A2, c2, x2, rfl, a2, b2, r2, k2⟩, A3, c3, x3, rfl, a3, b3, r3, k3⟩
/-- cell k of a slice of cells -/
theorem SlR.cellAt {w : World} {B c : Nat} {l : List CellS} {A : Option Addr} (h : SlR cellR w B l A c) {k : Nat} (hk : k < l.length) : ∃ a A2 c2 A3 c3, A = some a ∧ a.block < B ∧ w.cell? (a.add (k * 4)) = some (.int .u64 (l[k].key : Int)) ∧
    w.cell? ⟨(a.add (k * 4)).block, (a.add (k * 4)).off + 1, none⟩ = some (.int .i64 l[k].count) ∧ w.cell? ⟨(a.add (k * 4)).block, (a.add (k * 4)).off + 2, none⟩ = some (.slice A2 l[k].ints.length c2) ∧
    w.cell? ⟨(a.add (k * 4)).block, (a.add (k * 4)).off + 3, none⟩ = some (.slice A3 l[k].nums.length c3) ∧ CellV w B l[k] A2 c2 A3 c3 := by
  obtain ⟨a, cs, rfl, hb, hr, hc⟩ := h.get hk
  obtain ⟨A2, c2, A3, c3, rfl, hv⟩ := cellR_at hr
  have key : ∀ j, j < 4 → w.cell? (a.add (k * 4 + j)) = (cellC l[k] A2 c2 A3 c3)[j]? := fun j hj => hc j hj
  refine ⟨a, A2, c2, A3, c3, rfl, hb, key 0 (by decide), ?_, ?_, ?_, hv⟩
  · have := key 1 (by decide)
    rw [← add_add', add_succ] at this
    exact this
  · have := key 2 (by decide)
    rw [← add_add', show (2 : Nat) = 1 + 1 from rfl, add_succ] at this
    exact this
  · have := key 3 (by decide)
    rw [← add_add', show (3 : Nat) = 2 + 1 from rfl, add_succ] at this
    exact this
/-- measure k of a slice of whole measures -/
theorem SlR.wholeAt {w : World} {B c : Nat} {l : List WholeS} {A : Option Addr} (h : SlR wholeR w B l A c) {k : Nat} (hk : k < l.length) : ∃ a A2 c2, A = some a ∧ a.block < B ∧ w.cell? (a.add (k * 5)) = some (.int .i64 l[k].sum) ∧
    w.cell? ⟨(a.add (k * 5)).block, (a.add (k * 5)).off + 1, none⟩ = some (.int .i64 l[k].abs) ∧ w.cell? ⟨(a.add (k * 5)).block, (a.add (k * 5)).off + 2, none⟩ = some (.slice A2 l[k].sq.length c2) ∧
    w.cell? ⟨(a.add (k * 5)).block, (a.add (k * 5)).off + 3, none⟩ = some (.int .i64 l[k].mn) ∧ w.cell? ⟨(a.add (k * 5)).block, (a.add (k * 5)).off + 4, none⟩ = some (.int .i64 l[k].mx) ∧
    Rd w B 1 A2 l[k].sq.length (u32n l[k].sq) ∧ l[k].sq.length ≤ c2 ∧ c2 ≤ maxLen ∧ (∀ n ∈ l[k].sq, n < 4294967296) ∧ (-9223372036854775808 ≤ l[k].sum ∧ l[k].sum ≤ 9223372036854775807) ∧ (-9223372036854775808 ≤ l[k].abs ∧ l[k].abs ≤ 9223372036854775807) ∧
    (-9223372036854775808 ≤ l[k].mn ∧ l[k].mn ≤ 9223372036854775807) ∧ (-9223372036854775808 ≤ l[k].mx ∧ l[k].mx ≤ 9223372036854775807) := by
  obtain ⟨a, cs, rfl, hb, hr, hc⟩ := h.get hk
  obtain ⟨A2, c2, rfl, hv⟩ := wholeR_at hr
  have key : ∀ j, j < 5 → w.cell? (a.add (k * 5 + j)) = ([.int .i64 l[k].sum, .int .i64 l[k].abs, .slice A2 l[k].sq.length c2, .int .i64 l[k].mn, .int .i64 l[k].mx] : List Value)[j]? := fun j hj => hc j hj
  refine ⟨a, A2, c2, rfl, hb, key 0 (by decide), ?_, ?_, ?_, ?_, hv⟩
  · have := key 1 (by decide)
    rw [← add_add', add_succ] at this
    exact this
  · have := key 2 (by decide)
    rw [← add_add', show (2 : Nat) = 1 + 1 from rfl, add_succ] at this
    exact this
  · have := key 3 (by decide)
    rw [← add_add', show (3 : Nat) = 2 + 1 from rfl, add_succ] at this
    exact this
  · have := key 4 (by decide)
    rw [← add_add', show (4 : Nat) = 3 + 1 from rfl, add_succ] at this
    exact this
theorem SlR.realAt {w : World} {B c : Nat} {l : List RealS} {A : Option Addr} (h : SlR realR w B l A c) {k : Nat} (hk : k < l.length) : ∃ a A2 c2, A = some a ∧ a.block < B ∧ w.cell? (a.add (k * 3)) = some (.slice A2 l[k].sum.length c2) ∧
    w.cell? ⟨(a.add (k * 3)).block, (a.add (k * 3)).off + 1, none⟩ = some (.float .f64 l[k].mn) ∧ w.cell? ⟨(a.add (k * 3)).block, (a.add (k * 3)).off + 2, none⟩ = some (.float .f64 l[k].mx) ∧
    Rd w B 1 A2 l[k].sum.length (u8s l[k].sum) ∧ l[k].sum.length ≤ c2 ∧ c2 ≤ maxLen ∧ l[k].mn < 18446744073709551616 ∧ l[k].mx < 18446744073709551616 := by
  obtain ⟨a, cs, rfl, hb, hr, hc⟩ := h.get hk
  obtain ⟨A2, c2, rfl, hv⟩ := realR_at hr
  have key : ∀ j, j < 3 → w.cell? (a.add (k * 3 + j)) = ([.slice A2 l[k].sum.length c2, .float .f64 l[k].mn, .float .f64 l[k].mx] : List Value)[j]? := fun j hj => hc j hj
  refine ⟨a, A2, c2, rfl, hb, key 0 (by decide), ?_, ?_, hv⟩
  · have := key 1 (by decide)
    rw [← add_add', add_succ] at this
    exact this
  · have := key 2 (by decide)
    rw [← add_add', show (2 : Nat) = 1 + 1 from rfl, add_succ] at this
    exact this
end Go.Proofs.YtfhmaincnlaapaaGreat
