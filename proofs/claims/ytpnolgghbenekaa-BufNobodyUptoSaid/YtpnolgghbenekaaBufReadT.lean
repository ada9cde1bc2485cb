/-
  buf.read at its four types: what it does to the reader.
-/
import Derived.Test.YtpnolgghbenekaaBufRead
namespace Go.Proofs.Ytpnolgghbenekaa
open Go.ChangeShapes Go.WideShapes Go.ChangeAt Go.RowKit
set_option linter.unusedVariables false

/-- the fault behind a read: the one that there was, the getter's, the bound's -/
def stepE (e er er2 : Nat) : Nat := if e ≠ 0 then e else if er ≠ 0 then er else er2
def stepP (p n k : Nat) : Nat := if k = 0 then p + n else p
def stepV {α : Type} (z x : α) (k : Nat) : α := if k = 0 then x else z

theorem readU_any (w : World) (g cap : Nat) (t : List UInt8) (p e : Nat) (x : Nat) (n er er2 : Nat) (h : InS w g t p e) (capv : Value) (hcap : w.cell? ⟨cap, 0, none⟩ = some capv) (hc : cap < w.heap.size) 
    (hg : e = 0 → ∀ (W : World) A c, g ≤ W.heap.size → Rd W g 1 A (t.length - p) (u8s (t.drop p)) → t.length - p ≤ c → c ≤ maxLen →
      Calls Try.prog 93 #[.slice A (t.length - p) c] W fun y w' => y = .returned (.tuple #[.int .u64 (x : Int), .int .i64 (n : Int), .int .i64 (er : Int)]) ∧ Below W.heap.size W w')
    (hr : ∀ W : World, W.cell? ⟨cap, 0, none⟩ = some capv → Calls Try.prog 94 #[.int .u64 (x : Int), .pointer (some ⟨cap, 0, none⟩)] W fun y w' => y = .returned (.int .i64 (er2 : Int)) ∧ W = w') (hfit : e = 0 → er = 0 → n ≤ t.length - p) :
    Calls Try.prog 92 #[.pointer (some ⟨g, 0, none⟩), .func (Fn.func 93) #[] #[], .func (Fn.func 94) #[] #[.pointer (some ⟨cap, 0, none⟩)]] w
      fun y w' => y = .returned (.int .u64 ((stepV (0 : Nat) x (stepE e er er2) : Nat) : Int)) ∧ InS w' g t (stepP p n (stepE e er er2)) (stepE e er er2) ∧ Only g w w' := by
  have hf := fine_any w g t p e h
  by_cases he : e = 0
  · subst he
    have hp : p ≤ t.length := by obtain ⟨A, c, _, _, _, _, h⟩ := h; exact h
    have htl : t.length ≤ 9223372036854775807 := by obtain ⟨A, c, _, _, h1, h2, _⟩ := h; unfold maxLen at h2; omega
    have hgl := h.lt
    have HF := Lib.hid hf; have H := Lib.hid h; have HG := Lib.hid (hg rfl); have FIT := Lib.hid (hfit rfl); have HR := Lib.hid hr; have HC := Lib.hid hcap; clear hf h hg hfit hr hcap
    by_cases h1 : er = 0
    · subst h1
      by_cases h2 : er2 = 0
      · subst h2
        have tk : stepE 0 0 0 = 0 := rfl
        have HK := Lib.hid tk; clear tk
        go_enter Try.func92, Try.ntmps92
        go_wp2_with (go_at_call 81; (with_reducible refine HF.out.mono ?_); rintro y w' ⟨rfl, rfl⟩)
        refine (rest_any _ _ _ _ _ H.out).mono ?_
        rintro y w1 ⟨A1, c1, rfl, hR1, hc1, hm1, k1⟩
        have hz1 : w.heap.size = w1.heap.size := by obtain ⟨m, rfl⟩ := k1; rfl
        have HR1 := Lib.hid hR1; have K1 := Lib.hid k1; have HZ1 := Lib.hid hz1; clear hR1 k1 hz1
        go_wp2_with fail
        refine (HG.out _ _ _ (by rw [← HZ1.out]; omega) HR1.out hc1 hm1).mono ?_
        rintro y w2 ⟨rfl, hb2⟩
        have hb : Below w.heap.size w w2 := (K1.out.below (Below.refl _ _)).trans (hb2.mono (by rw [HZ1.out]; exact Nat.le_refl _))
        have hi2 := H.out.below hb hgl
        have hcw : w2.cell? ⟨cap, 0, none⟩ = some capv := (hb.cell (by simp only; omega)).trans HC.out
        have hc2 := HR.out w2 hcw
        obtain ⟨A3, c3, hb3, _, _, _, _⟩ := hi2
        have x2 := hb3.cell 2; have f2 := hb3.frozen 2
        simp at x2
        have hi := fun p' hp' => (H.out.below hb hgl).move p' hp'
        have hfit := FIT.out (by trivial)
        have HI := Lib.hid hi; have HC2 := Lib.hid hc2; have HB3 := Lib.hid hb3; clear hi hc2 hb3 hcw
        go_wp2_with (go_at_call 94; (with_reducible refine HC2.out.mono ?_); rintro y w' ⟨rfl, rfl⟩)
        go_ret
        rw [HK.out]
        have hm := HI.out (p + n) (by omega)
        rw [show ((p + n : Nat) : Int) = (p : Int) + (n : Int) from by omega] at hm
        exact ⟨rfl, hm, (Only.of_below hb g).set_ (.inl rfl) _⟩
      · have tk : stepE 0 0 er2 = er2 := by unfold stepE; rw [if_neg (by omega), if_neg (by omega)]
        have tp : stepP p n er2 = p := if_neg h2
        have tv : stepV (0 : Nat) x er2 = (0 : Nat) := if_neg h2
        have t1 : ((er2 : Int) != 0) = true := by rw [bne_iff_ne]; omega
        have HK := Lib.hid tk; have HP := Lib.hid tp; have HV := Lib.hid tv; have H2 := Lib.hid h2; clear tk tp tv h2
        go_enter Try.func92, Try.ntmps92
        go_wp2_with (go_at_call 81; (with_reducible refine HF.out.mono ?_); rintro y w' ⟨rfl, rfl⟩)
        refine (rest_any _ _ _ _ _ H.out).mono ?_
        rintro y w1 ⟨A1, c1, rfl, hR1, hc1, hm1, k1⟩
        have hz1 : w.heap.size = w1.heap.size := by obtain ⟨m, rfl⟩ := k1; rfl
        have HR1 := Lib.hid hR1; have K1 := Lib.hid k1; have HZ1 := Lib.hid hz1; clear hR1 k1 hz1
        go_wp2_with fail
        refine (HG.out _ _ _ (by rw [← HZ1.out]; omega) HR1.out hc1 hm1).mono ?_
        rintro y w2 ⟨rfl, hb2⟩
        have hb : Below w.heap.size w w2 := (K1.out.below (Below.refl _ _)).trans (hb2.mono (by rw [HZ1.out]; exact Nat.le_refl _))
        have hi2 := H.out.below hb hgl
        have hcw : w2.cell? ⟨cap, 0, none⟩ = some capv := (hb.cell (by simp only; omega)).trans HC.out
        have hc2 := HR.out w2 hcw
        have hi := hi2.bad er2
        have hfl := fail_any w2 g t p 0 er2 hi2
        have HI := Lib.hid hi; have HC2 := Lib.hid hc2; have HFL := Lib.hid hfl; have HI2 := Lib.hid hi2; clear hi hc2 hfl hi2 hcw
        go_wp2_with (first | (go_at_call 94; (with_reducible refine HC2.out.mono ?_); rintro y w' ⟨rfl, rfl⟩) | (go_at_call 120; refine HFL.out.mono ?_; rintro y w' ⟨rfl, rfl⟩))
        go_ret
        rw [HK.out, HP.out, HV.out]
        exact ⟨rfl, HI.out, (Only.of_below hb g).set_ (.inl rfl) _⟩
    · have tk : stepE 0 er er2 = er := by unfold stepE; rw [if_neg (by omega), if_pos h1]
      have tp : stepP p n er = p := if_neg h1
      have tv : stepV (0 : Nat) x er = (0 : Nat) := if_neg h1
      have t1 : ((er : Int) != 0) = true := by rw [bne_iff_ne]; omega
      have t2 : ((er : Int) == 0) = false := by rw [beq_eq_false_iff_ne]; omega
      have HK := Lib.hid tk; have HP := Lib.hid tp; have HV := Lib.hid tv; have H1 := Lib.hid h1; clear tk tp tv h1
      go_enter Try.func92, Try.ntmps92
      go_wp2_with (go_at_call 81; (with_reducible refine HF.out.mono ?_); rintro y w' ⟨rfl, rfl⟩)
      refine (rest_any _ _ _ _ _ H.out).mono ?_
      rintro y w1 ⟨A1, c1, rfl, hR1, hc1, hm1, k1⟩
      have hz1 : w.heap.size = w1.heap.size := by obtain ⟨m, rfl⟩ := k1; rfl
      have HR1 := Lib.hid hR1; have K1 := Lib.hid k1; have HZ1 := Lib.hid hz1; clear hR1 k1 hz1
      go_wp2_with fail
      refine (HG.out _ _ _ (by rw [← HZ1.out]; omega) HR1.out hc1 hm1).mono ?_
      rintro y w2 ⟨rfl, hb2⟩
      have hb : Below w.heap.size w w2 := (K1.out.below (Below.refl _ _)).trans (hb2.mono (by rw [HZ1.out]; exact Nat.le_refl _))
      have hi2 := H.out.below hb hgl
      have hi := hi2.bad er
      have hfl := fail_any w2 g t p 0 er hi2
      have HI := Lib.hid hi; have HFL := Lib.hid hfl; have HI2 := Lib.hid hi2; clear hi hfl hi2
      go_wp2_with (go_at_call 120; refine HFL.out.mono ?_; rintro y w' ⟨rfl, rfl⟩)
      go_ret
      rw [HK.out, HP.out, HV.out]
      exact ⟨rfl, HI.out, (Only.of_below hb g).set_ (.inl rfl) _⟩
  · have hv : stepE e er er2 = e := by unfold stepE; rw [if_pos he]
    have tp : stepP p n e = p := if_neg he
    have tv : stepV (0 : Nat) x e = (0 : Nat) := if_neg he
    rw [decide_eq_false he] at hf
    have HF := Lib.hid hf; have HE := Lib.hid he; have H := Lib.hid h; have HV := Lib.hid hv; have HP := Lib.hid tp; have HW := Lib.hid tv; have HR := Lib.hid hr; have HG := Lib.hid hg; clear hf he h hv tp tv hr hg hfit
    go_enter Try.func92, Try.ntmps92
    go_wp2_with (go_at_call 81; (with_reducible refine HF.out.mono ?_); rintro y w' ⟨rfl, rfl⟩)
    go_ret
    rw [HV.out, HP.out, HW.out]
    exact ⟨rfl, H.out, Only.refl g w⟩

theorem readI_any (w : World) (g : Nat) (t : List UInt8) (p e : Nat) (x : Int) (n er er2 : Nat) (h : InS w g t p e) 
    (hg : e = 0 → ∀ (W : World) A c, g ≤ W.heap.size → Rd W g 1 A (t.length - p) (u8s (t.drop p)) → t.length - p ≤ c → c ≤ maxLen →
      Calls Try.prog 110 #[.slice A (t.length - p) c] W fun y w' => y = .returned (.tuple #[.int .i64 x, .int .i64 (n : Int), .int .i64 (er : Int)]) ∧ Below W.heap.size W w')
    (hr : ∀ W : World, Calls Try.prog 111 #[.int .i64 x] W fun y w' => y = .returned (.int .i64 (er2 : Int)) ∧ W = w') (hfit : e = 0 → er = 0 → n ≤ t.length - p) :
    Calls Try.prog 109 #[.pointer (some ⟨g, 0, none⟩), .func (Fn.func 110) #[] #[], .func (Fn.func 111) #[] #[]] w
      fun y w' => y = .returned (.int .i64 (stepV (0 : Int) x (stepE e er er2))) ∧ InS w' g t (stepP p n (stepE e er er2)) (stepE e er er2) ∧ Only g w w' := by
  have hf := fine_any w g t p e h
  by_cases he : e = 0
  · subst he
    have hp : p ≤ t.length := by obtain ⟨A, c, _, _, _, _, h⟩ := h; exact h
    have htl : t.length ≤ 9223372036854775807 := by obtain ⟨A, c, _, _, h1, h2, _⟩ := h; unfold maxLen at h2; omega
    have hgl := h.lt
    have HF := Lib.hid hf; have H := Lib.hid h; have HG := Lib.hid (hg rfl); have FIT := Lib.hid (hfit rfl); have HR := Lib.hid hr; clear hf h hg hfit hr
    by_cases h1 : er = 0
    · subst h1
      by_cases h2 : er2 = 0
      · subst h2
        have tk : stepE 0 0 0 = 0 := rfl
        have HK := Lib.hid tk; clear tk
        go_enter Try.func109, Try.ntmps109
        go_wp2_with (go_at_call 81; (with_reducible refine HF.out.mono ?_); rintro y w' ⟨rfl, rfl⟩)
        refine (rest_any _ _ _ _ _ H.out).mono ?_
        rintro y w1 ⟨A1, c1, rfl, hR1, hc1, hm1, k1⟩
        have hz1 : w.heap.size = w1.heap.size := by obtain ⟨m, rfl⟩ := k1; rfl
        have HR1 := Lib.hid hR1; have K1 := Lib.hid k1; have HZ1 := Lib.hid hz1; clear hR1 k1 hz1
        go_wp2_with fail
        refine (HG.out _ _ _ (by rw [← HZ1.out]; omega) HR1.out hc1 hm1).mono ?_
        rintro y w2 ⟨rfl, hb2⟩
        have hb : Below w.heap.size w w2 := (K1.out.below (Below.refl _ _)).trans (hb2.mono (by rw [HZ1.out]; exact Nat.le_refl _))
        have hi2 := H.out.below hb hgl
        have hc2 := HR.out w2
        obtain ⟨A3, c3, hb3, _, _, _, _⟩ := hi2
        have x2 := hb3.cell 2; have f2 := hb3.frozen 2
        simp at x2
        have hi := fun p' hp' => (H.out.below hb hgl).move p' hp'
        have hfit := FIT.out (by trivial)
        have HI := Lib.hid hi; have HC2 := Lib.hid hc2; have HB3 := Lib.hid hb3; clear hi hc2 hb3
        go_wp2_with (go_at_call 111; (with_reducible refine HC2.out.mono ?_); rintro y w' ⟨rfl, rfl⟩)
        go_ret
        rw [HK.out]
        have hm := HI.out (p + n) (by omega)
        rw [show ((p + n : Nat) : Int) = (p : Int) + (n : Int) from by omega] at hm
        exact ⟨rfl, hm, (Only.of_below hb g).set_ (.inl rfl) _⟩
      · have tk : stepE 0 0 er2 = er2 := by unfold stepE; rw [if_neg (by omega), if_neg (by omega)]
        have tp : stepP p n er2 = p := if_neg h2
        have tv : stepV (0 : Int) x er2 = (0 : Int) := if_neg h2
        have t1 : ((er2 : Int) != 0) = true := by rw [bne_iff_ne]; omega
        have HK := Lib.hid tk; have HP := Lib.hid tp; have HV := Lib.hid tv; have H2 := Lib.hid h2; clear tk tp tv h2
        go_enter Try.func109, Try.ntmps109
        go_wp2_with (go_at_call 81; (with_reducible refine HF.out.mono ?_); rintro y w' ⟨rfl, rfl⟩)
        refine (rest_any _ _ _ _ _ H.out).mono ?_
        rintro y w1 ⟨A1, c1, rfl, hR1, hc1, hm1, k1⟩
        have hz1 : w.heap.size = w1.heap.size := by obtain ⟨m, rfl⟩ := k1; rfl
        have HR1 := Lib.hid hR1; have K1 := Lib.hid k1; have HZ1 := Lib.hid hz1; clear hR1 k1 hz1
        go_wp2_with fail
        refine (HG.out _ _ _ (by rw [← HZ1.out]; omega) HR1.out hc1 hm1).mono ?_
        rintro y w2 ⟨rfl, hb2⟩
        have hb : Below w.heap.size w w2 := (K1.out.below (Below.refl _ _)).trans (hb2.mono (by rw [HZ1.out]; exact Nat.le_refl _))
        have hi2 := H.out.below hb hgl
        have hc2 := HR.out w2
        have hi := hi2.bad er2
        have hfl := fail_any w2 g t p 0 er2 hi2
        have HI := Lib.hid hi; have HC2 := Lib.hid hc2; have HFL := Lib.hid hfl; have HI2 := Lib.hid hi2; clear hi hc2 hfl hi2
        go_wp2_with (first | (go_at_call 111; (with_reducible refine HC2.out.mono ?_); rintro y w' ⟨rfl, rfl⟩) | (go_at_call 120; refine HFL.out.mono ?_; rintro y w' ⟨rfl, rfl⟩))
        go_ret
        rw [HK.out, HP.out, HV.out]
        exact ⟨rfl, HI.out, (Only.of_below hb g).set_ (.inl rfl) _⟩
    · have tk : stepE 0 er er2 = er := by unfold stepE; rw [if_neg (by omega), if_pos h1]
      have tp : stepP p n er = p := if_neg h1
      have tv : stepV (0 : Int) x er = (0 : Int) := if_neg h1
      have t1 : ((er : Int) != 0) = true := by rw [bne_iff_ne]; omega
      have t2 : ((er : Int) == 0) = false := by rw [beq_eq_false_iff_ne]; omega
      have HK := Lib.hid tk; have HP := Lib.hid tp; have HV := Lib.hid tv; have H1 := Lib.hid h1; clear tk tp tv h1
      go_enter Try.func109, Try.ntmps109
      go_wp2_with (go_at_call 81; (with_reducible refine HF.out.mono ?_); rintro y w' ⟨rfl, rfl⟩)
      refine (rest_any _ _ _ _ _ H.out).mono ?_
      rintro y w1 ⟨A1, c1, rfl, hR1, hc1, hm1, k1⟩
      have hz1 : w.heap.size = w1.heap.size := by obtain ⟨m, rfl⟩ := k1; rfl
      have HR1 := Lib.hid hR1; have K1 := Lib.hid k1; have HZ1 := Lib.hid hz1; clear hR1 k1 hz1
      go_wp2_with fail
      refine (HG.out _ _ _ (by rw [← HZ1.out]; omega) HR1.out hc1 hm1).mono ?_
      rintro y w2 ⟨rfl, hb2⟩
      have hb : Below w.heap.size w w2 := (K1.out.below (Below.refl _ _)).trans (hb2.mono (by rw [HZ1.out]; exact Nat.le_refl _))
      have hi2 := H.out.below hb hgl
      have hi := hi2.bad er
      have hfl := fail_any w2 g t p 0 er hi2
      have HI := Lib.hid hi; have HFL := Lib.hid hfl; have HI2 := Lib.hid hi2; clear hi hfl hi2
      go_wp2_with (go_at_call 120; refine HFL.out.mono ?_; rintro y w' ⟨rfl, rfl⟩)
      go_ret
      rw [HK.out, HP.out, HV.out]
      exact ⟨rfl, HI.out, (Only.of_below hb g).set_ (.inl rfl) _⟩
  · have hv : stepE e er er2 = e := by unfold stepE; rw [if_pos he]
    have tp : stepP p n e = p := if_neg he
    have tv : stepV (0 : Int) x e = (0 : Int) := if_neg he
    rw [decide_eq_false he] at hf
    have HF := Lib.hid hf; have HE := Lib.hid he; have H := Lib.hid h; have HV := Lib.hid hv; have HP := Lib.hid tp; have HW := Lib.hid tv; have HR := Lib.hid hr; have HG := Lib.hid hg; clear hf he h hv tp tv hr hg hfit
    go_enter Try.func109, Try.ntmps109
    go_wp2_with (go_at_call 81; (with_reducible refine HF.out.mono ?_); rintro y w' ⟨rfl, rfl⟩)
    go_ret
    rw [HV.out, HP.out, HW.out]
    exact ⟨rfl, H.out, Only.refl g w⟩

theorem readF_any (w : World) (g : Nat) (t : List UInt8) (p e : Nat) (x : Nat) (n er er2 : Nat) (h : InS w g t p e) 
    (hg : e = 0 → ∀ (W : World) A c, g ≤ W.heap.size → Rd W g 1 A (t.length - p) (u8s (t.drop p)) → t.length - p ≤ c → c ≤ maxLen →
      Calls Try.prog 113 #[.slice A (t.length - p) c] W fun y w' => y = .returned (.tuple #[.float .f64 x, .int .i64 (n : Int), .int .i64 (er : Int)]) ∧ Below W.heap.size W w')
    (hr : ∀ W : World, Calls Try.prog 114 #[.float .f64 x] W fun y w' => y = .returned (.int .i64 (er2 : Int)) ∧ W = w') (hfit : e = 0 → er = 0 → n ≤ t.length - p) :
    Calls Try.prog 112 #[.pointer (some ⟨g, 0, none⟩), .func (Fn.func 113) #[] #[], .func (Fn.func 114) #[] #[]] w
      fun y w' => y = .returned (.float .f64 (stepV (0 : Nat) x (stepE e er er2))) ∧ InS w' g t (stepP p n (stepE e er er2)) (stepE e er er2) ∧ Only g w w' := by
  have hf := fine_any w g t p e h
  by_cases he : e = 0
  · subst he
    have hp : p ≤ t.length := by obtain ⟨A, c, _, _, _, _, h⟩ := h; exact h
    have htl : t.length ≤ 9223372036854775807 := by obtain ⟨A, c, _, _, h1, h2, _⟩ := h; unfold maxLen at h2; omega
    have hgl := h.lt
    have HF := Lib.hid hf; have H := Lib.hid h; have HG := Lib.hid (hg rfl); have FIT := Lib.hid (hfit rfl); have HR := Lib.hid hr; clear hf h hg hfit hr
    by_cases h1 : er = 0
    · subst h1
      by_cases h2 : er2 = 0
      · subst h2
        have tk : stepE 0 0 0 = 0 := rfl
        have HK := Lib.hid tk; clear tk
        go_enter Try.func112, Try.ntmps112
        go_wp2_with (go_at_call 81; (with_reducible refine HF.out.mono ?_); rintro y w' ⟨rfl, rfl⟩)
        refine (rest_any _ _ _ _ _ H.out).mono ?_
        rintro y w1 ⟨A1, c1, rfl, hR1, hc1, hm1, k1⟩
        have hz1 : w.heap.size = w1.heap.size := by obtain ⟨m, rfl⟩ := k1; rfl
        have HR1 := Lib.hid hR1; have K1 := Lib.hid k1; have HZ1 := Lib.hid hz1; clear hR1 k1 hz1
        go_wp2_with fail
        refine (HG.out _ _ _ (by rw [← HZ1.out]; omega) HR1.out hc1 hm1).mono ?_
        rintro y w2 ⟨rfl, hb2⟩
        have hb : Below w.heap.size w w2 := (K1.out.below (Below.refl _ _)).trans (hb2.mono (by rw [HZ1.out]; exact Nat.le_refl _))
        have hi2 := H.out.below hb hgl
        have hc2 := HR.out w2
        obtain ⟨A3, c3, hb3, _, _, _, _⟩ := hi2
        have x2 := hb3.cell 2; have f2 := hb3.frozen 2
        simp at x2
        have hi := fun p' hp' => (H.out.below hb hgl).move p' hp'
        have hfit := FIT.out (by trivial)
        have HI := Lib.hid hi; have HC2 := Lib.hid hc2; have HB3 := Lib.hid hb3; clear hi hc2 hb3
        go_wp2_with (go_at_call 114; (with_reducible refine HC2.out.mono ?_); rintro y w' ⟨rfl, rfl⟩)
        go_ret
        rw [HK.out]
        have hm := HI.out (p + n) (by omega)
        rw [show ((p + n : Nat) : Int) = (p : Int) + (n : Int) from by omega] at hm
        exact ⟨rfl, hm, (Only.of_below hb g).set_ (.inl rfl) _⟩
      · have tk : stepE 0 0 er2 = er2 := by unfold stepE; rw [if_neg (by omega), if_neg (by omega)]
        have tp : stepP p n er2 = p := if_neg h2
        have tv : stepV (0 : Nat) x er2 = (0 : Nat) := if_neg h2
        have t1 : ((er2 : Int) != 0) = true := by rw [bne_iff_ne]; omega
        have HK := Lib.hid tk; have HP := Lib.hid tp; have HV := Lib.hid tv; have H2 := Lib.hid h2; clear tk tp tv h2
        go_enter Try.func112, Try.ntmps112
        go_wp2_with (go_at_call 81; (with_reducible refine HF.out.mono ?_); rintro y w' ⟨rfl, rfl⟩)
        refine (rest_any _ _ _ _ _ H.out).mono ?_
        rintro y w1 ⟨A1, c1, rfl, hR1, hc1, hm1, k1⟩
        have hz1 : w.heap.size = w1.heap.size := by obtain ⟨m, rfl⟩ := k1; rfl
        have HR1 := Lib.hid hR1; have K1 := Lib.hid k1; have HZ1 := Lib.hid hz1; clear hR1 k1 hz1
        go_wp2_with fail
        refine (HG.out _ _ _ (by rw [← HZ1.out]; omega) HR1.out hc1 hm1).mono ?_
        rintro y w2 ⟨rfl, hb2⟩
        have hb : Below w.heap.size w w2 := (K1.out.below (Below.refl _ _)).trans (hb2.mono (by rw [HZ1.out]; exact Nat.le_refl _))
        have hi2 := H.out.below hb hgl
        have hc2 := HR.out w2
        have hi := hi2.bad er2
        have hfl := fail_any w2 g t p 0 er2 hi2
        have HI := Lib.hid hi; have HC2 := Lib.hid hc2; have HFL := Lib.hid hfl; have HI2 := Lib.hid hi2; clear hi hc2 hfl hi2
        go_wp2_with (first | (go_at_call 114; (with_reducible refine HC2.out.mono ?_); rintro y w' ⟨rfl, rfl⟩) | (go_at_call 120; refine HFL.out.mono ?_; rintro y w' ⟨rfl, rfl⟩))
        go_ret
        rw [HK.out, HP.out, HV.out]
        exact ⟨rfl, HI.out, (Only.of_below hb g).set_ (.inl rfl) _⟩
    · have tk : stepE 0 er er2 = er := by unfold stepE; rw [if_neg (by omega), if_pos h1]
      have tp : stepP p n er = p := if_neg h1
      have tv : stepV (0 : Nat) x er = (0 : Nat) := if_neg h1
      have t1 : ((er : Int) != 0) = true := by rw [bne_iff_ne]; omega
      have t2 : ((er : Int) == 0) = false := by rw [beq_eq_false_iff_ne]; omega
      have HK := Lib.hid tk; have HP := Lib.hid tp; have HV := Lib.hid tv; have H1 := Lib.hid h1; clear tk tp tv h1
      go_enter Try.func112, Try.ntmps112
      go_wp2_with (go_at_call 81; (with_reducible refine HF.out.mono ?_); rintro y w' ⟨rfl, rfl⟩)
      refine (rest_any _ _ _ _ _ H.out).mono ?_
      rintro y w1 ⟨A1, c1, rfl, hR1, hc1, hm1, k1⟩
      have hz1 : w.heap.size = w1.heap.size := by obtain ⟨m, rfl⟩ := k1; rfl
      have HR1 := Lib.hid hR1; have K1 := Lib.hid k1; have HZ1 := Lib.hid hz1; clear hR1 k1 hz1
      go_wp2_with fail
      refine (HG.out _ _ _ (by rw [← HZ1.out]; omega) HR1.out hc1 hm1).mono ?_
      rintro y w2 ⟨rfl, hb2⟩
      have hb : Below w.heap.size w w2 := (K1.out.below (Below.refl _ _)).trans (hb2.mono (by rw [HZ1.out]; exact Nat.le_refl _))
      have hi2 := H.out.below hb hgl
      have hi := hi2.bad er
      have hfl := fail_any w2 g t p 0 er hi2
      have HI := Lib.hid hi; have HFL := Lib.hid hfl; have HI2 := Lib.hid hi2; clear hi hfl hi2
      go_wp2_with (go_at_call 120; refine HFL.out.mono ?_; rintro y w' ⟨rfl, rfl⟩)
      go_ret
      rw [HK.out, HP.out, HV.out]
      exact ⟨rfl, HI.out, (Only.of_below hb g).set_ (.inl rfl) _⟩
  · have hv : stepE e er er2 = e := by unfold stepE; rw [if_pos he]
    have tp : stepP p n e = p := if_neg he
    have tv : stepV (0 : Nat) x e = (0 : Nat) := if_neg he
    rw [decide_eq_false he] at hf
    have HF := Lib.hid hf; have HE := Lib.hid he; have H := Lib.hid h; have HV := Lib.hid hv; have HP := Lib.hid tp; have HW := Lib.hid tv; have HR := Lib.hid hr; have HG := Lib.hid hg; clear hf he h hv tp tv hr hg hfit
    go_enter Try.func112, Try.ntmps112
    go_wp2_with (go_at_call 81; (with_reducible refine HF.out.mono ?_); rintro y w' ⟨rfl, rfl⟩)
    go_ret
    rw [HV.out, HP.out, HW.out]
    exact ⟨rfl, H.out, Only.refl g w⟩

theorem readT_any (w : World) (g cap : Nat) (t : List UInt8) (p e : Nat) (x : ByteArray) (n er er2 : Nat) (h : InS w g t p e) (capv : Value) (hcap : w.cell? ⟨cap, 0, none⟩ = some capv) (hc : cap < w.heap.size) 
    (hg : e = 0 → ∀ (W : World) A c, g ≤ W.heap.size → Rd W g 1 A (t.length - p) (u8s (t.drop p)) → t.length - p ≤ c → c ≤ maxLen →
      Calls Try.prog 117 #[.slice A (t.length - p) c] W fun y w' => y = .returned (.tuple #[.string x, .int .i64 (n : Int), .int .i64 (er : Int)]) ∧ Below W.heap.size W w')
    (hr : ∀ W : World, W.cell? ⟨cap, 0, none⟩ = some capv → Calls Try.prog 118 #[.string x, .pointer (some ⟨cap, 0, none⟩)] W fun y w' => y = .returned (.int .i64 (er2 : Int)) ∧ W = w') (hfit : e = 0 → er = 0 → n ≤ t.length - p) :
    Calls Try.prog 116 #[.pointer (some ⟨g, 0, none⟩), .func (Fn.func 117) #[] #[], .func (Fn.func 118) #[] #[.pointer (some ⟨cap, 0, none⟩)]] w
      fun y w' => y = .returned (.string (stepV (⟨#[]⟩ : ByteArray) x (stepE e er er2))) ∧ InS w' g t (stepP p n (stepE e er er2)) (stepE e er er2) ∧ Only g w w' := by
  have hf := fine_any w g t p e h
  by_cases he : e = 0
  · subst he
    have hp : p ≤ t.length := by obtain ⟨A, c, _, _, _, _, h⟩ := h; exact h
    have htl : t.length ≤ 9223372036854775807 := by obtain ⟨A, c, _, _, h1, h2, _⟩ := h; unfold maxLen at h2; omega
    have hgl := h.lt
    have HF := Lib.hid hf; have H := Lib.hid h; have HG := Lib.hid (hg rfl); have FIT := Lib.hid (hfit rfl); have HR := Lib.hid hr; have HC := Lib.hid hcap; clear hf h hg hfit hr hcap
    by_cases h1 : er = 0
    · subst h1
      by_cases h2 : er2 = 0
      · subst h2
        have tk : stepE 0 0 0 = 0 := rfl
        have HK := Lib.hid tk; clear tk
        go_enter Try.func116, Try.ntmps116
        go_wp2_with (go_at_call 81; (with_reducible refine HF.out.mono ?_); rintro y w' ⟨rfl, rfl⟩)
        refine (rest_any _ _ _ _ _ H.out).mono ?_
        rintro y w1 ⟨A1, c1, rfl, hR1, hc1, hm1, k1⟩
        have hz1 : w.heap.size = w1.heap.size := by obtain ⟨m, rfl⟩ := k1; rfl
        have HR1 := Lib.hid hR1; have K1 := Lib.hid k1; have HZ1 := Lib.hid hz1; clear hR1 k1 hz1
        go_wp2_with fail
        refine (HG.out _ _ _ (by rw [← HZ1.out]; omega) HR1.out hc1 hm1).mono ?_
        rintro y w2 ⟨rfl, hb2⟩
        have hb : Below w.heap.size w w2 := (K1.out.below (Below.refl _ _)).trans (hb2.mono (by rw [HZ1.out]; exact Nat.le_refl _))
        have hi2 := H.out.below hb hgl
        have hcw : w2.cell? ⟨cap, 0, none⟩ = some capv := (hb.cell (by simp only; omega)).trans HC.out
        have hc2 := HR.out w2 hcw
        obtain ⟨A3, c3, hb3, _, _, _, _⟩ := hi2
        have x2 := hb3.cell 2; have f2 := hb3.frozen 2
        simp at x2
        have hi := fun p' hp' => (H.out.below hb hgl).move p' hp'
        have hfit := FIT.out (by trivial)
        have HI := Lib.hid hi; have HC2 := Lib.hid hc2; have HB3 := Lib.hid hb3; clear hi hc2 hb3 hcw
        go_wp2_with (go_at_call 118; (with_reducible refine HC2.out.mono ?_); rintro y w' ⟨rfl, rfl⟩)
        go_ret
        rw [HK.out]
        have hm := HI.out (p + n) (by omega)
        rw [show ((p + n : Nat) : Int) = (p : Int) + (n : Int) from by omega] at hm
        exact ⟨rfl, hm, (Only.of_below hb g).set_ (.inl rfl) _⟩
      · have tk : stepE 0 0 er2 = er2 := by unfold stepE; rw [if_neg (by omega), if_neg (by omega)]
        have tp : stepP p n er2 = p := if_neg h2
        have tv : stepV (⟨#[]⟩ : ByteArray) x er2 = (⟨#[]⟩ : ByteArray) := if_neg h2
        have t1 : ((er2 : Int) != 0) = true := by rw [bne_iff_ne]; omega
        have HK := Lib.hid tk; have HP := Lib.hid tp; have HV := Lib.hid tv; have H2 := Lib.hid h2; clear tk tp tv h2
        go_enter Try.func116, Try.ntmps116
        go_wp2_with (go_at_call 81; (with_reducible refine HF.out.mono ?_); rintro y w' ⟨rfl, rfl⟩)
        refine (rest_any _ _ _ _ _ H.out).mono ?_
        rintro y w1 ⟨A1, c1, rfl, hR1, hc1, hm1, k1⟩
        have hz1 : w.heap.size = w1.heap.size := by obtain ⟨m, rfl⟩ := k1; rfl
        have HR1 := Lib.hid hR1; have K1 := Lib.hid k1; have HZ1 := Lib.hid hz1; clear hR1 k1 hz1
        go_wp2_with fail
        refine (HG.out _ _ _ (by rw [← HZ1.out]; omega) HR1.out hc1 hm1).mono ?_
        rintro y w2 ⟨rfl, hb2⟩
        have hb : Below w.heap.size w w2 := (K1.out.below (Below.refl _ _)).trans (hb2.mono (by rw [HZ1.out]; exact Nat.le_refl _))
        have hi2 := H.out.below hb hgl
        have hcw : w2.cell? ⟨cap, 0, none⟩ = some capv := (hb.cell (by simp only; omega)).trans HC.out
        have hc2 := HR.out w2 hcw
        have hi := hi2.bad er2
        have hfl := fail_any w2 g t p 0 er2 hi2
        have HI := Lib.hid hi; have HC2 := Lib.hid hc2; have HFL := Lib.hid hfl; have HI2 := Lib.hid hi2; clear hi hc2 hfl hi2 hcw
        go_wp2_with (first | (go_at_call 118; (with_reducible refine HC2.out.mono ?_); rintro y w' ⟨rfl, rfl⟩) | (go_at_call 120; refine HFL.out.mono ?_; rintro y w' ⟨rfl, rfl⟩))
        go_ret
        rw [HK.out, HP.out, HV.out]
        exact ⟨rfl, HI.out, (Only.of_below hb g).set_ (.inl rfl) _⟩
    · have tk : stepE 0 er er2 = er := by unfold stepE; rw [if_neg (by omega), if_pos h1]
      have tp : stepP p n er = p := if_neg h1
      have tv : stepV (⟨#[]⟩ : ByteArray) x er = (⟨#[]⟩ : ByteArray) := if_neg h1
      have t1 : ((er : Int) != 0) = true := by rw [bne_iff_ne]; omega
      have t2 : ((er : Int) == 0) = false := by rw [beq_eq_false_iff_ne]; omega
      have HK := Lib.hid tk; have HP := Lib.hid tp; have HV := Lib.hid tv; have H1 := Lib.hid h1; clear tk tp tv h1
      go_enter Try.func116, Try.ntmps116
      go_wp2_with (go_at_call 81; (with_reducible refine HF.out.mono ?_); rintro y w' ⟨rfl, rfl⟩)
      refine (rest_any _ _ _ _ _ H.out).mono ?_
      rintro y w1 ⟨A1, c1, rfl, hR1, hc1, hm1, k1⟩
      have hz1 : w.heap.size = w1.heap.size := by obtain ⟨m, rfl⟩ := k1; rfl
      have HR1 := Lib.hid hR1; have K1 := Lib.hid k1; have HZ1 := Lib.hid hz1; clear hR1 k1 hz1
      go_wp2_with fail
      refine (HG.out _ _ _ (by rw [← HZ1.out]; omega) HR1.out hc1 hm1).mono ?_
      rintro y w2 ⟨rfl, hb2⟩
      have hb : Below w.heap.size w w2 := (K1.out.below (Below.refl _ _)).trans (hb2.mono (by rw [HZ1.out]; exact Nat.le_refl _))
      have hi2 := H.out.below hb hgl
      have hi := hi2.bad er
      have hfl := fail_any w2 g t p 0 er hi2
      have HI := Lib.hid hi; have HFL := Lib.hid hfl; have HI2 := Lib.hid hi2; clear hi hfl hi2
      go_wp2_with (go_at_call 120; refine HFL.out.mono ?_; rintro y w' ⟨rfl, rfl⟩)
      go_ret
      rw [HK.out, HP.out, HV.out]
      exact ⟨rfl, HI.out, (Only.of_below hb g).set_ (.inl rfl) _⟩
  · have hv : stepE e er er2 = e := by unfold stepE; rw [if_pos he]
    have tp : stepP p n e = p := if_neg he
    have tv : stepV (⟨#[]⟩ : ByteArray) x e = (⟨#[]⟩ : ByteArray) := if_neg he
    rw [decide_eq_false he] at hf
    have HF := Lib.hid hf; have HE := Lib.hid he; have H := Lib.hid h; have HV := Lib.hid hv; have HP := Lib.hid tp; have HW := Lib.hid tv; have HR := Lib.hid hr; have HG := Lib.hid hg; clear hf he h hv tp tv hr hg hfit
    go_enter Try.func116, Try.ntmps116
    go_wp2_with (go_at_call 81; (with_reducible refine HF.out.mono ?_); rintro y w' ⟨rfl, rfl⟩)
    go_ret
    rw [HV.out, HP.out, HW.out]
    exact ⟨rfl, H.out, Only.refl g w⟩
end Go.Proofs.Ytpnolgghbenekaa
