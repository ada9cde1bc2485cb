/-
  THE DOCUMENT's READER: U, End.
-/
import Derived.Test.YtpnolgghbenekaaRefRead
namespace Go.Proofs.Ytpnolgghbenekaa
open Go.ChangeShapes Go.WideShapes Go.ChangeAt Go.RowKit
set_option linter.unusedVariables false

theorem stepP_eq (p n k : Nat) : stepP p n k = p + stepV 0 n k := by unfold stepP stepV; split <;> simp
theorem got0 (a b c d e : Value) (W : World) : (Instr.field 75 (.agg #[a, b, c, d, e]) 0).run Try.prog W = .ok a W := by kernel_rfl
theorem got1 (a b c d e : Value) (W : World) : (Instr.field 75 (.agg #[a, b, c, d, e]) 1).run Try.prog W = .ok b W := by kernel_rfl
theorem got2 (a b c d e : Value) (W : World) : (Instr.field 75 (.agg #[a, b, c, d, e]) 2).run Try.prog W = .ok c W := by kernel_rfl
set_option maxRecDepth 20000 in
theorem readerU_any (w : World) (g : Nat) (t : List UInt8) (p e most : Nat) (h : RdS w g t p e) :
    Calls Try.prog 56 #[.pointer (some ⟨g, 0, none⟩), .int .u64 (most : Int)] w
      fun y w' => y = .returned (.int .u64 ((inU t p e most).1 : Int)) ∧ RdS w' g t (inU t p e most).2.1 (inU t p e most).2.2 ∧ Only g w w' := by
  have gf := got0
  by_cases he : e = 0
  · subst he
    have hp : p ≤ t.length := by obtain ⟨_, _, _, _, _, _, hp⟩ := h; exact hp
    have hfit : stepV 0 (getU (t.drop p)).2.1 (stepE 0 (getU (t.drop p)).2.2 (overE (getU (t.drop p)).1 most)) ≤ t.length - p := by
      unfold stepV
      split
      · rename_i h0
        have : (getU (t.drop p)).2.2 = 0 := by
          unfold stepE at h0
          rw [if_neg (by omega)] at h0
          by_cases h2 : (getU (t.drop p)).2.2 = 0
          · exact h2
          · rw [if_pos h2] at h0; exact absurd h0 h2
        have := getU_fits _ this
        rwa [List.length_drop] at this
      · omega
    have ha := ask_go w g t p 0 most 0 0 ⟨#[]⟩ 0 _ 0 ⟨#[]⟩ _ _ h (fun W A c hg hR h1 h2 => refReadU_any most A (t.length - p) c g (t.drop p) W hR (by omega) hg _ rfl) hfit
    rw [← stepP_eq] at ha
    have e1 : inU t p 0 most = (stepV 0 (getU (t.drop p)).1 (stepE 0 (getU (t.drop p)).2.2 (overE (getU (t.drop p)).1 most)), stepP p (getU (t.drop p)).2.1 (stepE 0 (getU (t.drop p)).2.2 (overE (getU (t.drop p)).1 most)), stepE 0 (getU (t.drop p)).2.2 (overE (getU (t.drop p)).1 most)) := rfl
    rw [e1]
    generalize stepE 0 (getU (t.drop p)).2.2 (overE (getU (t.drop p)).1 most) = k at *
    generalize stepV 0 (getU (t.drop p)).1 k = u at *
    generalize stepP p (getU (t.drop p)).2.1 k = q at *
    simp only at ha ⊢
    have HA := Lib.hid ha; have E1 := Lib.hid e1; clear ha e1
    go_enter Try.func56, Try.ntmps56
    go_wp2_with (go_at_call 95; (with_reducible refine HA.out.mono ?_); rintro y w1 ⟨rfl, hi1, ho1⟩)
    go_ret
    exact ⟨rfl, hi1, ho1⟩
  · have hk : stepE e (getU (t.drop p)).2.2 (overE (getU (t.drop p)).1 most) = e := by unfold stepE; rw [if_pos he]
    have e1 : inU t p e most = (0, p, e) := by unfold inU; rw [hk]; unfold stepV stepP; rw [if_neg he, if_neg he]
    rw [e1]
    have ha := ask_no w g t p e 0 most 0 0 ⟨#[]⟩ 0 h he
    have HA := Lib.hid ha; have E1 := Lib.hid e1; have HK := Lib.hid hk; clear ha e1 hk
    go_enter Try.func56, Try.ntmps56
    go_wp2_with (go_at_call 95; (with_reducible refine HA.out.mono ?_); rintro y w1 ⟨rfl, hi1, ho1⟩)
    go_ret
    exact ⟨rfl, hi1, Only.of_below ho1 g⟩

theorem readerEnd_any (w : World) (g : Nat) (t : List UInt8) (p e : Nat) (h : RdS w g t p e) :
    Calls Try.prog 57 #[.pointer (some ⟨g, 0, none⟩)] w fun x w' => x = .returned (.int .i64 (endE t p e : Int)) ∧ RdS w' g t p (endE t p e) ∧ Only g w w' := by
  have sd := sdN
  have hbad := fun n => RdS.bad (h.drw (w' := w.drewN n) ⟨n, rfl⟩) 7
  have h' := h
  obtain ⟨A, c, hb, hR, hc, hm, hp⟩ := h'
  have c0 := hb.cell 0; have c1 := hb.cell 1; have f2 := hb.frozen 2; have c2 := hb.cell 2
  simp at c0 c1 c2
  unfold maxLen at hm
  have HB := Lib.hid hb; have HR := Lib.hid hR; have HH := Lib.hid h; have HBAD := Lib.hid hbad; clear hb hR h hbad
  by_cases he : e = 0
  · subst he
    by_cases hl : p < t.length
    · have t2 : endE t p 0 = 7 := by unfold endE; rw [if_pos rfl, if_pos hl]
      rw [t2]
      have T2 := Lib.hid t2; clear t2
      go_enter Try.func57, Try.ntmps57
      go_wp2
      go_quiet (fail)
      go_wp2
      go_ret
      exact ⟨rfl, HBAD.out _, ((Only.refl g w).set_ (.inl rfl) _).drewN _⟩
    · have t2 : endE t p 0 = 0 := by unfold endE; rw [if_pos rfl, if_neg hl]
      rw [t2]
      have T2 := Lib.hid t2; clear t2
      go_enter Try.func57, Try.ntmps57
      go_wp2
      go_quiet (fail)
      go_wp2
      go_ret
      exact ⟨rfl, HH.out.drw ⟨_, rfl⟩, (Only.refl g w).drewN _⟩
  · have t2 : endE t p e = e := by unfold endE; rw [if_neg he]
    rw [t2]
    have t1 : ((e : Int) == 0) = false := by rw [beq_eq_false_iff_ne]; omega
    have T2 := Lib.hid t2; have HE := Lib.hid he; clear t2 he
    go_enter Try.func57, Try.ntmps57
    go_wp2
    go_quiet (fail)
    go_wp2
    go_ret
    exact ⟨rfl, HH.out.drw ⟨_, rfl⟩, (Only.refl g w).drewN _⟩
end Go.Proofs.Ytpnolgghbenekaa
