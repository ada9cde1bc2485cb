/-
  THE READER buf.In: its memory; fine, rest, fail, Fault, Left, End, NewIn.
-/
import Derived.Test.YtpnolgghbenekaaBlk
import Derived.Test.YtpnolgghbenekaaGetWalks
namespace Go.Proofs.Ytpnolgghbenekaa
open Go.ChangeShapes Go.WideShapes Go.ChangeAt Go.RowKit
set_option linter.unusedVariables false

/-- s[p:], the address behind one name -/
theorem slice_from {P : Program} {w : World} {B n c p : Nat} {A : Option Addr} {l : List UInt8} {T E : TypeId} (hT : P.underlying T = some (.slice E)) (hE : P.elem T = E) (hs : ∀ w, (sizeOf E).run P w = .ok 1 w)
    (h : Rd w B 1 A n (u8s l)) (hp : p ≤ n) (hc : n ≤ c) :
    ∃ A', (∀ W, (Instr.slice T (.slice A n c) (some (.int .i64 (p : Int))) none none).run P W = .ok (.slice A' (n - p) (c - p)) W) ∧ Rd w B 1 A' (n - p) (u8s (l.drop p)) := by
  have h1 := h.cut (k := p) (c := c) hp hc
  rw [u8s_drop, Nat.mul_one] at h1
  refine ⟨_, fun W => ?_, h1⟩
  rw [run_slice_l W T A n c (by rw [hE]; exact hT) .i64 (p : Int) (by omega) (by omega), hE, hs]
  simp [Result.andThen, sliced]

/-- THE READER AT BLOCK g: its bytes, its place, its fault -/
def InS (w : World) (g : Nat) (t : List UInt8) (p e : Nat) : Prop :=
  ∃ A c, Blk w g 94 #[.bool true, .slice A t.length c, .int .i64 (p : Int), .int .i64 (e : Int)] ∧ Rd w g 1 A t.length (u8s t) ∧ t.length ≤ c ∧ c ≤ maxLen ∧ p ≤ t.length
section
variable {w w' : World} {g p e : Nat} {t : List UInt8}
theorem InS.lt (h : InS w g t p e) : g < w.heap.size := by obtain ⟨A, c, hb, _⟩ := h; exact hb.lt
theorem InS.drw (h : InS w g t p e) (k : Drw w w') : InS w' g t p e := by
  obtain ⟨n, rfl⟩ := k; exact h
theorem InS.below {B : Nat} (h : InS w g t p e) (hb : Below B w w') (hg : g < B) : InS w' g t p e := by
  obtain ⟨A, c, h1, h2, h3⟩ := h
  exact ⟨A, c, h1.below hb hg, h2.keep fun q hq => hb.cell (by omega), h3⟩
theorem InS.of_eq (h : InS w g t p e) {p' e' : Nat} (h1 : p = p') (h2 : e = e') : InS w g t p' e' := by subst h1 h2; exact h
end

theorem szu8 (w : World) : (sizeOf 5).run Try.prog w = .ok 1 w := by kernel_rfl
theorem elu8 : Try.prog.elem 36 = 5 := by kernel_rfl

theorem fine_any (w : World) (g : Nat) (t : List UInt8) (p e : Nat) (h : InS w g t p e) :
    Calls Try.prog 81 #[.pointer (some ⟨g, 0, none⟩)] w fun x w' => x = .returned (.bool (decide (e = 0))) ∧ w = w' := by
  obtain ⟨A, c, hb, hR, hc, hm, hp⟩ := h
  have c0 := hb.cell 0; have c3 := hb.cell 3
  simp at c0 c3
  have HB := Lib.hid hb; have HR := Lib.hid hR; clear hb hR
  by_cases he : e = 0
  · subst he
    go_enter Try.func81, Try.ntmps81
    go_wp2
    go_ret
    exact ⟨rfl, rfl⟩
  · have t1 : ((e : Int) == 0) = false := by rw [beq_eq_false_iff_ne]; omega
    have t2 : decide (e = 0) = false := decide_eq_false he
    have T2 := Lib.hid t2; have HE := Lib.hid he; clear t2 he
    go_enter Try.func81, Try.ntmps81
    go_wp2
    go_ret
    exact ⟨by rw [T2.out]; rfl, rfl⟩

theorem rest_any (w : World) (g : Nat) (t : List UInt8) (p e : Nat) (h : InS w g t p e) :
    Calls Try.prog 119 #[.pointer (some ⟨g, 0, none⟩)] w fun x w' => ∃ A' c', x = .returned (.slice A' (t.length - p) c') ∧ Rd w' g 1 A' (t.length - p) (u8s (t.drop p)) ∧ t.length - p ≤ c' ∧ c' ≤ maxLen ∧ Drw w w' := by
  obtain ⟨A, c, hb, hR, hc, hm, hp⟩ := h
  have c1 := hb.cell 1; have c2 := hb.cell 2
  simp at c1 c2
  obtain ⟨A', hsl, hR'⟩ := slice_from Try.underlying36 elu8 szu8 hR hp hc
  have HB := Lib.hid hb; have HR := Lib.hid hR; clear hb hR
  go_enter Try.func119, Try.ntmps119
  go_wp2
  go_quiet (fail)
  go_wp2
  go_ret
  exact ⟨A', c - p, rfl, hR', by omega, by omega, ⟨_, rfl⟩⟩

/-- the fault noted; the place moved on -/
theorem InS.bad {w : World} {g : Nat} {t : List UInt8} {p e : Nat} (h : InS w g t p e) (e' : Nat) : InS (w.setCell ⟨g, 3, none⟩ (.int .i64 (e' : Int))) g t p e' := by
  obtain ⟨A, c, hb, hR, r⟩ := h
  have := hb.set_ 3 (.int .i64 (e' : Int))
  exact ⟨A, c, by simpa using this, hR.keep fun q hq => World.cell?_setCell_other w _ q _ (fun e => by subst e; simp at hq), r⟩
theorem InS.move {w : World} {g : Nat} {t : List UInt8} {p e : Nat} (h : InS w g t p e) (p' : Nat) (hp : p' ≤ t.length) : InS (w.setCell ⟨g, 2, none⟩ (.int .i64 (p' : Int))) g t p' e := by
  obtain ⟨A, c, hb, hR, h1, h2, h3⟩ := h
  have := hb.set_ 2 (.int .i64 (p' : Int))
  exact ⟨A, c, by simpa using this, hR.keep fun q hq => World.cell?_setCell_other w _ q _ (fun e => by subst e; simp at hq), h1, h2, hp⟩
theorem Only.set1 (w : World) (g i : Nat) (u : Value) : Only g w (w.setCell ⟨g, i, none⟩ u) := (Only.refl g w).set_ (p := ⟨g, i, none⟩) (.inl rfl) u

theorem fail_any (w : World) (g : Nat) (t : List UInt8) (p e e' : Nat) (h : InS w g t p e) :
    Calls Try.prog 120 #[.pointer (some ⟨g, 0, none⟩), .int .i64 (e' : Int)] w fun x w' => x = .returned (.tuple #[]) ∧ w.setCell ⟨g, 3, none⟩ (.int .i64 (e' : Int)) = w' := by
  obtain ⟨A, c, hb, _⟩ := h
  have c3 := hb.cell 3; have f3 := hb.frozen 3
  simp at c3
  have HB := Lib.hid hb; clear hb
  go_enter Try.func120, Try.ntmps120
  go_wp2
  go_end0
  exact ⟨rfl, rfl⟩

/-- the place that Fault tells -/
def faultP (p e : Nat) : Int := if e = 0 then 0 else (p : Int)
theorem fault_any (w : World) (g : Nat) (t : List UInt8) (p e : Nat) (h : InS w g t p e) :
    Calls Try.prog 37 #[.pointer (some ⟨g, 0, none⟩)] w fun x w' => x = .returned (.tuple #[.int .i64 (faultP p e), .int .i64 (e : Int)]) ∧ Drw w w' := by
  obtain ⟨A, c, hb, _⟩ := h
  have c0 := hb.cell 0; have c2 := hb.cell 2; have c3 := hb.cell 3
  simp at c0 c2 c3
  have HB := Lib.hid hb; clear hb
  by_cases he : e = 0
  · subst he
    go_enter Try.func37, Try.ntmps37
    go_wp2
    go_ret2
    exact ⟨rfl, Drw.refl _⟩
  · have t1 : ((e : Int) == 0) = false := by rw [beq_eq_false_iff_ne]; omega
    have t2 : faultP p e = p := if_neg he
    have T2 := Lib.hid t2; have HE := Lib.hid he; clear t2 he
    go_enter Try.func37, Try.ntmps37
    go_wp2
    go_quiet (fail)
    go_wp2
    go_ret2
    exact ⟨by rw [T2.out]; rfl, ⟨_, rfl⟩⟩

/-- how much is left -/
def leftN (t : List UInt8) (p e : Nat) : Int := if e = 0 then (t.length : Int) - (p : Int) else 0
theorem left_any (w : World) (g : Nat) (t : List UInt8) (p e : Nat) (h : InS w g t p e) :
    Calls Try.prog 38 #[.pointer (some ⟨g, 0, none⟩)] w fun x w' => x = .returned (.int .i64 (leftN t p e)) ∧ Drw w w' := by
  have hf := fine_any w g t p e h
  obtain ⟨A, c, hb, hR, hc, hm, hp⟩ := h
  have c1 := hb.cell 1; have c2 := hb.cell 2
  simp at c1 c2
  unfold maxLen at hm
  have HB := Lib.hid hb; have HR := Lib.hid hR; clear hb hR
  by_cases he : e = 0
  · have t1 : decide (e = 0) = true := decide_eq_true he
    have t2 : leftN t p e = (t.length : Int) - (p : Int) := if_pos he
    rw [t1] at hf
    have T2 := Lib.hid t2; have HE := Lib.hid he; have HF := Lib.hid hf; clear t1 t2 he hf
    go_enter Try.func38, Try.ntmps38
    go_wp2_with (go_at_call 81; (with_reducible refine HF.out.mono ?_); rintro x w' ⟨rfl, rfl⟩)
    go_quiet (fail)
    go_wp2
    go_ret
    exact ⟨by rw [T2.out]; rfl, ⟨_, rfl⟩⟩
  · have t1 : decide (e = 0) = false := decide_eq_false he
    have t2 : leftN t p e = 0 := if_neg he
    rw [t1] at hf
    have T2 := Lib.hid t2; have HE := Lib.hid he; have HF := Lib.hid hf; clear t1 t2 he hf
    go_enter Try.func38, Try.ntmps38
    go_wp2_with (go_at_call 81; (with_reducible refine HF.out.mono ?_); rintro x w' ⟨rfl, rfl⟩)
    go_ret
    exact ⟨by rw [T2.out]; rfl, Drw.refl _⟩

/-- the end's fault -/
def endE (t : List UInt8) (p e : Nat) : Nat := if e = 0 then (if p < t.length then 7 else 0) else e
theorem end_any (w : World) (g : Nat) (t : List UInt8) (p e : Nat) (h : InS w g t p e) :
    Calls Try.prog 39 #[.pointer (some ⟨g, 0, none⟩)] w fun x w' => x = .returned (.int .i64 (endE t p e : Int)) ∧ InS w' g t p (endE t p e) ∧ Only g w w' := by
  have hf := fun n => fine_any (w.drewN n) g t p e h
  have hft := fun W e' (hi : InS W g t p e') => fault_any W g t p e' hi
  have hbad := fun w' (k : Drw w w') => (h.drw k).bad 7
  have h' := h
  obtain ⟨A, c, hb, hR, hc, hm, hp⟩ := h'
  have c1 := hb.cell 1; have c2 := hb.cell 2; have f3 := hb.frozen 3; have c3 := hb.cell 3
  simp at c1 c2 c3
  unfold maxLen at hm
  have HB := Lib.hid hb; have HR := Lib.hid hR; have HH := Lib.hid h; have HFT := Lib.hid hft; have HBAD := Lib.hid hbad; clear hb hR h hft hbad
  by_cases he : e = 0
  · have t1 : decide (e = 0) = true := decide_eq_true he
    rw [t1] at hf
    have HE := Lib.hid he; have HF := Lib.hid hf; clear t1 he hf
    by_cases hl : p < t.length
    · have t2 : endE t p e = 7 := by unfold endE; rw [if_pos HE.out, if_pos hl]
      rw [t2]
      have T2 := Lib.hid t2; clear t2
      go_enter Try.func39, Try.ntmps39
      go_wp2
      go_quiet ((go_at_call 81; exact qcallS (HF.out _)))
      go_wp2_with (go_at_call 37; (with_reducible refine (HFT.out _ 7 ?_).mono ?_); exact HBAD.out _ ⟨_, rfl⟩; rintro x w' ⟨rfl, k⟩)
      go_ret
      exact ⟨rfl, (HBAD.out _ ⟨_, rfl⟩).drw k, (((Only.refl g w).drewN _).set_ (.inl rfl) _).drw k⟩
    · have t2 : endE t p e = e := by unfold endE; rw [if_pos HE.out, if_neg hl, HE.out]
      rw [t2]
      have T2 := Lib.hid t2; clear t2
      go_enter Try.func39, Try.ntmps39
      go_wp2
      go_quiet ((go_at_call 81; exact qcallS (HF.out _)))
      go_wp2_with (go_at_call 37; (with_reducible refine (HFT.out _ e ?_).mono ?_); exact HH.out.drw ⟨_, rfl⟩; rintro x w' ⟨rfl, k⟩)
      go_ret
      exact ⟨rfl, (HH.out.drw ⟨_, rfl⟩).drw k, ((Only.refl g w).drewN _).drw k⟩
  · have t1 : decide (e = 0) = false := decide_eq_false he
    rw [t1] at hf
    have t2 : endE t p e = e := by unfold endE; rw [if_neg he]
    rw [t2]
    have T2 := Lib.hid t2; have HE := Lib.hid he; have HF := Lib.hid hf; clear t1 t2 he hf
    go_enter Try.func39, Try.ntmps39
    go_wp2
    go_quiet ((go_at_call 81; exact qcallS (HF.out _)))
    go_wp2_with (go_at_call 37; (with_reducible refine (HFT.out _ e ?_).mono ?_); exact HH.out.drw ⟨_, rfl⟩; rintro x w' ⟨rfl, k⟩)
    go_ret
    exact ⟨rfl, (HH.out.drw ⟨_, rfl⟩).drw k, ((Only.refl g w).drewN _).drw k⟩
end Go.Proofs.Ytpnolgghbenekaa
