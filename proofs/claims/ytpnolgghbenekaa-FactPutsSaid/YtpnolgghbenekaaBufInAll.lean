/-
  THE READER's I, F, T.
-/
import Derived.Test.YtpnolgghbenekaaBufInU
import Derived.Test.YtpnolgghbenekaaRefReadI
namespace Go.Proofs.Ytpnolgghbenekaa
open Go.ChangeShapes Go.WideShapes Go.ChangeAt Go.RowKit
set_option linter.unusedVariables false

theorem getI_fits (t : List UInt8) (h : (getI t).2.2 = 0) : (getI t).2.1 ≤ t.length := by
  cases t with
  | nil => simp [getI]
  | cons c t =>
    unfold getI at h ⊢
    simp only at h ⊢
    split at h
    · simp at h
    · rename_i h1
      rw [if_neg h1]
      split at h
      · simp at h
      · rename_i h2
        rw [if_neg h2]
        split at h
        · rename_i h3
          rw [if_pos h3]
          simp only [List.length_cons]
          have hp : (prt c t).length ≤ t.length := by unfold prt; split <;> simp <;> omega
          have := numB_fits (prt c t) _ h3
          omega
        · rename_i h3; exact absurd h h3
theorem getT_fits (t : List UInt8) (h : (getT t).2.2 = 0) : (getT t).2.1 ≤ t.length := by
  have key : ∀ n, ∀ t : List UInt8, t.length ≤ n → (getT t).2.2 = 0 → (getT t).2.1 ≤ t.length := by
    intro n
    induction n with
    | zero => intro t hl h; obtain rfl : t = [] := List.eq_nil_of_length_eq_zero (by omega); simp [getT]
    | succ n ih =>
      intro t hl h
      cases t with
      | nil => simp [getT]
      | cons c t =>
        unfold getT at h ⊢
        by_cases hc : c ≠ 0
        · rw [if_pos hc] at h ⊢
          by_cases h2 : (getT t).2.2 = 0
          · rw [if_pos h2]; have := ih t (by simpa using hl) h2; simp; exact this
          · rw [if_neg h2] at h; exact absurd h h2
        · rw [if_neg hc] at h ⊢
          cases t with
          | nil => simp
          | cons d u =>
            simp only at h ⊢
            by_cases hd : d = 0
            · rw [if_pos hd]; simp
            · rw [if_neg hd] at h ⊢
              by_cases hd1 : d = 1
              · rw [if_pos hd1] at h ⊢
                by_cases h2 : (getT u).2.2 = 0
                · rw [if_pos h2]; have := ih u (by simp at hl; omega) h2; simp; exact this
                · rw [if_neg h2] at h; exact absurd h h2
              · rw [if_neg hd1] at h; simp at h
  exact key _ t (Nat.le_refl _) h
theorem getF_fits (t : List UInt8) (h : (getF t).2.2 = 0) : (getF t).2.1 ≤ t.length := by
  unfold getF at h ⊢
  split at h
  · split at h <;> simp at h
  · rename_i h8
    rw [if_neg h8]
    split <;> simp <;> omega

/-- what a reader's I, F, T come to: the place, the fault -/
def inE (e er er2 : Nat) : Nat := stepE e er er2
theorem allF_any (x : Nat) (w : World) : Calls Try.prog 114 #[.float .f64 x] w fun y w' => y = .returned (.int .i64 ((0 : Nat) : Int)) ∧ w = w' := by
  go_enter Try.func114, Try.ntmps114
  go_wp2
  go_ret
  exact ⟨rfl, rfl⟩
theorem inI_any (w : World) (g : Nat) (t : List UInt8) (p e : Nat) (h : InS w g t p e) :
    Calls Try.prog 76 #[.pointer (some ⟨g, 0, none⟩)] w
      fun y w' => y = .returned (.int .i64 (stepV (0 : Int) (getI (t.drop p)).1 (stepE e (getI (t.drop p)).2.2 0))) ∧ InS w' g t (stepP p (getI (t.drop p)).2.1 (stepE e (getI (t.drop p)).2.2 0)) (stepE e (getI (t.drop p)).2.2 0) ∧ Only g w w' := by
  have hr := readI_any w g t p e (getI (t.drop p)).1 (getI (t.drop p)).2.1 (getI (t.drop p)).2.2 0 h
    (fun _ W A c hgW hR h1 h2 => getI_any A (t.length - p) c (t.drop p) W (hR.more hgW) h1 h2)
    (fun W => all64_any _ W) (fun _ h0 => by have := getI_fits (t.drop p) h0; rwa [List.length_drop] at this)
  have HR := Lib.hid hr; clear hr
  go_enter Try.func76, Try.ntmps76
  go_wp2_with (go_at_call 109; (with_reducible refine HR.out.mono ?_); rintro y w1 ⟨rfl, hi1, ho1⟩)
  go_ret
  exact ⟨rfl, hi1, ho1⟩
theorem inF_any (w : World) (g : Nat) (t : List UInt8) (p e : Nat) (h : InS w g t p e) :
    Calls Try.prog 77 #[.pointer (some ⟨g, 0, none⟩)] w
      fun y w' => y = .returned (.float .f64 (stepV (0 : Nat) (getF (t.drop p)).1 (stepE e (getF (t.drop p)).2.2 0))) ∧ InS w' g t (stepP p (getF (t.drop p)).2.1 (stepE e (getF (t.drop p)).2.2 0)) (stepE e (getF (t.drop p)).2.2 0) ∧ Only g w w' := by
  have hr := readF_any w g t p e (getF (t.drop p)).1 (getF (t.drop p)).2.1 (getF (t.drop p)).2.2 0 h
    (fun _ W A c hgW hR h1 h2 => getF_any A (t.length - p) c g (t.drop p) W hR h1 h2)
    (fun W => allF_any _ W) (fun _ h0 => by have := getF_fits (t.drop p) h0; rwa [List.length_drop] at this)
  have HR := Lib.hid hr; clear hr
  go_enter Try.func77, Try.ntmps77
  go_wp2_with (go_at_call 112; (with_reducible refine HR.out.mono ?_); rintro y w1 ⟨rfl, hi1, ho1⟩)
  go_ret
  exact ⟨rfl, hi1, ho1⟩
/-- what the closure of In.T tells -/
def longE (n : Nat) (ms : Int) : Nat := if mx ms < n then 4 else 0
theorem inT1_any (w : World) (cap : Nat) (l : List UInt8) (ms : Int) (hc : w.cell? ⟨cap, 0, none⟩ = some (.int .i64 ms)) :
    Calls Try.prog 118 #[.string ⟨l.toArray⟩, .pointer (some ⟨cap, 0, none⟩)] w fun e w' => e = .returned (.int .i64 (longE l.length ms : Int)) ∧ w = w' := by
  have hmx := mx_eq ms
  unfold longE
  generalize mx ms = M at *
  by_cases hl : M < l.length
  · rw [if_pos hl]
    go_enter Try.func118, Try.ntmps118
    go_wp2
    go_ret
    exact ⟨rfl, rfl⟩
  · rw [if_neg hl]
    go_enter Try.func118, Try.ntmps118
    go_wp2
    go_ret
    exact ⟨rfl, rfl⟩
theorem inT_any (w : World) (g : Nat) (t : List UInt8) (p e : Nat) (ms : Int) (h : InS w g t p e) (ht : t.length ≤ 1000000) :
    Calls Try.prog 79 #[.pointer (some ⟨g, 0, none⟩), .int .i64 ms] w
      fun y w' => y = .returned (.string (stepV (⟨#[]⟩ : ByteArray) ⟨(getT (t.drop p)).1.toArray⟩ (stepE e (getT (t.drop p)).2.2 (longE (getT (t.drop p)).1.length ms)))) ∧ InS w' g t (stepP p (getT (t.drop p)).2.1 (stepE e (getT (t.drop p)).2.2 (longE (getT (t.drop p)).1.length ms))) (stepE e (getT (t.drop p)).2.2 (longE (getT (t.drop p)).1.length ms)) ∧ Only g w w' := by
  have hgl := h.lt
  have hi : InS (w.alloc (.cells #[.int .i64 ms] 3)) g t p e := h.below ((Below.refl _ w).alloc (Nat.le_refl _) _) hgl
  have hc : (w.alloc (.cells #[.int .i64 ms] 3)).cell? ⟨w.heap.size, 0, none⟩ = some (.int .i64 ms) := by simp [go_sem]
  have hr := readT_any _ g w.heap.size t p e ⟨(getT (t.drop p)).1.toArray⟩ (getT (t.drop p)).2.1 (getT (t.drop p)).2.2 (longE (getT (t.drop p)).1.length ms) hi _ hc (by simp)
    (fun _ W A c hgW hR h1 h2 => getT_any A (t.length - p) c (t.drop p) W (hR.more hgW) (by omega))
    (fun W hW => inT1_any W _ _ _ hW) (fun _ h0 => by have := getT_fits (t.drop p) h0; rwa [List.length_drop] at this)
  have HR := Lib.hid hr; clear hr hc
  go_enter Try.func79, Try.ntmps79
  go_wp2_with (go_at_call 116; (with_reducible refine HR.out.mono ?_); rintro y w1 ⟨rfl, hi1, ho1⟩)
  go_ret
  exact ⟨rfl, hi1, (((Only.refl g w).alloc _).trans ho1)⟩
end Go.Proofs.Ytpnolgghbenekaa
