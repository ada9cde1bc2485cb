/-
  bushelref08.Read of things of every kind.
-/
import Derived.Test.YtpnolgghbenekaaRefRead
import Derived.Test.YtpnolgghbenekaaRefGetI
import Derived.Test.YtpnolgghbenekaaRefGetT
import Derived.Test.YtpnolgghbenekaaGetFAny
namespace Go.Proofs.Ytpnolgghbenekaa
open Go.ChangeShapes Go.WideShapes Go.ChangeAt Go.RowKit
set_option linter.unusedVariables false

/-- what was read -/
structure GotS where
  u : Nat
  i : Int
  t : List UInt8
  n : Nat
  e : Nat
def GotS.v (g : GotS) : Value := .agg #[.int .u64 (g.u : Int), .int .i64 g.i, .string ⟨g.t.toArray⟩, .int .i64 (g.n : Int), .int .i64 (g.e : Int)]
def got0S (e : Nat) : GotS := ⟨0, 0, [], 0, e⟩
def mx (ms : Int) : Nat := (max ms 0).toNat
/-- what the document's Read says -/
def rdU (mu : Nat) (t : List UInt8) : GotS := if (getU t).2.2 ≠ 0 then got0S (getU t).2.2 else if mu < (getU t).1 then got0S 2 else ⟨(getU t).1, 0, [], (getU t).2.1, 0⟩
def rdI (t : List UInt8) : GotS := if (getI t).2.2 ≠ 0 then got0S (getI t).2.2 else ⟨0, (getI t).1, [], (getI t).2.1, 0⟩
def rdF (t : List UInt8) : GotS := if (rgetF t).2 ≠ 0 then got0S (rgetF t).2 else ⟨(rgetF t).1, 0, [], 8, 0⟩
def rdT (ms : Int) (t : List UInt8) : GotS := if (getT t).2.2 ≠ 0 then got0S (getT t).2.2 else if mx ms < (getT t).1.length then got0S 4 else ⟨0, 0, (getT t).1, (getT t).2.1, 0⟩
def rdB (ms : Int) (t : List UInt8) : GotS :=
  if (getU t).2.2 ≠ 0 then got0S (getU t).2.2 else if mx ms < (getU t).1 then got0S 4 else if t.length - (getU t).2.1 < (getU t).1 then got0S 5
  else ⟨0, 0, (t.drop (getU t).2.1).take (getU t).1, (getU t).2.1 + (getU t).1, 0⟩

abbrev askV (d : Int) (mu : Nat) (ai : Int) (f : Nat) (s : ByteArray) (ms : Int) : Value := .agg #[.int .i64 d, .int .u64 (mu : Int), .int .i64 ai, .float .f64 f, .string s, .int .i64 ms]
section
variable (mu : Nat) (ai : Int) (f : Nat) (s : ByteArray) (ms : Int) (A : Option Addr) (m c B : Nat) (t : List UInt8) (w : World)

set_option maxHeartbeats 1000000 in
theorem refRead0 (h : Rd w B 1 A m (u8s t)) (hc : m ≤ maxLen) (hB : B ≤ w.heap.size) :
    Calls Try.prog 35 #[askV 0 mu ai f s ms, .slice A m c] w fun y w' => y = .returned (rdU mu t).v ∧ Below w.heap.size w w' := by
  have hg := fun (W : World) (hb : Below w.heap.size w W) => refGetU_any A m c B t W (h.keep fun q hq => hb.cell (by omega)) hc
  unfold rdU
  generalize getU t = r at *
  obtain ⟨x, n, er⟩ := r
  simp only at hg ⊢
  have sd := sdN; have ad := adN
  have HG := Lib.hid hg; have H := Lib.hid h; clear hg h
  by_cases h1 : er = 0
  · subst h1
    rw [if_neg (by omega)]
    by_cases h2 : mu < x
    · rw [if_pos h2]
      go_enter Try.func35, Try.ntmps35
      go_wp2_with (go_at_call 72; (with_reducible refine (HG.out _ ?_).mono ?_); exact belA (belA (belA (belR w) _) _) _; rintro y w1 ⟨rfl, k1, rfl⟩)
      exact bodyPost_ret (v := (got0S 2).v) (by simp [results, Try.results35, go_sem, GotS.v, got0S]) rfl ⟨rfl, belD (belA (belA (belA (belR w) _) _) _) _⟩
    · rw [if_neg h2]
      go_enter Try.func35, Try.ntmps35
      go_wp2_with (go_at_call 72; (with_reducible refine (HG.out _ ?_).mono ?_); exact belA (belA (belA (belR w) _) _) _; rintro y w1 ⟨rfl, k1, rfl⟩)
      exact bodyPost_ret (v := (GotS.mk x 0 [] n 0).v) (by simp [results, Try.results35, go_sem, GotS.v]) rfl ⟨rfl, belD (belA (belA (belA (belR w) _) _) _) _⟩
  · rw [if_pos h1]
    have t1 : ((er : Int) == 0) = false := by rw [beq_eq_false_iff_ne]; omega
    have t2 : ((er : Int) != 0) = true := by rw [bne_iff_ne]; omega
    have H1 := Lib.hid h1; clear h1
    go_enter Try.func35, Try.ntmps35
    go_wp2_with (go_at_call 72; (with_reducible refine (HG.out _ ?_).mono ?_); exact belA (belA (belA (belR w) _) _) _; rintro y w1 ⟨rfl, k1, rfl⟩)
    exact bodyPost_ret (v := (got0S er).v) (by simp [results, Try.results35, go_sem, GotS.v, got0S]) rfl ⟨rfl, belD (belA (belA (belA (belR w) _) _) _) _⟩
set_option maxHeartbeats 1000000 in
theorem refRead2 (h : Rd w B 1 A m (u8s t)) (hc : m ≤ maxLen) (hB : B ≤ w.heap.size) :
    Calls Try.prog 35 #[askV 2 mu ai f s ms, .slice A m c] w fun y w' => y = .returned (rdF t).v ∧ Below w.heap.size w w' := by
  have hg := fun (W : World) (hb : Below w.heap.size w W) => refGetF_any A m c B t W (h.keep fun q hq => hb.cell (by omega)) hc
  unfold rdF
  generalize rgetF t = r at *
  obtain ⟨x, er⟩ := r
  simp only at hg ⊢
  have sd := sdN; have ad := adN
  have HG := Lib.hid hg; have H := Lib.hid h; clear hg h
  by_cases h1 : er = 0
  · subst h1
    rw [if_neg (by omega)]
    go_enter Try.func35, Try.ntmps35
    go_wp2_with (go_at_call 74; (with_reducible refine (HG.out _ ?_).mono ?_); exact belA (belA (belA (belR w) _) _) _; rintro y w1 ⟨rfl, k1, rfl⟩)
    exact bodyPost_ret (v := (GotS.mk x 0 [] 8 0).v) (by simp [results, Try.results35, go_sem, GotS.v]) rfl ⟨rfl, belD (belA (belA (belA (belR w) _) _) _) _⟩
  · rw [if_pos h1]
    have t1 : ((er : Int) == 0) = false := by rw [beq_eq_false_iff_ne]; omega
    have t2 : ((er : Int) != 0) = true := by rw [bne_iff_ne]; omega
    have H1 := Lib.hid h1; clear h1
    go_enter Try.func35, Try.ntmps35
    go_wp2_with (go_at_call 74; (with_reducible refine (HG.out _ ?_).mono ?_); exact belA (belA (belA (belR w) _) _) _; rintro y w1 ⟨rfl, k1, rfl⟩)
    exact bodyPost_ret (v := (got0S er).v) (by simp [results, Try.results35, go_sem, GotS.v, got0S]) rfl ⟨rfl, belD (belA (belA (belA (belR w) _) _) _) _⟩
theorem mx_lt (ms : Int) (n : Nat) : decide (max ms 0 < (n : Int)) = decide (mx ms < n) := by
  unfold mx
  exact decide_eq_decide.2 (by omega)
set_option maxHeartbeats 1000000 in
theorem refRead3 (h : Rd w B 1 A m (u8s t)) (hm : m ≤ 1000000) (hmc : m ≤ c) (hc : c ≤ maxLen) (hB : B ≤ w.heap.size) :
    Calls Try.prog 35 #[askV 3 mu ai f s ms, .slice A m c] w fun y w' => y = .returned (rdT ms t).v ∧ Below w.heap.size w w' := by
  have hg := fun (W : World) (hb : Below w.heap.size w W) => refGetT_any A m c B t W (h.keep fun q hq => hb.cell (by omega)) hm hmc hc
  unfold rdT
  generalize getT t = r at *
  obtain ⟨x, n, er⟩ := r
  simp only at hg ⊢
  have sd := sdN; have ad := adN
  have HG := Lib.hid hg; have H := Lib.hid h; clear hg h
  by_cases h1 : er = 0
  · subst h1
    rw [if_neg (by omega)]
    by_cases h2 : mx ms < x.length
    · rw [if_pos h2]
      have H2 := Lib.hid h2; clear h2
      go_enter Try.func35, Try.ntmps35
      go_wp2_with (go_at_call 75; (with_reducible refine (HG.out _ ?_).mono ?_); exact belA (belA (belA (belR w) _) _) _; rintro y w1 ⟨rfl, k1, rfl⟩)
      all_goals
        have h2 := H2.out
        unfold mx at h2
        first | (exfalso; omega) | exact bodyPost_ret (v := (got0S 4).v) (by simp [results, Try.results35, go_sem, GotS.v, got0S]) rfl ⟨rfl, belD (belA (belA (belA (belR w) _) _) _) _⟩
    · rw [if_neg h2]
      have H2 := Lib.hid h2; clear h2
      go_enter Try.func35, Try.ntmps35
      go_wp2_with (go_at_call 75; (with_reducible refine (HG.out _ ?_).mono ?_); exact belA (belA (belA (belR w) _) _) _; rintro y w1 ⟨rfl, k1, rfl⟩)
      all_goals
        have h2 := H2.out
        unfold mx at h2
        first | (exfalso; omega) | exact bodyPost_ret (v := (GotS.mk 0 0 x n 0).v) (by simp [results, Try.results35, go_sem, GotS.v]) rfl ⟨rfl, belD (belA (belA (belA (belR w) _) _) _) _⟩
  · rw [if_pos h1]
    have t1 : ((er : Int) == 0) = false := by rw [beq_eq_false_iff_ne]; omega
    have t2 : ((er : Int) != 0) = true := by rw [bne_iff_ne]; omega
    have H1 := Lib.hid h1; clear h1
    go_enter Try.func35, Try.ntmps35
    go_wp2_with (go_at_call 75; (with_reducible refine (HG.out _ ?_).mono ?_); exact belA (belA (belA (belR w) _) _) _; rintro y w1 ⟨rfl, k1, rfl⟩)
    exact bodyPost_ret (v := (got0S er).v) (by simp [results, Try.results35, go_sem, GotS.v, got0S]) rfl ⟨rfl, belD (belA (belA (belA (belR w) _) _) _) _⟩
end
end Go.Proofs.Ytpnolgghbenekaa
