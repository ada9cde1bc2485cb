/-
  bushelref08.Read of a number with a sign; of bytes.
  bushelref08.Read of things of every kind.
  bushelref07.GetT: the document's text of any bytes is the same.
-/
import Derived.Test.YtpnolgghbenekaaGetWalks
import Derived.Test.YtpnolgghbenekaaBlk
import Derived.Test.YtpnolgghbenekaaRefRead
import Derived.Test.YtpnolgghbenekaaRefGetI
import Derived.Test.YtpnolgghbenekaaGetFAny
namespace Go.Proofs.Ytpnolgghbenekaa
open Go.ChangeShapes Go.WideShapes Go.ChangeAt Go.RowKit
set_option linter.unusedVariables false

theorem str_app (l m : List UInt8) : (⟨l.toArray⟩ : ByteArray) ++ ⟨m.toArray⟩ = ⟨(l ++ m).toArray⟩ := by
  apply ByteArray.ext
  rw [ByteArray.data_append]
  simp
/-- string(b[i:i+1]) -/
theorem conv1 {w : World} {a : Addr} {B p k c : Nat} {x : UInt8} (h : w.cell? (a.add p) = some (.int .u8 (x.toNat : Int))) (hb : a.block < B) : (convert 36 9 (.slice (some (a.add p)) 1 (c - k))).run Try.prog w = .ok (.string ⟨[x].toArray⟩) w := by
  refine run_str (B := B) (l := [x]) ⟨rfl, fun _ => ⟨_, rfl, by rw [block_add]; exact hb, fun j u hu => ?_⟩⟩ Try.underlying36 Try.underlying5 Try.underlying9
  cases j with
  | zero => rw [add_zero', h]; exact hu
  | succ j => simp [u8s] at hu
def TRel (t : List UInt8) (w : World) (v i : Value) (wr : World) : Prop := ∃ (p : Nat) (acc : List UInt8), p ≤ t.length ∧ acc.length ≤ p ∧ i = .int .i64 (p : Int) ∧ v = .string ⟨acc.toArray⟩ ∧ Drw w wr ∧ Hid (getT t = comb acc p (getT (t.drop p)))
set_option maxRecDepth 20000 in
set_option maxHeartbeats 1000000 in
theorem refGetT_any (A : Option Addr) (m c B : Nat) (t : List UInt8) (w : World) (h : Rd w B 1 A m (u8s t)) (hm : m ≤ 1000000) (hmc : m ≤ c) (hc : c ≤ maxLen) :
    Calls Try.prog 75 #[.slice A m c] w fun e w' => e = .returned (.tuple #[.string ⟨(getT t).1.toArray⟩, .int .i64 ((getT t).2.1 : Nat), .int .i64 ((getT t).2.2 : Nat)]) ∧ Drw w w' := by
  obtain rfl : m = t.length := h.u8.symm
  have H := Lib.hid h; clear h
  go_enter Try.func75, Try.ntmps75
  go_wp2
  go_loopw [5, 6] (fun v i wr => TRel t w v i wr) (fun _ i _ => t.length - (intOf i).toNat)
  case atStart => exact ⟨0, [], by omega, Nat.le_refl _, rfl, rfl, Drw.refl _, comb_zero t⟩
  case round =>
    obtain ⟨p, acc, hp, hacc, rfl, rfl, ⟨j, rfl⟩, E⟩ := hrel
    have hsz : acc.length + 1 ≤ 9223372036854775807 := by omega
    by_cases h1 : p < t.length
    · obtain ⟨a, rfl, hab, hc0⟩ := H.out.byte h1
      have hdr := List.drop_eq_getElem_cons h1
      have hpc : (p : Int) < (c : Int) := by omega
      have hp1c : (p : Int) + 1 ≤ (c : Int) := by omega
      have HDR := Lib.hid hdr; clear hdr
      have hc8 := t[p].toNat_lt
      by_cases h2 : t[p] = 0
      · have t1 := u8_zb h2
        have t1' := u8_z h2
        have H2 := Lib.hid h2; clear h2
        by_cases h3 : p + 1 < t.length
        · obtain ⟨a', ea, _, hc'⟩ := H.out.byte h3
          injection ea with ea
          subst ea
          rw [add_succ] at hc'
          have hdr2 := List.drop_eq_getElem_cons h3
          have HDR2 := Lib.hid hdr2; clear hdr2
          have t2 : decide ((t.length : Int) ≤ (p : Int) + 1) = false := decide_eq_false (by omega)
          have hc8' := t[p + 1].toNat_lt
          by_cases h4 : t[p + 1] = 0
          · have t3 := u8_z h4
            have hfin : getT t = (acc, p + 2, 0) := by rw [E.out, HDR.out, H2.out, HDR2.out, h4, comb_end]
            have H4 := Lib.hid h4; have HF := Lib.hid hfin; clear h4 hfin
            go_wp2
            go_ret3
            exact ⟨by rw [HF.out]; go_num, _, rfl⟩
          · have t3 := u8_nz h4
            by_cases h5 : t[p + 1] = 1
            · have t4 : (((t[p + 1]'h3).toNat : Int) != 1) = false := by rw [h5]; rfl
              have hcv := conv1 (w := w.drewN j) (k := p) (c := c) hc0 hab
              have H4 := Lib.hid h4; have H5 := Lib.hid h5; clear h4 h5
              go_wp2
              go_roundw
              case rel =>
                refine ⟨p + 2, acc ++ [0], by omega, by simp; omega, by go_num, ?_, ⟨_, rfl⟩, ?_⟩
                · rw [str_app, H2.out]
                · show getT t = _
                  rw [E.out, HDR.out, H2.out, HDR2.out, H5.out, comb_one]
              case measure => simp [intOf]; omega
            · have t4 : (((t[p + 1]'h3).toNat : Int) != 1) = true := by
                rw [bne_iff_ne]; intro e; exact h5 (UInt8.toNat_inj.1 (by simp; omega))
              have hfin : getT t = ([], 0, 6) := by rw [E.out, HDR.out, H2.out, HDR2.out, comb_form _ _ _ _ h4 h5]
              have H4 := Lib.hid h4; have H5 := Lib.hid h5; have HF := Lib.hid hfin; clear h4 h5 hfin
              go_wp2
              go_ret3
              exact ⟨by rw [HF.out]; rfl, _, rfl⟩
        · have t2 : decide ((t.length : Int) ≤ (p : Int) + 1) = true := decide_eq_true (by omega)
          have hfin : getT t = ([], 0, 5) := by rw [E.out, HDR.out, H2.out, List.drop_eq_nil_of_le (by omega), comb_short1]
          have HF := Lib.hid hfin; clear hfin
          go_wp2
          go_ret3
          exact ⟨by rw [HF.out]; rfl, _, rfl⟩
      · have t1 := u8_nzb h2
        have t1' := u8_nz h2
        have hcv := conv1 (w := w.drewN j) (k := p) (c := c) hc0 hab
        have H2 := Lib.hid h2; clear h2
        go_wp2
        go_roundw
        case rel =>
          refine ⟨p + 1, acc ++ [t[p]], by omega, by simp; omega, by go_num, ?_, ⟨_, rfl⟩, ?_⟩
          · rw [str_app]
          · show getT t = _
            rw [E.out, HDR.out, comb_step _ _ _ _ H2.out]
        case measure => simp [intOf]; omega
    · have hfin : getT t = ([], 0, 5) := by rw [E.out, List.drop_eq_nil_of_le (by omega), comb_short]
      have HF := Lib.hid hfin; clear hfin
      go_wp2
      go_ret3
      exact ⟨by rw [HF.out]; rfl, _, rfl⟩
end Go.Proofs.Ytpnolgghbenekaa
namespace Go.Proofs.Ytpnolgghbenekaa
open Go.ChangeShapes Go.WideShapes Go.ChangeAt Go.RowKit
set_option linter.unusedVariables false

/-- what was read -/
structure GotS where
  u : Nat
  i : Int
  t : List UInt8
  n : Nat
  e : Nat
def GotS.v (g : GotS) : Value := .agg #[.int .u64 (g.u : Int), .int .i64 g.i, .string ⟨g.t.toArray⟩, .int .i64 (g.n : Int), .int .i64 (g.e : Int)]
def got0S (e : Nat) : GotS := ⟨0, 0, [], 0, e⟩
def mx (ms : Int) : Nat := (max ms 0).toNat
/-- what the document's Read says -/
def rdU (mu : Nat) (t : List UInt8) : GotS := if (getU t).2.2 ≠ 0 then got0S (getU t).2.2 else if mu < (getU t).1 then got0S 2 else ⟨(getU t).1, 0, [], (getU t).2.1, 0⟩
def rdI (t : List UInt8) : GotS := if (getI t).2.2 ≠ 0 then got0S (getI t).2.2 else ⟨0, (getI t).1, [], (getI t).2.1, 0⟩
def rdF (t : List UInt8) : GotS := if (rgetF t).2 ≠ 0 then got0S (rgetF t).2 else ⟨(rgetF t).1, 0, [], 8, 0⟩
def rdT (ms : Int) (t : List UInt8) : GotS := if (getT t).2.2 ≠ 0 then got0S (getT t).2.2 else if mx ms < (getT t).1.length then got0S 4 else ⟨0, 0, (getT t).1, (getT t).2.1, 0⟩
def rdB (ms : Int) (t : List UInt8) : GotS :=
  if (getU t).2.2 ≠ 0 then got0S (getU t).2.2 else if mx ms < (getU t).1 then got0S 4 else if t.length - (getU t).2.1 < (getU t).1 then got0S 5
  else ⟨0, 0, (t.drop (getU t).2.1).take (getU t).1, (getU t).2.1 + (getU t).1, 0⟩

abbrev askV (d : Int) (mu : Nat) (ai : Int) (f : Nat) (s : ByteArray) (ms : Int) : Value := .agg #[.int .i64 d, .int .u64 (mu : Int), .int .i64 ai, .float .f64 f, .string s, .int .i64 ms]
section
variable (mu : Nat) (ai : Int) (f : Nat) (s : ByteArray) (ms : Int) (A : Option Addr) (m c B : Nat) (t : List UInt8) (w : World)

set_option maxHeartbeats 1000000 in
theorem refRead0 (h : Rd w B 1 A m (u8s t)) (hc : m ≤ maxLen) (hB : B ≤ w.heap.size) :
    Calls Try.prog 35 #[askV 0 mu ai f s ms, .slice A m c] w fun y w' => y = .returned (rdU mu t).v ∧ Below w.heap.size w w' := by
  have hg := fun (W : World) (hb : Below w.heap.size w W) => refGetU_any A m c B t W (h.keep fun q hq => hb.cell (by omega)) hc
  unfold rdU
  generalize getU t = r at *
  obtain ⟨x, n, er⟩ := r
  simp only at hg ⊢
  have sd := sdN; have ad := adN
  have HG := Lib.hid hg; have H := Lib.hid h; clear hg h
  by_cases h1 : er = 0
  · subst h1
    rw [if_neg (by omega)]
    by_cases h2 : mu < x
    · rw [if_pos h2]
      go_enter Try.func35, Try.ntmps35
      go_wp2_with (go_at_call 72; (with_reducible refine (HG.out _ ?_).mono ?_); exact belA (belA (belA (belR w) _) _) _; rintro y w1 ⟨rfl, k1, rfl⟩)
      exact bodyPost_ret (v := (got0S 2).v) (by simp [results, Try.results35, go_sem, GotS.v, got0S]) rfl ⟨rfl, belD (belA (belA (belA (belR w) _) _) _) _⟩
    · rw [if_neg h2]
      go_enter Try.func35, Try.ntmps35
      go_wp2_with (go_at_call 72; (with_reducible refine (HG.out _ ?_).mono ?_); exact belA (belA (belA (belR w) _) _) _; rintro y w1 ⟨rfl, k1, rfl⟩)
      exact bodyPost_ret (v := (GotS.mk x 0 [] n 0).v) (by simp [results, Try.results35, go_sem, GotS.v]) rfl ⟨rfl, belD (belA (belA (belA (belR w) _) _) _) _⟩
  · rw [if_pos h1]
    have t1 : ((er : Int) == 0) = false := by rw [beq_eq_false_iff_ne]; omega
    have t2 : ((er : Int) != 0) = true := by rw [bne_iff_ne]; omega
    have H1 := Lib.hid h1; clear h1
    go_enter Try.func35, Try.ntmps35
    go_wp2_with (go_at_call 72; (with_reducible refine (HG.out _ ?_).mono ?_); exact belA (belA (belA (belR w) _) _) _; rintro y w1 ⟨rfl, k1, rfl⟩)
    exact bodyPost_ret (v := (got0S er).v) (by simp [results, Try.results35, go_sem, GotS.v, got0S]) rfl ⟨rfl, belD (belA (belA (belA (belR w) _) _) _) _⟩
set_option maxHeartbeats 1000000 in
theorem refRead2 (h : Rd w B 1 A m (u8s t)) (hc : m ≤ maxLen) (hB : B ≤ w.heap.size) :
    Calls Try.prog 35 #[askV 2 mu ai f s ms, .slice A m c] w fun y w' => y = .returned (rdF t).v ∧ Below w.heap.size w w' := by
  have hg := fun (W : World) (hb : Below w.heap.size w W) => refGetF_any A m c B t W (h.keep fun q hq => hb.cell (by omega)) hc
  unfold rdF
  generalize rgetF t = r at *
  obtain ⟨x, er⟩ := r
  simp only at hg ⊢
  have sd := sdN; have ad := adN
  have HG := Lib.hid hg; have H := Lib.hid h; clear hg h
  by_cases h1 : er = 0
  · subst h1
    rw [if_neg (by omega)]
    go_enter Try.func35, Try.ntmps35
    go_wp2_with (go_at_call 74; (with_reducible refine (HG.out _ ?_).mono ?_); exact belA (belA (belA (belR w) _) _) _; rintro y w1 ⟨rfl, k1, rfl⟩)
    exact bodyPost_ret (v := (GotS.mk x 0 [] 8 0).v) (by simp [results, Try.results35, go_sem, GotS.v]) rfl ⟨rfl, belD (belA (belA (belA (belR w) _) _) _) _⟩
  · rw [if_pos h1]
    have t1 : ((er : Int) == 0) = false := by rw [beq_eq_false_iff_ne]; omega
    have t2 : ((er : Int) != 0) = true := by rw [bne_iff_ne]; omega
    have H1 := Lib.hid h1; clear h1
    go_enter Try.func35, Try.ntmps35
    go_wp2_with (go_at_call 74; (with_reducible refine (HG.out _ ?_).mono ?_); exact belA (belA (belA (belR w) _) _) _; rintro y w1 ⟨rfl, k1, rfl⟩)
    exact bodyPost_ret (v := (got0S er).v) (by simp [results, Try.results35, go_sem, GotS.v, got0S]) rfl ⟨rfl, belD (belA (belA (belA (belR w) _) _) _) _⟩
theorem mx_lt (ms : Int) (n : Nat) : decide (max ms 0 < (n : Int)) = decide (mx ms < n) := by
  unfold mx
  exact decide_eq_decide.2 (by omega)
set_option maxHeartbeats 1000000 in
theorem refRead3 (h : Rd w B 1 A m (u8s t)) (hm : m ≤ 1000000) (hmc : m ≤ c) (hc : c ≤ maxLen) (hB : B ≤ w.heap.size) :
    Calls Try.prog 35 #[askV 3 mu ai f s ms, .slice A m c] w fun y w' => y = .returned (rdT ms t).v ∧ Below w.heap.size w w' := by
  have hg := fun (W : World) (hb : Below w.heap.size w W) => refGetT_any A m c B t W (h.keep fun q hq => hb.cell (by omega)) hm hmc hc
  unfold rdT
  generalize getT t = r at *
  obtain ⟨x, n, er⟩ := r
  simp only at hg ⊢
  have sd := sdN; have ad := adN
  have HG := Lib.hid hg; have H := Lib.hid h; clear hg h
  by_cases h1 : er = 0
  · subst h1
    rw [if_neg (by omega)]
    by_cases h2 : mx ms < x.length
    · rw [if_pos h2]
      have H2 := Lib.hid h2; clear h2
      go_enter Try.func35, Try.ntmps35
      go_wp2_with (go_at_call 75; (with_reducible refine (HG.out _ ?_).mono ?_); exact belA (belA (belA (belR w) _) _) _; rintro y w1 ⟨rfl, k1, rfl⟩)
      all_goals
        have h2 := H2.out
        unfold mx at h2
        first | (exfalso; omega) | exact bodyPost_ret (v := (got0S 4).v) (by simp [results, Try.results35, go_sem, GotS.v, got0S]) rfl ⟨rfl, belD (belA (belA (belA (belR w) _) _) _) _⟩
    · rw [if_neg h2]
      have H2 := Lib.hid h2; clear h2
      go_enter Try.func35, Try.ntmps35
      go_wp2_with (go_at_call 75; (with_reducible refine (HG.out _ ?_).mono ?_); exact belA (belA (belA (belR w) _) _) _; rintro y w1 ⟨rfl, k1, rfl⟩)
      all_goals
        have h2 := H2.out
        unfold mx at h2
        first | (exfalso; omega) | exact bodyPost_ret (v := (GotS.mk 0 0 x n 0).v) (by simp [results, Try.results35, go_sem, GotS.v]) rfl ⟨rfl, belD (belA (belA (belA (belR w) _) _) _) _⟩
  · rw [if_pos h1]
    have t1 : ((er : Int) == 0) = false := by rw [beq_eq_false_iff_ne]; omega
    have t2 : ((er : Int) != 0) = true := by rw [bne_iff_ne]; omega
    have H1 := Lib.hid h1; clear h1
    go_enter Try.func35, Try.ntmps35
    go_wp2_with (go_at_call 75; (with_reducible refine (HG.out _ ?_).mono ?_); exact belA (belA (belA (belR w) _) _) _; rintro y w1 ⟨rfl, k1, rfl⟩)
    exact bodyPost_ret (v := (got0S er).v) (by simp [results, Try.results35, go_sem, GotS.v, got0S]) rfl ⟨rfl, belD (belA (belA (belA (belR w) _) _) _) _⟩
end
end Go.Proofs.Ytpnolgghbenekaa
namespace Go.Proofs.Ytpnolgghbenekaa
open Go.ChangeShapes Go.WideShapes Go.ChangeAt Go.RowKit
set_option linter.unusedVariables false

section
variable (mu : Nat) (ai : Int) (f : Nat) (s : ByteArray) (ms : Int) (A : Option Addr) (m c B : Nat) (t : List UInt8) (w : World)
set_option maxRecDepth 20000 in
set_option maxHeartbeats 1000000 in
theorem refRead1 (h : Rd w B 1 A m (u8s t)) (hm : m ≤ 1000000) (hmc : m ≤ c) (hc : c ≤ maxLen) (hB : B ≤ w.heap.size) :
    Calls Try.prog 35 #[askV 1 mu ai f s ms, .slice A m c] w fun y w' => y = .returned (rdI t).v ∧ Below w.heap.size w w' := by
  have hg := fun (W : World) (hb : Below w.heap.size w W) => refGetI_any A m c B t W (h.keep fun q hq => hb.cell (by omega)) hmc hc (Nat.le_trans hB hb.size) hm
  unfold rdI
  generalize getI t = r at *
  obtain ⟨x, n, er⟩ := r
  simp only at hg ⊢
  have HG := Lib.hid hg; have H := Lib.hid h; clear hg h
  have fin : ∀ b : Bool, ((er : Int) == 0) = b → ((er : Int) != 0) = !b → (if er ≠ 0 then got0S er else ⟨0, x, [], n, 0⟩ : GotS) = (if b then ⟨0, x, [], n, er⟩ else got0S er) →
    Calls Try.prog 35 #[askV 1 mu ai f s ms, .slice A m c] w fun y w' => y = .returned (if er ≠ 0 then got0S er else ⟨0, x, [], n, 0⟩ : GotS).v ∧ Below w.heap.size w w' := by
    intro b t1 t2 hres
    rw [hres]
    have HRES := Lib.hid hres; clear hres
    cases b
    · simp only [Bool.not_true, Bool.not_false] at t2
      go_enter Try.func35, Try.ntmps35
      go_wp2_with fail
      (with_reducible refine (HG.out _ ?_).mono ?_)
      · exact belA (belA (belA (belR w) _) _) _
      · rintro y w1 ⟨rfl, hb1⟩
        have k3 := (Blk.new ((w.alloc (.cells #[.int .i64 1, .int .u64 (mu : Int), .int .i64 ai, .float .f64 f, .string s, .int .i64 ms] 79)).alloc (.cells #[.int .u64 0, .int .i64 0, .string ⟨#[]⟩, .int .i64 0, .int .i64 0] 75)) 75 #[.int .u64 0, .int .i64 0, .string ⟨#[]⟩, .int .i64 0, .int .i64 0]).below hb1 (by simp)
        have k2 := ((Blk.new (w.alloc (.cells #[.int .i64 1, .int .u64 (mu : Int), .int .i64 ai, .float .f64 f, .string s, .int .i64 ms] 79)) 75 #[.int .u64 0, .int .i64 0, .string ⟨#[]⟩, .int .i64 0, .int .i64 0]).alloc (.cells #[.int .u64 0, .int .i64 0, .string ⟨#[]⟩, .int .i64 0, .int .i64 0] 75)).below hb1 (by simp)
        simp only [World.size_alloc] at k2 k3
        have c0 := k3.cell 0; have c1 := k3.cell 1; have c2 := k3.cell 2; have c3 := k3.cell 3; have c4 := k3.cell 4
        have f0 := k3.frozen 0; have f1 := k3.frozen 1; have f2 := k3.frozen 2; have f3 := k3.frozen 3; have f4 := k3.frozen 4
        have d0 := k2.cell 0; have d1 := k2.cell 1; have d2 := k2.cell 2; have d3 := k2.cell 3; have d4 := k2.cell 4
        have g0 := k2.frozen 0; have g1 := k2.frozen 1; have g2 := k2.frozen 2; have g3 := k2.frozen 3; have g4 := k2.frozen 4
        simp at c0 c1 c2 c3 c4 d0 d1 d2 d3 d4
        have hbel : Below w.heap.size w w1 := (belA (belA (belA (belR w) _) _) _).trans (hb1.mono (by simp; omega))
        have HBEL := Lib.hid hbel; have K2 := Lib.hid k2; have K3 := Lib.hid k3; clear hb1 hbel k2 k3
        go_wp2
        refine bodyPost_ret (v := (if false = true then (⟨0, x, [], n, er⟩ : GotS) else got0S er).v) ?_ rfl ⟨rfl, ?_⟩
        · simp [results, Try.results35, go_sem, GotS.v, got0S, *]
        · iterate 8 (refine Below.setCell ?_ (by simp only; omega) _)
          exact HBEL.out
    · simp only [Bool.not_true, Bool.not_false] at t2
      go_enter Try.func35, Try.ntmps35
      go_wp2_with fail
      (with_reducible refine (HG.out _ ?_).mono ?_)
      · exact belA (belA (belA (belR w) _) _) _
      · rintro y w1 ⟨rfl, hb1⟩
        have k3 := (Blk.new ((w.alloc (.cells #[.int .i64 1, .int .u64 (mu : Int), .int .i64 ai, .float .f64 f, .string s, .int .i64 ms] 79)).alloc (.cells #[.int .u64 0, .int .i64 0, .string ⟨#[]⟩, .int .i64 0, .int .i64 0] 75)) 75 #[.int .u64 0, .int .i64 0, .string ⟨#[]⟩, .int .i64 0, .int .i64 0]).below hb1 (by simp)
        have k2 := ((Blk.new (w.alloc (.cells #[.int .i64 1, .int .u64 (mu : Int), .int .i64 ai, .float .f64 f, .string s, .int .i64 ms] 79)) 75 #[.int .u64 0, .int .i64 0, .string ⟨#[]⟩, .int .i64 0, .int .i64 0]).alloc (.cells #[.int .u64 0, .int .i64 0, .string ⟨#[]⟩, .int .i64 0, .int .i64 0] 75)).below hb1 (by simp)
        simp only [World.size_alloc] at k2 k3
        have c0 := k3.cell 0; have c1 := k3.cell 1; have c2 := k3.cell 2; have c3 := k3.cell 3; have c4 := k3.cell 4
        have f0 := k3.frozen 0; have f1 := k3.frozen 1; have f2 := k3.frozen 2; have f3 := k3.frozen 3; have f4 := k3.frozen 4
        have d0 := k2.cell 0; have d1 := k2.cell 1; have d2 := k2.cell 2; have d3 := k2.cell 3; have d4 := k2.cell 4
        have g0 := k2.frozen 0; have g1 := k2.frozen 1; have g2 := k2.frozen 2; have g3 := k2.frozen 3; have g4 := k2.frozen 4
        simp at c0 c1 c2 c3 c4 d0 d1 d2 d3 d4
        have hbel : Below w.heap.size w w1 := (belA (belA (belA (belR w) _) _) _).trans (hb1.mono (by simp; omega))
        have HBEL := Lib.hid hbel; have K2 := Lib.hid k2; have K3 := Lib.hid k3; clear hb1 hbel k2 k3
        go_wp2
        refine bodyPost_ret (v := (if true = true then (⟨0, x, [], n, er⟩ : GotS) else got0S er).v) ?_ rfl ⟨rfl, ?_⟩
        · simp [results, Try.results35, go_sem, GotS.v, got0S, *]
        · iterate 8 (refine Below.setCell ?_ (by simp only; omega) _)
          exact HBEL.out
  by_cases h1 : er = 0
  · subst h1
    exact fin true rfl rfl rfl
  · exact fin false (by rw [beq_eq_false_iff_ne]; omega) (by show _ = true; rw [bne_iff_ne]; omega) (by rw [if_pos h1]; rfl)
/-- a cut of bytes reads as a cut of the list -/
theorem conv_cut {w : World} {B n k N : Nat} {a : Addr} {t : List UInt8} (h : Rd w B 1 (some a) n (u8s t)) (hk : k < n) (hN : k + N ≤ n) : ∀ cc, (convert 36 9 (.slice (some (a.add k)) N cc)).run Try.prog w = .ok (.string ⟨((t.drop k).take N).toArray⟩) w := by
  intro cc
  have h1 := h.cut (k := k) (c := n + 1) (by omega) (by omega)
  rw [if_neg (by omega), Nat.mul_one, u8s_drop] at h1
  have h2 := h1.take (k := N) (by omega)
  simp only [Option.map_some, Nat.mul_one] at h2
  exact run_str h2 Try.underlying36 Try.underlying5 Try.underlying9
theorem mx_eq (ms : Int) : (if ms < 0 then 0 else ms) = (mx ms : Int) := by
  unfold mx
  split <;> omega
/-- an empty cut -/
theorem conv_nil {w : World} (A : Option Addr) (cc : Nat) : (convert 36 9 (.slice A 0 cc)).run Try.prog w = .ok (.string ⟨#[]⟩) w := by
  exact run_str (B := 0) (l := []) ⟨rfl, fun h => absurd h (by omega)⟩ Try.underlying36 Try.underlying5 Try.underlying9
set_option maxRecDepth 20000 in
set_option maxHeartbeats 1000000 in
theorem refRead4 (h : Rd w B 1 A m (u8s t)) (hm : m ≤ 1000000) (hmc : m ≤ c) (hc : c ≤ maxLen) (hB : B ≤ w.heap.size) (hms : ms ≤ 9223372036854775807) :
    Calls Try.prog 35 #[askV 4 mu ai f s ms, .slice A m c] w fun y w' => y = .returned (rdB ms t).v ∧ Below w.heap.size w w' := by
  have hg := fun (W : World) (hb : Below w.heap.size w W) => refGetU_any A m c B t W (h.keep fun q hq => hb.cell (by omega)) (Nat.le_trans hmc hc)
  have hlt := getU_lt t
  have hfit := getU_fits t
  have hlen := h.u8
  have hne : t = [] → (getU t).2.2 = 5 := fun e => by subst e; rfl
  have hcc := hc
  unfold maxLen at hcc
  unfold rdB
  generalize getU t = r at *
  obtain ⟨x, n, er⟩ := r
  simp only at hg hlt hfit hne ⊢
  have sd := sdN; have ad := adN
  have hmx := mx_eq ms
  have hM : mx ms ≤ 9223372036854775807 := by unfold mx; omega
  generalize mx ms = M at *
  have wM : IntKind.u64.wrap (M : Int) = (M : Int) := by rw [IntKind.wrap_u64]; omega
  have HG := Lib.hid hg; clear hg
  by_cases h1 : er = 0
  · subst h1
    rw [if_neg (by omega)]
    have hn := hfit rfl
    obtain ⟨a, rfl, hab⟩ : ∃ a, A = some a ∧ a.block < B := by
      cases t with
      | nil => exact absurd (hne rfl) (by decide)
      | cons b t => obtain ⟨a, e, hb, _⟩ := h.byte (k := 0) (by simp); exact ⟨a, e, hb⟩
    obtain ⟨k, hk⟩ : ∃ k, n + k = m := ⟨m - n, by omega⟩
    have hkz : (m : Int) - (n : Int) = (k : Int) := by omega
    have wk : IntKind.u64.wrap (k : Int) = (k : Int) := by rw [IntKind.wrap_u64]; omega
    have hl : t.length - n = k := by omega
    rw [hl]
    have hnm : n ≤ m := by omega
    have hkm : k ≤ 1000000 := by omega
    have H := Lib.hid h; have HL := Lib.hid hlen; have HK := Lib.hid hk; have HL2 := Lib.hid hl; clear h hlen hk hl hne hfit hn
    by_cases h2 : M < x
    · rw [if_pos h2]
      go_enter Try.func35, Try.ntmps35
      go_wp2_with (go_at_call 72; (with_reducible refine (HG.out _ ?_).mono ?_); exact belA (belA (belA (belR w) _) _) _; rintro y w1 ⟨rfl, k1, rfl⟩)
      exact bodyPost_ret (v := (got0S 4).v) (by simp [results, Try.results35, go_sem, GotS.v, got0S]) rfl ⟨rfl, belD (belA (belA (belA (belR w) _) _) _) _⟩
    · rw [if_neg h2]
      by_cases h3 : k < x
      · rw [if_pos h3]
        go_enter Try.func35, Try.ntmps35
        go_wp2_with (go_at_call 72; (with_reducible refine (HG.out _ ?_).mono ?_); exact belA (belA (belA (belR w) _) _) _; rintro y w1 ⟨rfl, k1, rfl⟩)
        exact bodyPost_ret (v := (got0S 5).v) (by simp [results, Try.results35, go_sem, GotS.v, got0S]) rfl ⟨rfl, belD (belA (belA (belA (belR w) _) _) _) _⟩
      · rw [if_neg h3]
        have hxk : x ≤ k := by omega
        have hnx : (n : Int) + (x : Int) ≤ (c : Int) := by have := HK.out; omega
        have hxc : (x : Int) ≤ 1000000 := by omega
        by_cases hnc : n = c
        · have hx0 : x = 0 := by have := HK.out; omega
          subst hx0
          subst hnc
          have hcv := fun W => conv_nil (w := W) (some a) 0
          rw [List.take_zero]
          go_enter Try.func35, Try.ntmps35
          go_wp2_with (go_at_call 72; (with_reducible refine (HG.out _ ?_).mono ?_); exact belA (belA (belA (belR w) _) _) _; rintro y w1 ⟨rfl, k1, rfl⟩)
          exact bodyPost_ret (v := (GotS.mk 0 0 [] (n + 0) 0).v) (by simp [results, Try.results35, go_sem, GotS.v]) rfl ⟨rfl, belD (belA (belA (belA (belR w) _) _) _) _⟩
        · have hnc2 : (n : Int) < (c : Int) := by have := HK.out; omega
          have hcv : ∀ o1 o2 o3 k cc, (convert 36 9 (.slice (some (a.add n)) x cc)).run Try.prog ((((w.alloc o1).alloc o2).alloc o3).drewN k) = .ok (.string ⟨((t.drop n).take x).toArray⟩) ((((w.alloc o1).alloc o2).alloc o3).drewN k) := by
            intro o1 o2 o3 k' cc
            have hr := H.out.below ((bel_lit3 w o1 o2 o3 k').mono hB)
            by_cases hnm2 : n < m
            · exact conv_cut hr hnm2 (by have := HK.out; omega) cc
            · have e0 : x = 0 := by have := HK.out; omega
              subst e0
              rw [List.take_zero]; exact conv_nil _ cc
          generalize (t.drop n).take x = T at *
          go_enter Try.func35, Try.ntmps35
          go_wp2_with (go_at_call 72; (with_reducible refine (HG.out _ ?_).mono ?_); exact belA (belA (belA (belR w) _) _) _; rintro y w1 ⟨rfl, k1, rfl⟩)
          exact bodyPost_ret (v := (GotS.mk 0 0 T (n + x) 0).v) (by simp [results, Try.results35, go_sem, GotS.v]) rfl ⟨rfl, belD (belA (belA (belA (belR w) _) _) _) _⟩
  · rw [if_pos h1]
    have t1 : ((er : Int) == 0) = false := by rw [beq_eq_false_iff_ne]; omega
    have t2 : ((er : Int) != 0) = true := by rw [bne_iff_ne]; omega
    have H1 := Lib.hid h1; clear h1 hne hfit h
    go_enter Try.func35, Try.ntmps35
    go_wp2_with (go_at_call 72; (with_reducible refine (HG.out _ ?_).mono ?_); exact belA (belA (belA (belR w) _) _) _; rintro y w1 ⟨rfl, k1, rfl⟩)
    exact bodyPost_ret (v := (got0S er).v) (by simp [results, Try.results35, go_sem, GotS.v, got0S]) rfl ⟨rfl, belD (belA (belA (belA (belR w) _) _) _) _⟩
end
end Go.Proofs.Ytpnolgghbenekaa
