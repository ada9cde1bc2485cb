/-
  bushelref08.Read of a number with a sign; of bytes.
-/
import Derived.Test.YtpnolgghbenekaaRefReadAll
namespace Go.Proofs.Ytpnolgghbenekaa
open Go.ChangeShapes Go.WideShapes Go.ChangeAt Go.RowKit
set_option linter.unusedVariables false

section
variable (mu : Nat) (ai : Int) (f : Nat) (s : ByteArray) (ms : Int) (A : Option Addr) (m c B : Nat) (t : List UInt8) (w : World)
set_option maxRecDepth 20000 in
set_option maxHeartbeats 1000000 in
theorem refRead1 (h : Rd w B 1 A m (u8s t)) (hm : m ≤ 1000000) (hmc : m ≤ c) (hc : c ≤ maxLen) (hB : B ≤ w.heap.size) :
    Calls Try.prog 35 #[askV 1 mu ai f s ms, .slice A m c] w fun y w' => y = .returned (rdI t).v ∧ Below w.heap.size w w' := by
  have hg := fun (W : World) (hb : Below w.heap.size w W) => refGetI_any A m c B t W (h.keep fun q hq => hb.cell (by omega)) hmc hc (Nat.le_trans hB hb.size) hm
  unfold rdI
  generalize getI t = r at *
  obtain ⟨x, n, er⟩ := r
  simp only at hg ⊢
  have HG := Lib.hid hg; have H := Lib.hid h; clear hg h
  have fin : ∀ b : Bool, ((er : Int) == 0) = b → ((er : Int) != 0) = !b → (if er ≠ 0 then got0S er else ⟨0, x, [], n, 0⟩ : GotS) = (if b then ⟨0, x, [], n, er⟩ else got0S er) →
    Calls Try.prog 35 #[askV 1 mu ai f s ms, .slice A m c] w fun y w' => y = .returned (if er ≠ 0 then got0S er else ⟨0, x, [], n, 0⟩ : GotS).v ∧ Below w.heap.size w w' := by
    intro b t1 t2 hres
    rw [hres]
    have HRES := Lib.hid hres; clear hres
    cases b
    · simp only [Bool.not_true, Bool.not_false] at t2
      go_enter Try.func35, Try.ntmps35
      go_wp2_with fail
      (with_reducible refine (HG.out _ ?_).mono ?_)
      · exact belA (belA (belA (belR w) _) _) _
      · rintro y w1 ⟨rfl, hb1⟩
        have k3 := (Blk.new ((w.alloc (.cells #[.int .i64 1, .int .u64 (mu : Int), .int .i64 ai, .float .f64 f, .string s, .int .i64 ms] 79)).alloc (.cells #[.int .u64 0, .int .i64 0, .string ⟨#[]⟩, .int .i64 0, .int .i64 0] 75)) 75 #[.int .u64 0, .int .i64 0, .string ⟨#[]⟩, .int .i64 0, .int .i64 0]).below hb1 (by simp)
        have k2 := ((Blk.new (w.alloc (.cells #[.int .i64 1, .int .u64 (mu : Int), .int .i64 ai, .float .f64 f, .string s, .int .i64 ms] 79)) 75 #[.int .u64 0, .int .i64 0, .string ⟨#[]⟩, .int .i64 0, .int .i64 0]).alloc (.cells #[.int .u64 0, .int .i64 0, .string ⟨#[]⟩, .int .i64 0, .int .i64 0] 75)).below hb1 (by simp)
        simp only [World.size_alloc] at k2 k3
        have c0 := k3.cell 0; have c1 := k3.cell 1; have c2 := k3.cell 2; have c3 := k3.cell 3; have c4 := k3.cell 4
        have f0 := k3.frozen 0; have f1 := k3.frozen 1; have f2 := k3.frozen 2; have f3 := k3.frozen 3; have f4 := k3.frozen 4
        have d0 := k2.cell 0; have d1 := k2.cell 1; have d2 := k2.cell 2; have d3 := k2.cell 3; have d4 := k2.cell 4
        have g0 := k2.frozen 0; have g1 := k2.frozen 1; have g2 := k2.frozen 2; have g3 := k2.frozen 3; have g4 := k2.frozen 4
        simp at c0 c1 c2 c3 c4 d0 d1 d2 d3 d4
        have hbel : Below w.heap.size w w1 := (belA (belA (belA (belR w) _) _) _).trans (hb1.mono (by simp; omega))
        have HBEL := Lib.hid hbel; have K2 := Lib.hid k2; have K3 := Lib.hid k3; clear hb1 hbel k2 k3
        go_wp2
        refine bodyPost_ret (v := (if false = true then (⟨0, x, [], n, er⟩ : GotS) else got0S er).v) ?_ rfl ⟨rfl, ?_⟩
        · simp [results, Try.results35, go_sem, GotS.v, got0S, *]
        · iterate 8 (refine Below.setCell ?_ (by simp only; omega) _)
          exact HBEL.out
    · simp only [Bool.not_true, Bool.not_false] at t2
      go_enter Try.func35, Try.ntmps35
      go_wp2_with fail
      (with_reducible refine (HG.out _ ?_).mono ?_)
      · exact belA (belA (belA (belR w) _) _) _
      · rintro y w1 ⟨rfl, hb1⟩
        have k3 := (Blk.new ((w.alloc (.cells #[.int .i64 1, .int .u64 (mu : Int), .int .i64 ai, .float .f64 f, .string s, .int .i64 ms] 79)).alloc (.cells #[.int .u64 0, .int .i64 0, .string ⟨#[]⟩, .int .i64 0, .int .i64 0] 75)) 75 #[.int .u64 0, .int .i64 0, .string ⟨#[]⟩, .int .i64 0, .int .i64 0]).below hb1 (by simp)
        have k2 := ((Blk.new (w.alloc (.cells #[.int .i64 1, .int .u64 (mu : Int), .int .i64 ai, .float .f64 f, .string s, .int .i64 ms] 79)) 75 #[.int .u64 0, .int .i64 0, .string ⟨#[]⟩, .int .i64 0, .int .i64 0]).alloc (.cells #[.int .u64 0, .int .i64 0, .string ⟨#[]⟩, .int .i64 0, .int .i64 0] 75)).below hb1 (by simp)
        simp only [World.size_alloc] at k2 k3
        have c0 := k3.cell 0; have c1 := k3.cell 1; have c2 := k3.cell 2; have c3 := k3.cell 3; have c4 := k3.cell 4
        have f0 := k3.frozen 0; have f1 := k3.frozen 1; have f2 := k3.frozen 2; have f3 := k3.frozen 3; have f4 := k3.frozen 4
        have d0 := k2.cell 0; have d1 := k2.cell 1; have d2 := k2.cell 2; have d3 := k2.cell 3; have d4 := k2.cell 4
        have g0 := k2.frozen 0; have g1 := k2.frozen 1; have g2 := k2.frozen 2; have g3 := k2.frozen 3; have g4 := k2.frozen 4
        simp at c0 c1 c2 c3 c4 d0 d1 d2 d3 d4
        have hbel : Below w.heap.size w w1 := (belA (belA (belA (belR w) _) _) _).trans (hb1.mono (by simp; omega))
        have HBEL := Lib.hid hbel; have K2 := Lib.hid k2; have K3 := Lib.hid k3; clear hb1 hbel k2 k3
        go_wp2
        refine bodyPost_ret (v := (if true = true then (⟨0, x, [], n, er⟩ : GotS) else got0S er).v) ?_ rfl ⟨rfl, ?_⟩
        · simp [results, Try.results35, go_sem, GotS.v, got0S, *]
        · iterate 8 (refine Below.setCell ?_ (by simp only; omega) _)
          exact HBEL.out
  by_cases h1 : er = 0
  · subst h1
    exact fin true rfl rfl rfl
  · exact fin false (by rw [beq_eq_false_iff_ne]; omega) (by show _ = true; rw [bne_iff_ne]; omega) (by rw [if_pos h1]; rfl)
/-- a cut of bytes reads as a cut of the list -/
theorem conv_cut {w : World} {B n k N : Nat} {a : Addr} {t : List UInt8} (h : Rd w B 1 (some a) n (u8s t)) (hk : k < n) (hN : k + N ≤ n) : ∀ cc, (convert 36 9 (.slice (some (a.add k)) N cc)).run Try.prog w = .ok (.string ⟨((t.drop k).take N).toArray⟩) w := by
  intro cc
  have h1 := h.cut (k := k) (c := n + 1) (by omega) (by omega)
  rw [if_neg (by omega), Nat.mul_one, u8s_drop] at h1
  have h2 := h1.take (k := N) (by omega)
  simp only [Option.map_some, Nat.mul_one] at h2
  exact run_str h2 Try.underlying36 Try.underlying5 Try.underlying9
theorem mx_eq (ms : Int) : (if ms < 0 then 0 else ms) = (mx ms : Int) := by
  unfold mx
  split <;> omega
/-- an empty cut -/
theorem conv_nil {w : World} (A : Option Addr) (cc : Nat) : (convert 36 9 (.slice A 0 cc)).run Try.prog w = .ok (.string ⟨#[]⟩) w := by
  exact run_str (B := 0) (l := []) ⟨rfl, fun h => absurd h (by omega)⟩ Try.underlying36 Try.underlying5 Try.underlying9
set_option maxRecDepth 20000 in
set_option maxHeartbeats 1000000 in
theorem refRead4 (h : Rd w B 1 A m (u8s t)) (hm : m ≤ 1000000) (hmc : m ≤ c) (hc : c ≤ maxLen) (hB : B ≤ w.heap.size) (hms : ms ≤ 9223372036854775807) :
    Calls Try.prog 35 #[askV 4 mu ai f s ms, .slice A m c] w fun y w' => y = .returned (rdB ms t).v ∧ Below w.heap.size w w' := by
  have hg := fun (W : World) (hb : Below w.heap.size w W) => refGetU_any A m c B t W (h.keep fun q hq => hb.cell (by omega)) (Nat.le_trans hmc hc)
  have hlt := getU_lt t
  have hfit := getU_fits t
  have hlen := h.u8
  have hne : t = [] → (getU t).2.2 = 5 := fun e => by subst e; rfl
  have hcc := hc
  unfold maxLen at hcc
  unfold rdB
  generalize getU t = r at *
  obtain ⟨x, n, er⟩ := r
  simp only at hg hlt hfit hne ⊢
  have sd := sdN; have ad := adN
  have hmx := mx_eq ms
  have hM : mx ms ≤ 9223372036854775807 := by unfold mx; omega
  generalize mx ms = M at *
  have wM : IntKind.u64.wrap (M : Int) = (M : Int) := by rw [IntKind.wrap_u64]; omega
  have HG := Lib.hid hg; clear hg
  by_cases h1 : er = 0
  · subst h1
    rw [if_neg (by omega)]
    have hn := hfit rfl
    obtain ⟨a, rfl, hab⟩ : ∃ a, A = some a ∧ a.block < B := by
      cases t with
      | nil => exact absurd (hne rfl) (by decide)
      | cons b t => obtain ⟨a, e, hb, _⟩ := h.byte (k := 0) (by simp); exact ⟨a, e, hb⟩
    obtain ⟨k, hk⟩ : ∃ k, n + k = m := ⟨m - n, by omega⟩
    have hkz : (m : Int) - (n : Int) = (k : Int) := by omega
    have wk : IntKind.u64.wrap (k : Int) = (k : Int) := by rw [IntKind.wrap_u64]; omega
    have hl : t.length - n = k := by omega
    rw [hl]
    have hnm : n ≤ m := by omega
    have hkm : k ≤ 1000000 := by omega
    have H := Lib.hid h; have HL := Lib.hid hlen; have HK := Lib.hid hk; have HL2 := Lib.hid hl; clear h hlen hk hl hne hfit hn
    by_cases h2 : M < x
    · rw [if_pos h2]
      go_enter Try.func35, Try.ntmps35
      go_wp2_with (go_at_call 72; (with_reducible refine (HG.out _ ?_).mono ?_); exact belA (belA (belA (belR w) _) _) _; rintro y w1 ⟨rfl, k1, rfl⟩)
      exact bodyPost_ret (v := (got0S 4).v) (by simp [results, Try.results35, go_sem, GotS.v, got0S]) rfl ⟨rfl, belD (belA (belA (belA (belR w) _) _) _) _⟩
    · rw [if_neg h2]
      by_cases h3 : k < x
      · rw [if_pos h3]
        go_enter Try.func35, Try.ntmps35
        go_wp2_with (go_at_call 72; (with_reducible refine (HG.out _ ?_).mono ?_); exact belA (belA (belA (belR w) _) _) _; rintro y w1 ⟨rfl, k1, rfl⟩)
        exact bodyPost_ret (v := (got0S 5).v) (by simp [results, Try.results35, go_sem, GotS.v, got0S]) rfl ⟨rfl, belD (belA (belA (belA (belR w) _) _) _) _⟩
      · rw [if_neg h3]
        have hxk : x ≤ k := by omega
        have hnx : (n : Int) + (x : Int) ≤ (c : Int) := by have := HK.out; omega
        have hxc : (x : Int) ≤ 1000000 := by omega
        by_cases hnc : n = c
        · have hx0 : x = 0 := by have := HK.out; omega
          subst hx0
          subst hnc
          have hcv := fun W => conv_nil (w := W) (some a) 0
          rw [List.take_zero]
          go_enter Try.func35, Try.ntmps35
          go_wp2_with (go_at_call 72; (with_reducible refine (HG.out _ ?_).mono ?_); exact belA (belA (belA (belR w) _) _) _; rintro y w1 ⟨rfl, k1, rfl⟩)
          exact bodyPost_ret (v := (GotS.mk 0 0 [] (n + 0) 0).v) (by simp [results, Try.results35, go_sem, GotS.v]) rfl ⟨rfl, belD (belA (belA (belA (belR w) _) _) _) _⟩
        · have hnc2 : (n : Int) < (c : Int) := by have := HK.out; omega
          have hcv : ∀ o1 o2 o3 k cc, (convert 36 9 (.slice (some (a.add n)) x cc)).run Try.prog ((((w.alloc o1).alloc o2).alloc o3).drewN k) = .ok (.string ⟨((t.drop n).take x).toArray⟩) ((((w.alloc o1).alloc o2).alloc o3).drewN k) := by
            intro o1 o2 o3 k' cc
            have hr := H.out.below ((bel_lit3 w o1 o2 o3 k').mono hB)
            by_cases hnm2 : n < m
            · exact conv_cut hr hnm2 (by have := HK.out; omega) cc
            · have e0 : x = 0 := by have := HK.out; omega
              subst e0
              rw [List.take_zero]; exact conv_nil _ cc
          generalize (t.drop n).take x = T at *
          go_enter Try.func35, Try.ntmps35
          go_wp2_with (go_at_call 72; (with_reducible refine (HG.out _ ?_).mono ?_); exact belA (belA (belA (belR w) _) _) _; rintro y w1 ⟨rfl, k1, rfl⟩)
          exact bodyPost_ret (v := (GotS.mk 0 0 T (n + x) 0).v) (by simp [results, Try.results35, go_sem, GotS.v]) rfl ⟨rfl, belD (belA (belA (belA (belR w) _) _) _) _⟩
  · rw [if_pos h1]
    have t1 : ((er : Int) == 0) = false := by rw [beq_eq_false_iff_ne]; omega
    have t2 : ((er : Int) != 0) = true := by rw [bne_iff_ne]; omega
    have H1 := Lib.hid h1; clear h1 hne hfit h
    go_enter Try.func35, Try.ntmps35
    go_wp2_with (go_at_call 72; (with_reducible refine (HG.out _ ?_).mono ?_); exact belA (belA (belA (belR w) _) _) _; rintro y w1 ⟨rfl, k1, rfl⟩)
    exact bodyPost_ret (v := (got0S er).v) (by simp [results, Try.results35, go_sem, GotS.v, got0S]) rfl ⟨rfl, belD (belA (belA (belA (belR w) _) _) _) _⟩
end
end Go.Proofs.Ytpnolgghbenekaa
