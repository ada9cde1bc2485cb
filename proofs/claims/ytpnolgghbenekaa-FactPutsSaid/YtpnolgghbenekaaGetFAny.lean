/-
  code.GetF of any bytes; bushelref07.Keyed, GetF.
-/
import Derived.Test.YtpnolgghbenekaaKeyShort
import Derived.Deep.LoopGhost
import Derived.Deep.DeepCutAuto
namespace Go.Proofs.Ytpnolgghbenekaa
open Go.ChangeShapes Go.WideShapes Go.ChangeAt Go.RowKit
set_option linter.unusedVariables false

/-- the real number that bytes begin with: its word, how many bytes, the error -/
def getF (t : List UInt8) : Nat × Nat × Nat :=
  if t.length < 8 then (0, 0, if shortB t then 5 else 6) else match fromB (bv (t.take 8)) with
    | some b => (b, 8, 0)
    | none => (0, 0, 6)
theorem getF_any (A : Option Addr) (m c B : Nat) (t : List UInt8) (w : World) (h : Rd w B 1 A m (u8s t)) (hmc : m ≤ c) (hc : c ≤ maxLen) :
    Calls Try.prog 113 #[.slice A m c] w fun e w' => e = .returned (.tuple #[.float .f64 (getF t).1, .int .i64 ((getF t).2.1 : Int), .int .i64 ((getF t).2.2 : Int)]) ∧ Below w.heap.size w w' := by
  have hm := h.u8
  by_cases h8 : 8 ≤ m
  · refine (getF8_any A m c B t w h h8 hmc hc).mono ?_
    rintro e w' ⟨rfl, j, rfl⟩
    refine ⟨?_, belD (belR w) j⟩
    have e1 : getF t = match fromB (bv (t.take 8)) with | some b => (b, 8, 0) | none => (0, 0, 6) := if_neg (by omega)
    rw [e1]
    unfold getF8
    cases fromB (bv (t.take 8)) <;> rfl
  · have hk := keyB_any A m c B t w h (by omega)
    have e1 : getF t = (0, 0, if shortB t then 5 else 6) := if_pos (by omega)
    rw [e1]
    have h9 : m < 8 := by omega
    have HK := Lib.hid hk; clear hk e1 h h8
    generalize shortB t = b at *
    cases b
    all_goals
      go_enter Try.func113, Try.ntmps113
      go_wp2_with (go_at_call 128; (with_reducible refine HK.out.mono ?_); rintro y w1 ⟨rfl, hb1⟩)
      go_ret3
      exact ⟨rfl, hb1⟩

def keyedB (k : Nat) : Bool := decide (k = 18446744073709551615) || (decide (4503599627370495 ≤ k) && decide (k ≤ 18442240474082181120))
theorem keyed_any (k : Nat) (w : World) : Calls Try.prog 108 #[.int .u64 (k : Int)] w fun e w' => e = .returned (.bool (keyedB k)) ∧ w = w' := by
  obtain ⟨b1, t1⟩ : ∃ b, ((k : Int) == 18446744073709551615) = b := ⟨_, rfl⟩
  obtain ⟨b2, t2⟩ : ∃ b, decide ((4503599627370495 : Int) ≤ (k : Int)) = b := ⟨_, rfl⟩
  obtain ⟨b3, t3⟩ : ∃ b, decide ((k : Int) ≤ 18442240474082181120) = b := ⟨_, rfl⟩
  have e1 : decide (k = 18446744073709551615) = b1 := by rw [← t1, Bool.eq_iff_iff]; simp; omega
  have e2 : decide (4503599627370495 ≤ k) = b2 := by rw [← t2]; exact decide_eq_decide.2 (by omega)
  have e3 : decide (k ≤ 18442240474082181120) = b3 := by rw [← t3]; exact decide_eq_decide.2 (by omega)
  have hs : keyedB k = (b1 || (b2 && b3)) := by unfold keyedB; rw [e1, e2, e3]
  have HS := Lib.hid hs; clear hs e1 e2 e3
  cases b1 <;> cases b2 <;> cases b3
  all_goals
    go_enter Try.func108, Try.ntmps108
    go_wp2
    go_ret
    exact ⟨by rw [HS.out]; rfl, rfl⟩

/-- the least and the greatest number: what lacks is 0, or 255 -/
def loS (t : List UInt8) : Nat → Nat
  | 0 => 0
  | i + 1 => loS t i * 256 + if h : i < t.length then t[i].toNat else 0
def hiS (t : List UInt8) : Nat → Nat
  | 0 => 0
  | i + 1 => hiS t i * 256 + if h : i < t.length then t[i].toNat else 255
theorem loS_lt (t : List UInt8) (i : Nat) : loS t i < 256 ^ i := by
  induction i with
  | zero => simp [loS]
  | succ i ih =>
    rw [loS, Nat.pow_succ]
    split
    · have := t[i].toNat_lt; omega
    · omega
theorem hiS_lt (t : List UInt8) (i : Nat) : hiS t i < 256 ^ i := by
  induction i with
  | zero => simp [hiS]
  | succ i ih =>
    rw [hiS, Nat.pow_succ]
    split
    · have := t[i].toNat_lt; omega
    · omega
theorem loS_in (t : List UInt8) (i : Nat) (h : i ≤ t.length) : loS t i = bv (t.take i) ∧ hiS t i = bv (t.take i) := by
  induction i with
  | zero => exact ⟨rfl, rfl⟩
  | succ i ih =>
    obtain ⟨h1, h2⟩ := ih (by omega)
    have h' : i < t.length := h
    rw [loS, hiS, h1, h2, bv_take t i h, dif_pos h', dif_pos h']
    exact ⟨rfl, rfl⟩
theorem loS_out (t : List UInt8) (j : Nat) : loS t (t.length + j) = bv t * 256 ^ j ∧ hiS t (t.length + j) = bv t * 256 ^ j + (256 ^ j - 1) := by
  induction j with
  | zero =>
    obtain ⟨h1, h2⟩ := loS_in t t.length (Nat.le_refl _)
    rw [List.take_length] at h1 h2
    rw [Nat.add_zero, h1, h2]; simp
  | succ j ih =>
    obtain ⟨h1, h2⟩ := ih
    rw [← Nat.add_assoc, loS, hiS, dif_neg (by omega), dif_neg (by omega), h1, h2, Nat.pow_succ, ← Nat.mul_assoc]
    have := Nat.pow_pos (n := j) (show 0 < 256 by decide)
    exact ⟨by omega, by omega⟩
theorem loS_eight (t : List UInt8) (h : t.length < 8) : loS t 8 = klo t t.length ∧ hiS t 8 = khi t t.length := by
  have := loS_out t (8 - t.length)
  rw [show t.length + (8 - t.length) = 8 by omega] at this
  unfold klo khi kpw
  rw [List.take_length]; exact this
theorem loS_full (t : List UInt8) (h : 8 ≤ t.length) : loS t 8 = bv (t.take 8) := (loS_in t 8 h).1
/-- what the document's GetF says: the key, the error -/
def rgetF (t : List UInt8) : Nat × Nat :=
  if 8 ≤ t.length then (if keyedB (loS t 8) then (loS t 8, 0) else (0, 6))
  else if keyedB (loS t 8) || keyedB (hiS t 8) || (decide (loS t 8 < 9223372036854775808) && decide (9223372036854775808 ≤ hiS t 8)) then (0, 5) else (0, 6)
theorem p56 (k x : Nat) (hk : k < 8) (h : x < 256 ^ k) : x < 72057594037927936 :=
  Nat.lt_of_lt_of_le h (Nat.le_trans (Nat.pow_le_pow_right (by decide) (show k ≤ 7 by omega)) (by decide))
set_option maxRecDepth 200000 in
set_option maxHeartbeats 2000000 in
theorem refGetF_any (A : Option Addr) (m c B : Nat) (t : List UInt8) (w : World) (h : Rd w B 1 A m (u8s t)) (hc : m ≤ maxLen) :
    Calls Try.prog 74 #[.slice A m c] w fun e w' => e = .returned (.tuple #[.int .u64 ((rgetF t).1 : Int), .int .i64 ((rgetF t).2 : Int)]) ∧ Drw w w' := by
  obtain rfl : m = t.length := h.u8.symm
  have hcc := hc
  unfold maxLen at hcc
  have H := Lib.hid h; clear h
  go_enter Try.func74, Try.ntmps74
  go_wp2
  go_loopw [4, 5, 6] (fun lo hi i wr => ∃ k : Nat, k ≤ 8 ∧ i = .int .i64 (k : Int) ∧ lo = .int .u64 (loS t k : Int) ∧ hi = .int .u64 (hiS t k : Int) ∧ Drw w wr) (fun _ _ i _ => 8 - (intOf i).toNat)
  case atStart => exact ⟨0, by omega, rfl, rfl, rfl, Drw.refl _⟩
  case round =>
    obtain ⟨k, hk, rfl, rfl, rfl, j, rfl⟩ := hrel
    by_cases hlt : k < 8
    · have b1 := p56 k _ hlt (loS_lt t k)
      have b2 := p56 k _ hlt (hiS_lt t k)
      have s1 : loS t (k + 1) = loS t k * 256 + if h : k < t.length then t[k].toNat else 0 := rfl
      have s2 : hiS t (k + 1) = hiS t k * 256 + if h : k < t.length then t[k].toNat else 255 := rfl
      generalize hlo : loS t k = lo at *
      generalize hhi : hiS t k = hi at *
      by_cases hin : k < t.length
      · obtain ⟨a, rfl, hab, x0⟩ := H.out.byte hin
        rw [dif_pos hin] at s1 s2
        have q1 : (0 : Int) ≤ (k : Int) := by omega
        have q2 : (k : Int) < (t.length : Int) := by omega
        have hx8 := t[k].toNat_lt
        generalize t[k].toNat = b at *
        have S1 := Lib.hid s1; have S2 := Lib.hid s2; have HLO := Lib.hid hlo; have HHI := Lib.hid hhi; clear s1 s2 hlo hhi
        have w1 : IntKind.u64.wrap ((lo : Int) * 256 + (b : Int)) = (lo : Int) * 256 + (b : Int) := by rw [IntKind.wrap_u64]; omega
        have w2 : IntKind.u64.wrap ((hi : Int) * 256 + (b : Int)) = (hi : Int) * 256 + (b : Int) := by rw [IntKind.wrap_u64]; omega
        go_wp2
        go_quiet (fail)
        go_wp2
        go_roundw
        case rel => exact ⟨k + 1, by omega, by go_num, congrArg (Value.int .u64) (by rw [S1.out]; omega), congrArg (Value.int .u64) (by rw [S2.out]; omega), _, rfl⟩
        case measure => simp [intOf]; omega
      · rw [dif_neg hin] at s1 s2
        have S1 := Lib.hid s1; have S2 := Lib.hid s2; have HLO := Lib.hid hlo; have HHI := Lib.hid hhi; clear s1 s2 hlo hhi
        go_wp2
        go_roundw
        case rel => exact ⟨k + 1, by omega, by go_num, congrArg (Value.int .u64) (by rw [S1.out]; omega), congrArg (Value.int .u64) (by rw [S2.out]; omega), _, rfl⟩
        case measure => simp [intOf]; omega
    · obtain rfl : k = 8 := by omega
      have hs : rgetF t = if 8 ≤ t.length then (if keyedB (loS t 8) then (loS t 8, 0) else (0, 6)) else if keyedB (loS t 8) || keyedB (hiS t 8) || (decide (loS t 8 < 9223372036854775808) && decide (9223372036854775808 ≤ hiS t 8)) then (0, 5) else (0, 6) := rfl
      have k1 := fun W => keyed_any (loS t 8) W
      have k2 := fun W => keyed_any (hiS t 8) W
      have hlo8 := loS_lt t 8
      have hhi8 := hiS_lt t 8
      rw [show (256 : Nat) ^ 8 = 18446744073709551616 from by decide] at hlo8 hhi8
      generalize loS t 8 = lo at *
      generalize hiS t 8 = hi at *
      obtain ⟨b1, t1⟩ : ∃ b, keyedB lo = b := ⟨_, rfl⟩
      obtain ⟨b2, t2⟩ : ∃ b, keyedB hi = b := ⟨_, rfl⟩
      rw [t1] at hs k1
      rw [t2] at hs k2
      have K1 := Lib.hid k1; have K2 := Lib.hid k2; clear k1 k2 t1 t2
      by_cases h8 : 8 ≤ t.length
      · rw [if_pos h8] at hs
        have HS := Lib.hid hs; clear hs
        cases b1
        all_goals
          go_wp2_with (go_at_call 108; (with_reducible refine (K1.out _).mono ?_); rintro y w1 ⟨rfl, rfl⟩)
          go_ret2
          exact ⟨by rw [HS.out]; rfl, _, rfl⟩
      · rw [if_neg h8] at hs
        have h9 : t.length < 8 := by omega
        have HS0 := Lib.hid hs; clear hs
        go_upto_region 13 with (fail)
        have hs := HS0.out
        obtain ⟨b3, t3⟩ : ∃ b, decide ((lo : Int) < 9223372036854775808) = b := ⟨_, rfl⟩
        obtain ⟨b4, t4⟩ : ∃ b, decide ((9223372036854775808 : Int) ≤ (hi : Int)) = b := ⟨_, rfl⟩
        have e3 : decide (lo < 9223372036854775808) = b3 := by rw [← t3]; exact decide_eq_decide.2 (by omega)
        have e4 : decide (9223372036854775808 ≤ hi) = b4 := by rw [← t4]; exact decide_eq_decide.2 (by omega)
        have t3' : decide ((9223372036854775808 : Int) ≤ (lo : Int)) = !b3 := by rw [← t3, ← decide_not]; exact decide_eq_decide.2 (by omega)
        have t4' : decide ((hi : Int) < 9223372036854775808) = !b4 := by rw [← t4, ← decide_not]; exact decide_eq_decide.2 (by omega)
        rw [e3, e4] at hs
        have HS := Lib.hid hs; clear hs e3 e4 h8 hlt hk t3' t4'
        cases b1 <;> cases b2 <;> cases b3 <;> cases b4
        all_goals
          go_wp2_with (first | (go_at_call 108; (with_reducible refine (K1.out _).mono ?_); rintro y w1 ⟨rfl, rfl⟩) | (go_at_call 108; (with_reducible refine (K2.out _).mono ?_); rintro y w1 ⟨rfl, rfl⟩))
          go_ret2
          exact ⟨by rw [HS.out]; rfl, _, rfl⟩

/-- program and document agree -/
theorem getF_doc (t : List UInt8) : (getF t).2.2 = (rgetF t).2 ∧ ((rgetF t).2 ≠ 0 → getF t = (0, 0, (rgetF t).2)) ∧ ((rgetF t).2 = 0 → (getF t).2.1 = 8 ∧ keyB (getF t).1 = (rgetF t).1 ∧ (getF t).1 < 18446744073709551616) := by
  by_cases h8 : t.length < 8
  · obtain ⟨e1, e2⟩ := loS_eight t h8
    have hg : getF t = (0, 0, if shortB t then 5 else 6) := if_pos h8
    have hr : rgetF t = if keyedB (klo t t.length) || keyedB (khi t t.length) || (decide (klo t t.length < 9223372036854775808) && decide (9223372036854775808 ≤ khi t t.length)) then (0, 5) else (0, 6) := by
      unfold rgetF; rw [if_neg (by omega), e1, e2]
    have hle : klo t t.length ≤ khi t t.length := Nat.le_add_right _ _
    have hlt : khi t t.length < 18446744073709551616 := by have := bv_pw t t.length (by omega); exact this
    have hs : shortB t = (keyedB (klo t t.length) || keyedB (khi t t.length) || (decide (klo t t.length < 9223372036854775808) && decide (9223372036854775808 ≤ khi t t.length))) := by
      rw [Bool.eq_iff_iff]
      unfold shortB keyedB
      simp only [Bool.or_eq_true, Bool.and_eq_true, decide_eq_true_eq]
      omega
    rw [hg, hr, ← hs]
    cases shortB t <;> simp
  · have hr : rgetF t = if keyedB (bv (t.take 8)) then (bv (t.take 8), 0) else (0, 6) := by unfold rgetF; rw [if_pos (by omega), loS_full t (by omega)]
    have hg : getF t = match fromB (bv (t.take 8)) with | some b => (b, 8, 0) | none => (0, 0, 6) := if_neg h8
    have hk : bv (t.take 8) < 18446744073709551616 := by
      have h1 := bv_lt (t.take 8)
      rw [List.length_take, Nat.min_eq_left (by omega)] at h1
      exact Nat.lt_of_lt_of_le h1 (by decide)
    generalize bv (t.take 8) = k at *
    rw [hg, hr]
    have hkf : keyedB k = (fromB k).isSome := by
      unfold keyedB fromB
      split
      · simp [*]
      · split
        · simp; omega
        · split
          · simp; omega
          · simp; omega
    cases hf : fromB k with
    | none => rw [hkf, hf]; simp
    | some b =>
      have e1 : keyedB k = true := by rw [hkf, hf]; rfl
      rw [if_pos e1]
      exact ⟨rfl, fun h => absurd rfl h, fun _ => ⟨rfl, fromB_key k b hk hf, fromB_lt k b hk hf⟩⟩
end Go.Proofs.Ytpnolgghbenekaa
