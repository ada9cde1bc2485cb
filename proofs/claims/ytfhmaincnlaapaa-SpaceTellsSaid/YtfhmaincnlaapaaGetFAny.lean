/-
  code.GetF of any bytes; bushelref07.Keyed, GetF.
  code.key: which bytes, fewer than eight, may be the beginning of a real number's key.
-/
import Derived.Test.YtfhmaincnlaapaaGetFWalks
import Derived.Test.YtfhmaincnlaapaaBlk
import Derived.Laws.BitsAllLaws
import Derived.Deep.LoopGhost
import Derived.Deep.DeepCutAuto
namespace Go.Proofs.Ytfhmaincnlaapaa
open Go.ChangeShapes Go.WideShapes Go.ChangeAt Go.RowKit
set_option linter.unusedVariables false

theorem f64from_minf (w : World) : (callFunc 184 #[.int .u64 18442240474082181120]).run Try.prog w = .ok (.value (.float .f64 18442240474082181120)) w := f64from 18442240474082181120 w
theorem f64from_inf (w : World) : (callFunc 184 #[.int .u64 9218868437227405312]).run Try.prog w = .ok (.value (.float .f64 9218868437227405312)) w := f64from 9218868437227405312 w
theorem f64bits_inf (w : World) : (callFunc 169 #[.float .f64 9218868437227405312]).run Try.prog w = .ok (.value (.int .u64 9218868437227405312)) w := f64bits 9218868437227405312 w
theorem f64bits_m1 (w : World) : (callFunc 169 #[.float .f64 13830554455654793216]).run Try.prog w = .ok (.value (.int .u64 13830554455654793216)) w := f64bits 13830554455654793216 w
theorem bits_minf : bits .or .u64 (bits .andNot .u64 9218868437227405312 9223372036854775808) (bits .and .u64 13830554455654793216 9223372036854775808) = 18442240474082181120 := by decide +kernel
theorem size_one (w : World) (g : Nat) (h : w.cell? ⟨g, 0, none⟩ = some (.int .u32 1)) : Calls Try.prog 143 #[.slice (some ⟨g, 0, none⟩) 1 1] w fun e w' => e = .returned (.int .i64 1) ∧ w = w' := by
  go_enter Try.func143, Try.ntmps143
  go_wp2
  go_loop [3] (fun v => v = .int .i64 1) (fun _ => 0)
  case atStart => rfl
  case round =>
    subst hrel
    go_wp2
    go_ret
    exact ⟨rfl, rfl⟩
theorem bits_one (w : World) (g : Nat) (h : w.cell? ⟨g, 0, none⟩ = some (.int .u32 1)) : Calls Try.prog 172 #[.slice (some ⟨g, 0, none⟩) 1 1] w fun e w' => e = .returned (.int .i64 1) ∧ w = w' := by
  go_enter Try.func172, Try.ntmps172
  go_wp2_with (go_at_call 143; (with_reducible refine (size_one _ g h).mono ?_); rintro y w1 ⟨rfl, rfl⟩)
  go_loop [4, 5] (fun n t => (n = .int .i64 0 ∧ t = .int .u32 1) ∨ (n = .int .i64 1 ∧ t = .int .u32 0)) (fun _ t => (intOf t).toNat)
  case atStart => exact .inl ⟨rfl, rfl⟩
  case round =>
    rcases hrel with ⟨rfl, rfl⟩ | ⟨rfl, rfl⟩
    · go_wp2
      go_round
      case rel => exact .inr ⟨rfl, rfl⟩
      case measure => simp [intOf]
    · go_wp2
      go_ret
      exact ⟨rfl, rfl⟩
def infB : Bool → Nat
  | true => 18442240474082181120
  | false => 9218868437227405312
theorem or_sh (P b N : Nat) (hb : b < 256) : P * 2 ^ (N + 8) ||| b * 2 ^ N = P * 2 ^ (N + 8) + b * 2 ^ N := by
  refine nat_join (N + 8) _ _ (Nat.mul_mod_left _ _) ?_
  rw [Nat.pow_add, Nat.mul_comm]
  exact Nat.mul_lt_mul_of_pos_left hb (Nat.two_pow_pos N)
theorem andnot_sh (P N : Nat) (h : P * 2 ^ (N + 8) + (2 ^ (N + 8) - 1) < 2 ^ 64) : (P * 2 ^ (N + 8) + (2 ^ (N + 8) - 1)) &&& (2 ^ 64 - (255 * 2 ^ N + 1)) = P * 2 ^ (N + 8) + (2 ^ N - 1) := by
  have e1 : P * 2 ^ (N + 8) + (2 ^ (N + 8) - 1) = (P <<< (N + 8)) ||| (2 ^ (N + 8) - 1) := by
    rw [Nat.shiftLeft_eq]
    exact (nat_join (N + 8) _ _ (Nat.mul_mod_left _ _) (by have := Nat.two_pow_pos (N + 8); omega)).symm
  have e2 : P * 2 ^ (N + 8) + (2 ^ N - 1) = (P <<< (N + 8)) ||| (2 ^ N - 1) := by
    rw [Nat.shiftLeft_eq]
    refine (nat_join (N + 8) _ _ (Nat.mul_mod_left _ _) ?_).symm
    have := Nat.two_pow_pos N
    have : 2 ^ (N + 8) = 2 ^ N * 256 := by rw [Nat.pow_add]
    omega
  have e3 : 255 * 2 ^ N = (2 ^ 8 - 1) <<< N := by rw [Nat.shiftLeft_eq]
  have hm : (2 ^ 8 - 1) <<< N < 2 ^ 64 := by
    rw [← e3]
    have := Nat.two_pow_pos N
    have : 2 ^ (N + 8) = 2 ^ N * 256 := by rw [Nat.pow_add]
    omega
  apply Nat.eq_of_testBit_eq
  intro i
  rw [e2, e1, e3]
  have hl : i ≥ 64 → ((P <<< (N + 8)) ||| (2 ^ (N + 8) - 1)).testBit i = false := fun hi => by
    rw [← e1]; exact Nat.testBit_lt_two_pow (Nat.lt_of_lt_of_le h (Nat.pow_le_pow_right (by decide) hi))
  rw [Nat.testBit_and, Nat.testBit_two_pow_sub_succ hm]
  by_cases hi : 64 ≤ i
  · rw [hl hi]
    have := hl hi
    simp only [Nat.testBit_or, Nat.testBit_shiftLeft, Nat.testBit_two_pow_sub_one, Bool.or_eq_false_iff, decide_eq_false_iff_not] at this
    simp only [Nat.testBit_or, Nat.testBit_shiftLeft, Nat.testBit_two_pow_sub_one, Bool.false_and]
    rw [this.1]
    simp
    omega
  · simp only [Nat.testBit_or, Nat.testBit_shiftLeft, Nat.testBit_two_pow_sub_one]
    by_cases h1 : i < N
    · simp [h1, show ¬ N + 8 ≤ i by omega, show ¬ N ≤ i by omega, show i < N + 8 by omega]; omega
    · by_cases h2 : i < N + 8
      · simp [h1, h2, show ¬ N + 8 ≤ i by omega, show N ≤ i by omega]; omega
      · simp [h1, h2, show N + 8 ≤ i by omega, show N ≤ i by omega]; omega
/-- the least and the greatest number of eight bytes that begin with the first k of t -/
def kpw (k : Nat) : Nat := 256 ^ (8 - k)
def klo (t : List UInt8) (k : Nat) : Nat := bv (t.take k) * kpw k
def khi (t : List UInt8) (k : Nat) : Nat := bv (t.take k) * kpw k + (kpw k - 1)
theorem kpw_eq (k q : Nat) (h : k + q = 7) : kpw k = 2 ^ (8 * q + 8) ∧ kpw (k + 1) = 2 ^ (8 * q) := by
  unfold kpw
  have e1 : 8 - k = q + 1 := by omega
  have e2 : 8 - (k + 1) = q := by omega
  have e3 : ∀ n, (256 : Nat) ^ n = 2 ^ (8 * n) := fun n => (Nat.pow_mul 2 8 n).symm
  exact ⟨by rw [e1, e3]; rfl, by rw [e2, e3]⟩
theorem bv_pw (t : List UInt8) (k : Nat) (h : k ≤ 8) : bv (t.take k) * kpw k + (kpw k - 1) < 2 ^ 64 := by
  have h1 := bv_lt (t.take k)
  have h2 : (t.take k).length ≤ k := by rw [List.length_take]; omega
  have h3 : 256 ^ (t.take k).length ≤ 256 ^ k := Nat.pow_le_pow_right (by decide) h2
  have hp : 0 < kpw k := Nat.pow_pos (by decide)
  have h4 : (bv (t.take k) + 1) * kpw k ≤ 256 ^ k * kpw k := Nat.mul_le_mul_right _ (by omega)
  have h5 : 256 ^ k * kpw k = 2 ^ 64 := by unfold kpw; rw [← Nat.pow_add, show k + (8 - k) = 8 by omega]
  rw [h5, Nat.succ_mul] at h4
  omega
theorem key_step (t : List UInt8) (k q : Nat) (h : k + q = 7) (hk : k < t.length) :
    bits .or .u64 (klo t k : Int) (IntKind.u64.wrap ((t[k].toNat : Int) * 2 ^ (8 * q))) = (klo t (k + 1) : Int) ∧
    bits .or .u64 (bits .andNot .u64 (khi t k : Int) (IntKind.u64.wrap (255 * 2 ^ (8 * q)))) (IntKind.u64.wrap ((t[k].toNat : Int) * 2 ^ (8 * q))) = (khi t (k + 1) : Int) := by
  obtain ⟨p1, p2⟩ := kpw_eq k q h
  have hb := t[k].toNat_lt
  have hv := bv_take t k hk
  have hq := Nat.two_pow_pos (8 * q)
  have hB := bv_pw t k (by omega)
  have hB2 := bv_pw t (k + 1) (by omega)
  unfold klo khi
  rw [p1] at hB
  rw [p2, hv] at hB2
  rw [p1, p2, hv]
  generalize t[k].toNat = b at *
  generalize bv (t.take k) = P at *
  generalize 8 * q = N at *
  have e8 : (P * 256 + b) * 2 ^ N = P * 2 ^ (N + 8) + b * 2 ^ N := by rw [Nat.pow_add, Nat.add_mul, Nat.mul_comm (2 ^ N), Nat.mul_assoc]
  have e9 : 2 ^ (N + 8) = 2 ^ N * 256 := by rw [Nat.pow_add]
  have hbN : b * 2 ^ N ≤ 255 * 2 ^ N := Nat.mul_le_mul_right _ (by omega)
  rw [e8] at hB2 ⊢
  have z64 : (2 : Nat) ^ 64 = 18446744073709551616 := rfl
  rw [z64] at hB hB2
  have w1 : IntKind.u64.wrap ((b : Int) * 2 ^ N) = ((b * 2 ^ N : Nat) : Int) := by
    have : (b : Int) * 2 ^ N = ((b * 2 ^ N : Nat) : Int) := by rw [Int.natCast_mul, Int.natCast_pow]; rfl
    rw [this, IntKind.wrap_u64]
    omega
  have w2 : IntKind.u64.wrap (255 * 2 ^ N) = ((255 * 2 ^ N : Nat) : Int) := by
    have : (255 : Int) * 2 ^ N = ((255 * 2 ^ N : Nat) : Int) := by rw [Int.natCast_mul, Int.natCast_pow]; rfl
    rw [this, IntKind.wrap_u64]
    omega
  rw [w1, w2]
  constructor
  · rw [u64_or_nat _ _ (by omega) (by omega), or_sh _ _ _ (by omega)]
  · have ea := andnot_sh P N (by rw [z64]; omega)
    rw [u64_andNot_nat _ _ (by omega) (by omega), show 18446744073709551615 - 255 * 2 ^ N = 2 ^ 64 - (255 * 2 ^ N + 1) by rw [z64]; omega, ea]
    have hf : P * 2 ^ (N + 8) + (2 ^ N - 1) < 18446744073709551616 := by omega
    rw [u64_or_nat _ _ hf (by omega)]
    congr 1
    have e1 : P * 2 ^ (N + 8) + (2 ^ N - 1) = P * 2 ^ (N + 8) ||| (2 ^ N - 1) := (nat_join (N + 8) _ _ (Nat.mul_mod_left _ _) (by omega)).symm
    rw [e1, Nat.or_assoc, Nat.or_comm (2 ^ N - 1), ← Nat.or_assoc, or_sh _ _ _ (by omega)]
    refine nat_join N _ _ ?_ (by omega)
    rw [Nat.pow_add, ← Nat.mul_assoc, Nat.mul_right_comm, ← Nat.add_mul]
    exact Nat.mul_mod_left _ _
/-- may fewer than eight bytes be the beginning of a number's key? -/
def shortB (t : List UInt8) : Bool := (decide (4503599627370495 ≤ khi t t.length) && decide (klo t t.length ≤ 18442240474082181120)) || decide (khi t t.length = 18446744073709551615)
theorem key_minf : keyB (infB true) = 4503599627370495 := by decide +kernel
theorem key_inf : keyB (infB false) = 18442240474082181120 := by decide +kernel
end Go.Proofs.Ytfhmaincnlaapaa
namespace Go.Proofs.Ytfhmaincnlaapaa
open Go.ChangeShapes Go.WideShapes Go.ChangeAt Go.RowKit
set_option linter.unusedVariables false

/-- the real number that bytes begin with: its word, how many bytes, the error -/
def getF (t : List UInt8) : Nat × Nat × Nat :=
  if t.length < 8 then (0, 0, if shortB t then 5 else 6) else match fromB (bv (t.take 8)) with
    | some b => (b, 8, 0)
    | none => (0, 0, 6)
def keyedB (k : Nat) : Bool := decide (k = 18446744073709551615) || (decide (4503599627370495 ≤ k) && decide (k ≤ 18442240474082181120))
/-- the least and the greatest number: what lacks is 0, or 255 -/
def loS (t : List UInt8) : Nat → Nat
  | 0 => 0
  | i + 1 => loS t i * 256 + if h : i < t.length then t[i].toNat else 0
def hiS (t : List UInt8) : Nat → Nat
  | 0 => 0
  | i + 1 => hiS t i * 256 + if h : i < t.length then t[i].toNat else 255
theorem loS_lt (t : List UInt8) (i : Nat) : loS t i < 256 ^ i := by
  induction i with
  | zero => simp [loS]
  | succ i ih =>
    rw [loS, Nat.pow_succ]
    split
    · have := t[i].toNat_lt; omega
    · omega
theorem hiS_lt (t : List UInt8) (i : Nat) : hiS t i < 256 ^ i := by
  induction i with
  | zero => simp [hiS]
  | succ i ih =>
    rw [hiS, Nat.pow_succ]
    split
    · have := t[i].toNat_lt; omega
    · omega
theorem loS_in (t : List UInt8) (i : Nat) (h : i ≤ t.length) : loS t i = bv (t.take i) ∧ hiS t i = bv (t.take i) := by
  induction i with
  | zero => exact ⟨rfl, rfl⟩
  | succ i ih =>
    obtain ⟨h1, h2⟩ := ih (by omega)
    have h' : i < t.length := h
    rw [loS, hiS, h1, h2, bv_take t i h, dif_pos h', dif_pos h']
    exact ⟨rfl, rfl⟩
theorem loS_out (t : List UInt8) (j : Nat) : loS t (t.length + j) = bv t * 256 ^ j ∧ hiS t (t.length + j) = bv t * 256 ^ j + (256 ^ j - 1) := by
  induction j with
  | zero =>
    obtain ⟨h1, h2⟩ := loS_in t t.length (Nat.le_refl _)
    rw [List.take_length] at h1 h2
    rw [Nat.add_zero, h1, h2]; simp
  | succ j ih =>
    obtain ⟨h1, h2⟩ := ih
    rw [← Nat.add_assoc, loS, hiS, dif_neg (by omega), dif_neg (by omega), h1, h2, Nat.pow_succ, ← Nat.mul_assoc]
    have := Nat.pow_pos (n := j) (show 0 < 256 by decide)
    exact ⟨by omega, by omega⟩
theorem loS_eight (t : List UInt8) (h : t.length < 8) : loS t 8 = klo t t.length ∧ hiS t 8 = khi t t.length := by
  have := loS_out t (8 - t.length)
  rw [show t.length + (8 - t.length) = 8 by omega] at this
  unfold klo khi kpw
  rw [List.take_length]; exact this
theorem loS_full (t : List UInt8) (h : 8 ≤ t.length) : loS t 8 = bv (t.take 8) := (loS_in t 8 h).1
/-- what the document's GetF says: the key, the error -/
def rgetF (t : List UInt8) : Nat × Nat :=
  if 8 ≤ t.length then (if keyedB (loS t 8) then (loS t 8, 0) else (0, 6))
  else if keyedB (loS t 8) || keyedB (hiS t 8) || (decide (loS t 8 < 9223372036854775808) && decide (9223372036854775808 ≤ hiS t 8)) then (0, 5) else (0, 6)
theorem p56 (k x : Nat) (hk : k < 8) (h : x < 256 ^ k) : x < 72057594037927936 :=
  Nat.lt_of_lt_of_le h (Nat.le_trans (Nat.pow_le_pow_right (by decide) (show k ≤ 7 by omega)) (by decide))
/-- program and document agree -/
theorem getF_doc (t : List UInt8) : (getF t).2.2 = (rgetF t).2 ∧ ((rgetF t).2 ≠ 0 → getF t = (0, 0, (rgetF t).2)) ∧ ((rgetF t).2 = 0 → (getF t).2.1 = 8 ∧ keyB (getF t).1 = (rgetF t).1 ∧ (getF t).1 < 18446744073709551616) := by
  by_cases h8 : t.length < 8
  · obtain ⟨e1, e2⟩ := loS_eight t h8
    have hg : getF t = (0, 0, if shortB t then 5 else 6) := if_pos h8
    have hr : rgetF t = if keyedB (klo t t.length) || keyedB (khi t t.length) || (decide (klo t t.length < 9223372036854775808) && decide (9223372036854775808 ≤ khi t t.length)) then (0, 5) else (0, 6) := by
      unfold rgetF; rw [if_neg (by omega), e1, e2]
    have hle : klo t t.length ≤ khi t t.length := Nat.le_add_right _ _
    have hlt : khi t t.length < 18446744073709551616 := by have := bv_pw t t.length (by omega); exact this
    have hs : shortB t = (keyedB (klo t t.length) || keyedB (khi t t.length) || (decide (klo t t.length < 9223372036854775808) && decide (9223372036854775808 ≤ khi t t.length))) := by
      rw [Bool.eq_iff_iff]
      unfold shortB keyedB
      simp only [Bool.or_eq_true, Bool.and_eq_true, decide_eq_true_eq]
      omega
    rw [hg, hr, ← hs]
    cases shortB t <;> simp
  · have hr : rgetF t = if keyedB (bv (t.take 8)) then (bv (t.take 8), 0) else (0, 6) := by unfold rgetF; rw [if_pos (by omega), loS_full t (by omega)]
    have hg : getF t = match fromB (bv (t.take 8)) with | some b => (b, 8, 0) | none => (0, 0, 6) := if_neg h8
    have hk : bv (t.take 8) < 18446744073709551616 := by
      have h1 := bv_lt (t.take 8)
      rw [List.length_take, Nat.min_eq_left (by omega)] at h1
      exact Nat.lt_of_lt_of_le h1 (by decide)
    generalize bv (t.take 8) = k at *
    rw [hg, hr]
    have hkf : keyedB k = (fromB k).isSome := by
      unfold keyedB fromB
      split
      · simp [*]
      · split
        · simp; omega
        · split
          · simp; omega
          · simp; omega
    cases hf : fromB k with
    | none => rw [hkf, hf]; simp
    | some b =>
      have e1 : keyedB k = true := by rw [hkf, hf]; rfl
      rw [if_pos e1]
      exact ⟨rfl, fun h => absurd rfl h, fun _ => ⟨rfl, fromB_key k b hk hf, fromB_lt k b hk hf⟩⟩
end Go.Proofs.Ytfhmaincnlaapaa
