/-
  code.key: which bytes, fewer than eight, may be the beginning of a real number's key.
-/
import Derived.Test.YtpnolgghbenekaaGetFWalks
import Derived.Test.YtpnolgghbenekaaBlk
import Derived.Laws.BitsAllLaws
namespace Go.Proofs.Ytpnolgghbenekaa
open Go.ChangeShapes Go.WideShapes Go.ChangeAt Go.RowKit
set_option linter.unusedVariables false

theorem f64from_minf (w : World) : (callFunc 134 #[.int .u64 18442240474082181120]).run Try.prog w = .ok (.value (.float .f64 18442240474082181120)) w := f64from 18442240474082181120 w
theorem f64from_inf (w : World) : (callFunc 134 #[.int .u64 9218868437227405312]).run Try.prog w = .ok (.value (.float .f64 9218868437227405312)) w := f64from 9218868437227405312 w
theorem f64bits_inf (w : World) : (callFunc 125 #[.float .f64 9218868437227405312]).run Try.prog w = .ok (.value (.int .u64 9218868437227405312)) w := f64bits 9218868437227405312 w
theorem f64bits_m1 (w : World) : (callFunc 125 #[.float .f64 13830554455654793216]).run Try.prog w = .ok (.value (.int .u64 13830554455654793216)) w := f64bits 13830554455654793216 w
theorem bits_minf : bits .or .u64 (bits .andNot .u64 9218868437227405312 9223372036854775808) (bits .and .u64 13830554455654793216 9223372036854775808) = 18442240474082181120 := by decide +kernel
theorem copysign_any (w : World) : Calls Try.prog 145 #[.float .f64 9218868437227405312, .float .f64 13830554455654793216] w fun e w' => e = .returned (.float .f64 18442240474082181120) ∧ w = w' := by
  have hf := f64bits_inf
  have hg := f64bits_m1
  have hh := f64from_minf
  have hb := bits_minf
  go_enter Try.func145, Try.ntmps145
  go_wp2
  go_ret
  exact ⟨rfl, rfl⟩
theorem inf_any (w : World) : Calls Try.prog 137 #[.int .i64 1] w fun e w' => e = .returned (.float .f64 9218868437227405312) ∧ w = w' := by
  have hh := f64from_inf
  go_enter Try.func137, Try.ntmps137
  go_wp2
  go_ret
  exact ⟨rfl, rfl⟩
theorem signed_inf (w : World) : Calls Try.prog 136 #[.bool false, .float .f64 9218868437227405312] w fun e w' => e = .returned (.float .f64 9218868437227405312) ∧ w = w' := by
  go_enter Try.func136, Try.ntmps136
  go_wp2
  go_ret
  exact ⟨rfl, rfl⟩
theorem signed_minf (w : World) : Calls Try.prog 136 #[.bool true, .float .f64 9218868437227405312] w fun e w' => e = .returned (.float .f64 18442240474082181120) ∧ w = w' := by
  go_enter Try.func136, Try.ntmps136
  go_wp2_with (go_at_call 145; (with_reducible refine (copysign_any _).mono ?_); rintro y w1 ⟨rfl, rfl⟩)
  go_ret
  exact ⟨rfl, rfl⟩
theorem size_one (w : World) (g : Nat) (h : w.cell? ⟨g, 0, none⟩ = some (.int .u32 1)) : Calls Try.prog 144 #[.slice (some ⟨g, 0, none⟩) 1 1] w fun e w' => e = .returned (.int .i64 1) ∧ w = w' := by
  go_enter Try.func144, Try.ntmps144
  go_wp2
  go_loop [3] (fun v => v = .int .i64 1) (fun _ => 0)
  case atStart => rfl
  case round =>
    subst hrel
    go_wp2
    go_ret
    exact ⟨rfl, rfl⟩
theorem bits_one (w : World) (g : Nat) (h : w.cell? ⟨g, 0, none⟩ = some (.int .u32 1)) : Calls Try.prog 135 #[.slice (some ⟨g, 0, none⟩) 1 1] w fun e w' => e = .returned (.int .i64 1) ∧ w = w' := by
  go_enter Try.func135, Try.ntmps135
  go_wp2_with (go_at_call 144; (with_reducible refine (size_one _ g h).mono ?_); rintro y w1 ⟨rfl, rfl⟩)
  go_loop [4, 5] (fun n t => (n = .int .i64 0 ∧ t = .int .u32 1) ∨ (n = .int .i64 1 ∧ t = .int .u32 0)) (fun _ t => (intOf t).toNat)
  case atStart => exact .inl ⟨rfl, rfl⟩
  case round =>
    rcases hrel with ⟨rfl, rfl⟩ | ⟨rfl, rfl⟩
    · go_wp2
      go_round
      case rel => exact .inr ⟨rfl, rfl⟩
      case measure => simp [intOf]
    · go_wp2
      go_ret
      exact ⟨rfl, rfl⟩
def infB : Bool → Nat
  | true => 18442240474082181120
  | false => 9218868437227405312
theorem join2000 (w : World) (g : Nat) (b : Bool) (h : w.cell? ⟨g, 0, none⟩ = some (.int .u32 1)) : Calls Try.prog 132 #[.bool b, .slice (some ⟨g, 0, none⟩) 1 1, .int .i64 2000] w fun e w' => e = .returned (.float .f64 (infB b)) ∧ w = w' := by
  cases b
  all_goals
    go_enter Try.func132, Try.ntmps132
    go_wp2_with (first
      | (go_at_call 135; (with_reducible refine (bits_one _ g h).mono ?_); rintro y w1 ⟨rfl, rfl⟩)
      | (go_at_call 137; (with_reducible refine (inf_any _).mono ?_); rintro y w1 ⟨rfl, rfl⟩)
      | (go_at_call 136; (with_reducible refine (signed_inf _).mono ?_); rintro y w1 ⟨rfl, rfl⟩)
      | (go_at_call 136; (with_reducible refine (signed_minf _).mono ?_); rintro y w1 ⟨rfl, rfl⟩))
    go_ret
    exact ⟨rfl, rfl⟩
theorem or_sh (P b N : Nat) (hb : b < 256) : P * 2 ^ (N + 8) ||| b * 2 ^ N = P * 2 ^ (N + 8) + b * 2 ^ N := by
  refine nat_join (N + 8) _ _ (Nat.mul_mod_left _ _) ?_
  rw [Nat.pow_add, Nat.mul_comm]
  exact Nat.mul_lt_mul_of_pos_left hb (Nat.two_pow_pos N)
theorem andnot_sh (P N : Nat) (h : P * 2 ^ (N + 8) + (2 ^ (N + 8) - 1) < 2 ^ 64) : (P * 2 ^ (N + 8) + (2 ^ (N + 8) - 1)) &&& (2 ^ 64 - (255 * 2 ^ N + 1)) = P * 2 ^ (N + 8) + (2 ^ N - 1) := by
  have e1 : P * 2 ^ (N + 8) + (2 ^ (N + 8) - 1) = (P <<< (N + 8)) ||| (2 ^ (N + 8) - 1) := by
    rw [Nat.shiftLeft_eq]
    exact (nat_join (N + 8) _ _ (Nat.mul_mod_left _ _) (by have := Nat.two_pow_pos (N + 8); omega)).symm
  have e2 : P * 2 ^ (N + 8) + (2 ^ N - 1) = (P <<< (N + 8)) ||| (2 ^ N - 1) := by
    rw [Nat.shiftLeft_eq]
    refine (nat_join (N + 8) _ _ (Nat.mul_mod_left _ _) ?_).symm
    have := Nat.two_pow_pos N
    have : 2 ^ (N + 8) = 2 ^ N * 256 := by rw [Nat.pow_add]
    omega
  have e3 : 255 * 2 ^ N = (2 ^ 8 - 1) <<< N := by rw [Nat.shiftLeft_eq]
  have hm : (2 ^ 8 - 1) <<< N < 2 ^ 64 := by
    rw [← e3]
    have := Nat.two_pow_pos N
    have : 2 ^ (N + 8) = 2 ^ N * 256 := by rw [Nat.pow_add]
    omega
  apply Nat.eq_of_testBit_eq
  intro i
  rw [e2, e1, e3]
  have hl : i ≥ 64 → ((P <<< (N + 8)) ||| (2 ^ (N + 8) - 1)).testBit i = false := fun hi => by
    rw [← e1]; exact Nat.testBit_lt_two_pow (Nat.lt_of_lt_of_le h (Nat.pow_le_pow_right (by decide) hi))
  rw [Nat.testBit_and, Nat.testBit_two_pow_sub_succ hm]
  by_cases hi : 64 ≤ i
  · rw [hl hi]
    have := hl hi
    simp only [Nat.testBit_or, Nat.testBit_shiftLeft, Nat.testBit_two_pow_sub_one, Bool.or_eq_false_iff, decide_eq_false_iff_not] at this
    simp only [Nat.testBit_or, Nat.testBit_shiftLeft, Nat.testBit_two_pow_sub_one, Bool.false_and]
    rw [this.1]
    simp
    omega
  · simp only [Nat.testBit_or, Nat.testBit_shiftLeft, Nat.testBit_two_pow_sub_one]
    by_cases h1 : i < N
    · simp [h1, show ¬ N + 8 ≤ i by omega, show ¬ N ≤ i by omega, show i < N + 8 by omega]; omega
    · by_cases h2 : i < N + 8
      · simp [h1, h2, show ¬ N + 8 ≤ i by omega, show N ≤ i by omega]; omega
      · simp [h1, h2, show N + 8 ≤ i by omega, show N ≤ i by omega]; omega
/-- the least and the greatest number of eight bytes that begin with the first k of t -/
def kpw (k : Nat) : Nat := 256 ^ (8 - k)
def klo (t : List UInt8) (k : Nat) : Nat := bv (t.take k) * kpw k
def khi (t : List UInt8) (k : Nat) : Nat := bv (t.take k) * kpw k + (kpw k - 1)
theorem kpw_eq (k q : Nat) (h : k + q = 7) : kpw k = 2 ^ (8 * q + 8) ∧ kpw (k + 1) = 2 ^ (8 * q) := by
  unfold kpw
  have e1 : 8 - k = q + 1 := by omega
  have e2 : 8 - (k + 1) = q := by omega
  have e3 : ∀ n, (256 : Nat) ^ n = 2 ^ (8 * n) := fun n => (Nat.pow_mul 2 8 n).symm
  exact ⟨by rw [e1, e3]; rfl, by rw [e2, e3]⟩
theorem bv_pw (t : List UInt8) (k : Nat) (h : k ≤ 8) : bv (t.take k) * kpw k + (kpw k - 1) < 2 ^ 64 := by
  have h1 := bv_lt (t.take k)
  have h2 : (t.take k).length ≤ k := by rw [List.length_take]; omega
  have h3 : 256 ^ (t.take k).length ≤ 256 ^ k := Nat.pow_le_pow_right (by decide) h2
  have hp : 0 < kpw k := Nat.pow_pos (by decide)
  have h4 : (bv (t.take k) + 1) * kpw k ≤ 256 ^ k * kpw k := Nat.mul_le_mul_right _ (by omega)
  have h5 : 256 ^ k * kpw k = 2 ^ 64 := by unfold kpw; rw [← Nat.pow_add, show k + (8 - k) = 8 by omega]
  rw [h5, Nat.succ_mul] at h4
  omega
theorem key_step (t : List UInt8) (k q : Nat) (h : k + q = 7) (hk : k < t.length) :
    bits .or .u64 (klo t k : Int) (IntKind.u64.wrap ((t[k].toNat : Int) * 2 ^ (8 * q))) = (klo t (k + 1) : Int) ∧
    bits .or .u64 (bits .andNot .u64 (khi t k : Int) (IntKind.u64.wrap (255 * 2 ^ (8 * q)))) (IntKind.u64.wrap ((t[k].toNat : Int) * 2 ^ (8 * q))) = (khi t (k + 1) : Int) := by
  obtain ⟨p1, p2⟩ := kpw_eq k q h
  have hb := t[k].toNat_lt
  have hv := bv_take t k hk
  have hq := Nat.two_pow_pos (8 * q)
  have hB := bv_pw t k (by omega)
  have hB2 := bv_pw t (k + 1) (by omega)
  unfold klo khi
  rw [p1] at hB
  rw [p2, hv] at hB2
  rw [p1, p2, hv]
  generalize t[k].toNat = b at *
  generalize bv (t.take k) = P at *
  generalize 8 * q = N at *
  have e8 : (P * 256 + b) * 2 ^ N = P * 2 ^ (N + 8) + b * 2 ^ N := by rw [Nat.pow_add, Nat.add_mul, Nat.mul_comm (2 ^ N), Nat.mul_assoc]
  have e9 : 2 ^ (N + 8) = 2 ^ N * 256 := by rw [Nat.pow_add]
  have hbN : b * 2 ^ N ≤ 255 * 2 ^ N := Nat.mul_le_mul_right _ (by omega)
  rw [e8] at hB2 ⊢
  have z64 : (2 : Nat) ^ 64 = 18446744073709551616 := rfl
  rw [z64] at hB hB2
  have w1 : IntKind.u64.wrap ((b : Int) * 2 ^ N) = ((b * 2 ^ N : Nat) : Int) := by
    have : (b : Int) * 2 ^ N = ((b * 2 ^ N : Nat) : Int) := by rw [Int.natCast_mul, Int.natCast_pow]; rfl
    rw [this, IntKind.wrap_u64]
    omega
  have w2 : IntKind.u64.wrap (255 * 2 ^ N) = ((255 * 2 ^ N : Nat) : Int) := by
    have : (255 : Int) * 2 ^ N = ((255 * 2 ^ N : Nat) : Int) := by rw [Int.natCast_mul, Int.natCast_pow]; rfl
    rw [this, IntKind.wrap_u64]
    omega
  rw [w1, w2]
  constructor
  · rw [u64_or_nat _ _ (by omega) (by omega), or_sh _ _ _ (by omega)]
  · have ea := andnot_sh P N (by rw [z64]; omega)
    rw [u64_andNot_nat _ _ (by omega) (by omega), show 18446744073709551615 - 255 * 2 ^ N = 2 ^ 64 - (255 * 2 ^ N + 1) by rw [z64]; omega, ea]
    have hf : P * 2 ^ (N + 8) + (2 ^ N - 1) < 18446744073709551616 := by omega
    rw [u64_or_nat _ _ hf (by omega)]
    congr 1
    have e1 : P * 2 ^ (N + 8) + (2 ^ N - 1) = P * 2 ^ (N + 8) ||| (2 ^ N - 1) := (nat_join (N + 8) _ _ (Nat.mul_mod_left _ _) (by omega)).symm
    rw [e1, Nat.or_assoc, Nat.or_comm (2 ^ N - 1), ← Nat.or_assoc, or_sh _ _ _ (by omega)]
    refine nat_join N _ _ ?_ (by omega)
    rw [Nat.pow_add, ← Nat.mul_assoc, Nat.mul_right_comm, ← Nat.add_mul]
    exact Nat.mul_mod_left _ _
/-- may fewer than eight bytes be the beginning of a number's key? -/
def shortB (t : List UInt8) : Bool := (decide (4503599627370495 ≤ khi t t.length) && decide (klo t t.length ≤ 18442240474082181120)) || decide (khi t t.length = 18446744073709551615)
theorem key_minf : keyB (infB true) = 4503599627370495 := by decide +kernel
theorem key_inf : keyB (infB false) = 18442240474082181120 := by decide +kernel
set_option maxRecDepth 20000 in
set_option maxHeartbeats 2000000 in
theorem keyB_any (A : Option Addr) (m c B : Nat) (t : List UInt8) (w : World) (h : Rd w B 1 A m (u8s t)) (hm : m < 8) :
    Calls Try.prog 128 #[.slice A m c] w fun e w' => e = .returned (.bool (shortB t)) ∧ Below w.heap.size w w' := by
  obtain rfl : m = t.length := h.u8.symm
  have H := Lib.hid h; clear h
  go_enter Try.func128, Try.ntmps128
  go_wp2
  go_loopw [3, 4, 12] (fun lo hi i wr => ∃ k : Nat, k ≤ t.length ∧ i = .int .i64 (k : Int) ∧ lo = .int .u64 (klo t k : Int) ∧ hi = .int .u64 (khi t k : Int) ∧ Drw w wr) (fun _ _ i _ => t.length - (intOf i).toNat)
  case atStart => exact ⟨0, by omega, rfl, by simp [klo, bv], by simp [khi, bv, kpw], Drw.refl _⟩
  case round =>
    obtain ⟨k, hk, rfl, rfl, rfl, j, rfl⟩ := hrel
    by_cases hlt : k < t.length
    · obtain ⟨a, rfl, hab, x0⟩ := (H.out.drewN j).byte hlt
      obtain ⟨q, hq⟩ : ∃ q, k + q = 7 := ⟨7 - k, by omega⟩
      obtain ⟨st1, st2⟩ := key_step t k q hq hlt
      have hqz : (7 : Int) - (k : Int) = (q : Int) := by omega
      have hq7 : q ≤ 7 := by omega
      have s0 : (0 : Int) ≤ 8 * (q : Int) := by omega
      have s1 : 8 * (q : Int) ≤ 64 := by omega
      have q1 : (0 : Int) ≤ (k : Int) := by omega
      have q2 : (k : Int) < (t.length : Int) := by omega
      generalize hx : t[k] = x at *
      have hx8 := x.toNat_lt
      generalize x.toNat = b at *
      have ST1 := Lib.hid st1; have ST2 := Lib.hid st2; clear st1 st2
      have HX := Lib.hid hx; have HQ := Lib.hid hq; clear hx hq
      go_wp2
      go_quiet (fail)
      go_wp2
      go_roundw
      case rel => exact ⟨k + 1, by omega, by go_num, congrArg (Value.int .u64) ST1.out, congrArg (Value.int .u64) ST2.out, _, rfl⟩
      case measure => simp [intOf]; omega
    · obtain rfl : k = t.length := by omega
      have hs : shortB t = ((decide (4503599627370495 ≤ khi t t.length) && decide (klo t t.length ≤ 18442240474082181120)) || decide (khi t t.length = 18446744073709551615)) := rfl
      have c1 : ((w.drewN j).alloc (.cells #[.int .u32 1] 121)).cell? ⟨w.heap.size, 0, none⟩ = some (.int .u32 1) := (Blk.new (w.drewN j) _ _).cell 0
      have c2 : (((w.drewN j).alloc (.cells #[.int .u32 1] 121)).alloc (.cells #[.int .u32 1] 121)).cell? ⟨w.heap.size + 1, 0, none⟩ = some (.int .u32 1) := by
        have := (Blk.new ((w.drewN j).alloc (.cells #[.int .u32 1] 121)) 121 #[.int .u32 1]).cell 0
        simpa using this
      have j1 := join2000 _ _ true c1
      have j2 := join2000 _ _ false c2
      have k1 := fun W => key_any (infB true) W (by decide)
      have k2 := fun W => key_any (infB false) W (by decide)
      rw [key_minf] at k1
      rw [key_inf] at k2
      have J1 := Lib.hid j1; have J2 := Lib.hid j2; have K1 := Lib.hid k1; have K2 := Lib.hid k2; clear j1 j2 k1 k2
      have hl := bv_pw t t.length (by omega)
      have hkl : khi t t.length < 18446744073709551616 := by rw [List.take_length] at hl; unfold khi; rw [List.take_length]; exact hl
      generalize khi t t.length = hi at *
      generalize klo t t.length = lo at *
      obtain ⟨b1, t1⟩ : ∃ b, decide ((4503599627370495 : Int) ≤ (hi : Int)) = b := ⟨_, rfl⟩
      obtain ⟨b2, t2⟩ : ∃ b, decide ((lo : Int) ≤ 18442240474082181120) = b := ⟨_, rfl⟩
      obtain ⟨b3, t3⟩ : ∃ b, ((hi : Int) == 18446744073709551615) = b := ⟨_, rfl⟩
      have e1 : decide (4503599627370495 ≤ hi) = b1 := by rw [← t1]; exact decide_eq_decide.2 (by omega)
      have e2 : decide (lo ≤ 18442240474082181120) = b2 := by rw [← t2]; exact decide_eq_decide.2 (by omega)
      have e3 : decide (hi = 18446744073709551615) = b3 := by rw [← t3, Bool.eq_iff_iff]; simp; omega
      rw [e1, e2, e3] at hs
      have HS := Lib.hid hs; clear hs e1 e2 e3
      cases b1 <;> cases b2 <;> cases b3
      all_goals
        go_wp2_with (first
          | (go_at_call 132; (with_reducible refine J1.out.mono ?_); rintro y w1 ⟨rfl, rfl⟩)
          | (go_at_call 132; (with_reducible refine J2.out.mono ?_); rintro y w1 ⟨rfl, rfl⟩)
          | (go_at_call 102; (with_reducible refine (K1.out _).mono ?_); rintro y w1 ⟨rfl, rfl⟩)
          | (go_at_call 102; (with_reducible refine (K2.out _).mono ?_); rintro y w1 ⟨rfl, rfl⟩))
        go_ret
        exact ⟨by rw [HS.out]; rfl, belA (belA (belD (belR w) j) _) _⟩
end Go.Proofs.Ytpnolgghbenekaa
