/-
  bushellaw08.small, awake; bushelref08.Read and bushellaw08.read of any thing.
  bushellaw08.read: a thing is asked for, and is what must be.
  THE READER's B.
  THE READER's I, F, T.
  WHAT A NODE READS AS, as a plain function.
  SHEETS IN MEMORY.
  ENTRIES IN MEMORY; which may be those of nodes.
  THE WRITER buf.Out: NewOut, lay, Bytes, U.
  bushelref08.Read of a number with a sign; of bytes.
  bushelref08.Read of things of every kind.
  bushelref07.GetT: the document's text of any bytes is the same.
  bushelref07.GetI: the document's number with a sign of any bytes is the same.
  code.GetF of any bytes; bushelref07.Keyed, GetF.
  code.key: which bytes, fewer than eight, may be the beginning of a real number's key.
-/
import Derived.Laws.BitsAllLaws
import Derived.Deep.LoopGhost
import Derived.Deep.DeepCutAuto
import Derived.IntWalk
import Derived.Deep.RegionHeldLaw
import Derived.Deep.RegionHeld
import Derived.Test.YtfhmaincnlaapaaGreatApSy2
import Derived.Test.YtfhmaincnlaapaaGreatApGetWalks
import Derived.Test.YtfhmaincnlaapaaGreatApRefCode
import Derived.Test.YtfhmaincnlaapaaGreatApRefRead
import Derived.Test.YtfhmaincnlaapaaGreatApGetFWalks
namespace Go.Proofs.YtfhmaincnlaapaaGreat
open Go.ChangeShapes Go.WideShapes Go.ChangeAt Go.RowKit
set_option linter.unusedVariables false

theorem f64from_minf (w : World) : (callFunc 178 #[.int .u64 18442240474082181120]).run Tryz.prog w = .ok (.value (.float .f64 18442240474082181120)) w := f64from 18442240474082181120 w
theorem f64from_inf (w : World) : (callFunc 178 #[.int .u64 9218868437227405312]).run Tryz.prog w = .ok (.value (.float .f64 9218868437227405312)) w := f64from 9218868437227405312 w
theorem f64bits_inf (w : World) : (callFunc 188 #[.float .f64 9218868437227405312]).run Tryz.prog w = .ok (.value (.int .u64 9218868437227405312)) w := f64bits 9218868437227405312 w
theorem f64bits_m1 (w : World) : (callFunc 188 #[.float .f64 13830554455654793216]).run Tryz.prog w = .ok (.value (.int .u64 13830554455654793216)) w := f64bits 13830554455654793216 w
theorem bits_minf : bits .or .u64 (bits .andNot .u64 9218868437227405312 9223372036854775808) (bits .and .u64 13830554455654793216 9223372036854775808) = 18442240474082181120 := by decide +kernel
theorem copysign_any (w : World) : Calls Tryz.prog 205 #[.float .f64 9218868437227405312, .float .f64 13830554455654793216] w fun e w' => e = .returned (.float .f64 18442240474082181120) ∧ w = w' := by
  have hf := f64bits_inf
  have hg := f64bits_m1
  have hh := f64from_minf
  have hb := bits_minf
  go_enter Tryz.func205, Tryz.ntmps205
  go_wp2
  go_ret
  exact ⟨rfl, rfl⟩
theorem inf_any (w : World) : Calls Tryz.prog 135 #[.int .i64 1] w fun e w' => e = .returned (.float .f64 9218868437227405312) ∧ w = w' := by
  have hh := f64from_inf
  go_enter Tryz.func135, Tryz.ntmps135
  go_wp2
  go_ret
  exact ⟨rfl, rfl⟩
theorem signed_inf (w : World) : Calls Tryz.prog 180 #[.bool false, .float .f64 9218868437227405312] w fun e w' => e = .returned (.float .f64 9218868437227405312) ∧ w = w' := by
  go_enter Tryz.func180, Tryz.ntmps180
  go_wp2
  go_ret
  exact ⟨rfl, rfl⟩
theorem signed_minf (w : World) : Calls Tryz.prog 180 #[.bool true, .float .f64 9218868437227405312] w fun e w' => e = .returned (.float .f64 18442240474082181120) ∧ w = w' := by
  go_enter Tryz.func180, Tryz.ntmps180
  go_wp2_with (go_at_call 205; (with_reducible refine (copysign_any _).mono ?_); rintro y w1 ⟨rfl, rfl⟩)
  go_ret
  exact ⟨rfl, rfl⟩
theorem size_one (w : World) (g : Nat) (h : w.cell? ⟨g, 0, none⟩ = some (.int .u32 1)) : Calls Tryz.prog 140 #[.slice (some ⟨g, 0, none⟩) 1 1] w fun e w' => e = .returned (.int .i64 1) ∧ w = w' := by
  go_enter Tryz.func140, Tryz.ntmps140
  go_wp2
  go_loop [3] (fun v => v = .int .i64 1) (fun _ => 0)
  case atStart => rfl
  case round =>
    subst hrel
    go_wp2
    go_ret
    exact ⟨rfl, rfl⟩
theorem bits_one (w : World) (g : Nat) (h : w.cell? ⟨g, 0, none⟩ = some (.int .u32 1)) : Calls Tryz.prog 179 #[.slice (some ⟨g, 0, none⟩) 1 1] w fun e w' => e = .returned (.int .i64 1) ∧ w = w' := by
  go_enter Tryz.func179, Tryz.ntmps179
  go_wp2_with (go_at_call 140; (with_reducible refine (size_one _ g h).mono ?_); rintro y w1 ⟨rfl, rfl⟩)
  go_loop [4, 5] (fun n t => (n = .int .i64 0 ∧ t = .int .u32 1) ∨ (n = .int .i64 1 ∧ t = .int .u32 0)) (fun _ t => (intOf t).toNat)
  case atStart => exact .inl ⟨rfl, rfl⟩
  case round =>
    rcases hrel with ⟨rfl, rfl⟩ | ⟨rfl, rfl⟩
    · go_wp2
      go_round
      case rel => exact .inr ⟨rfl, rfl⟩
      case measure => simp [intOf]
    · go_wp2
      go_ret
      exact ⟨rfl, rfl⟩
def infB : Bool → Nat
  | true => 18442240474082181120
  | false => 9218868437227405312
theorem join2000 (w : World) (g : Nat) (b : Bool) (h : w.cell? ⟨g, 0, none⟩ = some (.int .u32 1)) : Calls Tryz.prog 136 #[.bool b, .slice (some ⟨g, 0, none⟩) 1 1, .int .i64 2000] w fun e w' => e = .returned (.float .f64 (infB b)) ∧ w = w' := by
  cases b
  all_goals
    go_enter Tryz.func136, Tryz.ntmps136
    go_wp2_with (first
      | (go_at_call 179; (with_reducible refine (bits_one _ g h).mono ?_); rintro y w1 ⟨rfl, rfl⟩)
      | (go_at_call 135; (with_reducible refine (inf_any _).mono ?_); rintro y w1 ⟨rfl, rfl⟩)
      | (go_at_call 180; (with_reducible refine (signed_inf _).mono ?_); rintro y w1 ⟨rfl, rfl⟩)
      | (go_at_call 180; (with_reducible refine (signed_minf _).mono ?_); rintro y w1 ⟨rfl, rfl⟩))
    go_ret
    exact ⟨rfl, rfl⟩
theorem or_sh (P b N : Nat) (hb : b < 256) : P * 2 ^ (N + 8) ||| b * 2 ^ N = P * 2 ^ (N + 8) + b * 2 ^ N := by
  refine nat_join (N + 8) _ _ (Nat.mul_mod_left _ _) ?_
  rw [Nat.pow_add, Nat.mul_comm]
  exact Nat.mul_lt_mul_of_pos_left hb (Nat.two_pow_pos N)
theorem andnot_sh (P N : Nat) (h : P * 2 ^ (N + 8) + (2 ^ (N + 8) - 1) < 2 ^ 64) : (P * 2 ^ (N + 8) + (2 ^ (N + 8) - 1)) &&& (2 ^ 64 - (255 * 2 ^ N + 1)) = P * 2 ^ (N + 8) + (2 ^ N - 1) := by
  have e1 : P * 2 ^ (N + 8) + (2 ^ (N + 8) - 1) = (P <<< (N + 8)) ||| (2 ^ (N + 8) - 1) := by
    rw [Nat.shiftLeft_eq]
    exact (nat_join (N + 8) _ _ (Nat.mul_mod_left _ _) (by have := Nat.two_pow_pos (N + 8); omega)).symm
  have e2 : P * 2 ^ (N + 8) + (2 ^ N - 1) = (P <<< (N + 8)) ||| (2 ^ N - 1) := by
    rw [Nat.shiftLeft_eq]
    refine (nat_join (N + 8) _ _ (Nat.mul_mod_left _ _) ?_).symm
    have := Nat.two_pow_pos N
    have : 2 ^ (N + 8) = 2 ^ N * 256 := by rw [Nat.pow_add]
    omega
  have e3 : 255 * 2 ^ N = (2 ^ 8 - 1) <<< N := by rw [Nat.shiftLeft_eq]
  have hm : (2 ^ 8 - 1) <<< N < 2 ^ 64 := by
    rw [← e3]
    have := Nat.two_pow_pos N
    have : 2 ^ (N + 8) = 2 ^ N * 256 := by rw [Nat.pow_add]
    omega
  apply Nat.eq_of_testBit_eq
  intro i
  rw [e2, e1, e3]
  have hl : i ≥ 64 → ((P <<< (N + 8)) ||| (2 ^ (N + 8) - 1)).testBit i = false := fun hi => by
    rw [← e1]; exact Nat.testBit_lt_two_pow (Nat.lt_of_lt_of_le h (Nat.pow_le_pow_right (by decide) hi))
  rw [Nat.testBit_and, Nat.testBit_two_pow_sub_succ hm]
  by_cases hi : 64 ≤ i
  · rw [hl hi]
    have := hl hi
    simp only [Nat.testBit_or, Nat.testBit_shiftLeft, Nat.testBit_two_pow_sub_one, Bool.or_eq_false_iff, decide_eq_false_iff_not] at this
    simp only [Nat.testBit_or, Nat.testBit_shiftLeft, Nat.testBit_two_pow_sub_one, Bool.false_and]
    rw [this.1]
    simp
    omega
  · simp only [Nat.testBit_or, Nat.testBit_shiftLeft, Nat.testBit_two_pow_sub_one]
    by_cases h1 : i < N
    · simp [h1, show ¬ N + 8 ≤ i by omega, show ¬ N ≤ i by omega, show i < N + 8 by omega]; omega
    · by_cases h2 : i < N + 8
      · simp [h1, h2, show ¬ N + 8 ≤ i by omega, show N ≤ i by omega]; omega
      · simp [h1, h2, show N + 8 ≤ i by omega, show N ≤ i by omega]; omega
/-- the least and the greatest number of eight bytes that begin with the first k of t -/
def kpw (k : Nat) : Nat := 256 ^ (8 - k)
def klo (t : List UInt8) (k : Nat) : Nat := bv (t.take k) * kpw k
def khi (t : List UInt8) (k : Nat) : Nat := bv (t.take k) * kpw k + (kpw k - 1)
theorem kpw_eq (k q : Nat) (h : k + q = 7) : kpw k = 2 ^ (8 * q + 8) ∧ kpw (k + 1) = 2 ^ (8 * q) := by
  unfold kpw
  have e1 : 8 - k = q + 1 := by omega
  have e2 : 8 - (k + 1) = q := by omega
  have e3 : ∀ n, (256 : Nat) ^ n = 2 ^ (8 * n) := fun n => (Nat.pow_mul 2 8 n).symm
  exact ⟨by rw [e1, e3]; rfl, by rw [e2, e3]⟩
theorem bv_pw (t : List UInt8) (k : Nat) (h : k ≤ 8) : bv (t.take k) * kpw k + (kpw k - 1) < 2 ^ 64 := by
  have h1 := bv_lt (t.take k)
  have h2 : (t.take k).length ≤ k := by rw [List.length_take]; omega
  have h3 : 256 ^ (t.take k).length ≤ 256 ^ k := Nat.pow_le_pow_right (by decide) h2
  have hp : 0 < kpw k := Nat.pow_pos (by decide)
  have h4 : (bv (t.take k) + 1) * kpw k ≤ 256 ^ k * kpw k := Nat.mul_le_mul_right _ (by omega)
  have h5 : 256 ^ k * kpw k = 2 ^ 64 := by unfold kpw; rw [← Nat.pow_add, show k + (8 - k) = 8 by omega]
  rw [h5, Nat.succ_mul] at h4
  omega
theorem key_step (t : List UInt8) (k q : Nat) (h : k + q = 7) (hk : k < t.length) :
    bits .or .u64 (klo t k : Int) (IntKind.u64.wrap ((t[k].toNat : Int) * 2 ^ (8 * q))) = (klo t (k + 1) : Int) ∧
    bits .or .u64 (bits .andNot .u64 (khi t k : Int) (IntKind.u64.wrap (255 * 2 ^ (8 * q)))) (IntKind.u64.wrap ((t[k].toNat : Int) * 2 ^ (8 * q))) = (khi t (k + 1) : Int) := by
  obtain ⟨p1, p2⟩ := kpw_eq k q h
  have hb := t[k].toNat_lt
  have hv := bv_take t k hk
  have hq := Nat.two_pow_pos (8 * q)
  have hB := bv_pw t k (by omega)
  have hB2 := bv_pw t (k + 1) (by omega)
  unfold klo khi
  rw [p1] at hB
  rw [p2, hv] at hB2
  rw [p1, p2, hv]
  generalize t[k].toNat = b at *
  generalize bv (t.take k) = P at *
  generalize 8 * q = N at *
  have e8 : (P * 256 + b) * 2 ^ N = P * 2 ^ (N + 8) + b * 2 ^ N := by rw [Nat.pow_add, Nat.add_mul, Nat.mul_comm (2 ^ N), Nat.mul_assoc]
  have e9 : 2 ^ (N + 8) = 2 ^ N * 256 := by rw [Nat.pow_add]
  have hbN : b * 2 ^ N ≤ 255 * 2 ^ N := Nat.mul_le_mul_right _ (by omega)
  rw [e8] at hB2 ⊢
  have z64 : (2 : Nat) ^ 64 = 18446744073709551616 := rfl
  rw [z64] at hB hB2
  have w1 : IntKind.u64.wrap ((b : Int) * 2 ^ N) = ((b * 2 ^ N : Nat) : Int) := by
    have : (b : Int) * 2 ^ N = ((b * 2 ^ N : Nat) : Int) := by rw [Int.natCast_mul, Int.natCast_pow]; rfl
    rw [this, IntKind.wrap_u64]
    omega
  have w2 : IntKind.u64.wrap (255 * 2 ^ N) = ((255 * 2 ^ N : Nat) : Int) := by
    have : (255 : Int) * 2 ^ N = ((255 * 2 ^ N : Nat) : Int) := by rw [Int.natCast_mul, Int.natCast_pow]; rfl
    rw [this, IntKind.wrap_u64]
    omega
  rw [w1, w2]
  constructor
  · rw [u64_or_nat _ _ (by omega) (by omega), or_sh _ _ _ (by omega)]
  · have ea := andnot_sh P N (by rw [z64]; omega)
    rw [u64_andNot_nat _ _ (by omega) (by omega), show 18446744073709551615 - 255 * 2 ^ N = 2 ^ 64 - (255 * 2 ^ N + 1) by rw [z64]; omega, ea]
    have hf : P * 2 ^ (N + 8) + (2 ^ N - 1) < 18446744073709551616 := by omega
    rw [u64_or_nat _ _ hf (by omega)]
    congr 1
    have e1 : P * 2 ^ (N + 8) + (2 ^ N - 1) = P * 2 ^ (N + 8) ||| (2 ^ N - 1) := (nat_join (N + 8) _ _ (Nat.mul_mod_left _ _) (by omega)).symm
    rw [e1, Nat.or_assoc, Nat.or_comm (2 ^ N - 1), ← Nat.or_assoc, or_sh _ _ _ (by omega)]
    refine nat_join N _ _ ?_ (by omega)
    rw [Nat.pow_add, ← Nat.mul_assoc, Nat.mul_right_comm, ← Nat.add_mul]
    exact Nat.mul_mod_left _ _
/-- may fewer than eight bytes be the beginning of a number's key? -/
def shortB (t : List UInt8) : Bool := (decide (4503599627370495 ≤ khi t t.length) && decide (klo t t.length ≤ 18442240474082181120)) || decide (khi t t.length = 18446744073709551615)
theorem key_minf : keyB (infB true) = 4503599627370495 := by decide +kernel
theorem key_inf : keyB (infB false) = 18442240474082181120 := by decide +kernel
set_option maxRecDepth 20000 in
set_option maxHeartbeats 2000000 in
theorem keyB_any (A : Option Addr) (m c B : Nat) (t : List UInt8) (w : World) (h : Rd w B 1 A m (u8s t)) (hm : m < 8) :
    Calls Tryz.prog 189 #[.slice A m c] w fun e w' => e = .returned (.bool (shortB t)) ∧ Below w.heap.size w w' := by
  obtain rfl : m = t.length := h.u8.symm
  have H := Lib.hid h; clear h
  go_enter Tryz.func189, Tryz.ntmps189
  go_wp2
  go_loopw [3, 4, 12] (fun lo hi i wr => ∃ k : Nat, k ≤ t.length ∧ i = .int .i64 (k : Int) ∧ lo = .int .u64 (klo t k : Int) ∧ hi = .int .u64 (khi t k : Int) ∧ Drw w wr) (fun _ _ i _ => t.length - (intOf i).toNat)
  case atStart => exact ⟨0, by omega, rfl, by simp [klo, bv], by simp [khi, bv, kpw], Drw.refl _⟩
  case round =>
    obtain ⟨k, hk, rfl, rfl, rfl, j, rfl⟩ := hrel
    by_cases hlt : k < t.length
    · obtain ⟨a, rfl, hab, x0⟩ := (H.out.drewN j).byte hlt
      obtain ⟨q, hq⟩ : ∃ q, k + q = 7 := ⟨7 - k, by omega⟩
      obtain ⟨st1, st2⟩ := key_step t k q hq hlt
      have hqz : (7 : Int) - (k : Int) = (q : Int) := by omega
      have hq7 : q ≤ 7 := by omega
      have s0 : (0 : Int) ≤ 8 * (q : Int) := by omega
      have s1 : 8 * (q : Int) ≤ 64 := by omega
      have q1 : (0 : Int) ≤ (k : Int) := by omega
      have q2 : (k : Int) < (t.length : Int) := by omega
      generalize hx : t[k] = x at *
      have hx8 := x.toNat_lt
      generalize x.toNat = b at *
      have ST1 := Lib.hid st1; have ST2 := Lib.hid st2; clear st1 st2
      have HX := Lib.hid hx; have HQ := Lib.hid hq; clear hx hq
      go_wp2
      go_quiet (fail)
      go_wp2
      go_roundw
      case rel => exact ⟨k + 1, by omega, by go_num, congrArg (Value.int .u64) ST1.out, congrArg (Value.int .u64) ST2.out, _, rfl⟩
      case measure => simp [intOf]; omega
    · obtain rfl : k = t.length := by omega
      have hs : shortB t = ((decide (4503599627370495 ≤ khi t t.length) && decide (klo t t.length ≤ 18442240474082181120)) || decide (khi t t.length = 18446744073709551615)) := rfl
      have c1 : ((w.drewN j).alloc (.cells #[.int .u32 1] 39)).cell? ⟨w.heap.size, 0, none⟩ = some (.int .u32 1) := (Blk.new (w.drewN j) _ _).cell 0
      have c2 : (((w.drewN j).alloc (.cells #[.int .u32 1] 39)).alloc (.cells #[.int .u32 1] 39)).cell? ⟨w.heap.size + 1, 0, none⟩ = some (.int .u32 1) := by
        have := (Blk.new ((w.drewN j).alloc (.cells #[.int .u32 1] 39)) 39 #[.int .u32 1]).cell 0
        simpa using this
      have j1 := join2000 _ _ true c1
      have j2 := join2000 _ _ false c2
      have k1 := fun W => key_any (infB true) W (by decide)
      have k2 := fun W => key_any (infB false) W (by decide)
      rw [key_minf] at k1
      rw [key_inf] at k2
      have J1 := Lib.hid j1; have J2 := Lib.hid j2; have K1 := Lib.hid k1; have K2 := Lib.hid k2; clear j1 j2 k1 k2
      have hl := bv_pw t t.length (by omega)
      have hkl : khi t t.length < 18446744073709551616 := by rw [List.take_length] at hl; unfold khi; rw [List.take_length]; exact hl
      generalize khi t t.length = hi at *
      generalize klo t t.length = lo at *
      obtain ⟨b1, t1⟩ : ∃ b, decide ((4503599627370495 : Int) ≤ (hi : Int)) = b := ⟨_, rfl⟩
      obtain ⟨b2, t2⟩ : ∃ b, decide ((lo : Int) ≤ 18442240474082181120) = b := ⟨_, rfl⟩
      obtain ⟨b3, t3⟩ : ∃ b, ((hi : Int) == 18446744073709551615) = b := ⟨_, rfl⟩
      have e1 : decide (4503599627370495 ≤ hi) = b1 := by rw [← t1]; exact decide_eq_decide.2 (by omega)
      have e2 : decide (lo ≤ 18442240474082181120) = b2 := by rw [← t2]; exact decide_eq_decide.2 (by omega)
      have e3 : decide (hi = 18446744073709551615) = b3 := by rw [← t3, Bool.eq_iff_iff]; simp; omega
      rw [e1, e2, e3] at hs
      have HS := Lib.hid hs; clear hs e1 e2 e3
      cases b1 <;> cases b2 <;> cases b3
      all_goals
        go_wp2_with (first
          | (go_at_call 136; (with_reducible refine J1.out.mono ?_); rintro y w1 ⟨rfl, rfl⟩)
          | (go_at_call 136; (with_reducible refine J2.out.mono ?_); rintro y w1 ⟨rfl, rfl⟩)
          | (go_at_call 141; (with_reducible refine (K1.out _).mono ?_); rintro y w1 ⟨rfl, rfl⟩)
          | (go_at_call 141; (with_reducible refine (K2.out _).mono ?_); rintro y w1 ⟨rfl, rfl⟩))
        go_ret
        exact ⟨by rw [HS.out]; rfl, belA (belA (belD (belR w) j) _) _⟩
end Go.Proofs.YtfhmaincnlaapaaGreat
namespace Go.Proofs.YtfhmaincnlaapaaGreat
open Go.ChangeShapes Go.WideShapes Go.ChangeAt Go.RowKit
set_option linter.unusedVariables false

/-- the real number that bytes begin with: its word, how many bytes, the error -/
def getF (t : List UInt8) : Nat × Nat × Nat :=
  if t.length < 8 then (0, 0, if shortB t then 5 else 6) else match fromB (bv (t.take 8)) with
    | some b => (b, 8, 0)
    | none => (0, 0, 6)
theorem getF_any (A : Option Addr) (m c B : Nat) (t : List UInt8) (w : World) (h : Rd w B 1 A m (u8s t)) (hmc : m ≤ c) (hc : c ≤ maxLen) :
    Calls Tryz.prog 149 #[.slice A m c] w fun e w' => e = .returned (.tuple #[.float .f64 (getF t).1, .int .i64 ((getF t).2.1 : Int), .int .i64 ((getF t).2.2 : Int)]) ∧ Below w.heap.size w w' := by
  have hm := h.u8
  by_cases h8 : 8 ≤ m
  · refine (getF8_any A m c B t w h h8 hmc hc).mono ?_
    rintro e w' ⟨rfl, j, rfl⟩
    refine ⟨?_, belD (belR w) j⟩
    have e1 : getF t = match fromB (bv (t.take 8)) with | some b => (b, 8, 0) | none => (0, 0, 6) := if_neg (by omega)
    rw [e1]
    unfold getF8
    cases fromB (bv (t.take 8)) <;> rfl
  · have hk := keyB_any A m c B t w h (by omega)
    have e1 : getF t = (0, 0, if shortB t then 5 else 6) := if_pos (by omega)
    rw [e1]
    have h9 : m < 8 := by omega
    have HK := Lib.hid hk; clear hk e1 h h8
    generalize shortB t = b at *
    cases b
    all_goals
      go_enter Tryz.func149, Tryz.ntmps149
      go_wp2_with (go_at_call 189; (with_reducible refine HK.out.mono ?_); rintro y w1 ⟨rfl, hb1⟩)
      go_ret3
      exact ⟨rfl, hb1⟩

def keyedB (k : Nat) : Bool := decide (k = 18446744073709551615) || (decide (4503599627370495 ≤ k) && decide (k ≤ 18442240474082181120))
/-- the least and the greatest number: what lacks is 0, or 255 -/
def loS (t : List UInt8) : Nat → Nat
  | 0 => 0
  | i + 1 => loS t i * 256 + if h : i < t.length then t[i].toNat else 0
def hiS (t : List UInt8) : Nat → Nat
  | 0 => 0
  | i + 1 => hiS t i * 256 + if h : i < t.length then t[i].toNat else 255
theorem loS_in (t : List UInt8) (i : Nat) (h : i ≤ t.length) : loS t i = bv (t.take i) ∧ hiS t i = bv (t.take i) := by
  induction i with
  | zero => exact ⟨rfl, rfl⟩
  | succ i ih =>
    obtain ⟨h1, h2⟩ := ih (by omega)
    have h' : i < t.length := h
    rw [loS, hiS, h1, h2, bv_take t i h, dif_pos h', dif_pos h']
    exact ⟨rfl, rfl⟩
theorem loS_out (t : List UInt8) (j : Nat) : loS t (t.length + j) = bv t * 256 ^ j ∧ hiS t (t.length + j) = bv t * 256 ^ j + (256 ^ j - 1) := by
  induction j with
  | zero =>
    obtain ⟨h1, h2⟩ := loS_in t t.length (Nat.le_refl _)
    rw [List.take_length] at h1 h2
    rw [Nat.add_zero, h1, h2]; simp
  | succ j ih =>
    obtain ⟨h1, h2⟩ := ih
    rw [← Nat.add_assoc, loS, hiS, dif_neg (by omega), dif_neg (by omega), h1, h2, Nat.pow_succ, ← Nat.mul_assoc]
    have := Nat.pow_pos (n := j) (show 0 < 256 by decide)
    exact ⟨by omega, by omega⟩
theorem loS_eight (t : List UInt8) (h : t.length < 8) : loS t 8 = klo t t.length ∧ hiS t 8 = khi t t.length := by
  have := loS_out t (8 - t.length)
  rw [show t.length + (8 - t.length) = 8 by omega] at this
  unfold klo khi kpw
  rw [List.take_length]; exact this
theorem loS_full (t : List UInt8) (h : 8 ≤ t.length) : loS t 8 = bv (t.take 8) := (loS_in t 8 h).1
/-- what the document's GetF says: the key, the error -/
def rgetF (t : List UInt8) : Nat × Nat :=
  if 8 ≤ t.length then (if keyedB (loS t 8) then (loS t 8, 0) else (0, 6))
  else if keyedB (loS t 8) || keyedB (hiS t 8) || (decide (loS t 8 < 9223372036854775808) && decide (9223372036854775808 ≤ hiS t 8)) then (0, 5) else (0, 6)
/-- program and document agree -/
theorem getF_doc (t : List UInt8) : (getF t).2.2 = (rgetF t).2 ∧ ((rgetF t).2 ≠ 0 → getF t = (0, 0, (rgetF t).2)) ∧ ((rgetF t).2 = 0 → (getF t).2.1 = 8 ∧ keyB (getF t).1 = (rgetF t).1 ∧ (getF t).1 < 18446744073709551616) := by
  by_cases h8 : t.length < 8
  · obtain ⟨e1, e2⟩ := loS_eight t h8
    have hg : getF t = (0, 0, if shortB t then 5 else 6) := if_pos h8
    have hr : rgetF t = if keyedB (klo t t.length) || keyedB (khi t t.length) || (decide (klo t t.length < 9223372036854775808) && decide (9223372036854775808 ≤ khi t t.length)) then (0, 5) else (0, 6) := by
      unfold rgetF; rw [if_neg (by omega), e1, e2]
    have hle : klo t t.length ≤ khi t t.length := Nat.le_add_right _ _
    have hlt : khi t t.length < 18446744073709551616 := by have := bv_pw t t.length (by omega); exact this
    have hs : shortB t = (keyedB (klo t t.length) || keyedB (khi t t.length) || (decide (klo t t.length < 9223372036854775808) && decide (9223372036854775808 ≤ khi t t.length))) := by
      rw [Bool.eq_iff_iff]
      unfold shortB keyedB
      simp only [Bool.or_eq_true, Bool.and_eq_true, decide_eq_true_eq]
      omega
    rw [hg, hr, ← hs]
    cases shortB t <;> simp
  · have hr : rgetF t = if keyedB (bv (t.take 8)) then (bv (t.take 8), 0) else (0, 6) := by unfold rgetF; rw [if_pos (by omega), loS_full t (by omega)]
    have hg : getF t = match fromB (bv (t.take 8)) with | some b => (b, 8, 0) | none => (0, 0, 6) := if_neg h8
    have hk : bv (t.take 8) < 18446744073709551616 := by
      have h1 := bv_lt (t.take 8)
      rw [List.length_take, Nat.min_eq_left (by omega)] at h1
      exact Nat.lt_of_lt_of_le h1 (by decide)
    generalize bv (t.take 8) = k at *
    rw [hg, hr]
    have hkf : keyedB k = (fromB k).isSome := by
      unfold keyedB fromB
      split
      · simp [*]
      · split
        · simp; omega
        · split
          · simp; omega
          · simp; omega
    cases hf : fromB k with
    | none => rw [hkf, hf]; simp
    | some b =>
      have e1 : keyedB k = true := by rw [hkf, hf]; rfl
      rw [if_pos e1]
      exact ⟨rfl, fun h => absurd rfl h, fun _ => ⟨rfl, fromB_key k b hk hf, fromB_lt k b hk hf⟩⟩
end Go.Proofs.YtfhmaincnlaapaaGreat
namespace Go.Proofs.YtfhmaincnlaapaaGreat
open Go.ChangeShapes Go.WideShapes Go.ChangeAt Go.RowKit
set_option linter.unusedVariables false

end Go.Proofs.YtfhmaincnlaapaaGreat
namespace Go.Proofs.YtfhmaincnlaapaaGreat
open Go.ChangeShapes Go.WideShapes Go.ChangeAt Go.RowKit
set_option linter.unusedVariables false

end Go.Proofs.YtfhmaincnlaapaaGreat
namespace Go.Proofs.YtfhmaincnlaapaaGreat
open Go.ChangeShapes Go.WideShapes Go.ChangeAt Go.RowKit
set_option linter.unusedVariables false

/-- what was read -/
structure GotS where
  u : Nat
  i : Int
  t : List UInt8
  n : Nat
  e : Nat
def GotS.v (g : GotS) : Value := .agg #[.int .u64 (g.u : Int), .int .i64 g.i, .string ⟨g.t.toArray⟩, .int .i64 (g.n : Int), .int .i64 (g.e : Int)]
def got0S (e : Nat) : GotS := ⟨0, 0, [], 0, e⟩
def mx (ms : Int) : Nat := (max ms 0).toNat
def rdB (ms : Int) (t : List UInt8) : GotS :=
  if (getU t).2.2 ≠ 0 then got0S (getU t).2.2 else if mx ms < (getU t).1 then got0S 4 else if t.length - (getU t).2.1 < (getU t).1 then got0S 5
  else ⟨0, 0, (t.drop (getU t).2.1).take (getU t).1, (getU t).2.1 + (getU t).1, 0⟩

section
variable (mu : Nat) (ai : Int) (f : Nat) (s : ByteArray) (ms : Int) (A : Option Addr) (m c B : Nat) (t : List UInt8) (w : World)

end
end Go.Proofs.YtfhmaincnlaapaaGreat
namespace Go.Proofs.YtfhmaincnlaapaaGreat
open Go.ChangeShapes Go.WideShapes Go.ChangeAt Go.RowKit
set_option linter.unusedVariables false

section
variable (mu : Nat) (ai : Int) (f : Nat) (s : ByteArray) (ms : Int) (A : Option Addr) (m c B : Nat) (t : List UInt8) (w : World)
theorem mx_eq (ms : Int) : (if ms < 0 then 0 else ms) = (mx ms : Int) := by
  unfold mx
  split <;> omega
end
end Go.Proofs.YtfhmaincnlaapaaGreat
namespace Go.Proofs.YtfhmaincnlaapaaGreat
open Go.ChangeShapes Go.WideShapes Go.ChangeAt Go.RowKit
set_option linter.unusedVariables false

/-- THE WRITER AT BLOCK g: what was laid; all of it lies from block base on -/
def OutS (w : World) (base g : Nat) (l : List UInt8) : Prop :=
  base ≤ g ∧ base ≤ w.heap.size ∧ ∃ v, Blk w g 216 #[.bool true, v] ∧ w.ownsRow base 5 1 v l.length (u8s l)
theorem OutS.lt {w : World} {base g : Nat} {l : List UInt8} (h : OutS w base g l) : g < w.heap.size := by obtain ⟨_, _, v, hb, _⟩ := h; exact hb.lt
theorem OutS.drw {w w' : World} {base g : Nat} {l : List UInt8} (h : OutS w base g l) (k : Drw w w') : OutS w' base g l := by obtain ⟨n, rfl⟩ := k; exact h
/-- all that is new lies behind what was there -/
theorem OutS.below {w w' : World} {base g : Nat} {l : List UInt8} (h : OutS w base g l) (hb : Below w.heap.size w w') : OutS w' base g l := by
  obtain ⟨h1, h2, v, hB, ho⟩ := h
  exact ⟨h1, Nat.le_trans h2 hb.size, v, hB.below hb hB.lt, own_below ho hb (Nat.le_refl _)⟩

theorem newOut_any (w : World) : Calls Tryz.prog 93 #[] w fun x w' => x = .returned (.pointer (some ⟨w.heap.size, 0, none⟩)) ∧ OutS w' w.heap.size w.heap.size [] ∧ Below w.heap.size w w' := by
  go_enter Tryz.func93, Tryz.ntmps93
  go_wp2
  go_ret
  exact ⟨rfl, ⟨Nat.le_refl _, by simp, _, Blk.new _ _ _, World.ownsRow_nil _ _ _ 1⟩, belA (belR w) _⟩

theorem outBytes_any (w : World) (base g : Nat) (l : List UInt8) (h : OutS w base g l) (hlen : l.length ≤ 1000000000) :
    Calls Tryz.prog 98 #[.pointer (some ⟨g, 0, none⟩)] w fun x w' => ∃ v, x = .returned v ∧ w'.ownsRow w.heap.size 5 1 v l.length (u8s l) ∧ Below w.heap.size w w' := by
  obtain ⟨hg, hz, v, hB, ho⟩ := h
  obtain ⟨A1, c1, rfl, _, _, _⟩ := own_form ho
  have c1' := hB.cell 1
  simp at c1'
  have hR := Rd.own ho
  have hnil := World.ownsRow_nil w w.heap.size 5 1
  have HR := Lib.hid hR; have HO := Lib.hid ho; have HB := Lib.hid hB; clear hR ho hB
  go_enter Tryz.func98, Tryz.ntmps98
  go_wp2_with (at_builtin; refine wpList_appS _ rfl _ _ 27 rfl w.heap.size 5 _ 1 1 info_u8 rfl (by decide) Tryz.underlying27 _ _ _ hnil rfl _ _ _ _ _ HR.out rfl (u8s_one _) ?_ ?_ ?_ ?_; omega; omega; exact Nat.le_refl _; intro v2 w2 ho2 hb2; have HO2 := Lib.hid ho2; have HP2 := Lib.hid hb2; clear ho2 hb2)
  go_ret
  have := HO2.out
  rw [Nat.zero_add, List.nil_append] at this
  exact ⟨_, rfl, this, HP2.out.below_nil (Nat.le_refl _)⟩

end Go.Proofs.YtfhmaincnlaapaaGreat
namespace Go.Proofs.YtfhmaincnlaapaaGreat
open Go.ChangeShapes Go.WideShapes Go.ChangeAt Go.RowKit
set_option linter.unusedVariables false

/-- the cells of a list whose elements have some cells each -/
theorem flat_get {α : Type} (f : α → List Value) (s : Nat) (hs : ∀ x, (f x).length = s) (l : List α) (k j : Nat) (hk : k < l.length) (hj : j < s) : (l.flatMap f)[k * s + j]? = (f l[k])[j]? := by
  induction l generalizing k with
  | nil => simp at hk
  | cons x l ih =>
    rw [List.flatMap_cons]
    cases k with
    | zero => rw [Nat.zero_mul, Nat.zero_add, List.getElem?_append_left (by rw [hs]; exact hj)]; rfl
    | succ k =>
      rw [List.getElem?_append_right (by rw [hs, Nat.succ_mul]; omega), hs, show (k + 1) * s + j - s = k * s + j from by rw [Nat.succ_mul]; omega, ih k (by simpa using hk)]
      rfl
theorem flat_len {α : Type} (f : α → List Value) (s : Nat) (hs : ∀ x, (f x).length = s) (l : List α) : (l.flatMap f).length = l.length * s := by
  induction l with
  | nil => simp
  | cons x l ih => rw [List.flatMap_cons, List.length_append, hs, ih, List.length_cons, Nat.succ_mul]; omega

section
variable {w w' : World} {B n : Nat} {A : Option Addr} {l : List (Nat × Int)}
end

theorem one_of {p : Nat → Prop} (h : p 0) : ∀ j, j < 1 → p j := fun j hj => by obtain rfl : j = 0 := by omega
                                                                               exact h
theorem rd_drw {w w' : World} {B size n : Nat} {A : Option Addr} {xs : List Value} (h : Rd w B size A n xs) (k : Drw w w') : Rd w' B size A n xs := by obtain ⟨m, rfl⟩ := k; exact h
end Go.Proofs.YtfhmaincnlaapaaGreat
namespace Go.Proofs.YtfhmaincnlaapaaGreat
open Go.ChangeShapes Go.WideShapes Go.ChangeAt Go.RowKit
set_option linter.unusedVariables false

theorem own_own_ne {w : World} {base base' n n' : Nat} {e e' : TypeId} {size size' : Nat} {v v' : Value} {xs xs' : List Value} (h : w.ownsRow base e size v n xs) (h' : w.ownsRow base' e' size' v' n' xs') (hne : e ≠ e') : v.ownBlock = none ∨ v.ownBlock ≠ v'.ownBlock := by
  rcases h.2 with ⟨rfl, _⟩ | ⟨g, cap, cur, rfl, _, hh, _⟩
  · exact .inl rfl
  · refine .inr fun he => ?_
    rcases h'.2 with ⟨rfl, _⟩ | ⟨g', cap', cur', rfl, _, hh', _⟩
    · simp [Value.ownBlock] at he
    · have : g = g' := by simpa [Value.ownBlock] using he
      subst this
      rw [hh] at hh'
      injection hh' with hh'
      injection hh' with _ ht
      exact hne ht

structure Sht where
  k : Int
  a : Nat
  b : Nat
  d : List UInt8
def shC (s : Sht) (v : Value) : List Value := [.int .i64 s.k, .int .u64 (s.a : Int), .int .u64 (s.b : Int), v]
theorem shC_len (s : Sht) (v : Value) : (shC s v).length = 4 := rfl

/-- the cells of a list of sheets; each body reads as its bytes, below block B -/
def ShR (w : World) (B : Nat) : List Sht → List Value → Prop
  | [], xs => xs = []
  | s :: ss, xs => ∃ A c rest, xs = shC s (.slice A s.d.length c) ++ rest ∧ Rd w B 1 A s.d.length (u8s s.d) ∧ s.d.length ≤ c ∧ c ≤ maxLen ∧ ShR w B ss rest
/-- the cells of a list of sheets whose bodies are the call's own, each in a block below B -/
def ShO (w : World) (base B : Nat) : List Sht → List Value → Prop
  | [], xs => xs = []
  | s :: ss, xs => ∃ v rest, xs = shC s v ++ rest ∧ w.ownsRow base 5 1 v s.d.length (u8s s.d) ∧ (∀ k, v.ownBlock = some k → k < B) ∧ ShO w base B ss rest
theorem ShO.map {w w' : World} {base B B' : Nat} {ss : List Sht} {xs : List Value} (h : ShO w base B ss xs) (hB : B ≤ B')
    (hk : ∀ v n ys, w.ownsRow base 5 1 v n ys → (∀ k, v.ownBlock = some k → k < B) → w'.ownsRow base 5 1 v n ys) : ShO w' base B' ss xs := by
  induction ss generalizing xs with
  | nil => exact h
  | cons s ss ih =>
    obtain ⟨v, rest, rfl, ho, hl, hr⟩ := h
    exact ⟨v, rest, rfl, hk _ _ _ ho hl, fun k hk => Nat.lt_of_lt_of_le (hl k hk) hB, ih hr⟩
theorem ShO.snoc {w : World} {base B : Nat} {ss : List Sht} {xs : List Value} {s : Sht} {v : Value} (h : ShO w base B ss xs) (ho : w.ownsRow base 5 1 v s.d.length (u8s s.d)) (hl : ∀ k, v.ownBlock = some k → k < B) :
    ShO w base B (ss ++ [s]) (xs ++ shC s v) := by
  induction ss generalizing xs with
  | nil => cases h; exact ⟨v, [], by simp, ho, hl, rfl⟩
  | cons s' ss ih =>
    obtain ⟨v', rest, rfl, ho', hl', hr⟩ := h
    exact ⟨v', rest ++ shC s v, by rw [List.append_assoc], ho', hl', ih hr⟩
theorem ShO.len {w : World} {base B : Nat} {ss : List Sht} {xs : List Value} (h : ShO w base B ss xs) : xs.length = ss.length * 4 := by
  induction ss generalizing xs with
  | nil => cases h; rfl
  | cons s ss ih =>
    obtain ⟨v, rest, rfl, _, _, hr⟩ := h
    rw [List.length_append, shC_len, ih hr, List.length_cons]; omega
theorem ShR.len {w : World} {B : Nat} {ss : List Sht} {xs : List Value} (h : ShR w B ss xs) : xs.length = ss.length * 4 := by
  induction ss generalizing xs with
  | nil => cases h; rfl
  | cons s ss ih =>
    obtain ⟨A, c, rest, rfl, _, _, _, hr⟩ := h
    rw [List.length_append, shC_len, ih hr, List.length_cons]; omega
theorem ShR.keep {w w' : World} {B B' : Nat} {ss : List Sht} {xs : List Value} (h : ShR w B ss xs) (hb : Below B w w') (hB : B ≤ B') : ShR w' B' ss xs := by
  induction ss generalizing xs with
  | nil => exact h
  | cons s ss ih =>
    obtain ⟨A, c, rest, rfl, hR, h1, h2, hr⟩ := h
    exact ⟨A, c, rest, rfl, (hR.below hb).more hB, h1, h2, ih hr⟩
theorem ShR.get {w : World} {B : Nat} {ss : List Sht} {xs : List Value} (h : ShR w B ss xs) (i : Nat) (hi : i < ss.length) :
    ∃ A c, xs[i * 4]? = some (.int .i64 ss[i].k) ∧ xs[i * 4 + 1]? = some (.int .u64 (ss[i].a : Int)) ∧ xs[i * 4 + 2]? = some (.int .u64 (ss[i].b : Int)) ∧ xs[i * 4 + 3]? = some (.slice A ss[i].d.length c) ∧
      Rd w B 1 A ss[i].d.length (u8s ss[i].d) ∧ ss[i].d.length ≤ c ∧ c ≤ maxLen := by
  induction ss generalizing xs i with
  | nil => simp at hi
  | cons s ss ih =>
    obtain ⟨A, c, rest, rfl, hR, h1, h2, hr⟩ := h
    cases i with
    | zero => exact ⟨A, c, rfl, rfl, rfl, rfl, hR, h1, h2⟩
    | succ i =>
      obtain ⟨A', c', e0, e1, e2, e3, r⟩ := ih hr i (by simpa using hi)
      have sh : ∀ j, (shC s (.slice A s.d.length c) ++ rest)[(i + 1) * 4 + j]? = rest[i * 4 + j]? := fun j => by
        rw [List.getElem?_append_right (by rw [shC_len]; omega), shC_len, show (i + 1) * 4 + j - 4 = i * 4 + j from by omega]
      exact ⟨A', c', (sh 0).trans e0, (sh 1).trans e1, (sh 2).trans e2, (sh 3).trans e3, r⟩

section
variable {P : Program}
/-- APPEND OF ONE ELEMENT of some cells (they stand in the new block w0.heap.size). -/
theorem wpList_appN {ops : Array Oper} {rest : List Oper} {o : Oper} {a : Act} {Q : Exit → Act → World → Prop} (w0 : World) (us : List Value) (size : Nat) (hm : us.length = size) (hsz : 0 < size) (hu : ∀ u ∈ us, u.oneCell' = true) (hgd : o.guard = none) (s x : Operand) (t : TypeId)
    (ho : o.op = .call { callee := .builtin .append, args := #[s, x], argTypes := #[t, t] })
    (base : Nat) (e : TypeId) (z : Value) (bytes : Nat) (hinf : (P.info? e).map (fun i => (i.zero, i.size, i.bytes)) = some (some z, size, bytes)) (hzs : z.cells.size = size) (ht : P.underlying t = some (.slice e))
    (v : Value) (n : Nat) (xs : List Value) (hown : w0.ownsRow base e size v n xs) (hs : a.eval s = v) (hx : a.eval x = .slice (some ⟨w0.heap.size, 0, none⟩) 1 1)
    (hbytes : (n + 1) * bytes ≤ 140737488355328) (h63 : n + 1 ≤ 140737488355328) (hbase : base ≤ w0.heap.size)
    (h : ∀ v' w', w'.ownsRow base e size v' (n + 1) (xs ++ us) → Appd w0 w' v v' → wpList P ops Q rest (a.put o.dst v') w') :
    wpList P ops Q (o :: rest) a (w0.alloc (.cells us.toArray e)) := by
  obtain ⟨i, hi, hz, hs1, hby⟩ := info_parts hinf
  have hsz' : (w0.alloc (.cells us.toArray e)).heap.size = w0.heap.size + 1 := by simp
  refine wpList_append_own_at _ hgd s x t ho base e i z size bytes ht hi hz hs1 hby hzs hsz v n xs hs (hown.alloc _) ⟨w0.heap.size, 0, none⟩ 1 1 us hx (by omega)
    (fun j u hj => ?_) hu (by simp only [maxLen]; omega) hbytes (by omega) ?_
  · have hadd : (⟨w0.heap.size, 0, none⟩ : Addr).add j = ⟨w0.heap.size, j, none⟩ := by unfold Addr.add; split <;> simp_all
    rw [hadd, World.cell?_alloc_mark w0 us.toArray e (0, 0) j]
    simpa using hj
  · intro v' w' h1 h2 _ h4
    exact h v' w' h1 (Appd.of_alloc ⟨h2, h4.imp id fun e => ⟨_, e, Nat.le_refl _⟩⟩)
end
end Go.Proofs.YtfhmaincnlaapaaGreat
namespace Go.Proofs.YtfhmaincnlaapaaGreat
open Go.ChangeShapes Go.WideShapes Go.ChangeAt Go.RowKit
set_option linter.unusedVariables false

end Go.Proofs.YtfhmaincnlaapaaGreat
namespace Go.Proofs.YtfhmaincnlaapaaGreat
open Go.ChangeShapes Go.WideShapes Go.ChangeAt Go.RowKit
set_option linter.unusedVariables false

theorem getI_fits (t : List UInt8) (h : (getI t).2.2 = 0) : (getI t).2.1 ≤ t.length := by
  cases t with
  | nil => simp [getI]
  | cons c t =>
    unfold getI at h ⊢
    simp only at h ⊢
    split at h
    · simp at h
    · rename_i h1
      rw [if_neg h1]
      split at h
      · simp at h
      · rename_i h2
        rw [if_neg h2]
        split at h
        · rename_i h3
          rw [if_pos h3]
          simp only [List.length_cons]
          have hp : (prt c t).length ≤ t.length := by unfold prt; split <;> simp <;> omega
          have := numB_fits (prt c t) _ h3
          omega
        · rename_i h3; exact absurd h h3
theorem getF_fits (t : List UInt8) (h : (getF t).2.2 = 0) : (getF t).2.1 ≤ t.length := by
  unfold getF at h ⊢
  split at h
  · split at h <;> simp at h
  · rename_i h8
    rw [if_neg h8]
    split <;> simp <;> omega

theorem allF_any (x : Nat) (w : World) : Calls Tryz.prog 150 #[.float .f64 x] w fun y w' => y = .returned (.int .i64 ((0 : Nat) : Int)) ∧ w = w' := by
  go_enter Tryz.func150, Tryz.ntmps150
  go_wp2
  go_ret
  exact ⟨rfl, rfl⟩
theorem inI_any (w : World) (g : Nat) (t : List UInt8) (p e : Nat) (h : InS w g t p e) :
    Calls Tryz.prog 87 #[.pointer (some ⟨g, 0, none⟩)] w
      fun y w' => y = .returned (.int .i64 (stepV (0 : Int) (getI (t.drop p)).1 (stepE e (getI (t.drop p)).2.2 0))) ∧ InS w' g t (stepP p (getI (t.drop p)).2.1 (stepE e (getI (t.drop p)).2.2 0)) (stepE e (getI (t.drop p)).2.2 0) ∧ Only g w w' := by
  have hr := readI_any w g t p e (getI (t.drop p)).1 (getI (t.drop p)).2.1 (getI (t.drop p)).2.2 0 h
    (fun _ W A c hgW hR h1 h2 => getI_any A (t.length - p) c (t.drop p) W (hR.more hgW) h1 h2)
    (fun W => all64_any _ W) (fun _ h0 => by have := getI_fits (t.drop p) h0; rwa [List.length_drop] at this)
  have HR := Lib.hid hr; clear hr
  go_enter Tryz.func87, Tryz.ntmps87
  go_wp2_with (go_at_call 143; (with_reducible refine HR.out.mono ?_); rintro y w1 ⟨rfl, hi1, ho1⟩)
  go_ret
  exact ⟨rfl, hi1, ho1⟩
theorem inF_any (w : World) (g : Nat) (t : List UInt8) (p e : Nat) (h : InS w g t p e) :
    Calls Tryz.prog 90 #[.pointer (some ⟨g, 0, none⟩)] w
      fun y w' => y = .returned (.float .f64 (stepV (0 : Nat) (getF (t.drop p)).1 (stepE e (getF (t.drop p)).2.2 0))) ∧ InS w' g t (stepP p (getF (t.drop p)).2.1 (stepE e (getF (t.drop p)).2.2 0)) (stepE e (getF (t.drop p)).2.2 0) ∧ Only g w w' := by
  have hr := readF_any w g t p e (getF (t.drop p)).1 (getF (t.drop p)).2.1 (getF (t.drop p)).2.2 0 h
    (fun _ W A c hgW hR h1 h2 => getF_any A (t.length - p) c g (t.drop p) W hR h1 h2)
    (fun W => allF_any _ W) (fun _ h0 => by have := getF_fits (t.drop p) h0; rwa [List.length_drop] at this)
  have HR := Lib.hid hr; clear hr
  go_enter Tryz.func90, Tryz.ntmps90
  go_wp2_with (go_at_call 148; (with_reducible refine HR.out.mono ?_); rintro y w1 ⟨rfl, hi1, ho1⟩)
  go_ret
  exact ⟨rfl, hi1, ho1⟩
end Go.Proofs.YtfhmaincnlaapaaGreat
namespace Go.Proofs.YtfhmaincnlaapaaGreat
open Go.ChangeShapes Go.WideShapes Go.ChangeAt Go.RowKit
set_option linter.unusedVariables false

theorem inB_bad (w : World) (g : Nat) (t : List UInt8) (p e : Nat) (ms : Int) (h : InS w g t p e) (he : e ≠ 0) :
    Calls Tryz.prog 89 #[.pointer (some ⟨g, 0, none⟩), .int .i64 ms] w fun y w' => y = .returned (.slice none 0 0) ∧ w = w' := by
  have hf := fine_any w g t p e h
  rw [decide_eq_false he] at hf
  have HF := Lib.hid hf; have HE := Lib.hid he; clear hf he
  go_enter Tryz.func89, Tryz.ntmps89
  go_wp2_with (go_at_call 108; (with_reducible refine HF.out.mono ?_); rintro y w' ⟨rfl, rfl⟩)
  go_ret
  exact ⟨rfl, rfl⟩
theorem rd_cut {w : World} {B n k N : Nat} {a : Addr} {t : List UInt8} (h : Rd w B 1 (some a) n (u8s t)) (hk : k ≤ n) (hN : k + N ≤ n) : Rd w B 1 (some (a.add k)) N (u8s ((t.drop k).take N)) := by
  have h1 := h.cut (k := k) (c := n + 1) (by omega) (by omega)
  rw [if_neg (by omega), Nat.mul_one, u8s_drop] at h1
  have h2 := h1.take (k := N) (by omega)
  simpa only [Option.map_some, Nat.mul_one] using h2
set_option maxRecDepth 20000 in
set_option maxHeartbeats 2000000 in
theorem inB_ok (w : World) (g : Nat) (t : List UInt8) (p : Nat) (ms : Int) (h : InS w g t p 0) (ht : t.length ≤ 1000000) (hms : ms ≤ 9223372036854775807) :
    Calls Tryz.prog 89 #[.pointer (some ⟨g, 0, none⟩), .int .i64 ms] w fun y w' => ∃ v, y = .returned v ∧ w'.ownsRow w.heap.size 5 1 v (rdB ms (t.drop p)).t.length (u8s (rdB ms (t.drop p)).t) ∧
      InS w' g t (p + (rdB ms (t.drop p)).n) (rdB ms (t.drop p)).e ∧ Only g w w' := by
  have hf := fine_any w g t p 0 h
  rw [decide_eq_true rfl] at hf
  have hgl := h.lt
  have hp : p ≤ t.length := by obtain ⟨A, c, _, _, _, _, h⟩ := h; exact h
  have hg := fun (W : World) (A : Option Addr) (c : Nat) (hR : Rd W g 1 A (t.length - p) (u8s (t.drop p))) (h1 : t.length - p ≤ c) (h2 : c ≤ maxLen) => getU_any A (t.length - p) c g (t.drop p) W hR h1 h2
  have hlt := getU_lt (t.drop p)
  have hfit := getU_fits (t.drop p)
  rw [List.length_drop] at hfit
  have hne : t.drop p = [] → (getU (t.drop p)).2.2 = 5 := fun e => by rw [e]; rfl
  have hmx := mx_eq ms
  have hM : mx ms ≤ 9223372036854775807 := by unfold mx; omega
  unfold rdB
  rw [List.length_drop]
  generalize getU (t.drop p) = r at *
  obtain ⟨x, n, er⟩ := r
  simp only at hg hlt hfit hne ⊢
  generalize mx ms = M at *
  have wM : IntKind.u64.wrap (M : Int) = (M : Int) := by rw [IntKind.wrap_u64]; omega
  obtain ⟨m, hm⟩ : ∃ m, t.length - p = m := ⟨_, rfl⟩
  rw [hm] at hfit hg ⊢
  have hm6 : m ≤ 1000000 := by omega
  have HF := Lib.hid hf; have H := Lib.hid h; have HG := Lib.hid hg; have HM := Lib.hid hm; clear hf h hg hm
  by_cases h1 : er = 0
  · subst h1
    rw [if_neg (by omega)]
    have hn := hfit rfl
    have hm0 : 0 < m := by
      rcases Nat.eq_zero_or_pos m with h0 | h0
      · have : t.drop p = [] := List.eq_nil_of_length_eq_zero (by rw [List.length_drop, HM.out, h0])
        exact absurd (hne this) (by decide)
      · exact h0
    clear hne hfit
    obtain ⟨k, hk⟩ : ∃ k, n + k = m := ⟨m - n, by omega⟩
    have hkz : (m : Int) - (n : Int) = (k : Int) := by omega
    have wk : IntKind.u64.wrap (k : Int) = (k : Int) := by rw [IntKind.wrap_u64]; omega
    have hl : m - n = k := by omega
    rw [hl]
    have hkm : k ≤ 1000000 := by omega
    have HK := Lib.hid hk; have HL := Lib.hid hl; clear hk hl
    by_cases h2 : M < x
    · rw [if_pos h2]
      go_enter Tryz.func89, Tryz.ntmps89
      go_wp2_with (go_at_call 108; (with_reducible refine HF.out.mono ?_); rintro y w' ⟨rfl, rfl⟩)
      refine (rest_any _ _ _ _ _ H.out).mono ?_
      rintro y w1 ⟨A1, c1, rfl, hR1, hc1, hm1, k1⟩
      rw [HM.out] at hR1 hc1 ⊢
      have HR1 := Lib.hid hR1; have HC1 := Lib.hid hc1; clear hR1 hc1
      go_wp2_with fail
      refine (HG.out w1 A1 c1 HR1.out HC1.out hm1).mono ?_
      rintro y w2 ⟨rfl, hd2⟩
      have k2 : Drw w1 w2 := hd2
      have hi2 := (H.out.drw k1).drw k2
      have hw2 : Drw w w2 := k1.trans k2
      have HI2 := Lib.hid hi2; have HW2 := Lib.hid hw2; clear hi2 hw2 hd2 k2 k1 HR1 HC1 hm1
      have hfl := fail_any _ g t p 0 4 HI2.out
      rw [show ((4 : Nat) : Int) = 4 from rfl] at hfl
      have HFL := Lib.hid hfl; clear hfl
      go_wp2_with (go_at_call 147; (with_reducible refine HFL.out.mono ?_); rintro y w5 ⟨rfl, rfl⟩)
      go_ret
      exact ⟨_, rfl, World.ownsRow_nil _ _ _ 1, HI2.out.bad 4, ((Only.refl g w).drw HW2.out).set_ (.inl rfl) _⟩
    · rw [if_neg h2]
      by_cases h3 : k < x
      · rw [if_pos h3]
        go_enter Tryz.func89, Tryz.ntmps89
        go_wp2_with (go_at_call 108; (with_reducible refine HF.out.mono ?_); rintro y w' ⟨rfl, rfl⟩)
        refine (rest_any _ _ _ _ _ H.out).mono ?_
        rintro y w1 ⟨A1, c1, rfl, hR1, hc1, hm1, k1⟩
        rw [HM.out] at hR1 hc1 ⊢
        have HR1 := Lib.hid hR1; have HC1 := Lib.hid hc1; clear hR1 hc1
        go_wp2_with fail
        refine (HG.out w1 A1 c1 HR1.out HC1.out hm1).mono ?_
        rintro y w2 ⟨rfl, hd2⟩
        have k2 : Drw w1 w2 := hd2
        have hi2 := (H.out.drw k1).drw k2
        have hw2 : Drw w w2 := k1.trans k2
        have HI2 := Lib.hid hi2; have HW2 := Lib.hid hw2; clear hi2 hw2 hd2 k2 k1 HR1 HC1 hm1
        go_wp2_with fail
        refine (rest_any _ _ _ _ _ HI2.out).mono ?_
        rintro y w3 ⟨A3, c3, rfl, hR3, hc3, hm3, k3⟩
        rw [HM.out] at hR3 hc3 ⊢
        have hi3 := HI2.out.drw k3
        have HW3 := Lib.hid (HW2.out.trans k3); have HI3 := Lib.hid hi3; clear HI2 HW2 hR3 hc3 hm3 k3 hi3
        have hfl := fail_any _ g t p 0 5 HI3.out
        rw [show ((5 : Nat) : Int) = 5 from rfl] at hfl
        have HFL := Lib.hid hfl; clear hfl
        go_wp2_with (go_at_call 147; (with_reducible refine HFL.out.mono ?_); rintro y w5 ⟨rfl, rfl⟩)
        go_ret
        exact ⟨_, rfl, World.ownsRow_nil _ _ _ 1, HI3.out.bad 5, ((Only.refl g w).drw HW3.out).set_ (.inl rfl) _⟩
      · rw [if_neg h3]
        have hxk : x ≤ k := by omega
        have hxz : (x : Int) ≤ 1000000 := by omega
        have key : ∀ (T : List UInt8), ((t.drop p).drop n).take x = T → T.length = x := fun T hT => by
          rw [← hT, List.length_take, List.length_drop, List.length_drop, HM.out]; have := HK.out; omega
        obtain ⟨T, hT⟩ : ∃ T, ((t.drop p).drop n).take x = T := ⟨_, rfl⟩
        have hTl := key T hT
        rw [hT, hTl]
        have HT := Lib.hid hT; have HTL := Lib.hid hTl; clear key hT hTl
        go_enter Tryz.func89, Tryz.ntmps89
        go_wp2_with (go_at_call 108; (with_reducible refine HF.out.mono ?_); rintro y w' ⟨rfl, rfl⟩)
        refine (rest_any _ _ _ _ _ H.out).mono ?_
        rintro y w1 ⟨A1, c1, rfl, hR1, hc1, hm1, k1⟩
        rw [HM.out] at hR1 hc1 ⊢
        have HR1 := Lib.hid hR1; have HC1 := Lib.hid hc1; clear hR1 hc1
        go_wp2_with fail
        refine (HG.out w1 A1 c1 HR1.out HC1.out hm1).mono ?_
        rintro y w2 ⟨rfl, hd2⟩
        have k2 : Drw w1 w2 := hd2
        have hi2 := (H.out.drw k1).drw k2
        have hw2 : Drw w w2 := k1.trans k2
        have HI2 := Lib.hid hi2; have HW2 := Lib.hid hw2; clear hi2 hw2 hd2 k2 k1 HR1 HC1 hm1
        go_wp2_with fail
        refine (rest_any _ _ _ _ _ HI2.out).mono ?_
        rintro y w3 ⟨A3, c3, rfl, hR3, hc3, hm3, k3⟩
        rw [HM.out] at hR3 hc3 ⊢
        have HW3 := Lib.hid (HW2.out.trans k3); have HI3 := Lib.hid (HI2.out.drw k3); clear HI2 HW2 hR3 hc3 hm3 k3
        go_wp2_with fail
        refine (rest_any _ _ _ _ _ HI3.out).mono ?_
        rintro y w4 ⟨A4, c4, rfl, hR4, hc4, hm4, k4⟩
        rw [HM.out] at hR4 hc4 ⊢
        obtain ⟨a, rfl, hab, _⟩ := hR4.2 hm0
        have HW4 := Lib.hid (HW3.out.trans k4); have HI4 := Lib.hid (HI3.out.drw k4); have HR4 := Lib.hid hR4; clear HI3 HW3 hR4 k4
        have hcc := hm4
        unfold maxLen at hcc
        have hnx : (n : Int) + (x : Int) ≤ (c4 : Int) := by have := HK.out; omega
        have hz4 : w.heap.size = w4.heap.size := by obtain ⟨j, hj⟩ := HW4.out; rw [hj]; rfl
        have hnil := World.ownsRow_nil w4 w.heap.size 5 1
        have HZ4 := Lib.hid hz4; have HNIL := Lib.hid hnil; clear hz4 hnil
        by_cases hnc : n = c4
        · have hx0 : x = 0 := by have := HK.out; omega
          subst hx0
          subst hnc
          have hT0 : T = [] := List.eq_nil_of_length_eq_zero HTL.out
          have hrd : Rd w4 g 1 (some a) 0 (u8s T) := by rw [hT0]; exact ⟨rfl, fun h => absurd h (by omega)⟩
          have HRD := Lib.hid hrd; clear hrd
          have hT0' := Lib.hid hT0; clear hT0
          go_wp2_with (at_builtin; (refine wpList_appS _ rfl _ (.tmp 49) 27 rfl w.heap.size 5 (.int .u8 0) 1 1 info_u8 rfl (by decide) Tryz.underlying27 (.slice none 0 0) 0 [] HNIL.out ?_ _ (some a) 0 0 (u8s T) HRD.out ?_ (u8s_one _) ?_ ?_ ?_ ?_); rfl; rfl; omega; omega; (have := HZ4.out; omega); intro v5 w5 ho5 hap5; have hb5 := hap5.below_nil (Nat.le_refl _); rw [Nat.zero_add, List.nil_append] at ho5; have hi5 := HI4.out.below hb5 (by have := HZ4.out; omega); obtain ⟨A6, c6, hb6, _, _, _, _⟩ := hi5; have x2 := hb6.cell 2; have f2 := hb6.frozen 2; simp at x2; have HI5 := Lib.hid (HI4.out.below hb5 (by have := HZ4.out; omega)); have HO5 := Lib.hid ho5; have HB5 := Lib.hid hb5; have HB6 := Lib.hid hb6; clear ho5 hb5 hap5 hb6)
          go_ret
          have hmv := HI5.out.move (p + (n + 0)) (by have := HK.out; have := HM.out; omega)
          rw [show ((p + (n + 0) : Nat) : Int) = (p : Int) + (n : Int) from by omega] at hmv
          have hne5 : v5.ownBlock ≠ some g := fun e => by have := (HO5.out.lt g e).1; omega
          exact ⟨_, rfl, (Only.set1 w5 g 2 _).own HO5.out hne5, hmv, (((Only.refl g w).drw HW4.out).belowT HB5.out).set_ (.inl rfl) _⟩
        · have hnc2 : (n : Int) < (c4 : Int) := by have := HK.out; omega
          have hnc3 : n ≠ c4 := hnc
          have hrd : Rd w4 g 1 (some (a.add n)) (n + x - n) (u8s T) := by
            rw [Nat.add_sub_cancel_left, ← HT.out]
            exact rd_cut HR4.out (by have := HK.out; omega) (by have := HK.out; omega)
          have HRD := Lib.hid hrd; clear hrd hnc3
          go_wp2_with (at_builtin; (refine wpList_appS _ rfl _ (.tmp 49) 27 rfl w.heap.size 5 (.int .u8 0) 1 1 info_u8 rfl (by decide) Tryz.underlying27 (.slice none 0 0) 0 [] HNIL.out ?_ _ (some (a.add n)) (n + x - n) (c4 - n) (u8s T) HRD.out ?_ (u8s_one _) ?_ ?_ ?_ ?_); rfl; rfl; omega; omega; (have := HZ4.out; omega); intro v5 w5 ho5 hap5; have hb5 := hap5.below_nil (Nat.le_refl _); rw [Nat.zero_add, Nat.add_sub_cancel_left, List.nil_append] at ho5; have hi5 := HI4.out.below hb5 (by have := HZ4.out; omega); obtain ⟨A6, c6, hb6, _, _, _, _⟩ := hi5; have x2 := hb6.cell 2; have f2 := hb6.frozen 2; simp at x2; have HI5 := Lib.hid (HI4.out.below hb5 (by have := HZ4.out; omega)); have HO5 := Lib.hid ho5; have HB5 := Lib.hid hb5; have HB6 := Lib.hid hb6; clear ho5 hb5 hap5 hb6)
          go_ret
          have hmv := HI5.out.move (p + (n + x)) (by have := HK.out; have := HM.out; omega)
          rw [show ((p + (n + x) : Nat) : Int) = (p : Int) + ((n : Int) + (x : Int)) from by omega] at hmv
          have hne5 : v5.ownBlock ≠ some g := fun e => by have := (HO5.out.lt g e).1; omega
          exact ⟨_, rfl, (Only.set1 w5 g 2 _).own HO5.out hne5, hmv, (((Only.refl g w).drw HW4.out).belowT HB5.out).set_ (.inl rfl) _⟩
  · rw [if_pos h1]
    have t1 : ((er : Int) == 0) = false := by rw [beq_eq_false_iff_ne]; omega
    have t2 : ((er : Int) != 0) = true := by rw [bne_iff_ne]; omega
    have H1 := Lib.hid h1; clear h1 hne hfit
    go_enter Tryz.func89, Tryz.ntmps89
    go_wp2_with (go_at_call 108; (with_reducible refine HF.out.mono ?_); rintro y w' ⟨rfl, rfl⟩)
    refine (rest_any _ _ _ _ _ H.out).mono ?_
    rintro y w1 ⟨A1, c1, rfl, hR1, hc1, hm1, k1⟩
    rw [HM.out] at hR1 hc1 ⊢
    have HR1 := Lib.hid hR1; have HC1 := Lib.hid hc1; clear hR1 hc1
    go_wp2_with fail
    refine (HG.out w1 A1 c1 HR1.out HC1.out hm1).mono ?_
    rintro y w2 ⟨rfl, hd2⟩
    have k2 : Drw w1 w2 := hd2
    have hi2 := (H.out.drw k1).drw k2
    have hw2 : Drw w w2 := k1.trans k2
    have HI2 := Lib.hid hi2; have HW2 := Lib.hid hw2; clear hi2 hw2 hd2 k2 k1 HR1 HC1 hm1
    have hfl := fail_any _ g t p 0 er HI2.out
    skip
    have HFL := Lib.hid hfl; clear hfl
    go_wp2_with (go_at_call 147; (with_reducible refine HFL.out.mono ?_); rintro y w5 ⟨rfl, rfl⟩)
    go_ret
    exact ⟨_, rfl, World.ownsRow_nil _ _ _ 1, HI2.out.bad er, ((Only.refl g w).drw HW2.out).set_ (.inl rfl) _⟩
end Go.Proofs.YtfhmaincnlaapaaGreat
namespace Go.Proofs.YtfhmaincnlaapaaGreat
open Go.ChangeShapes Go.WideShapes Go.ChangeAt Go.RowKit
set_option linter.unusedVariables false

/-- a thing that is asked for -/
structure AskS where
  d : Int
  u : Nat
  i : Int
  f : Nat
  s : ByteArray
  m : Int
end Go.Proofs.YtfhmaincnlaapaaGreat
namespace Go.Proofs.YtfhmaincnlaapaaGreat
open Go.ChangeShapes Go.WideShapes Go.ChangeAt Go.RowKit
set_option linter.unusedVariables false

section
variable {w : World} {B n : Nat} {A : Option Addr} {l : List AskS}
end
end Go.Proofs.YtfhmaincnlaapaaGreat
