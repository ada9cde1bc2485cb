/-
  flo.From, code.key, code.GetF; bushelref07.F.
-/
import Derived.Test.YtpnolgghbenekaaRankWalks
import Derived.Test.YtpnolgghbenekaaRefCode
import Derived.Test.YtpnolgghbenekaaGetWalks
namespace Go.Proofs.Ytpnolgghbenekaa
open Go.ChangeShapes Go.WideShapes Go.ChangeAt Go.RowKit
set_option linter.unusedVariables false

theorem refF_any (b : Nat) (w : World) (hb : b < 18446744073709551616) :
    Calls Try.prog 86 #[.float .f64 b] w fun e w' => ∃ v', e = .returned v' ∧ w'.ownsRow w.heap.size 5 1 v' 8 (u8s (be 8 (keyB b))) ∧ Below w.heap.size w w' := by
  have hk := refKey_any b w hb
  have hh := fun W : World => high_any (keyB b) 8 W (keyB_lt b) (by omega)
  have hm : max (wd (keyB b)) 8 = 8 := by have := wd_le (keyB b); omega
  rw [hm] at hh
  have hh' : ∀ W : World, Calls Try.prog 91 #[.int .u64 (keyB b : Int), .int .i64 8] W fun e w' => ∃ v, e = .returned v ∧ w'.ownsRow W.heap.size 5 1 v 8 (u8s (be 8 (keyB b))) ∧ Below W.heap.size W w' := hh
  have HK := Lib.hid hk; have HH := Lib.hid hh'; clear hk hh hh' hm
  go_enter Try.func86, Try.ntmps86
  go_wp2_with (first | (go_at_call 78; (with_reducible refine HK.out.mono ?_); rintro e w1 ⟨rfl, k1, rfl⟩) | (go_at_call 91; (with_reducible refine (HH.out _).mono ?_); rintro e w2 ⟨v2, rfl, ho2, hb2⟩))
  go_ret
  exact ⟨_, rfl, ho2, belT (belD (belR w) _) hb2⟩

/-- the number of a key -/
def fromB (k : Nat) : Option Nat :=
  if k = 18446744073709551615 then some 9221120237041090561
  else if 9223372036854775808 ≤ k ∧ k - 9223372036854775808 ≤ 9218868437227405312 then some (k - 9223372036854775808)
  else if k < 9223372036854775808 ∧ 9223372036854775807 - k ≤ 9218868437227405312 then some (9223372036854775808 + (9223372036854775807 - k))
  else none
theorem fromB_lt (k b : Nat) (hk : k < 18446744073709551616) (h : fromB k = some b) : b < 18446744073709551616 := by
  unfold fromB at h
  split at h
  · injection h with h; omega
  · split at h
    · injection h with h; omega
    · split at h
      · injection h with h; omega
      · cases h
theorem keyB_nanlit : keyB 9221120237041090561 = 18446744073709551615 := keyB_nan _ (decide_eq_true (by unfold rg irg; omega))
theorem fromB_cases (k b : Nat) (h : fromB k = some b) : (k = 18446744073709551615 ∧ b = 9221120237041090561) ∨ (9223372036854775808 ≤ k ∧ k - 9223372036854775808 ≤ 9218868437227405312 ∧ b = k - 9223372036854775808) ∨
    (k < 9223372036854775808 ∧ 9223372036854775807 - k ≤ 9218868437227405312 ∧ b = 9223372036854775808 + (9223372036854775807 - k)) := by
  unfold fromB at h
  split at h
  · rename_i e; exact .inl ⟨e, (Option.some.inj h).symm⟩
  · split at h
    · rename_i e; exact .inr (.inl ⟨e.1, e.2, (Option.some.inj h).symm⟩)
    · split at h
      · rename_i e; exact .inr (.inr ⟨e.1, e.2, (Option.some.inj h).symm⟩)
      · cases h
theorem fromB_key (k b : Nat) (hk : k < 18446744073709551616) (h : fromB k = some b) : keyB b = k := by
  rcases fromB_cases k b h with ⟨h1, h2⟩ | ⟨h1, h2, h3⟩ | ⟨h1, h2, h3⟩
  · have e1 : keyB b = keyB 9221120237041090561 := congrArg keyB h2
    exact e1.trans (keyB_nanlit.trans h1.symm)
  · have e1 : rg b = b := by unfold rg; omega
    have e2 : ng b = false := by unfold ng; rw [beq_eq_false_iff_ne]; omega
    have e3 : nanB b = false := by unfold nanB; rw [e1]; exact decide_eq_false (by unfold irg; omega)
    unfold keyB; rw [e3, e2, e1]; simp only [Bool.false_eq_true, if_false]; omega
  · have e1 : rg b = 9223372036854775807 - k := by unfold rg; omega
    have e2 : ng b = true := by unfold ng; rw [beq_iff_eq]; omega
    have e3 : nanB b = false := by unfold nanB; rw [e1]; exact decide_eq_false (by unfold irg; omega)
    unfold keyB; rw [e3, e2, e1]; simp only [Bool.false_eq_true, if_false, if_true]; omega
theorem fromB_of_key (b : Nat) : ∃ c, fromB (keyB b) = some c ∧ c < 18446744073709551616 ∧ keyB c = keyB b := by
  have hl := keyB_lt b
  have h : ∃ c, fromB (keyB b) = some c := by
    cases hn : nanB b
    · have h1 := keyB_num b hn
      have hr : rg b ≤ irg := by unfold nanB at hn; simpa using hn
      unfold irg at hr
      unfold fromB
      rw [if_neg (by omega)]
      cases hg : ng b
      · have hk : keyB b = 9223372036854775808 + rg b := by unfold keyB; rw [hn, hg]; rfl
        rw [if_pos (by omega)]; exact ⟨_, rfl⟩
      · have hk : keyB b = 9223372036854775807 - rg b := by unfold keyB; rw [hn, hg]; rfl
        rw [if_neg (by omega), if_pos (by omega)]; exact ⟨_, rfl⟩
    · rw [keyB_nan b hn]; exact ⟨_, rfl⟩
  obtain ⟨c, hc⟩ := h
  exact ⟨c, hc, fromB_lt _ _ hl hc, fromB_key _ _ hl hc⟩

theorem f64from (n : Nat) (w : World) : (callFunc 134 #[.int .u64 (n : Int)]).run Try.prog w = .ok (.value (.float .f64 n)) w := by kernel_rfl
theorem f64from_nan (w : World) : (callFunc 134 #[.int .u64 9221120237041090561]).run Try.prog w = .ok (.value (.float .f64 9221120237041090561)) w := f64from 9221120237041090561 w
theorem nan_any (w : World) : Calls Try.prog 133 #[] w fun e w' => e = .returned (.float .f64 9221120237041090561) ∧ w = w' := by
  have hf := f64from_nan
  go_enter Try.func133, Try.ntmps133
  go_wp2
  go_ret
  exact ⟨rfl, rfl⟩
theorem or_top (x : Nat) (h : x < 9223372036854775808) : bits .or .u64 9223372036854775808 (x : Int) = ((9223372036854775808 + x : Nat) : Int) := by
  have e : (9223372036854775808 : Int) = ((9223372036854775808 : Nat) : Int) := rfl
  rw [e, u64_or_nat _ _ (by omega) (by omega)]
  congr 1
  have := Nat.two_pow_add_eq_or_of_lt (show x < 2 ^ 63 from h) 1
  simpa using this.symm
/-- what From answers -/
def fromV (k : Nat) : Value := match fromB k with | some b => .tuple #[.float .f64 b, .bool true] | none => .tuple #[.float .f64 0, .bool false]
set_option maxRecDepth 20000 in
theorem from_any (k : Nat) (w : World) (hk : k < 18446744073709551616) :
    Calls Try.prog 129 #[.int .u64 (k : Int)] w fun e w' => e = .returned (fromV k) ∧ w = w' := by
  by_cases h1 : k = 18446744073709551615
  · subst h1
    have hv : fromV 18446744073709551615 = .tuple #[.float .f64 9221120237041090561, .bool true] := rfl
    rw [hv]
    have e : ((18446744073709551615 : Nat) : Int) = 18446744073709551615 := rfl
    rw [e]
    have E := Lib.hid e; have HV := Lib.hid hv; clear e hv hk
    go_enter Try.func129, Try.ntmps129
    go_wp2_with (go_at_call 133; (with_reducible refine (nan_any _).mono ?_); rintro e w' ⟨rfl, rfl⟩)
    go_ret2
    exact ⟨rfl, rfl⟩
  · have t1 : ((k : Int) == 18446744073709551615) = false := by rw [beq_eq_false_iff_ne]; omega
    by_cases h2 : 9223372036854775808 ≤ k
    · have t2 : decide ((9223372036854775808 : Int) ≤ (k : Int)) = true := decide_eq_true (by omega)
      have t2' : decide ((k : Int) < 9223372036854775808) = false := decide_eq_false (by omega)
      obtain ⟨j, hj⟩ : ∃ j : Nat, (k : Int) - 9223372036854775808 = (j : Int) := ⟨k - 9223372036854775808, by omega⟩
      have hf := f64from j
      by_cases h3 : j ≤ 9218868437227405312
      · have t3 : decide ((j : Int) ≤ 9218868437227405312) = true := decide_eq_true (by omega)
        have hv : fromV k = .tuple #[.float .f64 j, .bool true] := by
          have : k - 9223372036854775808 = j := by omega
          unfold fromV fromB; rw [if_neg h1, if_pos ⟨h2, by omega⟩, this]
        have HV := Lib.hid hv; have H1 := Lib.hid h1; have H2 := Lib.hid h2; have H3 := Lib.hid h3; clear hv h1 h2 h3
        go_enter Try.func129, Try.ntmps129
        go_wp2
        go_ret2
        exact ⟨by rw [HV.out]; rfl, rfl⟩
      · have t3 : decide ((j : Int) ≤ 9218868437227405312) = false := decide_eq_false (by omega)
        have hv : fromV k = .tuple #[.float .f64 0, .bool false] := by
          unfold fromV fromB; rw [if_neg h1, if_neg (by omega), if_neg (by omega)]
        have HV := Lib.hid hv; have H1 := Lib.hid h1; have H2 := Lib.hid h2; have H3 := Lib.hid h3; clear hv h1 h2 h3 hf
        go_enter Try.func129, Try.ntmps129
        go_wp2
        go_ret2
        exact ⟨by rw [HV.out]; rfl, rfl⟩
    · have t2 : decide ((9223372036854775808 : Int) ≤ (k : Int)) = false := decide_eq_false (by omega)
      have t2' : decide ((k : Int) < 9223372036854775808) = true := decide_eq_true (by omega)
      obtain ⟨j, hj⟩ : ∃ j : Nat, (9223372036854775807 : Int) - (k : Int) = (j : Int) := ⟨9223372036854775807 - k, by omega⟩
      have hor := or_top j (by omega)
      have hf := f64from (9223372036854775808 + j)
      by_cases h3 : j ≤ 9218868437227405312
      · have t3 : decide ((j : Int) ≤ 9218868437227405312) = true := decide_eq_true (by omega)
        have hv : fromV k = .tuple #[.float .f64 (9223372036854775808 + j), .bool true] := by
          have : 9223372036854775807 - k = j := by omega
          unfold fromV fromB; rw [if_neg h1, if_neg (by omega), if_pos ⟨by omega, by omega⟩, this]
        generalize 9223372036854775808 + j = q at *
        have HV := Lib.hid hv; have H1 := Lib.hid h1; have H2 := Lib.hid h2; have H3 := Lib.hid h3; clear hv h1 h2 h3
        go_enter Try.func129, Try.ntmps129
        go_wp2
        go_ret2
        exact ⟨by rw [HV.out]; rfl, rfl⟩
      · have t3 : decide ((j : Int) ≤ 9218868437227405312) = false := decide_eq_false (by omega)
        have hv : fromV k = .tuple #[.float .f64 0, .bool false] := by
          unfold fromV fromB; rw [if_neg h1, if_neg (by omega), if_neg (by omega)]
        have HV := Lib.hid hv; have H1 := Lib.hid h1; have H2 := Lib.hid h2; have H3 := Lib.hid h3; clear hv h1 h2 h3 hf hor
        go_enter Try.func129, Try.ntmps129
        go_wp2
        go_ret2
        exact ⟨by rw [HV.out]; rfl, rfl⟩
/-- GetF of eight bytes and more -/
def getF8 (t : List UInt8) : Value := match fromB (bv (t.take 8)) with | some b => .tuple #[.float .f64 b, .int .i64 8, .int .i64 0] | none => .tuple #[.float .f64 0, .int .i64 0, .int .i64 6]
set_option maxRecDepth 20000 in
set_option maxHeartbeats 1000000 in
theorem getF8_any (A : Option Addr) (m c B : Nat) (t : List UInt8) (w : World) (h : Rd w B 1 A m (u8s t)) (h8 : 8 ≤ m) (hmc : m ≤ c) (hc : c ≤ maxLen) :
    Calls Try.prog 113 #[.slice A m c] w fun e w' => e = .returned (getF8 t) ∧ Drws w w' := by
  obtain rfl : m = t.length := h.u8.symm
  have hcc := hc
  unfold maxLen at hcc
  have hR := h.take (k := 8) h8
  have hl8 := hR.u8
  have H := Lib.hid h; have HR := Lib.hid hR; have HL8 := Lib.hid hl8; clear h hR hl8
  generalize hp : t.take 8 = p at *
  have HP := Lib.hid hp; clear hp
  go_enter Try.func113, Try.ntmps113
  go_wp2
  go_loop [5, 18] (fun x i => ∃ k : Nat, k ≤ 8 ∧ i = .int .i64 (k : Int) ∧ x = .int .u64 (bv (p.take k) : Nat)) (fun _ i => 8 - (intOf i).toNat)
  case atStart => exact ⟨0, by omega, rfl, rfl⟩
  case round =>
    obtain ⟨k, hk, rfl, rfl⟩ := hrel
    by_cases h1 : k < 8
    · have h2 : k < p.length := by rw [HL8.out]; exact h1
      obtain ⟨a, rfl, hb, hcell⟩ := HR.out.byte h2
      have hbt := bv_take p k h2
      have hlt := bv_lt (p.take k)
      have hlt2 : 256 ^ (p.take k).length ≤ 256 ^ 7 := Nat.pow_le_pow_right (by decide) (by rw [List.length_take]; omega)
      have hbb : bv (p.take k) < 72057594037927936 := by simpa using Nat.lt_of_lt_of_le hlt hlt2
      have hc8 := p[k].toNat_lt
      have hor := or_byte (bv (p.take k)) p[k].toNat hbb hc8
      have HT := Lib.hid hbt; clear hbt hlt hlt2
      go_wp2
      go_round
      case rel => exact ⟨k + 1, by omega, by go_num, by rw [HT.out]; go_num⟩
      case measure => simp [intOf]; omega
    · obtain rfl : k = 8 := by omega
      have hpt : p.take 8 = p := List.take_of_length_le (by rw [HL8.out]; exact Nat.le_refl _)
      rw [hpt]
      have hlt := bv_lt p
      rw [HL8.out] at hlt
      have hbl : bv p < 18446744073709551616 := by simpa using hlt
      have hfr := fun W => from_any (bv p) W hbl
      have hg8 : getF8 t = match fromB (bv p) with | some b => .tuple #[.float .f64 b, .int .i64 8, .int .i64 0] | none => .tuple #[.float .f64 0, .int .i64 0, .int .i64 6] := by unfold getF8; rw [HP.out]
      generalize bv p = q at *
      unfold fromV at hfr
      have HPT := Lib.hid hpt; have HBL := Lib.hid hbl; have HLT := Lib.hid hlt; clear hpt hbl hlt
      rw [show ((8 : Nat) : Int) = 8 from rfl]
      cases hfb : fromB q with
      | none =>
        rw [hfb] at hfr hg8
        have HF := Lib.hid hfr; have HFB := Lib.hid hfb; have HG := Lib.hid hg8; clear hfr hfb hg8
        go_wp2_with (go_at_call 129; (with_reducible refine (HF.out _).mono ?_); rintro e w' ⟨rfl, rfl⟩)
        go_ret3
        exact ⟨by rw [HG.out]; rfl, drws_refl _⟩
      | some b =>
        rw [hfb] at hfr hg8
        have HF := Lib.hid hfr; have HFB := Lib.hid hfb; have HG := Lib.hid hg8; clear hfr hfb hg8
        go_wp2_with (go_at_call 129; (with_reducible refine (HF.out _).mono ?_); rintro e w' ⟨rfl, rfl⟩)
        go_ret3
        exact ⟨by rw [HG.out]; rfl, drws_refl _⟩
end Go.Proofs.Ytpnolgghbenekaa
