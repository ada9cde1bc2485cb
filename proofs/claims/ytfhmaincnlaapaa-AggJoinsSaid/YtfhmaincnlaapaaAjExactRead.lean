/-
  exact.Read: what it answers.
  schema.Full, schema.Keys; nat.size, nat.Trim; flo.Less.
  exact.head.
-/
import Derived.Laws.BitsAllLaws
import Derived.StillTailTactics
import Derived.Deep.DeepCutAuto
import Derived.Laws.OwnMore
import Derived.Test.YtfhmaincnlaapaaAjBufSmall
import Derived.Test.YtfhmaincnlaapaaAjCellPure
namespace Go.Proofs.Ytfhmaincnlaapaa
open Go.ChangeShapes Go.WideShapes Go.ChangeAt Go.RowKit
set_option linter.unusedVariables false

def headN (n x0 x1 x2 : Nat) : Nat :=
  if 0 < n ∧ (63 < x0 ∨ (x0 / 32 % 2 = 1 ∧ x0 / 16 % 2 = 0)) then 6
  else if 1 < n ∧ (69 < x1 ∨ (0 < x1 ∧ x0 / 16 % 2 = 0)) then 6
  else if 2 < n ∧ (70 < x1 + x2 ∨ (0 < x2 ∧ x0 / 16 % 2 = 0) ∨ (x2 = 0 ∧ (0 < x1 ∨ x0 / 32 % 2 = 1))) then 6
  else 0
theorem headE_eq (b : List UInt8) : headE b = headN b.length (hd b 0) (hd b 1) (hd b 2) := rfl
theorem hd_get (b : List UInt8) (i : Nat) (h : i < b.length) : hd b i = (b[i]).toNat := by
  unfold hd; rw [List.getD_eq_getElem?_getD, List.getElem?_eq_getElem h]; rfl
set_option maxRecDepth 20000 in
theorem head_nil (w : World) (A : Option Addr) (c : Nat) : Calls Try.prog 153 #[.slice A 0 c] w fun y w' => y = .returned (.int .i64 0) ∧ Drw w w' := by
  go_enter Try.func153, Try.ntmps153
  go_wp2
  go_quiet (fail)
  go_wp2
  go_ret
  exact ⟨rfl, ⟨_, rfl⟩⟩
set_option maxRecDepth 20000 in
set_option maxHeartbeats 8000000 in
theorem head_some (w : World) (a : Addr) (n c x0 x1 x2 : Nat) (h1 : 1 ≤ n) (hx0 : x0 < 256) (hx1 : x1 < 256) (hx2 : x2 < 256) (k0 : w.cell? a = some (.int .u8 (x0 : Int)))
    (k1 : 2 ≤ n → w.cell? (a.add 1) = some (.int .u8 (x1 : Int)) ∧ w.cell? ⟨a.block, a.off + 1, none⟩ = some (.int .u8 (x1 : Int)))
    (k2 : 3 ≤ n → w.cell? (a.add 2) = some (.int .u8 (x2 : Int)) ∧ w.cell? ⟨a.block, a.off + 2, none⟩ = some (.int .u8 (x2 : Int))) :
    Calls Try.prog 153 #[.slice (some a) n c] w fun y w' => y = .returned (.int .i64 (headN n x0 x1 x2 : Int)) ∧ Drw w w' := by
  have a32 : bits .and .u8 (x0 : Int) 32 = ((x0 / 32 % 2 * 32 : Nat) : Int) := by
    have := u8_and_nat x0 32 hx0 (by decide)
    rw [show x0 &&& 32 = x0 / 32 % 2 * 32 from and32 ⟨x0, hx0⟩] at this
    exact this
  have a16 : bits .and .u8 (x0 : Int) 16 = ((x0 / 16 % 2 * 16 : Nat) : Int) := by
    have := u8_and_nat x0 16 hx0 (by decide)
    rw [show x0 &&& 16 = x0 / 16 % 2 * 16 from and16 ⟨x0, hx0⟩] at this
    exact this
  have p0 : x0 / 32 % 2 = 0 ∨ x0 / 32 % 2 = 1 := by omega
  have q0 : x0 / 16 % 2 = 0 ∨ x0 / 16 % 2 = 1 := by omega
  have g0 : decide ((0 : Int) < (n : Int)) = true := decide_eq_true (by omega)
  by_cases c0 : 63 < x0
  · have t0 : decide ((63 : Int) < (x0 : Int)) = true := decide_eq_true (by omega)
    have e : headN n x0 x1 x2 = 6 := by unfold headN; (repeat' split) <;> omega
    rw [e]
    clear e
    go_enter Try.func153, Try.ntmps153
    go_wp2
    go_ret
    exact ⟨rfl, Drw.refl _⟩
  have t0 : decide ((63 : Int) < (x0 : Int)) = false := decide_eq_false (by omega)
  rcases p0 with hp | hp
  · rcases q0 with hq | hq
    · have b32 : bits .and .u8 (x0 : Int) 32 = 0 := by rw [a32, hp]; rfl
      have b16 : bits .and .u8 (x0 : Int) 16 = 0 := by rw [a16, hq]; rfl
      clear a32 a16
      by_cases n2 : 2 ≤ n
      case neg =>
        obtain rfl : n = 1 := by omega
        have e : headN 1 x0 x1 x2 = 0 := by unfold headN; (repeat' split) <;> omega
        rw [e]
        clear e
        go_enter Try.func153, Try.ntmps153
        go_wp2
        go_quiet (fail)
        go_wp2
        go_ret
        exact ⟨rfl, ⟨_, rfl⟩⟩
      obtain ⟨k1a, k1b⟩ := k1 n2
      have g1 : decide ((1 : Int) < (n : Int)) = true := decide_eq_true (by omega)
      by_cases c1 : 69 < x1
      · have t1 : decide ((69 : Int) < (x1 : Int)) = true := decide_eq_true (by omega)
        have e : headN n x0 x1 x2 = 6 := by unfold headN; (repeat' split) <;> omega
        rw [e]
        clear e
        go_enter Try.func153, Try.ntmps153
        go_wp2
        go_ret
        exact ⟨rfl, Drw.refl _⟩
      have t1 : decide ((69 : Int) < (x1 : Int)) = false := decide_eq_false (by omega)
      have d1 : x1 = 0 ∨ 0 < x1 := by omega
      rcases d1 with rfl | d1
      · simp only [show ((0 : Nat) : Int) = 0 from rfl] at *
        by_cases n3 : 3 ≤ n
        case neg =>
          obtain rfl : n = 2 := by omega
          have e : headN 2 x0 0 x2 = 0 := by unfold headN; (repeat' split) <;> omega
          rw [e]
          clear e
          go_enter Try.func153, Try.ntmps153
          go_wp2
          go_quiet (fail)
          go_wp2
          go_ret
          exact ⟨rfl, ⟨_, rfl⟩⟩
        obtain ⟨k2a, k2b⟩ := k2 n3
        have g2 : decide ((2 : Int) < (n : Int)) = true := decide_eq_true (by omega)
        by_cases c2 : 70 < x2
        · have t2 : decide ((70 : Int) < (x2 : Int)) = true := decide_eq_true (by omega)
          have e : headN n x0 0 x2 = 6 := by unfold headN; (repeat' split) <;> omega
          rw [e]
          clear e
          go_enter Try.func153, Try.ntmps153
          go_wp2
          go_quiet (fail)
          go_wp2
          go_ret
          exact ⟨rfl, ⟨_, rfl⟩⟩
        have t2 : decide ((70 : Int) < (x2 : Int)) = false := decide_eq_false (by omega)
        have d2 : x2 = 0 ∨ 0 < x2 := by omega
        rcases d2 with rfl | d2
        · simp only [show ((0 : Nat) : Int) = 0 from rfl] at *
          have e : headN n x0 0 0 = 0 := by unfold headN; (repeat' split) <;> omega
          rw [e]
          clear e
          go_enter Try.func153, Try.ntmps153
          go_wp2
          go_quiet (fail)
          go_wp2
          go_ret
          exact ⟨rfl, ⟨_, rfl⟩⟩
        · have s2 : decide ((0 : Int) < (x2 : Int)) = true := decide_eq_true (by omega)
          have s3 : ((x2 : Int) == 0) = false := by rw [beq_eq_false_iff_ne]; omega
          have e : headN n x0 0 x2 = 6 := by unfold headN; (repeat' split) <;> omega
          rw [e]
          clear e
          go_enter Try.func153, Try.ntmps153
          go_wp2
          go_quiet (fail)
          go_wp2
          go_ret
          exact ⟨rfl, ⟨_, rfl⟩⟩
      · have s1 : decide ((0 : Int) < (x1 : Int)) = true := decide_eq_true (by omega)
        have e : headN n x0 x1 x2 = 6 := by unfold headN; (repeat' split) <;> omega
        rw [e]
        clear e
        go_enter Try.func153, Try.ntmps153
        go_wp2
        go_ret
        exact ⟨rfl, Drw.refl _⟩
    · have b32 : bits .and .u8 (x0 : Int) 32 = 0 := by rw [a32, hp]; rfl
      have b16 : bits .and .u8 (x0 : Int) 16 = 16 := by rw [a16, hq]; rfl
      clear a32 a16
      by_cases n2 : 2 ≤ n
      case neg =>
        obtain rfl : n = 1 := by omega
        have e : headN 1 x0 x1 x2 = 0 := by unfold headN; (repeat' split) <;> omega
        rw [e]
        clear e
        go_enter Try.func153, Try.ntmps153
        go_wp2
        go_quiet (fail)
        go_wp2
        go_ret
        exact ⟨rfl, ⟨_, rfl⟩⟩
      obtain ⟨k1a, k1b⟩ := k1 n2
      have g1 : decide ((1 : Int) < (n : Int)) = true := decide_eq_true (by omega)
      by_cases c1 : 69 < x1
      · have t1 : decide ((69 : Int) < (x1 : Int)) = true := decide_eq_true (by omega)
        have e : headN n x0 x1 x2 = 6 := by unfold headN; (repeat' split) <;> omega
        rw [e]
        clear e
        go_enter Try.func153, Try.ntmps153
        go_wp2
        go_ret
        exact ⟨rfl, Drw.refl _⟩
      have t1 : decide ((69 : Int) < (x1 : Int)) = false := decide_eq_false (by omega)
      have d1 : x1 = 0 ∨ 0 < x1 := by omega
      rcases d1 with rfl | d1
      · simp only [show ((0 : Nat) : Int) = 0 from rfl] at *
        by_cases n3 : 3 ≤ n
        case neg =>
          obtain rfl : n = 2 := by omega
          have e : headN 2 x0 0 x2 = 0 := by unfold headN; (repeat' split) <;> omega
          rw [e]
          clear e
          go_enter Try.func153, Try.ntmps153
          go_wp2
          go_quiet (fail)
          go_wp2
          go_ret
          exact ⟨rfl, ⟨_, rfl⟩⟩
        obtain ⟨k2a, k2b⟩ := k2 n3
        have g2 : decide ((2 : Int) < (n : Int)) = true := decide_eq_true (by omega)
        by_cases c2 : 70 < x2
        · have t2 : decide ((70 : Int) < (x2 : Int)) = true := decide_eq_true (by omega)
          have e : headN n x0 0 x2 = 6 := by unfold headN; (repeat' split) <;> omega
          rw [e]
          clear e
          go_enter Try.func153, Try.ntmps153
          go_wp2
          go_quiet (fail)
          go_wp2
          go_ret
          exact ⟨rfl, ⟨_, rfl⟩⟩
        have t2 : decide ((70 : Int) < (x2 : Int)) = false := decide_eq_false (by omega)
        have d2 : x2 = 0 ∨ 0 < x2 := by omega
        rcases d2 with rfl | d2
        · simp only [show ((0 : Nat) : Int) = 0 from rfl] at *
          have e : headN n x0 0 0 = 0 := by unfold headN; (repeat' split) <;> omega
          rw [e]
          clear e
          go_enter Try.func153, Try.ntmps153
          go_wp2
          go_quiet (fail)
          go_wp2
          go_ret
          exact ⟨rfl, ⟨_, rfl⟩⟩
        · have s2 : decide ((0 : Int) < (x2 : Int)) = true := decide_eq_true (by omega)
          have s3 : ((x2 : Int) == 0) = false := by rw [beq_eq_false_iff_ne]; omega
          have e : headN n x0 0 x2 = 0 := by unfold headN; (repeat' split) <;> omega
          rw [e]
          clear e
          go_enter Try.func153, Try.ntmps153
          go_wp2
          go_quiet (fail)
          go_wp2
          go_ret
          exact ⟨rfl, ⟨_, rfl⟩⟩
      · have s1 : decide ((0 : Int) < (x1 : Int)) = true := decide_eq_true (by omega)
        by_cases n3 : 3 ≤ n
        case neg =>
          obtain rfl : n = 2 := by omega
          have e : headN 2 x0 x1 x2 = 0 := by unfold headN; (repeat' split) <;> omega
          rw [e]
          clear e
          go_enter Try.func153, Try.ntmps153
          go_wp2
          go_quiet (fail)
          go_wp2
          go_ret
          exact ⟨rfl, ⟨_, rfl⟩⟩
        obtain ⟨k2a, k2b⟩ := k2 n3
        have g2 : decide ((2 : Int) < (n : Int)) = true := decide_eq_true (by omega)
        by_cases c2 : 70 < x1 + x2
        · have t2 : decide ((70 : Int) < (x1 : Int) + (x2 : Int)) = true := decide_eq_true (by omega)
          have e : headN n x0 x1 x2 = 6 := by unfold headN; (repeat' split) <;> omega
          rw [e]
          clear e
          go_enter Try.func153, Try.ntmps153
          go_wp2
          go_quiet (fail)
          go_wp2
          go_ret
          exact ⟨rfl, ⟨_, rfl⟩⟩
        have t2 : decide ((70 : Int) < (x1 : Int) + (x2 : Int)) = false := decide_eq_false (by omega)
        have d2 : x2 = 0 ∨ 0 < x2 := by omega
        rcases d2 with rfl | d2
        · simp only [show ((0 : Nat) : Int) = 0 from rfl] at *
          have t3 : decide ((70 : Int) < (x1 : Int)) = false := decide_eq_false (by omega)
          have e : headN n x0 x1 0 = 6 := by unfold headN; (repeat' split) <;> omega
          rw [e]
          clear e
          go_enter Try.func153, Try.ntmps153
          go_wp2
          go_quiet (fail)
          go_wp2
          go_ret
          exact ⟨rfl, ⟨_, rfl⟩⟩
        · have s2 : decide ((0 : Int) < (x2 : Int)) = true := decide_eq_true (by omega)
          have s3 : ((x2 : Int) == 0) = false := by rw [beq_eq_false_iff_ne]; omega
          have e : headN n x0 x1 x2 = 0 := by unfold headN; (repeat' split) <;> omega
          rw [e]
          clear e
          go_enter Try.func153, Try.ntmps153
          go_wp2
          go_quiet (fail)
          go_wp2
          go_ret
          exact ⟨rfl, ⟨_, rfl⟩⟩
  · rcases q0 with hq | hq
    · have b32 : bits .and .u8 (x0 : Int) 32 = 32 := by rw [a32, hp]; rfl
      have b16 : bits .and .u8 (x0 : Int) 16 = 0 := by rw [a16, hq]; rfl
      clear a32 a16
      have e : headN n x0 x1 x2 = 6 := by unfold headN; (repeat' split) <;> omega
      rw [e]
      clear e
      go_enter Try.func153, Try.ntmps153
      go_wp2
      go_ret
      exact ⟨rfl, Drw.refl _⟩
    · have b32 : bits .and .u8 (x0 : Int) 32 = 32 := by rw [a32, hp]; rfl
      have b16 : bits .and .u8 (x0 : Int) 16 = 16 := by rw [a16, hq]; rfl
      clear a32 a16
      by_cases n2 : 2 ≤ n
      case neg =>
        obtain rfl : n = 1 := by omega
        have e : headN 1 x0 x1 x2 = 0 := by unfold headN; (repeat' split) <;> omega
        rw [e]
        clear e
        go_enter Try.func153, Try.ntmps153
        go_wp2
        go_quiet (fail)
        go_wp2
        go_ret
        exact ⟨rfl, ⟨_, rfl⟩⟩
      obtain ⟨k1a, k1b⟩ := k1 n2
      have g1 : decide ((1 : Int) < (n : Int)) = true := decide_eq_true (by omega)
      by_cases c1 : 69 < x1
      · have t1 : decide ((69 : Int) < (x1 : Int)) = true := decide_eq_true (by omega)
        have e : headN n x0 x1 x2 = 6 := by unfold headN; (repeat' split) <;> omega
        rw [e]
        clear e
        go_enter Try.func153, Try.ntmps153
        go_wp2
        go_ret
        exact ⟨rfl, Drw.refl _⟩
      have t1 : decide ((69 : Int) < (x1 : Int)) = false := decide_eq_false (by omega)
      have d1 : x1 = 0 ∨ 0 < x1 := by omega
      rcases d1 with rfl | d1
      · simp only [show ((0 : Nat) : Int) = 0 from rfl] at *
        by_cases n3 : 3 ≤ n
        case neg =>
          obtain rfl : n = 2 := by omega
          have e : headN 2 x0 0 x2 = 0 := by unfold headN; (repeat' split) <;> omega
          rw [e]
          clear e
          go_enter Try.func153, Try.ntmps153
          go_wp2
          go_quiet (fail)
          go_wp2
          go_ret
          exact ⟨rfl, ⟨_, rfl⟩⟩
        obtain ⟨k2a, k2b⟩ := k2 n3
        have g2 : decide ((2 : Int) < (n : Int)) = true := decide_eq_true (by omega)
        by_cases c2 : 70 < x2
        · have t2 : decide ((70 : Int) < (x2 : Int)) = true := decide_eq_true (by omega)
          have e : headN n x0 0 x2 = 6 := by unfold headN; (repeat' split) <;> omega
          rw [e]
          clear e
          go_enter Try.func153, Try.ntmps153
          go_wp2
          go_quiet (fail)
          go_wp2
          go_ret
          exact ⟨rfl, ⟨_, rfl⟩⟩
        have t2 : decide ((70 : Int) < (x2 : Int)) = false := decide_eq_false (by omega)
        have d2 : x2 = 0 ∨ 0 < x2 := by omega
        rcases d2 with rfl | d2
        · simp only [show ((0 : Nat) : Int) = 0 from rfl] at *
          have e : headN n x0 0 0 = 6 := by unfold headN; (repeat' split) <;> omega
          rw [e]
          clear e
          go_enter Try.func153, Try.ntmps153
          go_wp2
          go_quiet (fail)
          go_wp2
          go_ret
          exact ⟨rfl, ⟨_, rfl⟩⟩
        · have s2 : decide ((0 : Int) < (x2 : Int)) = true := decide_eq_true (by omega)
          have s3 : ((x2 : Int) == 0) = false := by rw [beq_eq_false_iff_ne]; omega
          have e : headN n x0 0 x2 = 0 := by unfold headN; (repeat' split) <;> omega
          rw [e]
          clear e
          go_enter Try.func153, Try.ntmps153
          go_wp2
          go_quiet (fail)
          go_wp2
          go_ret
          exact ⟨rfl, ⟨_, rfl⟩⟩
      · have s1 : decide ((0 : Int) < (x1 : Int)) = true := decide_eq_true (by omega)
        by_cases n3 : 3 ≤ n
        case neg =>
          obtain rfl : n = 2 := by omega
          have e : headN 2 x0 x1 x2 = 0 := by unfold headN; (repeat' split) <;> omega
          rw [e]
          clear e
          go_enter Try.func153, Try.ntmps153
          go_wp2
          go_quiet (fail)
          go_wp2
          go_ret
          exact ⟨rfl, ⟨_, rfl⟩⟩
        obtain ⟨k2a, k2b⟩ := k2 n3
        have g2 : decide ((2 : Int) < (n : Int)) = true := decide_eq_true (by omega)
        by_cases c2 : 70 < x1 + x2
        · have t2 : decide ((70 : Int) < (x1 : Int) + (x2 : Int)) = true := decide_eq_true (by omega)
          have e : headN n x0 x1 x2 = 6 := by unfold headN; (repeat' split) <;> omega
          rw [e]
          clear e
          go_enter Try.func153, Try.ntmps153
          go_wp2
          go_quiet (fail)
          go_wp2
          go_ret
          exact ⟨rfl, ⟨_, rfl⟩⟩
        have t2 : decide ((70 : Int) < (x1 : Int) + (x2 : Int)) = false := decide_eq_false (by omega)
        have d2 : x2 = 0 ∨ 0 < x2 := by omega
        rcases d2 with rfl | d2
        · simp only [show ((0 : Nat) : Int) = 0 from rfl] at *
          have t3 : decide ((70 : Int) < (x1 : Int)) = false := decide_eq_false (by omega)
          have e : headN n x0 x1 0 = 6 := by unfold headN; (repeat' split) <;> omega
          rw [e]
          clear e
          go_enter Try.func153, Try.ntmps153
          go_wp2
          go_quiet (fail)
          go_wp2
          go_ret
          exact ⟨rfl, ⟨_, rfl⟩⟩
        · have s2 : decide ((0 : Int) < (x2 : Int)) = true := decide_eq_true (by omega)
          have s3 : ((x2 : Int) == 0) = false := by rw [beq_eq_false_iff_ne]; omega
          have e : headN n x0 x1 x2 = 0 := by unfold headN; (repeat' split) <;> omega
          rw [e]
          clear e
          go_enter Try.func153, Try.ntmps153
          go_wp2
          go_quiet (fail)
          go_wp2
          go_ret
          exact ⟨rfl, ⟨_, rfl⟩⟩
theorem head_any (w : World) (B : Nat) (A : Option Addr) (c : Nat) (b : List UInt8) (hR : Rd w B 1 A b.length (u8s b)) :
    Calls Try.prog 153 #[.slice A b.length c] w fun y w' => y = .returned (.int .i64 (headE b : Int)) ∧ Drw w w' := by
  rw [headE_eq]
  cases b with
  | nil => exact head_nil w A c
  | cons x t =>
    obtain ⟨a, rfl, hab, k0⟩ := hR.byte (k := 0) (by simp)
    rw [add_zero'] at k0
    have hl : ∀ i, hd (x :: t) i < 256 := fun i => UInt8.toNat_lt _
    have hc : ∀ i (h : i < (x :: t).length), w.cell? (a.add i) = some (.int .u8 ((hd (x :: t) i : Nat) : Int)) := fun i h => by
      obtain ⟨a', e, _, hx⟩ := hR.byte h
      injection e with e; subst e
      rw [hd_get _ _ h]; exact hx
    exact head_some w a _ c _ _ _ (by simp) (hl 0) (hl 1) (hl 2) (by have := hc 0 (by simp); rwa [add_zero'] at this)
      (fun h => ⟨hc 1 (by omega), by have := hc 1 (by omega); rw [show (1 : Nat) = 0 + 1 from rfl, add_succ] at this; exact this⟩)
      (fun h => ⟨hc 2 (by omega), by have := hc 2 (by omega); rw [show (2 : Nat) = 1 + 1 from rfl, add_succ] at this; exact this⟩)
end Go.Proofs.Ytfhmaincnlaapaa
namespace Go.Proofs.Ytfhmaincnlaapaa
open Go.ChangeShapes Go.WideShapes Go.ChangeAt Go.RowKit
set_option linter.unusedVariables false

theorem Rd.u32n {w : World} {B : Nat} {A : Option Addr} {l : List Nat} (h : Rd w B 1 A l.length (u32n l)) {k : Nat} (hk : k < l.length) : ∃ a, A = some a ∧ a.block < B ∧ w.cell? (a.add k) = some (.int .u32 ((l.getD k 0 : Nat) : Int)) := by
  obtain ⟨a, u, e, hb, hx, hc⟩ := h.at1 hk
  refine ⟨a, e, hb, ?_⟩
  rw [hc]
  simp [hk] at hx
  simp [List.getD, hk, ← hx]
theorem tsz_take (l : List Nat) (m : Nat) (h : m < l.length) : tsz (l.take (m + 1)) = if l.getD m 0 = 0 then tsz (l.take m) else m + 1 := by
  rw [List.take_succ_eq_append_getElem h, tsz_last, List.length_take, Nat.min_eq_left (by omega)]
  simp [List.getD, h]
theorem info_u32 : (Try.prog.info? 33).map (fun i => (i.zero, i.size, i.bytes)) = some (some (.int .u32 0), 1, 4) := by kernel_rfl
theorem less_flo (a b : Nat) (w : World) (ha : a < 18446744073709551616) (hb : b < 18446744073709551616) : Calls Try.prog 97 #[.float .f64 a, .float .f64 b] w fun y w' => y = .returned (.bool (decide (keyB a < keyB b))) ∧ w = w' := by
  have HA := Lib.hid (fun W => key_any a W ha); have HB := Lib.hid (fun W => key_any b W hb)
  go_enter Try.func97, Try.ntmps97
  go_wp2_with fail
  (with_reducible refine (HA.out _).mono ?_); rintro y w1 ⟨rfl, rfl⟩
  go_wp2_with fail
  (with_reducible refine (HB.out _).mono ?_); rintro y w1 ⟨rfl, rfl⟩
  go_wp2
  go_ret
  first
  | exact ⟨rfl, rfl⟩
  | (refine ⟨?_, rfl⟩; congr 2; rw [Bool.eq_iff_iff]; simp)
end Go.Proofs.Ytfhmaincnlaapaa
namespace Go.Proofs.Ytfhmaincnlaapaa
open Go.ChangeShapes Go.WideShapes Go.ChangeAt Go.RowKit
set_option linter.unusedVariables false

theorem made_u32 (n : Nat) : madeCells #[.int .u32 0] n = (u32n (List.replicate n 0)).toArray := by
  apply Array.ext'
  rw [toList_madeCells_one]
  simp [u32n]
theorem u32n_set (L : List Nat) (j x : Nat) : (u32n L).toArray.setIfInBounds j (.int .u32 (x : Int)) = (u32n (L.set j x)).toArray := by
  simp [u32n, List.map_set]
theorem words_end (b : List UInt8) (n : Nat) : wordsE b n 0 = if 3 + 4 * n < b.length then 7 else 0 := rfl
theorem words_step (b : List UInt8) (n i : Nat) (h : i < n) : wordsE b n (n - i) = if b.length < 3 + 4 * i + 4 then 5 else if (i = 0 ∨ i + 1 = n) ∧ wordB b i = 0 then 6 else wordsE b n (n - (i + 1)) := by
  obtain ⟨k, rfl⟩ : ∃ k, n = i + 1 + k := ⟨n - (i + 1), by omega⟩
  have e1 : i + 1 + k - i = k + 1 := by omega
  have e2 : i + 1 + k - (i + 1) = k := by omega
  rw [e1, e2]
  show (if b.length < 3 + 4 * (i + 1 + k - (k + 1)) + 4 then 5 else if (i + 1 + k - (k + 1) = 0 ∨ k = 0) ∧ wordB b (i + 1 + k - (k + 1)) = 0 then 6 else wordsE b (i + 1 + k) k) = _
  have e3 : i + 1 + k - (k + 1) = i := by omega
  have e4 : (k = 0) ↔ (i + 1 = i + 1 + k) := by omega
  rw [e3]
  simp only [e4]
/-- the first j bytes of word i -/
def partB (b : List UInt8) (i j : Nat) : Nat := bv ((b.drop (3 + 4 * i)).take j)
theorem partB_zero (b : List UInt8) (i : Nat) : partB b i 0 = 0 := rfl
theorem partB_four (b : List UInt8) (i : Nat) : partB b i 4 = wordB b i := rfl
theorem partB_succ (b : List UInt8) (i j : Nat) (h : 3 + 4 * i + j < b.length) : partB b i (j + 1) = partB b i j * 256 + hd b (3 + 4 * i + j) := by
  unfold partB
  rw [bv_take _ _ (by rw [List.length_drop]; omega)]
  congr 1
  rw [List.getElem_drop, hd_get b _ h]
theorem partB_lt (b : List UInt8) (i j : Nat) (h : j ≤ 4) : partB b i j < 256 ^ j := by
  unfold partB
  have h1 := bv_lt ((b.drop (3 + 4 * i)).take j)
  exact Nat.lt_of_lt_of_le h1 (Nat.pow_le_pow_right (by decide) (by rw [List.length_take]; omega))
theorem wordB_lt (b : List UInt8) (i : Nat) : wordB b i < 4294967296 := partB_lt b i 4 (Nat.le_refl _)
theorem or_next (x y : Nat) (hx : x < 16777216) (hy : y < 256) : bits .or .u32 (IntKind.u32.wrap ((x : Int) * 256)) (y : Int) = ((x * 256 + y : Nat) : Int) := by
  have e : IntKind.u32.wrap ((x : Int) * 256) = ((x * 256 : Nat) : Int) := by rw [IntKind.wrap_u32]; omega
  rw [e, u32_or_nat _ _ (by omega) (by omega), or_byte32 x y hy]
/-- the words that were read, and j bytes of the next -/
def midP (b : List UInt8) (m i j : Nat) : List Nat := (magP (wordB b) m i).set (m - 1 - i) (partB b i j)
theorem midP_zero (b : List UInt8) (m i : Nat) (h : i < m) : midP b m i 0 = magP (wordB b) m i := by
  unfold midP
  rw [partB_zero]
  have := magP_cur (wordB b) m i h
  apply List.ext_getElem?
  intro k
  rw [List.getElem?_set]
  split
  · rename_i e; subst e
    have := (List.getElem?_eq_some_iff.1 this).1
    rw [if_pos this, magP_cur _ _ _ h]
  · rfl
theorem midP_four (b : List UInt8) (m i : Nat) (h : i < m) : midP b m i 4 = magP (wordB b) m (i + 1) := by
  unfold midP; rw [partB_four]; exact magP_succ _ _ _ h
theorem midP_set (b : List UInt8) (m i j x : Nat) : (midP b m i j).set (m - 1 - i) x = (magP (wordB b) m i).set (m - 1 - i) x := by unfold midP; rw [List.set_set]
theorem midP_next (b : List UInt8) (m i j : Nat) : (midP b m i j).set (m - 1 - i) (partB b i (j + 1)) = midP b m i (j + 1) := by rw [midP_set]; rfl
theorem midP_at (b : List UInt8) (m i j : Nat) (h : i < m) : (midP b m i j)[m - 1 - i]? = some (partB b i j) := magP_get _ _ _ _ h
/-- the row of words in memory -/
def MagW (w wr : World) (g : Nat) (L : List Nat) : Prop := Blk wr g 33 (u32n L).toArray ∧ Below w.heap.size w wr
theorem MagW.put {w wr : World} {g : Nat} {L : List Nat} (h : MagW w wr g L) (hg : w.heap.size ≤ g) (j x : Nat) : MagW w (wr.setCell ⟨g, j, none⟩ (.int .u32 (x : Int))) g (L.set j x) := by
  obtain ⟨h3, h4⟩ := h
  refine ⟨?_, h4.setCell hg _⟩
  have := h3.set_ j (.int .u32 (x : Int))
  rw [u32n_set] at this
  exact this
theorem MagW.at {w wr : World} {g : Nat} {L : List Nat} (h : MagW w wr g L) {j x : Nat} (hj : L[j]? = some x) : wr.cell? ⟨g, j, none⟩ = some (.int .u32 (x : Int)) := by
  rw [h.1.cell]
  simp [u32n, hj]

theorem MagW.drew {w wr : World} {g : Nat} {L : List Nat} (h : MagW w wr g L) : MagW w wr.drew g L := ⟨h.1.drew, h.2.drew⟩
/-- the sum that stands at p -/
def SumAt (w : World) (base : Nat) (p : Value) (b : List UInt8) : Prop :=
  ∃ g gm : Nat, p = .pointer (some ⟨g, 0, none⟩) ∧ base ≤ g ∧ base ≤ gm ∧ g ≠ gm ∧
    Blk w g 196 #[.bool true, .int .u8 ((hd b 0 - hd b 0 / 32 % 2 * 32 : Nat) : Int), .bool (decide (hd b 0 / 32 % 2 = 1)), .slice (some ⟨gm, 0, none⟩) (hd b 1 + hd b 2) (hd b 1 + hd b 2)] ∧
    Blk w gm 33 (u32n (magP (wordB b) (hd b 1 + hd b 2) (hd b 2))).toArray
set_option maxRecDepth 20000 in
set_option maxHeartbeats 16000000 in
theorem read_any (w : World) (B : Nat) (A : Option Addr) (c : Nat) (b : List UInt8) (hR : Rd w B 1 A b.length (u8s b)) (hB : B ≤ w.heap.size) (hl : b.length ≤ 9223372036854775807) :
    Calls Try.prog 96 #[.slice A b.length c] w fun y w' => ∃ p : Value, y = .returned (.tuple #[p, .int .i64 (readE b : Int)]) ∧ (readE b = 0 → SumAt w' w.heap.size p b) ∧ Below w.heap.size w w' := by
  have hh := head_any w B A c b hR
  by_cases h0 : headE b = 0
  case neg =>
    have er := readE_head h0
    rw [er]
    have t0 := i64_ne0 h0
    have HH := Lib.hid hh; have H0 := Lib.hid h0
    clear h0 hh er
    generalize headE b = e at *
    go_enter Try.func96, Try.ntmps96
    go_wp2_with (go_at_call 153; (with_reducible refine HH.out.mono ?_); rintro y w1 ⟨rfl, hd1⟩)
    go_ret2
    exact ⟨_, rfl, fun h => absurd h H0.out, hd1.below (belR w)⟩
  rw [h0] at hh
  have HH := Lib.hid hh; have HH0 := Lib.hid h0
  clear hh h0
  by_cases h3 : 3 ≤ b.length
  case neg =>
    have er := readE_short HH0.out h3
    rw [er]
    have t1 : decide ((b.length : Int) < 3) = true := decide_eq_true (by omega)
    clear er
    go_enter Try.func96, Try.ntmps96
    go_wp2_with (go_at_call 153; (with_reducible refine HH.out.mono ?_); rintro y w1 ⟨rfl, hd1⟩)
    go_ret2
    exact ⟨_, rfl, fun h => absurd h (by decide), hd1.below (belR w)⟩
  have t1 : decide ((b.length : Int) < 3) = false := decide_eq_false (by omega)
  have er := readE_words HH0.out h3
  obtain ⟨o1, o2, o3⟩ := headE_ok HH0.out h3
  have HR := Lib.hid hR
  obtain ⟨a, rfl, hab, k0⟩ := hR.byte (k := 0) (by omega)
  have hc : ∀ W, Below w.heap.size w W → ∀ i (h : i < b.length), W.cell? (a.add i) = some (.int .u8 ((hd b i : Nat) : Int)) := fun W hb i h => by
    obtain ⟨a', e, _, hx⟩ := (HR.out.below (hb.mono hB)).byte h
    injection e with e; subst e
    rw [hd_get _ _ h]; exact hx
  clear k0
  have hlt : ∀ i, hd b i < 256 := fun i => UInt8.toNat_lt _
  have HC := Lib.hid hc; have HLT := Lib.hid hlt
  have x0 := hlt 0; have x1 := hlt 1; have x2 := hlt 2
  have HWS : Hid (∀ i, i < hd b 2 → wordsE b (hd b 2) (hd b 2 - i) = if b.length < 3 + 4 * i + 4 then 5 else if (i = 0 ∨ i + 1 = hd b 2) ∧ wordB b i = 0 then 6 else wordsE b (hd b 2) (hd b 2 - (i + 1))) := Lib.hid fun i hi => words_step b (hd b 2) i hi
  have HWE := Lib.hid (words_end b (hd b 2))
  have d1 := hc w (belR w) 1 (by omega)
  have d2 := hc w (belR w) 2 (by omega)
  have d1b := d1; have d2b := d2
  rw [show (1 : Nat) = 0 + 1 from rfl, add_succ] at d1b
  rw [show (2 : Nat) = 1 + 1 from rfl, add_succ] at d2b
  simp only [show (0 : Nat) + 1 = 1 from rfl, show (1 : Nat) + 1 = 2 from rfl] at d1b d2b
  have q1 : (1 : Int) < (b.length : Int) := by omega
  have q2 : (2 : Int) < (b.length : Int) := by omega
  unfold SumAt
  generalize hy1 : hd b 1 = y1 at *
  generalize hy2 : hd b 2 = n at *
  generalize hm : y1 + n = m at *
  have wadd : IntKind.i64.wrap ((y1 : Int) + (n : Int)) = (m : Int) := by rw [IntWalk.i64_in _ (by omega)]; omega
  have wy1 : IntKind.i64.wrap (y1 : Int) = (y1 : Int) := IntWalk.i64_in _ (by omega)
  have wn : IntKind.i64.wrap (n : Int) = (n : Int) := IntWalk.i64_in _ (by omega)
  have hmk := fun w => run_make_row' (P := Try.prog) 24 33 (.int .u32 0) 4 Try.underlying24 info_u32 rfl .i64 .i64 m (by omega) (by omega) w
  have HER := Lib.hid er; have HHY := Lib.hid (And.intro hy1 hy2)
  clear hc hlt hR er hy1 hy2
  go_enter Try.func96, Try.ntmps96
  go_wp2_with (go_at_call 153; (with_reducible refine HH.out.mono ?_); rintro y w1 ⟨rfl, j1, rfl⟩)
  go_quiet (fail)
  go_wp2
  clear d1 d2 d1b d2b
  have hM0 : ∀ q, MagW w ((w.drewN q).alloc (.cells (madeCells #[.int .u32 0] m) 33)) w.heap.size (magP (wordB b) m 0) := fun q => by
    refine ⟨?_, (belA (belD (belR w) q) _)⟩
    have e : (u32n (magP (wordB b) m 0)).toArray = madeCells #[.int .u32 0] m := by rw [made_u32]; simp [magP]
    rw [e]
    exact Blk.new (w.drewN q) _ _
  have HM0 := Lib.hid hM0
  clear hM0 hmk
  go_loopw [32] (fun i wr => ∃ k : Nat, k ≤ n ∧ i = .int .i64 (k : Int) ∧ Hid (MagW w wr w.heap.size (magP (wordB b) m k)) ∧ Hid (wordsE b n (n - k) = readE b)) (fun i _ => n - (intOf i).toNat)
  case atStart => exact ⟨0, by omega, rfl, HM0.out _, by rw [Nat.sub_zero]; exact HER.out.symm⟩
  case round =>
    obtain ⟨i, hi, rfl, HM, HE⟩ := hrel
    by_cases hlt : i < n
    · have hws := HWS.out i hlt
      rw [HE.out] at hws
      have q3 : (i : Int) < (n : Int) := by omega
      obtain ⟨m1, hm1⟩ : ∃ m1, m1 + 1 = m := ⟨m - 1, by omega⟩
      obtain ⟨p, hp⟩ : ∃ p, p + i = m1 := ⟨m1 - i, by omega⟩
      obtain ⟨n1, hn1⟩ : ∃ n1, n1 + 1 = n := ⟨n - 1, by omega⟩
      obtain ⟨i4, hi4⟩ : ∃ i4, 4 * i = i4 := ⟨_, rfl⟩
      obtain ⟨i43, hi43⟩ : ∃ i43, 3 + i4 = i43 := ⟨_, rfl⟩
      have w51 : IntKind.i64.wrap ((m : Int) - 1) = (m1 : Int) := by rw [IntWalk.i64_in _ (by omega)]; omega
      have w53 : IntKind.i64.wrap ((m1 : Int) - (i : Int)) = (p : Int) := by rw [IntWalk.i64_in _ (by omega)]; omega
      have w39 : IntKind.i64.wrap (4 * (i : Int)) = (i4 : Int) := by rw [IntWalk.i64_in _ (by omega)]; omega
      have w40 : IntKind.i64.wrap (3 + (i4 : Int)) = (i43 : Int) := by rw [IntWalk.i64_in _ (by omega)]; omega
      have w87 : IntKind.i64.wrap ((n : Int) - 1) = (n1 : Int) := by rw [IntWalk.i64_in _ (by omega)]; omega
      have hpi : m - 1 - i = p := by omega
      have c1 : (0 : Int) ≤ (p : Int) := by omega
      have c2 : (p : Int) < (m : Int) := by omega
      have hM1 : MagW w wr w.heap.size (midP b m i 0) := by rw [midP_zero b m i (by omega)]; exact HM.out
      have HM1 := Lib.hid hM1; have HWS1 := Lib.hid hws
      clear hM1 hws HM HM0
      go_wp2
      go_loopw [35] (fun kv ws => ∃ k : Nat, k ≤ 4 ∧ kv = .int .i64 (k : Int) ∧ Hid (MagW w ws w.heap.size (midP b m i k)) ∧ (k = 0 ∨ 3 + 4 * i + k ≤ b.length)) (fun kv _ => 4 - (intOf kv).toNat)
      case atStart => exact ⟨0, by omega, rfl, HM1.out, .inl rfl⟩
      case round =>
        obtain ⟨k, hk, rfl, HM, hkl⟩ := hrel
        obtain ⟨at', hat⟩ : ∃ at', i43 + k = at' := ⟨_, rfl⟩
        have w42 : IntKind.i64.wrap ((i43 : Int) + (k : Int)) = (at' : Int) := by rw [IntWalk.i64_in _ (by omega)]; omega
        by_cases hk4 : k < 4
        · have g1 : decide ((k : Int) < 4) = true := decide_eq_true (by omega)
          by_cases hal : at' < b.length
          · have g2 : decide ((b.length : Int) ≤ (at' : Int)) = false := decide_eq_false (by omega)
            have c3 : (0 : Int) ≤ (at' : Int) := by omega
            have c4 : (at' : Int) < (b.length : Int) := by omega
            have y0 := HM.out.at (midP_at b m i k (by omega))
            rw [hpi] at y0
            have z0 := HC.out wr HM.out.2 at' hal
            have hpx := partB_lt b i k (by omega)
            have hpy := HLT.out at'
            have hps := partB_succ b i k (by omega)
            rw [show 3 + 4 * i + k = at' from by omega] at hps
            have hpz : partB b i k < 16777216 := Nat.lt_of_lt_of_le hpx (by have := Nat.pow_le_pow_right (show 0 < 256 by decide) (show k ≤ 3 by omega); simpa using this)
            have hor := or_next (partB b i k) (hd b at') hpz hpy
            rw [← hps] at hor
            have wy : IntKind.u32.wrap ((hd b at' : Nat) : Int) = ((hd b at' : Nat) : Int) := by rw [IntKind.wrap_u32]; omega
            have hfz := HM.out.drew.1.frozen p
            have hcz : wr.drew.cell? ⟨w.heap.size, p, none⟩ = some (.int .u32 (partB b i k : Int)) := y0
            have HMN : Hid (MagW w (wr.drew.setCell ⟨w.heap.size, p, none⟩ (.int .u32 (partB b i (k + 1) : Int))) w.heap.size (midP b m i (k + 1))) := Lib.hid (by
              have := HM.out.drew.put (by omega) p (partB b i (k + 1))
              rw [← hpi, midP_next, hpi] at this
              exact this)
            clear hpx hps hpz hpy
            generalize partB b i (k + 1) = pz at *
            generalize partB b i k = px at *
            generalize hd b at' = py at *
            go_upto_region 17 with (fail)
            go_still_tail 24, (by kernel_rfl)
            go_wp2
            go_roundw
            case rel => exact ⟨k + 1, by omega, by go_num, HMN.out, .inr (by omega)⟩
            case measure => simp [intOf]; omega
          · have g2 : decide ((b.length : Int) ≤ (at' : Int)) = true := decide_eq_true (by omega)
            have hws := HWS1.out
            rw [if_pos (by omega)] at hws
            have HB5 := Lib.hid HM.out.2
            have HW5 := Lib.hid hws
            clear hws HM
            go_wp2
            go_ret2
            exact ⟨_, by rw [HW5.out]; rfl, fun h => absurd (HW5.out.symm.trans h) (by decide), HB5.out⟩
        · obtain rfl : k = 4 := by omega
          have hk5 : 3 + 4 * i + 4 ≤ b.length := by omega
          have hws := HWS1.out
          rw [if_neg (by omega)] at hws
          rw [midP_four b m i (by omega)] at HM
          have z0 := HM.out.at (magP_at (wordB b) m (i + 1) i (by omega) (by omega))
          rw [hpi] at z0
          have HMF := HM
          have hwl := wordB_lt b i
          have g1 : decide (((4 : Nat) : Int) < 4) = false := by decide
          have HB5 := Lib.hid HM.out.2
          by_cases hi0 : i = 0
          · have g3 : ((i : Int) == 0) = true := by rw [beq_iff_eq]; omega
            obtain rfl : p = m1 := by omega
            by_cases hw0 : wordB b i = 0
            · have g4 : ((wordB b i : Int) == 0) = true := by rw [beq_iff_eq]; omega
              rw [if_pos ⟨.inl hi0, hw0⟩] at hws
              have HW5 := Lib.hid hws
              clear hws HM hw0 HMF
              generalize wordB b i = wd at *
              go_wp2
              go_ret2
              exact ⟨_, by rw [HW5.out]; rfl, fun h => absurd (HW5.out.symm.trans h) (by decide), HB5.out⟩
            · have g4 : ((wordB b i : Int) == 0) = false := by rw [beq_eq_false_iff_ne]; omega
              rw [if_neg fun hh => hw0 hh.2] at hws
              have HW5 := Lib.hid hws
              by_cases hin : i = n1
              · have g5 : ((i : Int) == (n1 : Int)) = true := by rw [beq_iff_eq]; omega
                have hyp : y1 = p := by omega
                have c5 : (0 : Int) ≤ (y1 : Int) := by omega
                have c6 : (y1 : Int) < (m : Int) := by omega
                have z1 := z0
                rw [← hyp] at z1
                clear hws HM hw0 hyp hi0 hin
                generalize wordB b i = wd at *
                go_wp2
                go_roundw
                case rel => exact ⟨i + 1, by omega, by go_num, HMF.out, HW5.out.symm⟩
                case measure => simp [intOf]; omega
              · have g5 : ((i : Int) == (n1 : Int)) = false := by rw [beq_eq_false_iff_ne]; omega
                clear hws HM hw0
                generalize wordB b i = wd at *
                go_wp2
                go_roundw
                case rel => exact ⟨i + 1, by omega, by go_num, HMF.out, HW5.out.symm⟩
                case measure => simp [intOf]; omega
          · have g3 : ((i : Int) == 0) = false := by rw [beq_eq_false_iff_ne]; omega
            by_cases hin : i = n1
            · have g5 : ((i : Int) == (n1 : Int)) = true := by rw [beq_iff_eq]; omega
              have hyp : y1 = p := by omega
              have c5 : (0 : Int) ≤ (y1 : Int) := by omega
              have c6 : (y1 : Int) < (m : Int) := by omega
              rw [← hyp] at z0
              clear hyp
              by_cases hw0 : wordB b i = 0
              · have g4 : ((wordB b i : Int) == 0) = true := by rw [beq_iff_eq]; omega
                rw [if_pos ⟨.inr (by omega), hw0⟩] at hws
                have HW5 := Lib.hid hws
                clear hws HM hw0 HMF
                generalize wordB b i = wd at *
                go_wp2
                go_ret2
                exact ⟨_, by rw [HW5.out]; rfl, fun h => absurd (HW5.out.symm.trans h) (by decide), HB5.out⟩
              · have g4 : ((wordB b i : Int) == 0) = false := by rw [beq_eq_false_iff_ne]; omega
                rw [if_neg fun hh => hw0 hh.2] at hws
                have HW5 := Lib.hid hws
                clear hws HM hw0
                generalize wordB b i = wd at *
                go_wp2
                go_roundw
                case rel => exact ⟨i + 1, by omega, by go_num, HMF.out, HW5.out.symm⟩
                case measure => simp [intOf]; omega
            · have g5 : ((i : Int) == (n1 : Int)) = false := by rw [beq_eq_false_iff_ne]; omega
              rw [if_neg fun hh => by omega] at hws
              have HW5 := Lib.hid hws
              clear hws HM
              generalize wordB b i = wd at *
              go_wp2
              go_roundw
              case rel => exact ⟨i + 1, by omega, by go_num, HMF.out, HW5.out.symm⟩
              case measure => simp [intOf]; omega
    · obtain rfl : i = n := by omega
      have he := HE.out
      rw [Nat.sub_self, HWE.out] at he
      obtain ⟨n4, hn4⟩ : ∃ n4, 4 * i = n4 := ⟨_, rfl⟩
      obtain ⟨n43, hn43⟩ : ∃ n43, 3 + n4 = n43 := ⟨_, rfl⟩
      have w101 : IntKind.i64.wrap (4 * (i : Int)) = (n4 : Int) := by rw [IntWalk.i64_in _ (by omega)]; omega
      have w102 : IntKind.i64.wrap (3 + (n4 : Int)) = (n43 : Int) := by rw [IntWalk.i64_in _ (by omega)]; omega
      by_cases hmo : 3 + 4 * i < b.length
      · have g1 : decide ((n43 : Int) < (b.length : Int)) = true := decide_eq_true (by omega)
        rw [if_pos hmo] at he
        have HW5 := Lib.hid he; have HB5 := Lib.hid HM.out.2
        clear he HM HM0 HE
        go_wp2
        go_ret2
        exact ⟨_, by rw [← HW5.out]; rfl, fun h => absurd (HW5.out.trans h) (by decide), HB5.out⟩
      · have g1 : decide ((n43 : Int) < (b.length : Int)) = false := decide_eq_false (by omega)
        rw [if_neg hmo] at he
        have HW5 := Lib.hid he
        have z0 := HC.out wr HM.out.2 0 (by omega)
        rw [add_zero'] at z0
        have hn32 : bits .andNot .u8 ((hd b 0 : Nat) : Int) 32 = ((hd b 0 - hd b 0 / 32 % 2 * 32 : Nat) : Int) := by
          have := u8_andNot_nat (hd b 0) 32 x0 (by decide)
          rw [show hd b 0 &&& (255 - 32) = hd b 0 - hd b 0 / 32 % 2 * 32 from not32 ⟨hd b 0, x0⟩] at this
          exact this
        have c3 : (0 : Int) < (b.length : Int) := by omega
        have p0 : hd b 0 / 32 % 2 = 0 ∨ hd b 0 / 32 % 2 = 1 := by omega
        have a32 : bits .and .u8 ((hd b 0 : Nat) : Int) 32 = ((hd b 0 / 32 % 2 * 32 : Nat) : Int) := by
          have := u8_and_nat (hd b 0) 32 x0 (by decide)
          rw [show hd b 0 &&& 32 = hd b 0 / 32 % 2 * 32 from and32 ⟨hd b 0, x0⟩] at this
          exact this
        obtain ⟨ct, hct⟩ : ∃ ct, hd b 0 - hd b 0 / 32 % 2 * 32 = ct := ⟨_, rfl⟩
        rw [hct] at hn32
        have HCT := Lib.hid hct
        clear he HM0 HE hct
        rcases p0 with hp | hp
        · rw [hp] at a32
          have a32' : bits .and .u8 ((hd b 0 : Nat) : Int) 32 = 0 := a32
          have HP := Lib.hid hp
          clear a32 hp
          go_upto_region 24 with (fail)
          go_region_with (fail)
          all_goals go_wp2
          all_goals go_ret2
          all_goals exact ⟨_, by rw [← HW5.out]; rfl, fun _ => ⟨_, w.heap.size, rfl, HM.out.2.size, Nat.le_refl _, (by have := HM.out.1.lt; omega), by rw [HCT.out, HP.out]; exact (Blk.new _ _ _).drew, (HM.out.1.alloc _).drew⟩, (belA HM.out.2 _).drew⟩
        · rw [hp] at a32
          have a32' : bits .and .u8 ((hd b 0 : Nat) : Int) 32 = 32 := a32
          have HP := Lib.hid hp
          clear a32 hp
          go_upto_region 24 with (fail)
          go_region_with (fail)
          all_goals go_wp2
          all_goals go_ret2
          all_goals exact ⟨_, by rw [← HW5.out]; rfl, fun _ => ⟨_, w.heap.size, rfl, HM.out.2.size, Nat.le_refl _, (by have := HM.out.1.lt; omega), by rw [HCT.out, HP.out]; exact (Blk.new _ _ _).drew, (HM.out.1.alloc _).drew⟩, (belA HM.out.2 _).drew⟩
end Go.Proofs.Ytfhmaincnlaapaa
