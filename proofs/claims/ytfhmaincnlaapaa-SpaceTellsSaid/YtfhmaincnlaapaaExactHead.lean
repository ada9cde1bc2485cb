/-
  exact.head.
-/
import Derived.Test.YtfhmaincnlaapaaCellPure
import Derived.Laws.BitsAllLaws
namespace Go.Proofs.Ytfhmaincnlaapaa
open Go.ChangeShapes Go.WideShapes Go.ChangeAt Go.RowKit
set_option linter.unusedVariables false

def headN (n x0 x1 x2 : Nat) : Nat :=
  if 0 < n ∧ (63 < x0 ∨ (x0 / 32 % 2 = 1 ∧ x0 / 16 % 2 = 0)) then 6
  else if 1 < n ∧ (69 < x1 ∨ (0 < x1 ∧ x0 / 16 % 2 = 0)) then 6
  else if 2 < n ∧ (70 < x1 + x2 ∨ (0 < x2 ∧ x0 / 16 % 2 = 0) ∨ (x2 = 0 ∧ (0 < x1 ∨ x0 / 32 % 2 = 1))) then 6
  else 0
theorem headE_eq (b : List UInt8) : headE b = headN b.length (hd b 0) (hd b 1) (hd b 2) := rfl
theorem hd_get (b : List UInt8) (i : Nat) (h : i < b.length) : hd b i = (b[i]).toNat := by
  unfold hd; rw [List.getD_eq_getElem?_getD, List.getElem?_eq_getElem h]; rfl
theorem gtI {a b : Nat} (h : a < b) : decide ((a : Int) < (b : Int)) = true := decide_eq_true (by omega)
set_option maxRecDepth 20000 in
theorem head_nil (w : World) (A : Option Addr) (c : Nat) : Calls Try.prog 153 #[.slice A 0 c] w fun y w' => y = .returned (.int .i64 0) ∧ Drw w w' := by
  go_enter Try.func153, Try.ntmps153
  go_wp2
  go_quiet (fail)
  go_wp2
  go_ret
  exact ⟨rfl, ⟨_, rfl⟩⟩
set_option maxRecDepth 20000 in
set_option maxHeartbeats 8000000 in
theorem head_some (w : World) (a : Addr) (n c x0 x1 x2 : Nat) (h1 : 1 ≤ n) (hx0 : x0 < 256) (hx1 : x1 < 256) (hx2 : x2 < 256) (k0 : w.cell? a = some (.int .u8 (x0 : Int)))
    (k1 : 2 ≤ n → w.cell? (a.add 1) = some (.int .u8 (x1 : Int)) ∧ w.cell? ⟨a.block, a.off + 1, none⟩ = some (.int .u8 (x1 : Int)))
    (k2 : 3 ≤ n → w.cell? (a.add 2) = some (.int .u8 (x2 : Int)) ∧ w.cell? ⟨a.block, a.off + 2, none⟩ = some (.int .u8 (x2 : Int))) :
    Calls Try.prog 153 #[.slice (some a) n c] w fun y w' => y = .returned (.int .i64 (headN n x0 x1 x2 : Int)) ∧ Drw w w' := by
  have a32 : bits .and .u8 (x0 : Int) 32 = ((x0 / 32 % 2 * 32 : Nat) : Int) := by
    have := u8_and_nat x0 32 hx0 (by decide)
    rw [show x0 &&& 32 = x0 / 32 % 2 * 32 from and32 ⟨x0, hx0⟩] at this
    exact this
  have a16 : bits .and .u8 (x0 : Int) 16 = ((x0 / 16 % 2 * 16 : Nat) : Int) := by
    have := u8_and_nat x0 16 hx0 (by decide)
    rw [show x0 &&& 16 = x0 / 16 % 2 * 16 from and16 ⟨x0, hx0⟩] at this
    exact this
  have p0 : x0 / 32 % 2 = 0 ∨ x0 / 32 % 2 = 1 := by omega
  have q0 : x0 / 16 % 2 = 0 ∨ x0 / 16 % 2 = 1 := by omega
  have g0 : decide ((0 : Int) < (n : Int)) = true := decide_eq_true (by omega)
  by_cases c0 : 63 < x0
  · have t0 : decide ((63 : Int) < (x0 : Int)) = true := decide_eq_true (by omega)
    have e : headN n x0 x1 x2 = 6 := by unfold headN; (repeat' split) <;> omega
    rw [e]
    clear e
    go_enter Try.func153, Try.ntmps153
    go_wp2
    go_ret
    exact ⟨rfl, Drw.refl _⟩
  have t0 : decide ((63 : Int) < (x0 : Int)) = false := decide_eq_false (by omega)
  rcases p0 with hp | hp
  · rcases q0 with hq | hq
    · have b32 : bits .and .u8 (x0 : Int) 32 = 0 := by rw [a32, hp]; rfl
      have b16 : bits .and .u8 (x0 : Int) 16 = 0 := by rw [a16, hq]; rfl
      clear a32 a16
      by_cases n2 : 2 ≤ n
      case neg =>
        obtain rfl : n = 1 := by omega
        have e : headN 1 x0 x1 x2 = 0 := by unfold headN; (repeat' split) <;> omega
        rw [e]
        clear e
        go_enter Try.func153, Try.ntmps153
        go_wp2
        go_quiet (fail)
        go_wp2
        go_ret
        exact ⟨rfl, ⟨_, rfl⟩⟩
      obtain ⟨k1a, k1b⟩ := k1 n2
      have g1 : decide ((1 : Int) < (n : Int)) = true := decide_eq_true (by omega)
      by_cases c1 : 69 < x1
      · have t1 : decide ((69 : Int) < (x1 : Int)) = true := decide_eq_true (by omega)
        have e : headN n x0 x1 x2 = 6 := by unfold headN; (repeat' split) <;> omega
        rw [e]
        clear e
        go_enter Try.func153, Try.ntmps153
        go_wp2
        go_ret
        exact ⟨rfl, Drw.refl _⟩
      have t1 : decide ((69 : Int) < (x1 : Int)) = false := decide_eq_false (by omega)
      have d1 : x1 = 0 ∨ 0 < x1 := by omega
      rcases d1 with rfl | d1
      · simp only [show ((0 : Nat) : Int) = 0 from rfl] at *
        by_cases n3 : 3 ≤ n
        case neg =>
          obtain rfl : n = 2 := by omega
          have e : headN 2 x0 0 x2 = 0 := by unfold headN; (repeat' split) <;> omega
          rw [e]
          clear e
          go_enter Try.func153, Try.ntmps153
          go_wp2
          go_quiet (fail)
          go_wp2
          go_ret
          exact ⟨rfl, ⟨_, rfl⟩⟩
        obtain ⟨k2a, k2b⟩ := k2 n3
        have g2 : decide ((2 : Int) < (n : Int)) = true := decide_eq_true (by omega)
        by_cases c2 : 70 < x2
        · have t2 : decide ((70 : Int) < (x2 : Int)) = true := decide_eq_true (by omega)
          have e : headN n x0 0 x2 = 6 := by unfold headN; (repeat' split) <;> omega
          rw [e]
          clear e
          go_enter Try.func153, Try.ntmps153
          go_wp2
          go_quiet (fail)
          go_wp2
          go_ret
          exact ⟨rfl, ⟨_, rfl⟩⟩
        have t2 : decide ((70 : Int) < (x2 : Int)) = false := decide_eq_false (by omega)
        have d2 : x2 = 0 ∨ 0 < x2 := by omega
        rcases d2 with rfl | d2
        · simp only [show ((0 : Nat) : Int) = 0 from rfl] at *
          have e : headN n x0 0 0 = 0 := by unfold headN; (repeat' split) <;> omega
          rw [e]
          clear e
          go_enter Try.func153, Try.ntmps153
          go_wp2
          go_quiet (fail)
          go_wp2
          go_ret
          exact ⟨rfl, ⟨_, rfl⟩⟩
        · have s2 : decide ((0 : Int) < (x2 : Int)) = true := decide_eq_true (by omega)
          have s3 : ((x2 : Int) == 0) = false := by rw [beq_eq_false_iff_ne]; omega
          have e : headN n x0 0 x2 = 6 := by unfold headN; (repeat' split) <;> omega
          rw [e]
          clear e
          go_enter Try.func153, Try.ntmps153
          go_wp2
          go_quiet (fail)
          go_wp2
          go_ret
          exact ⟨rfl, ⟨_, rfl⟩⟩
      · have s1 : decide ((0 : Int) < (x1 : Int)) = true := decide_eq_true (by omega)
        have e : headN n x0 x1 x2 = 6 := by unfold headN; (repeat' split) <;> omega
        rw [e]
        clear e
        go_enter Try.func153, Try.ntmps153
        go_wp2
        go_ret
        exact ⟨rfl, Drw.refl _⟩
    · have b32 : bits .and .u8 (x0 : Int) 32 = 0 := by rw [a32, hp]; rfl
      have b16 : bits .and .u8 (x0 : Int) 16 = 16 := by rw [a16, hq]; rfl
      clear a32 a16
      by_cases n2 : 2 ≤ n
      case neg =>
        obtain rfl : n = 1 := by omega
        have e : headN 1 x0 x1 x2 = 0 := by unfold headN; (repeat' split) <;> omega
        rw [e]
        clear e
        go_enter Try.func153, Try.ntmps153
        go_wp2
        go_quiet (fail)
        go_wp2
        go_ret
        exact ⟨rfl, ⟨_, rfl⟩⟩
      obtain ⟨k1a, k1b⟩ := k1 n2
      have g1 : decide ((1 : Int) < (n : Int)) = true := decide_eq_true (by omega)
      by_cases c1 : 69 < x1
      · have t1 : decide ((69 : Int) < (x1 : Int)) = true := decide_eq_true (by omega)
        have e : headN n x0 x1 x2 = 6 := by unfold headN; (repeat' split) <;> omega
        rw [e]
        clear e
        go_enter Try.func153, Try.ntmps153
        go_wp2
        go_ret
        exact ⟨rfl, Drw.refl _⟩
      have t1 : decide ((69 : Int) < (x1 : Int)) = false := decide_eq_false (by omega)
      have d1 : x1 = 0 ∨ 0 < x1 := by omega
      rcases d1 with rfl | d1
      · simp only [show ((0 : Nat) : Int) = 0 from rfl] at *
        by_cases n3 : 3 ≤ n
        case neg =>
          obtain rfl : n = 2 := by omega
          have e : headN 2 x0 0 x2 = 0 := by unfold headN; (repeat' split) <;> omega
          rw [e]
          clear e
          go_enter Try.func153, Try.ntmps153
          go_wp2
          go_quiet (fail)
          go_wp2
          go_ret
          exact ⟨rfl, ⟨_, rfl⟩⟩
        obtain ⟨k2a, k2b⟩ := k2 n3
        have g2 : decide ((2 : Int) < (n : Int)) = true := decide_eq_true (by omega)
        by_cases c2 : 70 < x2
        · have t2 : decide ((70 : Int) < (x2 : Int)) = true := decide_eq_true (by omega)
          have e : headN n x0 0 x2 = 6 := by unfold headN; (repeat' split) <;> omega
          rw [e]
          clear e
          go_enter Try.func153, Try.ntmps153
          go_wp2
          go_quiet (fail)
          go_wp2
          go_ret
          exact ⟨rfl, ⟨_, rfl⟩⟩
        have t2 : decide ((70 : Int) < (x2 : Int)) = false := decide_eq_false (by omega)
        have d2 : x2 = 0 ∨ 0 < x2 := by omega
        rcases d2 with rfl | d2
        · simp only [show ((0 : Nat) : Int) = 0 from rfl] at *
          have e : headN n x0 0 0 = 0 := by unfold headN; (repeat' split) <;> omega
          rw [e]
          clear e
          go_enter Try.func153, Try.ntmps153
          go_wp2
          go_quiet (fail)
          go_wp2
          go_ret
          exact ⟨rfl, ⟨_, rfl⟩⟩
        · have s2 : decide ((0 : Int) < (x2 : Int)) = true := decide_eq_true (by omega)
          have s3 : ((x2 : Int) == 0) = false := by rw [beq_eq_false_iff_ne]; omega
          have e : headN n x0 0 x2 = 0 := by unfold headN; (repeat' split) <;> omega
          rw [e]
          clear e
          go_enter Try.func153, Try.ntmps153
          go_wp2
          go_quiet (fail)
          go_wp2
          go_ret
          exact ⟨rfl, ⟨_, rfl⟩⟩
      · have s1 : decide ((0 : Int) < (x1 : Int)) = true := decide_eq_true (by omega)
        by_cases n3 : 3 ≤ n
        case neg =>
          obtain rfl : n = 2 := by omega
          have e : headN 2 x0 x1 x2 = 0 := by unfold headN; (repeat' split) <;> omega
          rw [e]
          clear e
          go_enter Try.func153, Try.ntmps153
          go_wp2
          go_quiet (fail)
          go_wp2
          go_ret
          exact ⟨rfl, ⟨_, rfl⟩⟩
        obtain ⟨k2a, k2b⟩ := k2 n3
        have g2 : decide ((2 : Int) < (n : Int)) = true := decide_eq_true (by omega)
        by_cases c2 : 70 < x1 + x2
        · have t2 : decide ((70 : Int) < (x1 : Int) + (x2 : Int)) = true := decide_eq_true (by omega)
          have e : headN n x0 x1 x2 = 6 := by unfold headN; (repeat' split) <;> omega
          rw [e]
          clear e
          go_enter Try.func153, Try.ntmps153
          go_wp2
          go_quiet (fail)
          go_wp2
          go_ret
          exact ⟨rfl, ⟨_, rfl⟩⟩
        have t2 : decide ((70 : Int) < (x1 : Int) + (x2 : Int)) = false := decide_eq_false (by omega)
        have d2 : x2 = 0 ∨ 0 < x2 := by omega
        rcases d2 with rfl | d2
        · simp only [show ((0 : Nat) : Int) = 0 from rfl] at *
          have t3 : decide ((70 : Int) < (x1 : Int)) = false := decide_eq_false (by omega)
          have e : headN n x0 x1 0 = 6 := by unfold headN; (repeat' split) <;> omega
          rw [e]
          clear e
          go_enter Try.func153, Try.ntmps153
          go_wp2
          go_quiet (fail)
          go_wp2
          go_ret
          exact ⟨rfl, ⟨_, rfl⟩⟩
        · have s2 : decide ((0 : Int) < (x2 : Int)) = true := decide_eq_true (by omega)
          have s3 : ((x2 : Int) == 0) = false := by rw [beq_eq_false_iff_ne]; omega
          have e : headN n x0 x1 x2 = 0 := by unfold headN; (repeat' split) <;> omega
          rw [e]
          clear e
          go_enter Try.func153, Try.ntmps153
          go_wp2
          go_quiet (fail)
          go_wp2
          go_ret
          exact ⟨rfl, ⟨_, rfl⟩⟩
  · rcases q0 with hq | hq
    · have b32 : bits .and .u8 (x0 : Int) 32 = 32 := by rw [a32, hp]; rfl
      have b16 : bits .and .u8 (x0 : Int) 16 = 0 := by rw [a16, hq]; rfl
      clear a32 a16
      have e : headN n x0 x1 x2 = 6 := by unfold headN; (repeat' split) <;> omega
      rw [e]
      clear e
      go_enter Try.func153, Try.ntmps153
      go_wp2
      go_ret
      exact ⟨rfl, Drw.refl _⟩
    · have b32 : bits .and .u8 (x0 : Int) 32 = 32 := by rw [a32, hp]; rfl
      have b16 : bits .and .u8 (x0 : Int) 16 = 16 := by rw [a16, hq]; rfl
      clear a32 a16
      by_cases n2 : 2 ≤ n
      case neg =>
        obtain rfl : n = 1 := by omega
        have e : headN 1 x0 x1 x2 = 0 := by unfold headN; (repeat' split) <;> omega
        rw [e]
        clear e
        go_enter Try.func153, Try.ntmps153
        go_wp2
        go_quiet (fail)
        go_wp2
        go_ret
        exact ⟨rfl, ⟨_, rfl⟩⟩
      obtain ⟨k1a, k1b⟩ := k1 n2
      have g1 : decide ((1 : Int) < (n : Int)) = true := decide_eq_true (by omega)
      by_cases c1 : 69 < x1
      · have t1 : decide ((69 : Int) < (x1 : Int)) = true := decide_eq_true (by omega)
        have e : headN n x0 x1 x2 = 6 := by unfold headN; (repeat' split) <;> omega
        rw [e]
        clear e
        go_enter Try.func153, Try.ntmps153
        go_wp2
        go_ret
        exact ⟨rfl, Drw.refl _⟩
      have t1 : decide ((69 : Int) < (x1 : Int)) = false := decide_eq_false (by omega)
      have d1 : x1 = 0 ∨ 0 < x1 := by omega
      rcases d1 with rfl | d1
      · simp only [show ((0 : Nat) : Int) = 0 from rfl] at *
        by_cases n3 : 3 ≤ n
        case neg =>
          obtain rfl : n = 2 := by omega
          have e : headN 2 x0 0 x2 = 0 := by unfold headN; (repeat' split) <;> omega
          rw [e]
          clear e
          go_enter Try.func153, Try.ntmps153
          go_wp2
          go_quiet (fail)
          go_wp2
          go_ret
          exact ⟨rfl, ⟨_, rfl⟩⟩
        obtain ⟨k2a, k2b⟩ := k2 n3
        have g2 : decide ((2 : Int) < (n : Int)) = true := decide_eq_true (by omega)
        by_cases c2 : 70 < x2
        · have t2 : decide ((70 : Int) < (x2 : Int)) = true := decide_eq_true (by omega)
          have e : headN n x0 0 x2 = 6 := by unfold headN; (repeat' split) <;> omega
          rw [e]
          clear e
          go_enter Try.func153, Try.ntmps153
          go_wp2
          go_quiet (fail)
          go_wp2
          go_ret
          exact ⟨rfl, ⟨_, rfl⟩⟩
        have t2 : decide ((70 : Int) < (x2 : Int)) = false := decide_eq_false (by omega)
        have d2 : x2 = 0 ∨ 0 < x2 := by omega
        rcases d2 with rfl | d2
        · simp only [show ((0 : Nat) : Int) = 0 from rfl] at *
          have e : headN n x0 0 0 = 6 := by unfold headN; (repeat' split) <;> omega
          rw [e]
          clear e
          go_enter Try.func153, Try.ntmps153
          go_wp2
          go_quiet (fail)
          go_wp2
          go_ret
          exact ⟨rfl, ⟨_, rfl⟩⟩
        · have s2 : decide ((0 : Int) < (x2 : Int)) = true := decide_eq_true (by omega)
          have s3 : ((x2 : Int) == 0) = false := by rw [beq_eq_false_iff_ne]; omega
          have e : headN n x0 0 x2 = 0 := by unfold headN; (repeat' split) <;> omega
          rw [e]
          clear e
          go_enter Try.func153, Try.ntmps153
          go_wp2
          go_quiet (fail)
          go_wp2
          go_ret
          exact ⟨rfl, ⟨_, rfl⟩⟩
      · have s1 : decide ((0 : Int) < (x1 : Int)) = true := decide_eq_true (by omega)
        by_cases n3 : 3 ≤ n
        case neg =>
          obtain rfl : n = 2 := by omega
          have e : headN 2 x0 x1 x2 = 0 := by unfold headN; (repeat' split) <;> omega
          rw [e]
          clear e
          go_enter Try.func153, Try.ntmps153
          go_wp2
          go_quiet (fail)
          go_wp2
          go_ret
          exact ⟨rfl, ⟨_, rfl⟩⟩
        obtain ⟨k2a, k2b⟩ := k2 n3
        have g2 : decide ((2 : Int) < (n : Int)) = true := decide_eq_true (by omega)
        by_cases c2 : 70 < x1 + x2
        · have t2 : decide ((70 : Int) < (x1 : Int) + (x2 : Int)) = true := decide_eq_true (by omega)
          have e : headN n x0 x1 x2 = 6 := by unfold headN; (repeat' split) <;> omega
          rw [e]
          clear e
          go_enter Try.func153, Try.ntmps153
          go_wp2
          go_quiet (fail)
          go_wp2
          go_ret
          exact ⟨rfl, ⟨_, rfl⟩⟩
        have t2 : decide ((70 : Int) < (x1 : Int) + (x2 : Int)) = false := decide_eq_false (by omega)
        have d2 : x2 = 0 ∨ 0 < x2 := by omega
        rcases d2 with rfl | d2
        · simp only [show ((0 : Nat) : Int) = 0 from rfl] at *
          have t3 : decide ((70 : Int) < (x1 : Int)) = false := decide_eq_false (by omega)
          have e : headN n x0 x1 0 = 6 := by unfold headN; (repeat' split) <;> omega
          rw [e]
          clear e
          go_enter Try.func153, Try.ntmps153
          go_wp2
          go_quiet (fail)
          go_wp2
          go_ret
          exact ⟨rfl, ⟨_, rfl⟩⟩
        · have s2 : decide ((0 : Int) < (x2 : Int)) = true := decide_eq_true (by omega)
          have s3 : ((x2 : Int) == 0) = false := by rw [beq_eq_false_iff_ne]; omega
          have e : headN n x0 x1 x2 = 0 := by unfold headN; (repeat' split) <;> omega
          rw [e]
          clear e
          go_enter Try.func153, Try.ntmps153
          go_wp2
          go_quiet (fail)
          go_wp2
          go_ret
          exact ⟨rfl, ⟨_, rfl⟩⟩
theorem head_any (w : World) (B : Nat) (A : Option Addr) (c : Nat) (b : List UInt8) (hR : Rd w B 1 A b.length (u8s b)) :
    Calls Try.prog 153 #[.slice A b.length c] w fun y w' => y = .returned (.int .i64 (headE b : Int)) ∧ Drw w w' := by
  rw [headE_eq]
  cases b with
  | nil => exact head_nil w A c
  | cons x t =>
    obtain ⟨a, rfl, hab, k0⟩ := hR.byte (k := 0) (by simp)
    rw [add_zero'] at k0
    have hl : ∀ i, hd (x :: t) i < 256 := fun i => UInt8.toNat_lt _
    have hc : ∀ i (h : i < (x :: t).length), w.cell? (a.add i) = some (.int .u8 ((hd (x :: t) i : Nat) : Int)) := fun i h => by
      obtain ⟨a', e, _, hx⟩ := hR.byte h
      injection e with e; subst e
      rw [hd_get _ _ h]; exact hx
    exact head_some w a _ c _ _ _ (by simp) (hl 0) (hl 1) (hl 2) (by have := hc 0 (by simp); rwa [add_zero'] at this)
      (fun h => ⟨hc 1 (by omega), by have := hc 1 (by omega); rw [show (1 : Nat) = 0 + 1 from rfl, add_succ] at this; exact this⟩)
      (fun h => ⟨hc 2 (by omega), by have := hc 2 (by omega); rw [show (2 : Nat) = 1 + 1 from rfl, add_succ] at this; exact this⟩)
end Go.Proofs.Ytfhmaincnlaapaa
