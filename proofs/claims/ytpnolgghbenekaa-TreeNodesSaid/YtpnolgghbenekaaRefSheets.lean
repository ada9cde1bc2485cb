/-
  bushelref25.Sheets says true of two lists that read alike.
-/
import Derived.Test.YtpnolgghbenekaaSheets
import Derived.Test.YtpnolgghbenekaaRefCode
namespace Go.Proofs.Ytpnolgghbenekaa
open Go.ChangeShapes Go.WideShapes Go.ChangeAt Go.RowKit
set_option linter.unusedVariables false

theorem Rd.sht {w : World} {B B' n : Nat} {A : Option Addr} {ss : List Sht} {xs : List Value} (h : Rd w B 4 A n xs) (hs : ShR w B' ss xs) (i : Nat) (hi : i < ss.length) :
    ∃ a Ad cd, A = some a ∧ a.block < B ∧ w.cell? (a.add (i * 4)) = some (.int .i64 ss[i].k) ∧ w.cell? ⟨(a.add (i * 4)).block, (a.add (i * 4)).off + 1, none⟩ = some (.int .u64 (ss[i].a : Int)) ∧
      w.cell? ⟨(a.add (i * 4)).block, (a.add (i * 4)).off + 2, none⟩ = some (.int .u64 (ss[i].b : Int)) ∧ w.cell? ⟨(a.add (i * 4)).block, (a.add (i * 4)).off + 3, none⟩ = some (.slice Ad ss[i].d.length cd) ∧
      Rd w B' 1 Ad ss[i].d.length (u8s ss[i].d) ∧ ss[i].d.length ≤ cd ∧ cd ≤ maxLen := by
  have hn : n = ss.length := by have := h.1; rw [hs.len] at this; omega
  obtain ⟨a, e, hb, hc⟩ := h.2 (by omega)
  obtain ⟨Ad, cd, e0, e1, e2, e3, r⟩ := hs.get i hi
  refine ⟨a, Ad, cd, e, hb, hc _ _ e0, ?_, ?_, ?_, r⟩
  · have := hc _ _ e1; rw [← add_add', show (1 : Nat) = 0 + 1 from rfl, add_succ] at this; exact this
  · have := hc _ _ e2; rw [← add_add', show (2 : Nat) = 1 + 1 from rfl, add_succ] at this; exact this
  · have := hc _ _ e3; rw [← add_add', show (3 : Nat) = 2 + 1 from rfl, add_succ] at this; exact this

set_option maxRecDepth 20000 in
set_option maxHeartbeats 2000000 in
theorem sheets_any (A A' : Option Addr) (c c' B B' D D' : Nat) (ss : List Sht) (xs xs' : List Value) (w : World) (h : Rd w B 4 A ss.length xs) (hs : ShR w D ss xs) (h' : Rd w B' 4 A' ss.length xs') (hs' : ShR w D' ss xs') (hn : ss.length ≤ 1000000) :
    Calls Try.prog 14 #[.slice A ss.length c, .slice A' ss.length c'] w fun y w' => y = .returned (.bool true) ∧ Drw w w' := by
  have H := Lib.hid h; have HS := Lib.hid hs; have H' := Lib.hid h'; have HS' := Lib.hid hs'; clear h hs h' hs'
  have t0 : ((ss.length : Int) != (ss.length : Int)) = false := by simp
  go_enter Try.func14, Try.ntmps14
  go_wp2
  go_loopw [5] (fun i wr => ∃ k : Nat, k ≤ ss.length ∧ i = .int .i64 (k : Int) ∧ ∃ j, wr = w.drewN j) (fun i _ => ss.length - (intOf i).toNat)
  case atStart => exact ⟨0, by omega, rfl, 0, rfl⟩
  case round =>
    obtain ⟨k, hk, rfl, j, rfl⟩ := hrel
    by_cases hlt : k < ss.length
    · obtain ⟨a, Ad, cd, rfl, hab, x0, x1, x2, x3, hR, hd1, hd2⟩ := H.out.sht HS.out k hlt
      obtain ⟨a', Ad', cd', rfl, hab', y0, y1, y2, y3, hR', hd1', hd2'⟩ := H'.out.sht HS'.out k hlt
      have hcv := fun q => run_str (P := Try.prog) (src := 36) (dst := 9) (c := cd) (hR.drewN q) Try.underlying36 Try.underlying5 Try.underlying9
      have hcv' := fun q => run_str (P := Try.prog) (src := 36) (dst := 9) (c := cd') (hR'.drewN q) Try.underlying36 Try.underlying5 Try.underlying9
      have q1 : (0 : Int) ≤ (k : Int) := by omega
      have q2 : (k : Int) < (ss.length : Int) := by omega
      generalize ss[k] = s at *
      obtain ⟨sk, sa, sb, sd⟩ := s
      simp only at x0 x1 x2 x3 y0 y1 y2 y3 hcv hcv'
      have HR1 := Lib.hid hR; have HR2 := Lib.hid hR'; clear hR hR' hd1 hd2 hd1' hd2'
      go_wp2
      go_quiet (fail)
      go_wp2
      go_roundw
      case rel => exact ⟨k + 1, by omega, by go_num, _, rfl⟩
      case measure => simp [intOf]; omega
    · go_wp2
      go_ret
      exact ⟨rfl, _, rfl⟩
end Go.Proofs.Ytpnolgghbenekaa
