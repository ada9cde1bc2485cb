/-
  bushelref12.All.
-/
import Derived.Test.YtpnolgghbenekaaFactGetPure
import Derived.Test.YtpnolgghbenekaaFactSame2
namespace Go.Proofs.Ytpnolgghbenekaa
open Go.ChangeShapes Go.WideShapes Go.ChangeAt Go.RowKit
set_option linter.unusedVariables false

theorem allB_len {l m : List FactS} (h : l.length ≠ m.length) : allB l m = false := by unfold allB; rw [decide_eq_false h, Bool.false_and]
def sameTo (l m : List FactS) (k : Nat) : Prop := ∀ j, j < k → sameB (l.getD j ⟨[], [], []⟩) (m.getD j ⟨[], [], []⟩) = true
theorem sameTo.snoc {l m : List FactS} {k : Nat} (h : sameTo l m k) (hk : sameB (l.getD k ⟨[], [], []⟩) (m.getD k ⟨[], [], []⟩) = true) : sameTo l m (k + 1) := fun j hj => by
  by_cases e : j = k
  · subst e; exact hk
  · exact h j (by omega)
theorem allB_yes {l m : List FactS} (hl : l.length = m.length) (h : sameTo l m l.length) : allB l m = true := by
  unfold allB; rw [decide_eq_true hl, Bool.true_and, List.all_eq_true]; intro k hk; exact h k (List.mem_range.1 hk)
theorem allB_no {l m : List FactS} {k : Nat} (hk : k < l.length) (h : sameB (l.getD k ⟨[], [], []⟩) (m.getD k ⟨[], [], []⟩) = false) : allB l m = false := by
  unfold allB
  rw [Bool.and_eq_false_iff]
  right
  rw [List.all_eq_false]
  exact ⟨k, List.mem_range.2 hk, by rw [h]; decide⟩
set_option maxRecDepth 20000 in
set_option maxHeartbeats 4000000 in
theorem refAll_any (w : World) (B : Nat) (A A' : Option Addr) (c c' : Nat) (l m : List FactS) (g : SlR factR w B l A c) (g' : SlR factR w B m A' c') (hB : B ≤ w.heap.size) :
    Calls Try.prog 48 #[.slice A l.length c, .slice A' m.length c'] w fun y w' => y = .returned (.bool (allB l m)) ∧ Below w.heap.size w w' := by
  have hml : l.length ≤ 9223372036854775807 := by have h1 := g.1; have h2 := g.2.1; unfold maxLen at h2; omega
  have hmm : m.length ≤ 9223372036854775807 := by have h1 := g'.1; have h2 := g'.2.1; unfold maxLen at h2; omega
  have G := Lib.hid g; have G' := Lib.hid g'
  clear g g'
  by_cases hl : l.length = m.length
  case neg =>
    have t0 := ne_true hl
    have HH := Lib.hid (allB_len hl)
    clear hl
    go_enter Try.func48, Try.ntmps48
    go_wp2
    go_ret
    exact ⟨by rw [HH.out]; rfl, belR w⟩
  case pos =>
    have t0 := ne_false hl
    have HYES := Lib.hid (fun h => allB_yes (l := l) (m := m) hl h); have HNO := Lib.hid (fun k (hk : k < l.length) h => allB_no (l := l) (m := m) hk h); have HLL := Lib.hid hl
    go_enter Try.func48, Try.ntmps48
    go_wp2
    go_loopw [5] (fun i wr => ∃ k : Nat, k ≤ l.length ∧ i = .int .i64 (k : Int) ∧ Hid (sameTo l m k) ∧ Hid (Below w.heap.size w wr)) (fun i _ => l.length - (intOf i).toNat)
    case atStart => exact ⟨0, by omega, rfl, fun j hj => by omega, belR w⟩
    case round =>
      obtain ⟨k, hk, rfl, HS, HB⟩ := hrel
      by_cases hlt : k < l.length
      · obtain ⟨a, D0, d0, D1, d1, D2, d2, rfl, hab, x0, x1, x2, hf, hfo⟩ := (G.out.keep (HB.out.mono hB) (Nat.le_refl _)).fact3 hlt
        have hlt2 : k < m.length := by omega
        obtain ⟨a', E0, e0, E1, e1, E2, e2, rfl, hab', y0, y1, y2, hg, hgo⟩ := (G'.out.keep (HB.out.mono hB) (Nat.le_refl _)).fact3 hlt2
        have q1 : (0 : Int) ≤ (k : Int) := by omega
        have q2 : (k : Int) < (l.length : Int) := by omega
        have q3 : (k : Int) < (m.length : Int) := by omega
        have hz := HB.out.size
        have hs := HNO.out k hlt
        have hsn := fun h => HS.out.snoc (k := k) h
        rw [show l.getD k ⟨[], [], []⟩ = l[k] from by simp [List.getD, hlt], show m.getD k ⟨[], [], []⟩ = m[k] from by simp [List.getD, hlt2]] at hs hsn
        generalize l[k] = F at *
        generalize m[k] = F0 at *
        have hcs := refFactSame_any wr.drew B _ _ F F0 hf hg hfo hgo (show B ≤ wr.heap.size by omega)
        have HX0 := Lib.hid x0; have HSN := Lib.hid hsn; have HSF := Lib.hid hs
        cases hb : sameB F F0 with
        | true =>
          rw [hb] at hcs
          have HCS := Lib.hid hcs; have HBB := Lib.hid hb
          clear hcs hb hf hg hfo hgo hsn hs hl
          go_upto_region 6 with (fail)
          go_still_tail 8, (by kernel_rfl)
          go_wp2_with (go_at_call 31; (with_reducible refine HCS.out.mono ?_); rintro y w4 ⟨rfl, hb4⟩; have HB4 := Lib.hid (belT (belD HB.out 1) hb4); clear hb4)
          go_roundw
          case rel => exact ⟨k + 1, by omega, by go_num, HSN.out HBB.out, HB4.out⟩
          case measure => simp [intOf]; omega
        | false =>
          rw [hb] at hcs
          have HCS := Lib.hid hcs; have HBB := Lib.hid hb
          clear hcs hb hf hg hfo hgo hsn hs hl
          go_upto_region 6 with (fail)
          go_still_tail 8, (by kernel_rfl)
          go_wp2_with (go_at_call 31; (with_reducible refine HCS.out.mono ?_); rintro y w4 ⟨rfl, hb4⟩; have HB4 := Lib.hid (belT (belD HB.out 1) hb4); clear hb4)
          go_ret
          exact ⟨by rw [HSF.out HBB.out]; rfl, HB4.out⟩
      · obtain rfl : k = l.length := by omega
        have hr := HYES.out HS.out
        have HR := Lib.hid hr
        clear hr hl
        go_wp2
        go_ret
        exact ⟨by rw [HR.out]; rfl, HB.out⟩
end Go.Proofs.Ytpnolgghbenekaa
