/-
  bushellaw25.awake: the chapter's example holds.
-/
import Derived.Test.YtpnolgghbenekaaTreeSmall
import Derived.Test.YtpnolgghbenekaaTreeNodesW
namespace Go.Proofs.Ytpnolgghbenekaa
open Go.ChangeShapes Go.WideShapes Go.ChangeAt Go.RowKit
set_option linter.unusedVariables false

def exl : List (Nat × Int) := [(1, 3), (2, 1)]
def exd : List UInt8 := [1, 1, 1, 3, 1, 2, 1, 1]
theorem ex_rise : riseB exl = true := by decide
theorem ex_nodes : nodes 1 exl = [⟨4, 2, 1, exd⟩] := by rfl
theorem ex_read : rnode ⟨4, 2, 1, exd⟩ = (1, exl, 0) := by decide
theorem ex_seek7 : seekN exl 7 = 2 := by decide
theorem ex_seek0 : seekN exl 0 = 0 := by decide
theorem rd_lit {w : World} {T : TypeId} (l : List (Nat × Int)) (cs : Array Value) (h : cs.toList = entC l) : Rd (w.alloc (.cells cs T)) (w.heap.size + 1) 2 (some ⟨w.heap.size, 0, none⟩) l.length (entC l) := by
  refine ⟨entC_len l, fun _ => ⟨_, rfl, by simp, fun j u hj => ?_⟩⟩
  have hadd : (⟨w.heap.size, 0, none⟩ : Addr).add j = ⟨w.heap.size, j, none⟩ := by unfold Addr.add; split <;> simp_all
  rw [hadd, (Blk.new w T cs).cell j]
  rw [← h] at hj
  simpa using hj
set_option maxRecDepth 20000 in
set_option maxHeartbeats 1000000 in
theorem awake25_any (w : World) : Calls Try.prog 10 #[] w fun y w' => y = .returned (.bool true) ∧ Below w.heap.size w w' := by
  have hrd := rd_lit (w := w) (T := 102) exl #[.int .u64 1, .int .i64 3, .int .u64 2, .int .i64 1] rfl
  have hn : Calls Try.prog 12 #[.int .i64 1, .slice (some ⟨w.heap.size, 0, none⟩) 2 2] (w.alloc (.cells #[.int .u64 1, .int .i64 3, .int .u64 2, .int .i64 1] 102)) fun y w' => ∃ v xs, y = .returned (.tuple #[v, .int .i64 0]) ∧ w'.ownsRow (w.heap.size + 1) 38 4 v 1 xs ∧ ShR w' w'.heap.size [⟨4, 2, 1, exd⟩] xs ∧ Below (w.heap.size + 1) (w.alloc (.cells #[.int .u64 1, .int .i64 3, .int .u64 2, .int .i64 1] 102)) w' := by
    have := nodes_ok (w.alloc (.cells #[.int .u64 1, .int .i64 3, .int .u64 2, .int .i64 1] 102)) 1 (some ⟨w.heap.size, 0, none⟩) 2 2 (w.heap.size + 1) exl (by omega) (by omega) hrd (by omega) (by simp) ex_rise (by
      intro k hk
      have : k = 0 ∨ k = 1 := by simp [exl] at hk; omega
      rcases this with rfl | rfl <;> simp [exl])
    rw [ex_nodes] at this
    simp only [World.size_alloc] at this
    exact this
  have HN := Lib.hid hn; clear hn hrd
  go_enter Try.func10, Try.ntmps10
  go_wp2_with fail
  (with_reducible refine HN.out.mono ?_); rintro y w1 ⟨v, xs, rfl, ho, hs, hb1⟩
  obtain ⟨A, c, rfl, hc, hm, _⟩ := own_form ho
  obtain ⟨Ad, cd, e0, e1, e2, e3, hrd, hdc, hcm⟩ := hs.get 0 (by simp)
  obtain ⟨a, rfl, hab, hcell⟩ := (Rd.own ho).2 (by omega)
  have x0 := hcell _ _ e0; have x1 := hcell _ _ e1; have x2 := hcell _ _ e2; have x3 := hcell _ _ e3
  simp only [Nat.zero_mul, Nat.zero_add, add_zero', List.getElem_cons_zero] at x0 x1 x2 x3 hrd
  rw [show (1 : Nat) = 0 + 1 from rfl, add_succ] at x1
  rw [show (2 : Nat) = 1 + 1 from rfl, add_succ] at x2
  rw [show (3 : Nat) = 2 + 1 from rfl, add_succ] at x3
  have hr : Calls Try.prog 16 #[.agg #[.int .i64 4, .int .u64 2, .int .u64 1, .slice Ad exd.length cd]] w1 fun y w' =>
      ∃ v, y = .returned (.tuple #[.int .i64 1, v, .int .i64 0]) ∧ w'.ownsRow w1.heap.size 102 2 v 2 (entC exl) ∧ Below w1.heap.size w1 w' := by
    have := readNode_any w1 ⟨4, 2, 1, exd⟩ Ad cd hrd (by decide)
    rw [ex_read] at this
    exact this
  have HR := Lib.hid hr; have HB1 := Lib.hid hb1; have HO := Lib.hid ho; have HS := Lib.hid hs; have HRD := Lib.hid hrd; have HCELL := Lib.hid hcell; clear hr hb1 ho hs hrd hcell e0 e1 e2 e3
  go_wp2_with fail
  (with_reducible refine HR.out.mono ?_); rintro y w2 ⟨v2, rfl, ho2, hb2⟩
  obtain ⟨A2, c2, rfl, hc2, hm2, _⟩ := own_form ho2
  have hR2 := Rd.own ho2
  obtain ⟨a2, rfl, hab2, y0, y1⟩ := hR2.ent (k := 1) (by decide)
  have y0' : w2.cell? ⟨a2.block, a2.off + 2, none⟩ = some (.int .u64 2) := by
    rw [show 1 * 2 = 1 + 1 from rfl, add_succ] at y0; exact y0
  have y1' : w2.cell? ⟨a2.block, a2.off + 2 + 1, none⟩ = some (.int .i64 1) := by
    rw [show 1 * 2 = 1 + 1 from rfl, add_succ] at y1; exact y1
  have hs7 : Calls Try.prog 21 #[.slice (some a2) 2 c2, .int .u64 7] w2 fun y w' => y = .returned (.int .i64 1) ∧ w2 = w' := by
    have := seek_any (some a2) 2 c2 _ exl 7 w2 hR2 (by omega) ex_rise (by omega)
    rw [ex_seek7] at this; exact this
  have hs0 : Calls Try.prog 21 #[.slice (some a2) 2 c2, .int .u64 0] w2 fun y w' => y = .returned (.int .i64 (-1)) ∧ w2 = w' := by
    have := seek_any (some a2) 2 c2 _ exl 0 w2 hR2 (by omega) ex_rise (by omega)
    rw [ex_seek0] at this; exact this
  have H7 := Lib.hid hs7; have H0 := Lib.hid hs0; have HR2 := Lib.hid hR2; have HO2 := Lib.hid ho2; have HB2 := Lib.hid hb2; clear hs7 hs0 hR2 ho2 hb2 y0 y1
  go_wp2_with (first | (go_at_call 21; (with_reducible refine H7.out.mono ?_); rintro y w3 ⟨rfl, rfl⟩) | (go_at_call 21; (with_reducible refine H0.out.mono ?_); rintro y w3 ⟨rfl, rfl⟩))
  go_ret
  exact ⟨rfl, ((belA (belR w) _).trans (HB1.out.mono (Nat.le_succ _))).trans (HB2.out.mono (by have := HB1.out.size; simp at this; omega))⟩
end Go.Proofs.Ytpnolgghbenekaa
