/-
  bushellaw08.awake: the chapter's examples hold.
-/
import Derived.Test.YtpnolgghbenekaaBufOutAll
import Derived.Test.YtpnolgghbenekaaBufSmall
namespace Go.Proofs.Ytpnolgghbenekaa
open Go.ChangeShapes Go.WideShapes Go.ChangeAt Go.RowKit
set_option linter.unusedVariables false

theorem ex08_out : ([] ++ encU 5) ++ encT [97] = [1, 5, 97, 0, 0] := by decide
theorem ex08_in : inU [1, 5] 0 0 4 = (0, 0, 2) := by decide
theorem ex08_fault : faultP 0 2 = 0 := rfl
set_option maxRecDepth 20000 in
set_option maxHeartbeats 1000000 in
theorem awake08_any (w : World) : Calls Try.prog 33 #[] w fun y w' => y = .returned (.bool true) ∧ Below w.heap.size w w' := by
  go_enter Try.func33, Try.ntmps33
  go_wp2_with fail
  refine (newOut_any w).mono ?_
  rintro y w1 ⟨rfl, ho1, hb1⟩
  have hU : Calls Try.prog 70 #[.pointer (some ⟨w.heap.size, 0, none⟩), .int .u64 5] w1 fun y w' => y = .returned (.tuple #[]) ∧ OutS w' w.heap.size w.heap.size ([] ++ encU 5) ∧ Below w.heap.size w1 w' := outU_any w1 w.heap.size w.heap.size 5 [] ho1 (by decide) (by decide)
  have HU := Lib.hid hU; clear hU ho1
  go_wp2_with fail
  (with_reducible refine HU.out.mono ?_); rintro y w2 ⟨rfl, ho2, hb2⟩
  have hT : Calls Try.prog 71 #[.pointer (some ⟨w.heap.size, 0, none⟩), .string ⟨#[97]⟩] w2 fun y w' => y = .returned (.tuple #[]) ∧ OutS w' w.heap.size w.heap.size ([] ++ encU 5 ++ encT [97]) ∧ Below w.heap.size w2 w' := outT_any w2 w.heap.size w.heap.size ⟨#[97]⟩ ([] ++ encU 5) ho2 (by decide) (by decide)
  rw [ex08_out] at hT
  have HT := Lib.hid hT; clear hT ho2
  go_wp2_with fail
  (with_reducible refine HT.out.mono ?_); rintro y w3 ⟨rfl, ho3, hb3⟩
  have hw3 : Below w.heap.size w w3 := (hb1.trans hb2).trans hb3
  have hn : Calls Try.prog 34 #[.slice (some ⟨w3.heap.size, 0, none⟩) 2 2] (w3.alloc (.cells #[.int .u8 1, .int .u8 5] 5)) fun x w' => ∃ g, x = .returned (.pointer (some ⟨g, 0, none⟩)) ∧ (w3.alloc (.cells #[.int .u8 1, .int .u8 5] 5)).heap.size ≤ g ∧ InS w' g [1, 5] 0 0 ∧ Below (w3.alloc (.cells #[.int .u8 1, .int .u8 5] 5)).heap.size (w3.alloc (.cells #[.int .u8 1, .int .u8 5] 5)) w' := by
    refine newIn_any _ (some ⟨w3.heap.size, 0, none⟩) 2 2 [1, 5] ⟨rfl, fun _ => ⟨_, rfl, by simp, fun j u hj => ?_⟩⟩ (by decide)
    have hadd : (⟨w3.heap.size, 0, none⟩ : Addr).add j = ⟨w3.heap.size, j, none⟩ := by unfold Addr.add; split <;> simp_all
    rw [hadd, (Blk.new w3 5 #[.int .u8 1, .int .u8 5]).cell j]
    simpa [u8s] using hj
  have HN := Lib.hid hn; have HO3 := Lib.hid ho3; have HW3 := Lib.hid hw3; clear hn ho3 hb1 hb2 hb3 hw3
  go_wp2_with fail
  (with_reducible refine HN.out.mono ?_); rintro y w4 ⟨g, rfl, hg, hin, hb4⟩
  have hz : (w3.alloc (.cells #[.int .u8 1, .int .u8 5] 5)).heap.size = w3.heap.size + 1 := by simp
  have hw4 : Below w3.heap.size w3 w4 := (belA (belR w3) _).trans (hb4.mono (by omega))
  have hi : Calls Try.prog 55 #[.pointer (some ⟨g, 0, none⟩), .int .u64 4] w4 fun y w' => y = .returned (.int .u64 0) ∧ InS w' g [1, 5] 0 2 ∧ Only g w4 w' := by
    have := inU_any w4 g [1, 5] 0 0 4 hin
    rw [ex08_in] at this
    exact this
  have HI := Lib.hid hi; have HW4 := Lib.hid hw4; have HG := Lib.hid hg; have HZ := Lib.hid hz; clear hi hw4 hb4 hin hg hz
  go_wp2_with fail
  (with_reducible refine HI.out.mono ?_); rintro y w5 ⟨rfl, hin5, ho5⟩
  have hf : Calls Try.prog 37 #[.pointer (some ⟨g, 0, none⟩)] w5 fun y w' => y = .returned (.tuple #[.int .i64 0, .int .i64 2]) ∧ Drw w5 w' := fault_any w5 g [1, 5] 0 2 hin5
  have hw5 : Below w3.heap.size w3 w5 := HW4.out.trans (ho5.below (by have := HG.out; have := HZ.out; omega) HW4.out.size)
  have HF := Lib.hid hf; have HW5 := Lib.hid hw5; clear hf hw5 hin5 ho5
  go_wp2_with fail
  (with_reducible refine HF.out.mono ?_); rintro y w6 ⟨rfl, hd6⟩
  have hw6 : Below w3.heap.size w3 w6 := hd6.below HW5.out
  have hby := outBytes_any w6 w.heap.size w.heap.size [1, 5, 97, 0, 0] (HO3.out.below hw6) (by decide)
  have HBY := Lib.hid hby; have HW6 := Lib.hid hw6; clear hby hw6 hd6
  go_wp2_with (go_at_call 43; (with_reducible refine HBY.out.mono ?_); rintro y w7 ⟨v7, rfl, ho7, hb7⟩; have hcv := run_str_own (P := Try.prog) (src := 36) (dst := 9) ho7 Try.underlying36 Try.underlying5 Try.underlying9; clear ho7)
  go_ret
  exact ⟨rfl, belT (HW3.out.trans (HW6.out.mono HW3.out.size)) hb7⟩
end Go.Proofs.Ytpnolgghbenekaa
