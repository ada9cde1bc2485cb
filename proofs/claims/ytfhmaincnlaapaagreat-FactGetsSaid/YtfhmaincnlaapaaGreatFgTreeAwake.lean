/-
  bushellaw25.awake: the chapter's example holds.
  bushellaw25.entries, same; tree.Seek.
  bushelref25.ReadNode.
  THE DOCUMENT's READER: U, End.
  tree.ReadNode.
  A fact that bushelref12.Get is reading: its cell lies at w.heap.size, its rows behind that.
  bushelref11.Reader.Ask for a whole number and for a number's key.
  bushelref11.Reader.Ask of any question.
  bushelref12.Float: its answer in bits, and of the greatest key.
-/
import Derived.Test.YtfhmaincnlaapaaGreatFgRefRead
import Derived.Test.YtfhmaincnlaapaaGreatFgRefReadI
import Derived.Test.YtfhmaincnlaapaaGreatFgRefNodesW
import Derived.Test.YtfhmaincnlaapaaGreatFgGetLaw
import Derived.Test.YtfhmaincnlaapaaGreatFgSchemaKeys
import Derived.Test.YtfhmaincnlaapaaGreatFgReadLeaf
import Derived.Test.YtfhmaincnlaapaaGreatFgFloat12
namespace Go.Proofs.YtfhmaincnlaapaaGreat
open Go.ChangeShapes Go.WideShapes Go.ChangeAt Go.RowKit Ieee
set_option linter.unusedVariables false
theorem negF_add (r : Nat) (h : r < 9223372036854775808) : Op.negFloat .f64 r = 9223372036854775808 + r := by
  show r ^^^ 2 ^ 63 = _
  have e : (9223372036854775808 : Nat) = 2 ^ 63 := by decide
  rw [e] at h ⊢
  refine Nat.eq_of_testBit_eq fun i => ?_
  rw [Nat.testBit_xor, Nat.testBit_two_pow]
  rcases Nat.lt_trichotomy i 63 with hi | hi | hi
  · rw [Nat.testBit_two_pow_add_gt hi, decide_eq_false (by omega), Bool.xor_false]
  · subst hi
    rw [Nat.testBit_two_pow_add_eq, decide_eq_true rfl, Bool.xor_true]
  · have h1 : (2 : Nat) ^ 64 ≤ 2 ^ i := Nat.pow_le_pow_right (by decide) (by omega)
    have h2 : (2 : Nat) ^ 64 = 2 ^ 63 + 2 ^ 63 := by decide
    rw [Nat.testBit_lt_two_pow (Nat.lt_of_lt_of_le (by omega) h1), Nat.testBit_lt_two_pow (Nat.lt_of_lt_of_le (by omega) h1), decide_eq_false (by omega)]
    rfl
theorem sgnF_ff (b : Nat) : sgnF false b = b := rfl
theorem sgnF_tt (b : Nat) : sgnF true b = Op.negFloat .f64 b := rfl
theorem flo12_hi {k : Nat} (h1 : 9223372036854775808 ≤ k) (h2 : k - 9223372036854775808 ≤ irg) : flo12 k = k - 9223372036854775808 := by
  have e : rk12 k = k - 9223372036854775808 := by unfold rk12; exact if_neg (by omega)
  rw [flo12, e, decide_eq_false (by omega), Nat.min_eq_left h2, sgnF_ff]
theorem flo12_lo {k : Nat} (h1 : k < 9223372036854775808) (h2 : 9223372036854775807 - k ≤ irg) : flo12 k = 9223372036854775808 + (9223372036854775807 - k) := by
  have e : rk12 k = 9223372036854775807 - k := by unfold rk12; exact if_pos h1
  rw [flo12, e, decide_eq_true h1, Nat.min_eq_left h2, sgnF_tt]
  exact negF_add _ (by omega)
theorem flo12_from {k b : Nat} (h : fromB k = some b) (hk : k ≠ 18446744073709551615) : flo12 k = b := by
  rcases fromB_cases k b h with ⟨h1, _⟩ | ⟨h1, h2, h3⟩ | ⟨h1, h2, h3⟩
  · exact absurd h1 hk
  · rw [flo12_hi h1 h2, h3]
  · rw [flo12_lo h1 h2, h3]
theorem run_quo_bad {P : Program} (t : TypeId) (w : World) (x y : Nat) (h : FloatKind.f64.format.div x y = none) : ∃ q, nanB q = true ∧ q < 18446744073709551616 ∧ (binOp .quo t (.float .f64 x) (.float .f64 y)).run P w = .ok (.float .f64 q) w.drew := by
  refine ⟨Question.cut (.nanBits .f64 x y) (w.tape w.drawn (.nanBits .f64 x y)), ?_, ?_, ?_⟩
  · generalize w.tape w.drawn (.nanBits .f64 x y) = t
    have h1 := Nat.mod_lt (t / 2) (show 0 < 4503599627370495 by decide)
    refine decide_eq_true ?_
    show 9218868437227405312 < (t % 2 * 9223372036854775808 + 9218868437227405312 + 1 + t / 2 % 4503599627370495) % 9223372036854775808
    generalize t / 2 % 4503599627370495 = y at *
    omega
  · generalize w.tape w.drawn (.nanBits .f64 x y) = t
    have h1 := Nat.mod_lt (t / 2) (show 0 < 4503599627370495 by decide)
    show (t % 2 * 9223372036854775808 + 9218868437227405312 + 1 + t / 2 % 4503599627370495) < _
    generalize t / 2 % 4503599627370495 = y at *
    omega
  · simp [binOp, Op.floatArith, h, Question.forced]
theorem div_zero0 : FloatKind.f64.format.div 0 0 = none := by decide +kernel
set_option maxRecDepth 20000 in
set_option maxHeartbeats 4000000 in
theorem float12_nan (w : World) :
    Calls Tryz.prog 48 #[.int .u64 18446744073709551615] w fun y w' => RetFlo w (fun s => nanB s = true ∧ s < 18446744073709551616) y w' := by
  obtain ⟨q, hq, hl, hrun⟩ := run_quo_bad (P := Tryz.prog) 57 w 0 0 div_zero0
  have HQ := Lib.hid hq; have HL := Lib.hid hl
  clear hq hl
  go_enter Tryz.func48, Tryz.ntmps48
  go_wp2
  go_ret
  exact ⟨q, rfl, ⟨HQ.out, HL.out⟩, belD (belR w) 1⟩
/-- the number of any number's key is that number -/
theorem floatK_any (w : World) (b : Nat) : Calls Tryz.prog 48 #[.int .u64 (keyB b : Int)] w fun y w' => RetFlo w (fun s => keyB s = keyB b ∧ s < 18446744073709551616) y w' := by
  obtain ⟨c, h1, h2, h3⟩ := fromB_of_key b
  have hl := keyB_lt b
  rw [← h3]
  rw [← h3] at h1 hl
  generalize hk : keyB c = k at *
  by_cases hm : k = 18446744073709551615
  · have e : ((k : Nat) : Int) = 18446744073709551615 := by omega
    rw [e]
    refine (float12_nan w).mono ?_
    rintro y w' ⟨s, rfl, ⟨hs, hs2⟩, hb⟩
    exact ⟨s, rfl, ⟨by rw [keyB_nan s hs, hm], hs2⟩, hb⟩
  · refine (float12_any w k (by omega)).mono ?_
    rintro y w' ⟨s, rfl, rfl, hb⟩
    rw [flo12_from h1 hm]
    exact ⟨c, rfl, ⟨hk, h2⟩, hb⟩
end Go.Proofs.YtfhmaincnlaapaaGreat
namespace Go.Proofs.YtfhmaincnlaapaaGreat
open Go.ChangeShapes Go.WideShapes Go.ChangeAt Go.RowKit
set_option linter.unusedVariables false
set_option linter.unusedSimpArgs false
/-- the answer lies in a new cell -/
def AskCut (W0 : World) (u : Nat) (i : Int) (s : ByteArray) (n k : Nat) (v5 : Value) (wx : World) : Prop :=
  ∃ g5, v5 = .pointer (some ⟨g5, 0, none⟩) ∧ W0.heap.size ≤ g5 ∧ Blk wx g5 100 #[.int .u64 (u : Int), .int .i64 i, .string s, .int .i64 (n : Int), .int .i64 (k : Int)] ∧ Below W0.heap.size W0 wx
set_option maxRecDepth 20000 in
set_option maxHeartbeats 4000000 in
theorem ask_goB (w : World) (g : Nat) (t : List UInt8) (p : Nat) (d : Int) (mu : Nat) (ai : Int) (f : Nat) (at_ : ByteArray) (ms : Int) (u : Nat) (i : Int) (s : ByteArray) (n k : Nat) (h : RdS w g t p 0)
    (hr : ∀ (W : World) A c, g ≤ W.heap.size → Rd W g 1 A (t.length - p) (u8s (t.drop p)) → t.length - p ≤ c → c ≤ maxLen →
      Calls Tryz.prog 112 #[.agg #[.int .i64 d, .int .u64 (mu : Int), .int .i64 ai, .float .f64 f, .string at_, .int .i64 ms], .slice A (t.length - p) c] W fun y w' => y = .returned (.agg #[.int .u64 (u : Int), .int .i64 i, .string s, .int .i64 (n : Int), .int .i64 (k : Int)]) ∧ Below W.heap.size W w')
    (hfit : n ≤ t.length - p) :
    Calls Tryz.prog 47 #[.pointer (some ⟨g, 0, none⟩), .agg #[.int .i64 d, .int .u64 (mu : Int), .int .i64 ai, .float .f64 f, .string at_, .int .i64 ms]] w
      fun y w' => y = .returned (.agg #[.int .u64 (u : Int), .int .i64 i, .string s, .int .i64 (n : Int), .int .i64 (k : Int)]) ∧ RdS w' g t (p + n) k ∧ Only g w w' := by
  obtain ⟨W0, hW0⟩ : ∃ W0, W0 = (w.alloc (.cells #[.int .i64 d, .int .u64 (mu : Int), .int .i64 ai, .float .f64 f, .string at_, .int .i64 ms] 103)).alloc (.cells #[.int .u64 0, .int .i64 0, .string ⟨#[]⟩, .int .i64 0, .int .i64 0] 100) := ⟨_, rfl⟩
  have hbw : Below w.heap.size w W0 := by rw [hW0]; exact belA (belA (belR w) _) _
  have ka : Blk W0 w.heap.size 103 #[.int .i64 d, .int .u64 (mu : Int), .int .i64 ai, .float .f64 f, .string at_, .int .i64 ms] := by rw [hW0]; exact (Blk.new w _ _).alloc _
  have kr : Blk W0 (w.heap.size + 1) 100 #[.int .u64 0, .int .i64 0, .string ⟨#[]⟩, .int .i64 0, .int .i64 0] := by
    rw [hW0]; have := Blk.new (w.alloc (.cells #[.int .i64 d, .int .u64 (mu : Int), .int .i64 ai, .float .f64 f, .string at_, .int .i64 ms] 103)) 100 #[.int .u64 0, .int .i64 0, .string ⟨#[]⟩, .int .i64 0, .int .i64 0]
    simpa using this
  have hz1 : W0.heap.size = w.heap.size + 1 + 1 := by rw [hW0]; simp
  have hgl := h.lt
  have h0 := h.below hbw hgl
  have e2 : w.cell? ⟨g, 2, none⟩ = some (.int .i64 ((0 : Nat) : Int)) := by obtain ⟨_, _, hb, _⟩ := h; exact hb.cell 2
  simp only [show ((0 : Nat) : Int) = 0 from rfl] at e2
  have g1 : g < w.heap.size + 1 := by omega
  have hh := h0
  have l0 := ka.lt
  have l1 : g < W0.heap.size := h0.lt
  obtain ⟨A, c, hb, hR, h1, h2, h3⟩ := h0
  have kb := hb
  have b0 := hb.cell 0; have b1 := hb.cell 1; have b2 := hb.cell 2
  have a0 := ka.cell 0; have a1 := ka.cell 1; have a2 := ka.cell 2; have a3 := ka.cell 3; have a4 := ka.cell 4; have a5 := ka.cell 5
  simp at b0 b1 b2 a0 a1 a2 a3 a4 a5
  have h2' := h2; unfold maxLen at h2'
  obtain ⟨A', hsl, hR'⟩ := slice_from Tryz.underlying27 elu8 szu8 hR h3 h1
  have hc := fun (W : World) (hW : Below W0.heap.size W0 W) => hr W A' (c - p) (by have := hW.size; omega) (hR'.keep fun q hq => hW.cell (by omega)) (by omega) (by omega)
  have hbz : Below W0.heap.size W0 (W0.alloc (.cells #[.int .u64 0, .int .i64 0, .string ⟨#[]⟩, .int .i64 0, .int .i64 0] 100)).drew := (belA (belR W0) _).drew
  have hk1 : Blk (W0.alloc (.cells #[.int .u64 0, .int .i64 0, .string ⟨#[]⟩, .int .i64 0, .int .i64 0] 100)).drew W0.heap.size 100 #[.int .u64 0, .int .i64 0, .string ⟨#[]⟩, .int .i64 0, .int .i64 0] := (Blk.new W0 _ _).drew
  have HK1 := Lib.hid hk1; have HBZ := Lib.hid hbz; have HC := Lib.hid hc; have HW0 := Lib.hid hW0; have HBW := Lib.hid hbw; have HH := Lib.hid hh; have HKB := Lib.hid kb; have HKR := Lib.hid kr
  clear hk1 hbz hc hW0 hbw hh kb kr ka hb hR hR' hr h
  go_enter Tryz.func47, Tryz.ntmps47
  go_upto_region 3 with (fail)
  rw [← HW0.out]
  clear b2 e2 g1
  go_cut [5] (fun v5 wx => AskCut W0 u i s n k v5 wx)
  case first =>
    have HKP : Hid (∀ W, Below W0.heap.size W0 W → W.cell? ⟨w.heap.size, 0, none⟩ = some (.int .i64 d) ∧ W.cell? ⟨w.heap.size, 1, none⟩ = some (.int .u64 (mu : Int)) ∧ W.cell? ⟨w.heap.size, 2, none⟩ = some (.int .i64 ai) ∧ W.cell? ⟨w.heap.size, 3, none⟩ = some (.float .f64 f) ∧ W.cell? ⟨w.heap.size, 4, none⟩ = some (.string at_) ∧ W.cell? ⟨w.heap.size, 5, none⟩ = some (.int .i64 ms) ∧ W.cell? ⟨g, 0, none⟩ = some (.slice A t.length c) ∧ W.cell? ⟨g, 1, none⟩ = some (.int .i64 (p : Int))) := Lib.hid fun W hb => ⟨(hb.cell (p := ⟨w.heap.size, 0, none⟩) l0).trans a0, (hb.cell (p := ⟨w.heap.size, 1, none⟩) l0).trans a1, (hb.cell (p := ⟨w.heap.size, 2, none⟩) l0).trans a2, (hb.cell (p := ⟨w.heap.size, 3, none⟩) l0).trans a3, (hb.cell (p := ⟨w.heap.size, 4, none⟩) l0).trans a4, (hb.cell (p := ⟨w.heap.size, 5, none⟩) l0).trans a5, (hb.cell (p := ⟨g, 0, none⟩) l1).trans b0, (hb.cell (p := ⟨g, 1, none⟩) l1).trans b1⟩
    clear a0 a1 a2 a3 a4 a5 b0 b1 hz1
    refine wp_region_held_drew (S := (fun W => W.cell? ⟨w.heap.size, 0, none⟩ = some (.int .i64 d) ∧ W.cell? ⟨w.heap.size, 1, none⟩ = some (.int .u64 (mu : Int)) ∧ W.cell? ⟨w.heap.size, 2, none⟩ = some (.int .i64 ai) ∧ W.cell? ⟨w.heap.size, 3, none⟩ = some (.float .f64 f) ∧ W.cell? ⟨w.heap.size, 4, none⟩ = some (.string at_) ∧ W.cell? ⟨w.heap.size, 5, none⟩ = some (.int .i64 ms) ∧ W.cell? ⟨g, 0, none⟩ = some (.slice A t.length c) ∧ W.cell? ⟨g, 1, none⟩ = some (.int .i64 (p : Int)))) (by kernel_rfl) (HKP.out _ (belR W0).drew) (fun hHeld => ?_)
    refine rh_take 0 (some 12) (v := ?_) rfl rfl (by kernel_rfl) (by kernel_rfl) (by kernel_rfl) (by kernel_rfl) (fun _ _ _ h => h) hHeld ?_ ?_
    rotate_left
    · (intro w hSw; (try dsimp only at hSw); go_simp; try with_reducible rfl)
    try simp only [Act.put, List.setIfInBounds_toArray, List.set_cons_zero, List.set_cons_succ]
    refine rh_take 1 (some 13) (v := ?_) rfl rfl (by kernel_rfl) (by kernel_rfl) (by kernel_rfl) (by kernel_rfl) (fun _ _ _ h => h) hHeld ?_ ?_
    rotate_left
    · (intro w hSw; (try dsimp only at hSw); go_simp; try with_reducible rfl)
    try simp only [Act.put, List.setIfInBounds_toArray, List.set_cons_zero, List.set_cons_succ]
    refine rh_take 2 (some 14) (v := ?_) rfl rfl (by kernel_rfl) (by kernel_rfl) (by kernel_rfl) (by kernel_rfl) (fun _ _ _ h => h) hHeld ?_ ?_
    rotate_left
    · (intro w hSw; (try dsimp only at hSw); go_simp; try with_reducible rfl)
    try simp only [Act.put, List.setIfInBounds_toArray, List.set_cons_zero, List.set_cons_succ]
    refine rh_take 3 (some 15) (v := ?_) rfl rfl (by kernel_rfl) (by kernel_rfl) (by kernel_rfl) (by kernel_rfl) (fun _ _ _ h => h) hHeld ?_ ?_
    rotate_left
    · (intro w hSw; (try dsimp only at hSw); go_simp; try with_reducible rfl)
    try simp only [Act.put, List.setIfInBounds_toArray, List.set_cons_zero, List.set_cons_succ]
    refine rh_take 4 (some 16) (v := ?_) rfl rfl (by kernel_rfl) (by kernel_rfl) (by kernel_rfl) (by kernel_rfl) (fun _ _ _ h => h) hHeld ?_ ?_
    rotate_left
    · (intro w hSw; (try dsimp only at hSw); go_simp; try with_reducible rfl)
    try simp only [Act.put, List.setIfInBounds_toArray, List.set_cons_zero, List.set_cons_succ]
    refine rh_take 5 (some 17) (v := ?_) rfl rfl (by kernel_rfl) (by kernel_rfl) (by kernel_rfl) (by kernel_rfl) (fun _ _ _ h => h) hHeld ?_ ?_
    rotate_left
    · (intro w hSw; (try dsimp only at hSw); go_simp; try with_reducible rfl)
    try simp only [Act.put, List.setIfInBounds_toArray, List.set_cons_zero, List.set_cons_succ]
    refine rh_take 6 (some 18) (v := ?_) rfl rfl (by kernel_rfl) (by kernel_rfl) (by kernel_rfl) (by kernel_rfl) (fun _ _ _ h => h) hHeld ?_ ?_
    rotate_left
    · (intro w hSw; (try dsimp only at hSw); go_simp; try with_reducible rfl)
    try simp only [Act.put, List.setIfInBounds_toArray, List.set_cons_zero, List.set_cons_succ]
    refine rh_take 7 (some 19) (v := ?_) rfl rfl (by kernel_rfl) (by kernel_rfl) (by kernel_rfl) (by kernel_rfl) (fun _ _ _ h => h) hHeld ?_ ?_
    rotate_left
    · (intro w hSw; (try dsimp only at hSw); go_simp; try with_reducible rfl)
    try simp only [Act.put, List.setIfInBounds_toArray, List.set_cons_zero, List.set_cons_succ]
    refine rh_take 8 (some 20) (v := ?_) rfl rfl (by kernel_rfl) (by kernel_rfl) (by kernel_rfl) (by kernel_rfl) (fun _ _ _ h => h) hHeld ?_ ?_
    rotate_left
    · (intro w hSw; (try dsimp only at hSw); go_simp; try with_reducible rfl)
    try simp only [Act.put, List.setIfInBounds_toArray, List.set_cons_zero, List.set_cons_succ]
    refine rh_take 9 (some 21) (v := ?_) rfl rfl (by kernel_rfl) (by kernel_rfl) (by kernel_rfl) (by kernel_rfl) (fun _ _ _ h => h) hHeld ?_ ?_
    rotate_left
    · (intro w hSw; (try dsimp only at hSw); go_simp; try with_reducible rfl)
    try simp only [Act.put, List.setIfInBounds_toArray, List.set_cons_zero, List.set_cons_succ]
    refine rh_call2 10 11 (some 22) (some 5) (by kernel_rfl) rfl rfl rfl rfl (by kernel_rfl) (by kernel_rfl) (fun K hK => ?_) (fun K hK => ?_)
    · clear hHeld
      go_simp
      go_at_call 112; (with_reducible refine (HC.out _ ((belR W0).drew)).mono ?_); rintro y w5 ⟨rfl, hb5⟩; have HB5 := Lib.hid hb5; have HW5 := Lib.hid ((belR W0).drew.trans hb5); clear hb5
      refine hK.out _ _ (HKP.out _ HW5.out) (fun hHeld => ?_)
      clear hK K
      try simp only [Act.put, List.setIfInBounds_toArray, List.set_cons_zero, List.set_cons_succ]
      refine rh_call 11 (some 5) (by kernel_rfl) rfl rfl (by kernel_rfl) (fun K hK => ?_)
      clear hHeld
      go_simp
      refine hK.out _ _ (HKP.out _ (belA HW5.out _)) (fun hHeld => ?_)
      clear hK K
      try simp only [Act.put, List.setIfInBounds_toArray, List.set_cons_zero, List.set_cons_succ]
      refine rh_call 12 none (by kernel_rfl) rfl rfl (by kernel_rfl) (fun K hK => ?_)
      clear hHeld
      go_simp
      refine hK.out _ _ (HKP.out _ (belA HW5.out _)) (fun hHeld => ?_)
      clear hK K
      try simp only [Act.put, List.setIfInBounds_toArray, List.set_cons_zero, List.set_cons_succ]
      refine wpAnyH_done (by kernel_rfl) ?_ _
      clear hHeld
      go_wp2
      go_meet
      case rel => exact ⟨_, rfl, HW5.out.size, Blk.new _ _ _, belA HW5.out _⟩
    · clear hHeld
      go_simp
      refine hK.out _ _ (HKP.out _ HBZ.out) (fun hHeld => ?_)
      clear hK K
      try simp only [Act.put, List.setIfInBounds_toArray, List.set_cons_zero, List.set_cons_succ]
      refine rh_call 10 (some 22) (by kernel_rfl) rfl rfl (by kernel_rfl) (fun K hK => ?_)
      clear hHeld
      go_simp
      go_at_call 112; (with_reducible refine (HC.out _ (HBZ.out)).mono ?_); rintro y w5 ⟨rfl, hb5⟩; have HB5 := Lib.hid hb5; have hk5 := HK1.out.below hb5 HK1.out.lt; have z0 := hk5.cell 0; have z1 := hk5.cell 1; have z2 := hk5.cell 2; have z3 := hk5.cell 3; have z4 := hk5.cell 4; have f0 := hk5.frozen 0; have f1 := hk5.frozen 1; have f2 := hk5.frozen 2; have f3 := hk5.frozen 3; have f4 := hk5.frozen 4; simp at z0 z1 z2 z3 z4; have HK5 := Lib.hid hk5; have HW5 := Lib.hid (belT HBZ.out hb5); clear hb5 hk5
      refine hK.out _ _ (HKP.out _ HW5.out) (fun hHeld => ?_)
      clear hK K
      try simp only [Act.put, List.setIfInBounds_toArray, List.set_cons_zero, List.set_cons_succ]
      refine rh_call 12 none (by kernel_rfl) rfl rfl (by kernel_rfl) (fun K hK => ?_)
      clear hHeld
      go_simp
      refine hK.out _ _ (HKP.out _ ((bel4 HW5.out (Nat.le_refl _) _ _ _ _).setCell (p := ⟨W0.heap.size, 4, none⟩) (Nat.le_refl _) _)) (fun hHeld => ?_)
      clear hK K
      try simp only [Act.put, List.setIfInBounds_toArray, List.set_cons_zero, List.set_cons_succ]
      refine wpAnyH_done (by kernel_rfl) ?_ _
      clear hHeld
      go_wp2
      go_meet
      case rel => exact ⟨_, rfl, Nat.le_refl _, ((((HK5.out.set_ 0 (.int .u64 (u : Int))).set_ 1 (.int .i64 i)).set_ 2 (.string s)).set_ 3 (.int .i64 (n : Int))).set_ 4 (.int .i64 (k : Int)), (bel4 HW5.out (Nat.le_refl _) _ _ _ _).setCell (p := ⟨W0.heap.size, 4, none⟩) (Nat.le_refl _) _⟩
  case rest =>
    obtain ⟨g5, rfl, hg5, hk5, hb5⟩ := hcut
    have kb5 := HKB.out.below hb5 l1
    have kr5 := HKR.out.below hb5 HKR.out.lt
    have x0 := hk5.cell 0; have x1 := hk5.cell 1; have x2 := hk5.cell 2; have x3 := hk5.cell 3; have x4 := hk5.cell 4
    have b1 := kb5.cell 1; have b2 := kb5.cell 2; have f1 := kb5.frozen 1; have f2 := kb5.frozen 2
    have r0 := kr5.cell 0; have r1 := kr5.cell 1; have r2 := kr5.cell 2; have r3 := kr5.cell 3; have r4 := kr5.cell 4
    have q0 := kr5.frozen 0; have q1 := kr5.frozen 1; have q2 := kr5.frozen 2; have q3 := kr5.frozen 3; have q4 := kr5.frozen 4
    simp at x0 x1 x2 x3 x4 b1 b2 r0 r1 r2 r3 r4
    have n1 : g ≠ g5 := by omega
    have n2 : g ≠ w.heap.size + 1 := by omega
    have n3 : g5 ≠ w.heap.size + 1 := by omega
    have n4 : ¬ g5 = g := by omega
    have n5 : ¬ w.heap.size + 1 = g := by omega
    have n6 : ¬ w.heap.size + 1 = g5 := by omega
    have HM := Lib.hid (((HH.out.below hb5 l1).bad k).move (p + n) (by omega))
    rw [show ((p + n : Nat) : Int) = (p : Int) + (n : Int) from by omega] at HM
    have HON := Lib.hid (((Only.refl g w).trans (Only.of_below (belT HBW.out hb5) g)).set_ (p := ⟨g, 2, none⟩) (.inl rfl) (.int .i64 (k : Int)) |>.set_ (p := ⟨g, 1, none⟩) (.inl rfl) (.int .i64 ((p : Int) + (n : Int))))
    clear hk5 hb5 kb5 kr5 HC HK1 HBZ
    go_wp2
    go_region
    go_wp2
    refine bodyPost_ret (v := .agg #[.int .u64 (u : Int), .int .i64 i, .string s, .int .i64 (n : Int), .int .i64 (k : Int)]) (by simp [results, Tryz.results47, go_sem, *]) rfl ⟨rfl, ?_, ?_⟩
    · exact HM.out.below (B := w.heap.size + 1) ((((((Below.refl (w.heap.size + 1) _).setCell (p := ⟨w.heap.size + 1, 0, none⟩) (Nat.le_refl _) _).setCell (p := ⟨w.heap.size + 1, 1, none⟩) (Nat.le_refl _) _).setCell (p := ⟨w.heap.size + 1, 2, none⟩) (Nat.le_refl _) _).setCell (p := ⟨w.heap.size + 1, 3, none⟩) (Nat.le_refl _) _).setCell (p := ⟨w.heap.size + 1, 4, none⟩) (Nat.le_refl _) _).drew (by omega)
    · exact (((((HON.out.set_ (p := ⟨w.heap.size + 1, 0, none⟩) (.inr (Nat.le_succ _)) _).set_ (p := ⟨w.heap.size + 1, 1, none⟩) (.inr (Nat.le_succ _)) _).set_ (p := ⟨w.heap.size + 1, 2, none⟩) (.inr (Nat.le_succ _)) _).set_ (p := ⟨w.heap.size + 1, 3, none⟩) (.inr (Nat.le_succ _)) _).set_ (p := ⟨w.heap.size + 1, 4, none⟩) (.inr (Nat.le_succ _)) _).belowT (belR _).drew
end Go.Proofs.YtfhmaincnlaapaaGreat
namespace Go.Proofs.YtfhmaincnlaapaaGreat
open Go.ChangeShapes Go.WideShapes Go.ChangeAt Go.RowKit
set_option linter.unusedVariables false
/-- what an ask gives that read i (or the key u) -/
def RetAsk (w : World) (g : Nat) (t : List UInt8) (u : Nat) (i : Int) (p e : Nat) (y : Ending) (w' : World) : Prop := ∃ s n k, y = .returned (.agg #[.int .u64 (u : Int), .int .i64 i, .string s, .int .i64 n, .int .i64 k]) ∧ RdS w' g t p e ∧ Only g w w'
theorem askI_any (w : World) (g : Nat) (t : List UInt8) (p e : Nat) (h : RdS w g t p e) (ht : t.length ≤ 1000000) :
    Calls Tryz.prog 47 #[.pointer (some ⟨g, 0, none⟩), .agg #[.int .i64 1, .int .u64 0, .int .i64 0, .float .f64 0, .string ⟨#[]⟩, .int .i64 0]] w
      fun y w' => RetAsk w g t 0 (stepV (0 : Int) (getI (t.drop p)).1 (stepE e (getI (t.drop p)).2.2 0)) (stepP p (getI (t.drop p)).2.1 (stepE e (getI (t.drop p)).2.2 0)) (stepE e (getI (t.drop p)).2.2 0) y w' := by
  by_cases he : e = 0
  · subst he
    have hp : p ≤ t.length := by obtain ⟨_, _, _, _, _, _, hp⟩ := h; exact hp
    have hl : (t.drop p).length = t.length - p := by simp
    have hr := fun (W : World) A c (hg : g ≤ W.heap.size) (hR : Rd W g 1 A (t.length - p) (u8s (t.drop p))) (hmc : t.length - p ≤ c) (hc : c ≤ maxLen) => refRead1 0 0 0 ⟨#[]⟩ 0 A (t.length - p) c g (t.drop p) W hR (by omega) hmc hc hg
    by_cases her : (getI (t.drop p)).2.2 = 0
    · have hbk := (getI_back (t.drop p) her).2
      rw [hl] at hbk
      have hv : rdI (t.drop p) = ⟨0, (getI (t.drop p)).1, [], (getI (t.drop p)).2.1, 0⟩ := by unfold rdI; rw [if_neg (by omega)]
      simp only [hv] at hr
      refine (ask_goB w g t p 1 0 0 0 ⟨#[]⟩ 0 0 (getI (t.drop p)).1 ⟨#[]⟩ (getI (t.drop p)).2.1 0 h hr hbk).mono ?_
      rintro y w' ⟨rfl, hi, ho⟩
      have e1 : stepE 0 (getI (t.drop p)).2.2 0 = 0 := by unfold stepE; rw [if_neg (by omega), if_neg (by omega)]
      rw [e1]
      exact ⟨_, _, _, rfl, hi, ho⟩
    · have hv : rdI (t.drop p) = got0S (getI (t.drop p)).2.2 := by unfold rdI; rw [if_pos her]
      simp only [hv] at hr
      refine (ask_goB w g t p 1 0 0 0 ⟨#[]⟩ 0 0 0 ⟨#[]⟩ 0 (getI (t.drop p)).2.2 h hr (Nat.zero_le _)).mono ?_
      rintro y w' ⟨rfl, hi, ho⟩
      have e1 : stepE 0 (getI (t.drop p)).2.2 0 = (getI (t.drop p)).2.2 := by unfold stepE; rw [if_neg (by omega), if_pos her]
      rw [e1]
      have e2 : stepV (0 : Int) (getI (t.drop p)).1 (getI (t.drop p)).2.2 = 0 := if_neg her
      have e3 : stepP p (getI (t.drop p)).2.1 (getI (t.drop p)).2.2 = p := if_neg her
      rw [e2, e3]
      exact ⟨_, _, _, rfl, hi, ho⟩
  · refine (ask_no w g t p e 1 0 0 0 ⟨#[]⟩ 0 h he).mono ?_
    rintro y w' ⟨rfl, hi, hb⟩
    rw [stepE_bad he, stepP_bad he]
    have e2 : stepV (0 : Int) (getI (t.drop p)).1 e = 0 := if_neg he
    rw [e2]
    exact ⟨_, _, _, rfl, hi, Only.of_below hb g⟩
theorem askF_any (w : World) (g : Nat) (t : List UInt8) (p e : Nat) (h : RdS w g t p e) :
    Calls Tryz.prog 47 #[.pointer (some ⟨g, 0, none⟩), .agg #[.int .i64 2, .int .u64 0, .int .i64 0, .float .f64 0, .string ⟨#[]⟩, .int .i64 0]] w
      fun y w' => RetAsk w g t (stepV (0 : Nat) (rgetF (t.drop p)).1 (stepE e (getF (t.drop p)).2.2 0)) 0 (stepP p (getF (t.drop p)).2.1 (stepE e (getF (t.drop p)).2.2 0)) (stepE e (getF (t.drop p)).2.2 0) y w' := by
  obtain ⟨d1, _, d3⟩ := getF_doc (t.drop p)
  by_cases he : e = 0
  · subst he
    have hp : p ≤ t.length := by obtain ⟨_, _, _, _, _, _, hp⟩ := h; exact hp
    have hl : (t.drop p).length = t.length - p := by simp
    have hr := fun (W : World) A c (hg : g ≤ W.heap.size) (hR : Rd W g 1 A (t.length - p) (u8s (t.drop p))) (hmc : t.length - p ≤ c) (hc : c ≤ maxLen) => refRead2 0 0 0 ⟨#[]⟩ 0 A (t.length - p) c g (t.drop p) W hR (by omega) hg
    by_cases her : (getF (t.drop p)).2.2 = 0
    · have hbk := (getF_back (t.drop p) her).2
      have h8 := (d3 (by rw [← d1]; exact her)).1
      rw [hl, h8] at hbk
      have hv : rdF (t.drop p) = ⟨(rgetF (t.drop p)).1, 0, [], 8, 0⟩ := by unfold rdF; rw [if_neg (by omega)]
      simp only [hv] at hr
      refine (ask_goB w g t p 2 0 0 0 ⟨#[]⟩ 0 (rgetF (t.drop p)).1 0 ⟨#[]⟩ 8 0 h hr hbk).mono ?_
      rintro y w' ⟨rfl, hi, ho⟩
      have e1 : stepE 0 (getF (t.drop p)).2.2 0 = 0 := by unfold stepE; rw [if_neg (by omega), if_neg (by omega)]
      rw [e1, h8]
      exact ⟨_, _, _, rfl, hi, ho⟩
    · have hv : rdF (t.drop p) = got0S (getF (t.drop p)).2.2 := by unfold rdF; rw [if_pos (by rw [← d1]; exact her), d1]
      simp only [hv] at hr
      refine (ask_goB w g t p 2 0 0 0 ⟨#[]⟩ 0 0 0 ⟨#[]⟩ 0 (getF (t.drop p)).2.2 h hr (Nat.zero_le _)).mono ?_
      rintro y w' ⟨rfl, hi, ho⟩
      have e1 : stepE 0 (getF (t.drop p)).2.2 0 = (getF (t.drop p)).2.2 := by unfold stepE; rw [if_neg (by omega), if_pos her]
      rw [e1]
      have e2 : stepV (0 : Nat) (rgetF (t.drop p)).1 (getF (t.drop p)).2.2 = 0 := if_neg her
      have e3 : stepP p (getF (t.drop p)).2.1 (getF (t.drop p)).2.2 = p := if_neg her
      rw [e2, e3]
      exact ⟨_, _, _, rfl, hi, ho⟩
  · refine (ask_no w g t p e 2 0 0 0 ⟨#[]⟩ 0 h he).mono ?_
    rintro y w' ⟨rfl, hi, hb⟩
    rw [stepE_bad he, stepP_bad he]
    have e2 : stepV (0 : Nat) (rgetF (t.drop p)).1 e = 0 := if_neg he
    rw [e2]
    exact ⟨_, _, _, rfl, hi, Only.of_below hb g⟩
end Go.Proofs.YtfhmaincnlaapaaGreat
namespace Go.Proofs.YtfhmaincnlaapaaGreat
open Go.ChangeShapes Go.WideShapes Go.ChangeAt Go.RowKit
set_option linter.unusedVariables false
structure DocOne (w wr : World) (g : Nat) (t : List UInt8) (v0 v1 v2 : Value) (a b : List Int) (c : List Nat) (p e : Nat) : Prop where
  f : Blk wr w.heap.size 86 #[v0, v1, v2]
  o0 : wr.ownsRow (w.heap.size + 1) 3 1 v0 a.length (i64s a)
  o1 : wr.ownsRow (w.heap.size + 1) 2 1 v1 b.length (i64s b)
  o2 : wr.ownsRow (w.heap.size + 1) 57 1 v2 c.length (f64s c)
  i : RdS wr g t p e
  n : Only g w wr
section
variable {w wr w2 w3 : World} {g : Nat} {t : List UInt8} {v0 v1 v2 v' : Value} {a b : List Int} {c : List Nat} {p e p' e' : Nat}
theorem DocOne.lt (h : DocOne w wr g t v0 v1 v2 a b c p e) : w.heap.size + 1 ≤ wr.heap.size := h.f.lt
theorem DocOne.drew (h : DocOne w wr g t v0 v1 v2 a b c p e) : DocOne w wr.drew g t v0 v1 v2 a b c p e :=
  ⟨h.f, own_drewN h.o0 1, own_drewN h.o1 1, own_drewN h.o2 1, h.i, h.n.drew⟩
theorem DocOne.alloc (h : DocOne w wr g t v0 v1 v2 a b c p e) (o : Obj) : DocOne w (wr.alloc o) g t v0 v1 v2 a b c p e :=
  ⟨h.f.alloc o, h.o0.alloc o, h.o1.alloc o, h.o2.alloc o, h.i.below (belA (belR wr) o) h.i.lt, h.n.alloc o⟩
theorem DocOne.start (h : RdS w g t p e) : DocOne w (w.alloc (.cells #[.slice none 0 0, .slice none 0 0, .slice none 0 0] 86)) g t (.slice none 0 0) (.slice none 0 0) (.slice none 0 0) [] [] [] p e :=
  ⟨Blk.new w _ _, World.ownsRow_nil _ _ _ 1, World.ownsRow_nil _ _ _ 1, World.ownsRow_nil _ _ _ 1, h.below (belA (belR w) _) h.lt, Only.of_below (belA (belR w) _) g⟩
theorem DocOne.only (h : DocOne w wr g t v0 v1 v2 a b c p e) (hg : g < w.heap.size) (k : Only g wr w2) (hi : RdS w2 g t p' e') : DocOne w w2 g t v0 v1 v2 a b c p' e' :=
  ⟨k.blk h.f (by omega), k.own h.o0 (own_far h.o0 (by omega)), k.own h.o1 (own_far h.o1 (by omega)), k.own h.o2 (own_far h.o2 (by omega)), hi, h.n.trans k⟩
theorem DocOne.below (h : DocOne w wr g t v0 v1 v2 a b c p e) (hg : g < w.heap.size) (k : Below wr.heap.size wr w2) : DocOne w w2 g t v0 v1 v2 a b c p e :=
  h.only hg (Only.of_below k g) (h.i.below k h.i.lt)
theorem DocOne.appd (h : DocOne w wr g t v0 v1 v2 a b c p e) (hg : g < w.heap.size) {u : Value} (k : Appd wr w3 u v') (hu : ∀ j, u.ownBlock = some j → w.heap.size + 1 ≤ j) :
    Blk w3 w.heap.size 86 #[v0, v1, v2] ∧ RdS w3 g t p e ∧ Only g w w3 := by
  have hb : Below (w.heap.size + 1) wr w3 := (Below.refl _ _).grown k.1 h.lt hu
  exact ⟨h.f.below hb (by omega), h.i.below hb (by omega), h.n.appd k fun j hj => .inr (by have := hu j hj; omega)⟩
theorem DocOne.put0 (h : DocOne w wr g t v0 v1 v2 a b c p e) (hg : g < w.heap.size) (x : Int) (ho : w3.ownsRow (w.heap.size + 1) 3 1 v' (a.length + 1) (i64s a ++ [.int .i64 x])) (k : Appd wr w3 v0 v') :
    Blk w3 w.heap.size 86 #[v0, v1, v2] ∧ DocOne w (w3.setCell ⟨w.heap.size, 0, none⟩ v') g t v' v1 v2 (a ++ [x]) b c p e := by
  obtain ⟨hf, hi, hn⟩ := h.appd hg k fun j hj => (h.o0.lt j hj).1
  have h1 := k.kept h.o1 (own_own_ne h.o1 h.o0 (by decide)); have h2 := k.kept h.o2 (own_own_ne h.o2 h.o0 (by decide))
  have hset := Only.set1 w3 w.heap.size 0 v'
  have hbel : Below w.heap.size w3 (w3.setCell ⟨w.heap.size, 0, none⟩ v') := (Below.refl w.heap.size w3).setCell (p := ⟨w.heap.size, 0, none⟩) (Nat.le_refl _) v'
  refine ⟨hf, by simpa using hf.set_ 0 v', ?_, hset.own h1 (own_far h1 (by omega)), hset.own h2 (own_far h2 (by omega)), hi.below hbel (by omega), hn.set_ (.inr (by simp only; omega)) _⟩
  have := hset.own ho (own_far ho (by omega))
  simpa [i64s] using this
theorem DocOne.put1 (h : DocOne w wr g t v0 v1 v2 a b c p e) (hg : g < w.heap.size) (x : Int) (ho : w3.ownsRow (w.heap.size + 1) 2 1 v' (b.length + 1) (i64s b ++ [.int .i64 x])) (k : Appd wr w3 v1 v') :
    Blk w3 w.heap.size 86 #[v0, v1, v2] ∧ DocOne w (w3.setCell ⟨w.heap.size, 1, none⟩ v') g t v0 v' v2 a (b ++ [x]) c p e := by
  obtain ⟨hf, hi, hn⟩ := h.appd hg k fun j hj => (h.o1.lt j hj).1
  have h1 := k.kept h.o0 (own_own_ne h.o0 h.o1 (by decide)); have h2 := k.kept h.o2 (own_own_ne h.o2 h.o1 (by decide))
  have hset := Only.set1 w3 w.heap.size 1 v'
  have hbel : Below w.heap.size w3 (w3.setCell ⟨w.heap.size, 1, none⟩ v') := (Below.refl w.heap.size w3).setCell (p := ⟨w.heap.size, 1, none⟩) (Nat.le_refl _) v'
  refine ⟨hf, by simpa using hf.set_ 1 v', hset.own h1 (own_far h1 (by omega)), ?_, hset.own h2 (own_far h2 (by omega)), hi.below hbel (by omega), hn.set_ (.inr (by simp only; omega)) _⟩
  have := hset.own ho (own_far ho (by omega))
  simpa [i64s] using this
theorem DocOne.put2 (h : DocOne w wr g t v0 v1 v2 a b c p e) (hg : g < w.heap.size) (x : Nat) (ho : w3.ownsRow (w.heap.size + 1) 57 1 v' (c.length + 1) (f64s c ++ [.float .f64 x])) (k : Appd wr w3 v2 v') :
    Blk w3 w.heap.size 86 #[v0, v1, v2] ∧ DocOne w (w3.setCell ⟨w.heap.size, 2, none⟩ v') g t v0 v1 v' a b (c ++ [x]) p e := by
  obtain ⟨hf, hi, hn⟩ := h.appd hg k fun j hj => (h.o2.lt j hj).1
  have h1 := k.kept h.o0 (own_own_ne h.o0 h.o2 (by decide)); have h2 := k.kept h.o1 (own_own_ne h.o1 h.o2 (by decide))
  have hset := Only.set1 w3 w.heap.size 2 v'
  have hbel : Below w.heap.size w3 (w3.setCell ⟨w.heap.size, 2, none⟩ v') := (Below.refl w.heap.size w3).setCell (p := ⟨w.heap.size, 2, none⟩) (Nat.le_refl _) v'
  refine ⟨hf, by simpa using hf.set_ 2 v', hset.own h1 (own_far h1 (by omega)), hset.own h2 (own_far h2 (by omega)), ?_, hi.below hbel (by omega), hn.set_ (.inr (by simp only; omega)) _⟩
  have := hset.own ho (own_far ho (by omega))
  simpa [f64s] using this
end
/-- the facts read so far -/
structure DocGet (w wr : World) (g : Nat) (t : List UInt8) (SV : Array Value) (ov : Value) (m : List FactS) (p e : Nat) : Prop where
  s : Blk wr w.heap.size 26 SV
  o : ∃ xs, wr.ownsRow (g + 1) 86 3 ov m.length xs ∧ FaO wr (g + 1) m xs
  i : RdS wr g t p e
  b : Below w.heap.size w wr
theorem DocGet.one {w wr w2 w3 : World} {g : Nat} {t : List UInt8} {SV : Array Value} {ov ov' : Value} {m : List FactS} {F : FactS} {p' e' : Nat} {v0 v1 v2 : Value} {xs : List Value} (hg : w.heap.size + 1 ≤ g)
    (s : Blk wr w.heap.size 26 SV) (b : Below w.heap.size w wr) (o : wr.ownsRow (g + 1) 86 3 ov m.length xs) (f : FaO wr (g + 1) m xs) (hgl : g < wr.heap.size)
    (h : DocOne wr w2 g t v0 v1 v2 F.codes F.ints F.nums p' e') (ho : w3.ownsRow (g + 1) 86 3 ov' (m.length + 1) (xs ++ [v0, v1, v2])) (hap : Appd w2 w3 ov ov') : DocGet w w3 g t SV ov' (m ++ [F]) p' e' := by
  have k := h.n
  have ow2 := k.own o (own_far o (by omega))
  have hz := k.size
  have hb3 : Below (g + 1) w2 w3 := hap.below (by omega) ow2
  have hzb := b.size
  refine ⟨(k.blk s (by omega)).below hb3 (by omega), ⟨_, by rw [List.length_append]; exact ho, ?_⟩, h.i.below hb3 (by omega), (b.trans (k.below (by omega) (by omega))).trans (hb3.mono (by omega))⟩
  exact ((f.only k (by omega)).appd hap ow2).snoc (own_mono (hap.kept h.o0 (own_own_ne h.o0 ow2 (by decide))) (by omega)) (own_mono (hap.kept h.o1 (own_own_ne h.o1 ow2 (by decide))) (by omega)) (own_mono (hap.kept h.o2 (own_own_ne h.o2 ow2 (by decide))) (by omega))
theorem DocGet.drw {w wr w2 : World} {g : Nat} {t : List UInt8} {SV : Array Value} {ov : Value} {m : List FactS} {p e : Nat} (h : DocGet w wr g t SV ov m p e) (k : Drw wr w2) : DocGet w w2 g t SV ov m p e := by
  obtain ⟨n, rfl⟩ := k
  obtain ⟨xs, h1, h2⟩ := h.o
  exact ⟨h.s, ⟨xs, h1, h2.drewN n⟩, h.i, below_drewN h.b n⟩
end Go.Proofs.YtfhmaincnlaapaaGreat
namespace Go.Proofs.YtfhmaincnlaapaaGreat
open Go.ChangeShapes Go.WideShapes Go.ChangeAt Go.RowKit
set_option linter.unusedVariables false

end Go.Proofs.YtfhmaincnlaapaaGreat
namespace Go.Proofs.YtfhmaincnlaapaaGreat
open Go.ChangeShapes Go.WideShapes Go.ChangeAt Go.RowKit
set_option linter.unusedVariables false

theorem stepP_eq (p n k : Nat) : stepP p n k = p + stepV 0 n k := by unfold stepP stepV; split <;> simp
theorem got0 (a b c d e : Value) (W : World) : (Instr.field 100 (.agg #[a, b, c, d, e]) 0).run Tryz.prog W = .ok a W := by kernel_rfl
theorem got1 (a b c d e : Value) (W : World) : (Instr.field 100 (.agg #[a, b, c, d, e]) 1).run Tryz.prog W = .ok b W := by kernel_rfl
set_option maxRecDepth 20000 in
theorem readerU_any (w : World) (g : Nat) (t : List UInt8) (p e most : Nat) (h : RdS w g t p e) :
    Calls Tryz.prog 46 #[.pointer (some ⟨g, 0, none⟩), .int .u64 (most : Int)] w
      fun y w' => y = .returned (.int .u64 ((inU t p e most).1 : Int)) ∧ RdS w' g t (inU t p e most).2.1 (inU t p e most).2.2 ∧ Only g w w' := by
  have gf := got0
  by_cases he : e = 0
  · subst he
    have hp : p ≤ t.length := by obtain ⟨_, _, _, _, _, _, hp⟩ := h; exact hp
    have hfit : stepV 0 (getU (t.drop p)).2.1 (stepE 0 (getU (t.drop p)).2.2 (overE (getU (t.drop p)).1 most)) ≤ t.length - p := by
      unfold stepV
      split
      · rename_i h0
        have : (getU (t.drop p)).2.2 = 0 := by
          unfold stepE at h0
          rw [if_neg (by omega)] at h0
          by_cases h2 : (getU (t.drop p)).2.2 = 0
          · exact h2
          · rw [if_pos h2] at h0; exact absurd h0 h2
        have := getU_fits _ this
        rwa [List.length_drop] at this
      · omega
    have ha := ask_go w g t p 0 most 0 0 ⟨#[]⟩ 0 _ 0 ⟨#[]⟩ _ _ h (fun W A c hg hR h1 h2 => refReadU_any most A (t.length - p) c g (t.drop p) W hR (by omega) hg _ rfl) hfit
    rw [← stepP_eq] at ha
    have e1 : inU t p 0 most = (stepV 0 (getU (t.drop p)).1 (stepE 0 (getU (t.drop p)).2.2 (overE (getU (t.drop p)).1 most)), stepP p (getU (t.drop p)).2.1 (stepE 0 (getU (t.drop p)).2.2 (overE (getU (t.drop p)).1 most)), stepE 0 (getU (t.drop p)).2.2 (overE (getU (t.drop p)).1 most)) := rfl
    rw [e1]
    generalize stepE 0 (getU (t.drop p)).2.2 (overE (getU (t.drop p)).1 most) = k at *
    generalize stepV 0 (getU (t.drop p)).1 k = u at *
    generalize stepP p (getU (t.drop p)).2.1 k = q at *
    simp only at ha ⊢
    have HA := Lib.hid ha; have E1 := Lib.hid e1; clear ha e1
    go_enter Tryz.func46, Tryz.ntmps46
    go_wp2_with (go_at_call 47; (with_reducible refine HA.out.mono ?_); rintro y w1 ⟨rfl, hi1, ho1⟩)
    go_ret
    exact ⟨rfl, hi1, ho1⟩
  · have hk : stepE e (getU (t.drop p)).2.2 (overE (getU (t.drop p)).1 most) = e := by unfold stepE; rw [if_pos he]
    have e1 : inU t p e most = (0, p, e) := by unfold inU; rw [hk]; unfold stepV stepP; rw [if_neg he, if_neg he]
    rw [e1]
    have ha := ask_no w g t p e 0 most 0 0 ⟨#[]⟩ 0 h he
    have HA := Lib.hid ha; have E1 := Lib.hid e1; have HK := Lib.hid hk; clear ha e1 hk
    go_enter Tryz.func46, Tryz.ntmps46
    go_wp2_with (go_at_call 47; (with_reducible refine HA.out.mono ?_); rintro y w1 ⟨rfl, hi1, ho1⟩)
    go_ret
    exact ⟨rfl, hi1, Only.of_below ho1 g⟩

theorem readerEnd_any (w : World) (g : Nat) (t : List UInt8) (p e : Nat) (h : RdS w g t p e) :
    Calls Tryz.prog 49 #[.pointer (some ⟨g, 0, none⟩)] w fun x w' => x = .returned (.int .i64 (endE t p e : Int)) ∧ RdS w' g t p (endE t p e) ∧ Only g w w' := by
  have sd := sdN
  have hbad := fun n => RdS.bad (h.drw (w' := w.drewN n) ⟨n, rfl⟩) 7
  have h' := h
  obtain ⟨A, c, hb, hR, hc, hm, hp⟩ := h'
  have c0 := hb.cell 0; have c1 := hb.cell 1; have f2 := hb.frozen 2; have c2 := hb.cell 2
  simp at c0 c1 c2
  unfold maxLen at hm
  have HB := Lib.hid hb; have HR := Lib.hid hR; have HH := Lib.hid h; have HBAD := Lib.hid hbad; clear hb hR h hbad
  by_cases he : e = 0
  · subst he
    by_cases hl : p < t.length
    · have t2 : endE t p 0 = 7 := by unfold endE; rw [if_pos rfl, if_pos hl]
      rw [t2]
      have T2 := Lib.hid t2; clear t2
      go_enter Tryz.func49, Tryz.ntmps49
      go_wp2
      go_quiet (fail)
      go_wp2
      go_ret
      exact ⟨rfl, HBAD.out _, ((Only.refl g w).set_ (.inl rfl) _).drewN _⟩
    · have t2 : endE t p 0 = 0 := by unfold endE; rw [if_pos rfl, if_neg hl]
      rw [t2]
      have T2 := Lib.hid t2; clear t2
      go_enter Tryz.func49, Tryz.ntmps49
      go_wp2
      go_quiet (fail)
      go_wp2
      go_ret
      exact ⟨rfl, HH.out.drw ⟨_, rfl⟩, (Only.refl g w).drewN _⟩
  · have t2 : endE t p e = e := by unfold endE; rw [if_neg he]
    rw [t2]
    have t1 : ((e : Int) == 0) = false := by rw [beq_eq_false_iff_ne]; omega
    have T2 := Lib.hid t2; have HE := Lib.hid he; clear t2 he
    go_enter Tryz.func49, Tryz.ntmps49
    go_wp2
    go_quiet (fail)
    go_wp2
    go_ret
    exact ⟨rfl, HH.out.drw ⟨_, rfl⟩, (Only.refl g w).drewN _⟩
end Go.Proofs.YtfhmaincnlaapaaGreat
namespace Go.Proofs.YtfhmaincnlaapaaGreat
open Go.ChangeShapes Go.WideShapes Go.ChangeAt Go.RowKit
set_option linter.unusedVariables false

end Go.Proofs.YtfhmaincnlaapaaGreat
namespace Go.Proofs.YtfhmaincnlaapaaGreat
open Go.ChangeShapes Go.WideShapes Go.ChangeAt Go.RowKit
set_option linter.unusedVariables false

attribute [local go_sem ↓] wp_app_rule
end Go.Proofs.YtfhmaincnlaapaaGreat
namespace Go.Proofs.YtfhmaincnlaapaaGreat
open Go.ChangeShapes Go.WideShapes Go.ChangeAt Go.RowKit
set_option linter.unusedVariables false

end Go.Proofs.YtfhmaincnlaapaaGreat
