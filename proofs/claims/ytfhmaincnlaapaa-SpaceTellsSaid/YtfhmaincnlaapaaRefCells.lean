/-
  bushelref14.Light, bushelref15.Light, bushelref20.Same of two equal sheets.
  bushelref25.Sheets says true of two lists that read alike.
  One cell's number of facts is another one.
-/
import Derived.Test.YtfhmaincnlaapaaRepCell
import Derived.Test.YtfhmaincnlaapaaReadPure
import Derived.Test.YtfhmaincnlaapaaRefCode
import Derived.Test.YtfhmaincnlaapaaCellPure
namespace Go.Proofs.Ytfhmaincnlaapaa
open Go.ChangeShapes Go.WideShapes Go.ChangeAt Go.RowKit
set_option linter.unusedVariables false

def withCount (C : CellS) (n : Int) : CellS := ⟨C.key, n, C.ints, C.nums⟩
theorem cells_count {w : World} {B : Nat} (n : Int) (h1 : -9223372036854775808 ≤ n) (h2 : n ≤ 9223372036854775807) : ∀ (l : List CellS) (xs : List Value) (_ : Chunk cellR w B l xs) (k : Nat) (hk : k < l.length),
    Chunk cellR w B (l.set k (withCount l[k] n)) (xs.set (k * 4 + 1) (.int .i64 n))
  | [], _, _, k, hk => by simp at hk
  | y :: l, xs, h, k, hk => by
    obtain ⟨c0, rest, rfl, hr, hc⟩ := h
    obtain ⟨A2, c2, A3, c3, rfl, hv⟩ := cellR_at hr
    cases k with
    | zero =>
      rw [Nat.zero_mul, Nat.zero_add, List.set_append_left _ _ (by simp [cellC])]
      exact ⟨cellC (withCount y n) A2 c2 A3 c3, rest, rfl, cellR_mk ⟨hv.key, ⟨h1, h2⟩, hv.ints, hv.nums⟩, hc⟩
    | succ k =>
      have hk' : k < l.length := by simpa using hk
      have ih := cells_count n h1 h2 l rest hc k hk'
      rw [List.set_append_right _ _ (by simp [cellC]; omega)]
      have e : (k + 1) * 4 + 1 - (cellC y A2 c2 A3 c3).length = k * 4 + 1 := by simp [cellC]; omega
      rw [e]
      exact ⟨cellC y A2 c2 A3 c3, _, rfl, hr, ih⟩
theorem withCount_light (C : CellS) (n : Int) : (withCount C n).ints = C.ints ∧ (withCount C n).nums = C.nums ∧ (withCount C n).key = C.key := ⟨rfl, rfl, rfl⟩
end Go.Proofs.Ytfhmaincnlaapaa
namespace Go.Proofs.Ytfhmaincnlaapaa
open Go.ChangeShapes Go.WideShapes Go.ChangeAt Go.RowKit
set_option linter.unusedVariables false

theorem Rd.sht {w : World} {B B' n : Nat} {A : Option Addr} {ss : List Sht} {xs : List Value} (h : Rd w B 4 A n xs) (hs : ShR w B' ss xs) (i : Nat) (hi : i < ss.length) :
    ∃ a Ad cd, A = some a ∧ a.block < B ∧ w.cell? (a.add (i * 4)) = some (.int .i64 ss[i].k) ∧ w.cell? ⟨(a.add (i * 4)).block, (a.add (i * 4)).off + 1, none⟩ = some (.int .u64 (ss[i].a : Int)) ∧
      w.cell? ⟨(a.add (i * 4)).block, (a.add (i * 4)).off + 2, none⟩ = some (.int .u64 (ss[i].b : Int)) ∧ w.cell? ⟨(a.add (i * 4)).block, (a.add (i * 4)).off + 3, none⟩ = some (.slice Ad ss[i].d.length cd) ∧
      Rd w B' 1 Ad ss[i].d.length (u8s ss[i].d) ∧ ss[i].d.length ≤ cd ∧ cd ≤ maxLen := by
  have hn : n = ss.length := by have := h.1; rw [hs.len] at this; omega
  obtain ⟨a, e, hb, hc⟩ := h.2 (by omega)
  obtain ⟨Ad, cd, e0, e1, e2, e3, r⟩ := hs.get i hi
  refine ⟨a, Ad, cd, e, hb, hc _ _ e0, ?_, ?_, ?_, r⟩
  · have := hc _ _ e1; rw [← add_add', show (1 : Nat) = 0 + 1 from rfl, add_succ] at this; exact this
  · have := hc _ _ e2; rw [← add_add', show (2 : Nat) = 1 + 1 from rfl, add_succ] at this; exact this
  · have := hc _ _ e3; rw [← add_add', show (3 : Nat) = 2 + 1 from rfl, add_succ] at this; exact this

end Go.Proofs.Ytfhmaincnlaapaa
namespace Go.Proofs.Ytfhmaincnlaapaa
open Go.ChangeShapes Go.WideShapes Go.ChangeAt Go.RowKit
set_option linter.unusedVariables false

theorem lightC_no {C : CellS} (h : ¬ (C.ints.length ≤ 10 ∧ C.nums.length ≤ 10 ∧ C.ints.all lightW = true ∧ C.nums.all lightR = true)) : lightC C = false := by
  rw [← Bool.not_eq_true]
  intro hh
  unfold lightC at hh
  simp only [Bool.and_eq_true, decide_eq_true_iff] at hh
  exact h ⟨hh.1.1.1, hh.1.1.2, hh.1.2, hh.2⟩
theorem lightC_yes {C : CellS} (h1 : C.ints.length ≤ 10) (h2 : C.nums.length ≤ 10) (h3 : C.ints.all lightW = true) (h4 : C.nums.all lightR = true) : lightC C = true := by
  unfold lightC; rw [h3, h4]; simp [h1, h2]
def lightL (l : List CellS) : Bool := decide (l.length ≤ 60) && l.all lightC
set_option maxRecDepth 20000 in
set_option maxHeartbeats 4000000 in
theorem lightC_any (w : World) (B : Nat) (C : CellS) (D2 : Option Addr) (d2 : Nat) (D3 : Option Addr) (d3 : Nat) (hv : CellV w B C D2 d2 D3 d3) (hB : B ≤ w.heap.size) :
    Calls Try.prog 32 #[.agg #[.int .u64 (C.key : Int), .int .i64 C.count, .slice D2 C.ints.length d2, .slice D3 C.nums.length d3]] w fun y w' => y = .returned (.bool (lightC C)) ∧ Below w.heap.size w w' := by
  have hw0 := belA (belR w) (.cells #[.int .u64 (C.key : Int), .int .i64 C.count, .slice D2 C.ints.length d2, .slice D3 C.nums.length d3] 52)
  have kc := Blk.new w 52 #[.int .u64 (C.key : Int), .int .i64 C.count, .slice D2 C.ints.length d2, .slice D3 C.nums.length d3]
  have KC := Lib.hid kc
  have HV := Lib.hid (hv.keep (hw0.mono hB) (Nat.le_refl _)); have HW0 := Lib.hid hw0
  clear hv kc hw0
  by_cases g1 : C.ints.length ≤ 10
  case neg =>
    have t1 : decide ((10 : Int) < (C.ints.length : Int)) = true := decide_eq_true (by omega)
    have HF := Lib.hid (lightC_no (C := C) fun hh => g1 hh.1)
    rw [HF.out]
    clear g1
    go_enter Try.func32, Try.ntmps32
    go_wp2
    go_ret
    exact ⟨rfl, HW0.out⟩
  have t1 : decide ((10 : Int) < (C.ints.length : Int)) = false := decide_eq_false (by omega)
  by_cases g2 : C.nums.length ≤ 10
  case neg =>
    have t2 : decide ((10 : Int) < (C.nums.length : Int)) = true := decide_eq_true (by omega)
    have HF := Lib.hid (lightC_no (C := C) fun hh => g2 hh.2.1)
    rw [HF.out]
    clear g2
    go_enter Try.func32, Try.ntmps32
    go_wp2
    go_ret
    exact ⟨rfl, HW0.out⟩
  have t2 : decide ((10 : Int) < (C.nums.length : Int)) = false := decide_eq_false (by omega)
  have HNO := Lib.hid fun (hb : ¬ (C.ints.all lightW = true ∧ C.nums.all lightR = true)) => lightC_no (C := C) fun hh => hb hh.2.2
  have HYES := Lib.hid fun (h5 : C.ints.all lightW = true) (h6 : C.nums.all lightR = true) => lightC_yes g1 g2 h5 h6
  go_enter Try.func32, Try.ntmps32
  go_wp2
  generalize w.alloc (.cells #[.int .u64 (C.key : Int), .int .i64 C.count, .slice D2 C.ints.length d2, .slice D3 C.nums.length d3] 52) = W at *
  have m2 := KC.out.cell 2; have m3 := KC.out.cell 3
  simp at m2 m3
  clear t1 t2
  go_loop [3] (fun i => ∃ k : Nat, k ≤ C.ints.length ∧ i = .int .i64 (k : Int) ∧ Hid ((C.ints.take k).all lightW = true)) (fun i => C.ints.length - (intOf i).toNat)
  case atStart => exact ⟨0, by omega, rfl, Lib.hid rfl⟩
  case round =>
    obtain ⟨k, hk, rfl, HA⟩ := hrel
    by_cases hlt : k < C.ints.length
    · obtain ⟨a, Aq, cq, ea, hab, x0, x1, x2, _⟩ := HV.out.ints.wholeAt hlt
      have q1 : (0 : Int) ≤ (k : Int) := by omega
      have q2 : (k : Int) < (C.ints.length : Int) := by omega
      have hts := all_take_succ lightW C.ints k hlt
      rw [HA.out, Bool.true_and] at hts
      have HN1 := Lib.hid fun (hf : lightW C.ints[k] = false) => HNO.out fun hh => by rw [all_no lightW C.ints k hlt hf] at hh; exact absurd hh.1 (by decide)
      rw [ea] at m2
      generalize C.ints[k] = X at *
      by_cases hx : X.sq.length ≤ 20
      · have t1 : decide ((20 : Int) < (X.sq.length : Int)) = false := decide_eq_false (by omega)
        have HT2 := Lib.hid (hts.trans (decide_eq_true hx))
        clear hts hx
        go_wp2
        go_round
        case rel => exact ⟨k + 1, by omega, by go_num, HT2⟩
        case measure => simp [intOf]; omega
      · have t1 : decide ((20 : Int) < (X.sq.length : Int)) = true := decide_eq_true (by omega)
        have HF := Lib.hid (HN1.out (decide_eq_false hx))
        clear hts hx
        go_wp2
        go_ret
        exact ⟨(by rw [HF.out] <;> rfl), HW0.out⟩
    · obtain rfl : k = C.ints.length := by omega
      rw [List.take_length] at HA
      have HA1 := HA
      have t0 : decide ((C.ints.length : Int) < (C.ints.length : Int)) = false := decide_eq_false (by omega)
      clear HA
      go_wp2
      go_loop [4] (fun i => ∃ k : Nat, k ≤ C.nums.length ∧ i = .int .i64 (k : Int) ∧ Hid ((C.nums.take k).all lightR = true)) (fun i => C.nums.length - (intOf i).toNat)
      case atStart => exact ⟨0, by omega, rfl, Lib.hid rfl⟩
      case round =>
        obtain ⟨k, hk, rfl, HA⟩ := hrel
        by_cases hlt : k < C.nums.length
        · obtain ⟨a, Aq, cq, ea, hab, x0, x1, x2, _⟩ := HV.out.nums.realAt hlt
          have q1 : (0 : Int) ≤ (k : Int) := by omega
          have q2 : (k : Int) < (C.nums.length : Int) := by omega
          have hts := all_take_succ lightR C.nums k hlt
          rw [HA.out, Bool.true_and] at hts
          have HN1 := Lib.hid fun (hf : lightR C.nums[k] = false) => HNO.out fun hh => by rw [all_no lightR C.nums k hlt hf] at hh; exact absurd hh.2 (by decide)
          rw [ea] at m3
          generalize C.nums[k] = X at *
          by_cases hx : X.sum.length ≤ 300
          · have t1 : decide ((300 : Int) < (X.sum.length : Int)) = false := decide_eq_false (by omega)
            have HT2 := Lib.hid (hts.trans (decide_eq_true hx))
            clear hts hx
            go_wp2
            go_round
            case rel => exact ⟨k + 1, by omega, by go_num, HT2⟩
            case measure => simp [intOf]; omega
          · have t1 : decide ((300 : Int) < (X.sum.length : Int)) = true := decide_eq_true (by omega)
            have HF := Lib.hid (HN1.out (decide_eq_false hx))
            clear hts hx
            go_wp2
            go_ret
            exact ⟨(by rw [HF.out] <;> rfl), HW0.out⟩
        · obtain rfl : k = C.nums.length := by omega
          rw [List.take_length] at HA
          have HT := Lib.hid (HYES.out HA1.out HA.out)
          go_wp2
          go_ret
          exact ⟨(by rw [HT.out] <;> rfl), HW0.out⟩
set_option maxRecDepth 20000 in
set_option maxHeartbeats 4000000 in
theorem lightL_any (w : World) (B : Nat) (A : Option Addr) (c : Nat) (l : List CellS) (g : SlR cellR w B l A c) (hB : B ≤ w.heap.size) :
    Calls Try.prog 10 #[.slice A l.length c] w fun y w' => y = .returned (.bool (lightL l)) ∧ Below w.heap.size w w' := by
  have G := Lib.hid g
  clear g
  by_cases g1 : l.length ≤ 60
  case neg =>
    have t1 : decide ((60 : Int) < (l.length : Int)) = true := decide_eq_true (by omega)
    have e : lightL l = false := by unfold lightL; rw [decide_eq_false g1]; rfl
    rw [e]
    clear e
    go_enter Try.func10, Try.ntmps10
    go_wp2
    go_ret
    exact ⟨rfl, belR w⟩
  have t1 : decide ((60 : Int) < (l.length : Int)) = false := decide_eq_false (by omega)
  have e : lightL l = l.all lightC := by unfold lightL; rw [decide_eq_true g1, Bool.true_and]
  rw [e]
  clear e
  go_enter Try.func10, Try.ntmps10
  go_wp2
  go_loopw [3] (fun i wr => ∃ k : Nat, k ≤ l.length ∧ i = .int .i64 (k : Int) ∧ Hid ((l.take k).all lightC = true) ∧ Hid (Below w.heap.size w wr)) (fun i _ => l.length - (intOf i).toNat)
  case atStart => exact ⟨0, by omega, rfl, rfl, belR w⟩
  case round =>
    obtain ⟨k, hk, rfl, HA, HB⟩ := hrel
    by_cases hlt : k < l.length
    · obtain ⟨a, D2, d2, D3, d3, ea, hab, x0, x1, x2, x3, hv⟩ := (G.out.keep (HB.out.mono hB) (Nat.le_refl _)).cellAt hlt
      have q1 : (0 : Int) ≤ (k : Int) := by omega
      have q2 : (k : Int) < (l.length : Int) := by omega
      have hts := all_take_succ lightC l k hlt
      rw [HA.out, Bool.true_and] at hts
      have HN1 := Lib.hid fun (hf : lightC l[k] = false) => all_no lightC l k hlt hf
      subst ea
      generalize l[k] = C at *
      have hcl := lightC_any wr B C D2 d2 D3 d3 hv (by have := HB.out.size; omega)
      cases hr : lightC C with
      | false =>
        rw [hr] at hcl
        have HCL := Lib.hid hcl; have HF := Lib.hid (HN1.out hr)
        clear hcl hr hts hv
        go_wp2_with (go_at_call 32; (with_reducible refine HCL.out.mono ?_); rintro y w2 ⟨rfl, hb2⟩; have HB2 := Lib.hid (belT HB.out hb2); clear hb2)
        go_ret
        exact ⟨(by rw [HF.out] <;> rfl), HB2.out⟩
      | true =>
        rw [hr] at hcl
        have HCL := Lib.hid hcl; have HT := Lib.hid (hts.trans hr)
        clear hcl hr hts hv
        go_wp2_with (go_at_call 32; (with_reducible refine HCL.out.mono ?_); rintro y w2 ⟨rfl, hb2⟩; have HB2 := Lib.hid (belT HB.out hb2); clear hb2)
        go_roundw
        case rel => exact ⟨k + 1, by omega, by go_num, HT.out, HB2.out⟩
        case measure => simp [intOf]; omega
    · obtain rfl : k = l.length := by omega
      rw [List.take_length] at HA
      go_wp2
      go_ret
      exact ⟨(by rw [HA.out] <;> rfl), HB.out⟩
set_option maxRecDepth 20000 in
theorem same20_any (w : World) (B : Nat) (s : Sht) (A A' : Option Addr) (c c' : Nat) (hR : Rd w B 1 A s.d.length (u8s s.d)) (hR' : Rd w B 1 A' s.d.length (u8s s.d)) (hB : B ≤ w.heap.size) :
    Calls Try.prog 22 #[.agg #[.int .i64 s.k, .int .u64 (s.a : Int), .int .u64 (s.b : Int), .slice A s.d.length c], .agg #[.int .i64 s.k, .int .u64 (s.a : Int), .int .u64 (s.b : Int), .slice A' s.d.length c']] w fun y w' => y = .returned (.bool true) ∧ Below w.heap.size w w' := by
  have hw1 := belA (belR w) (.cells #[.int .i64 s.k, .int .u64 (s.a : Int), .int .u64 (s.b : Int), .slice A s.d.length c] 55)
  have hw2 := belA hw1 (.cells #[.int .i64 s.k, .int .u64 (s.a : Int), .int .u64 (s.b : Int), .slice A' s.d.length c'] 55)
  have hcv := run_str (P := Try.prog) (src := 53) (dst := 9) (c := c) (hR.below (hw2.mono hB)) Try.underlying53 Try.underlying5 Try.underlying9
  have hcv' := run_str (P := Try.prog) (src := 53) (dst := 9) (c := c') (hR'.below (hw2.mono hB)) Try.underlying53 Try.underlying5 Try.underlying9
  have HW := Lib.hid hw2
  clear hw1 hw2 hR hR'
  obtain ⟨sk, sa, sb, sd⟩ := s
  go_enter Try.func22, Try.ntmps22
  go_wp2
  go_ret
  exact ⟨rfl, HW.out⟩
end Go.Proofs.Ytfhmaincnlaapaa
