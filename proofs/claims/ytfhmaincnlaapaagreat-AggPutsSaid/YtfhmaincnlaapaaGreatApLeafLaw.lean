/-
  The leaves of a right list, read one by one, yield the list.
  tree.ReadLeaf.
  What is got has the bytes that it is put as.
  SCHEMAS AND CELLS AS TREES; what is known of functions on them, as contracts on trees.
  bushelref02.Same, bushelref14.Same, bushelref15.Same.
-/
import Derived.Deep.DeepCutAuto
import Derived.StillTailTactics
import Derived.Test.YtfhmaincnlaapaaGreatApFloLess
import Derived.Test.YtfhmaincnlaapaaGreatApSy14
import Derived.Test.YtfhmaincnlaapaaGreatApRefLight
import Derived.Test.YtfhmaincnlaapaaGreatApBufOutKeep
import Derived.Test.YtfhmaincnlaapaaGreatApCellPure
import Derived.Test.YtfhmaincnlaapaaGreatApAggPut
import Derived.Test.YtfhmaincnlaapaaGreatApFactOne
import Derived.Test.YtfhmaincnlaapaaGreatApExactHead
import Derived.Test.YtfhmaincnlaapaaGreatApAggGet
import Derived.Test.YtfhmaincnlaapaaGreatApRefKeys
import Derived.Test.YtfhmaincnlaapaaGreatApRefRight
namespace Go.Proofs.YtfhmaincnlaapaaGreat
open Go.ChangeShapes Go.WideShapes Go.ChangeAt Go.RowKit
set_option linter.unusedVariables false

theorem run_store_fS {P : Program} {w : World} {a : Addr} {m : Mode} (k : FloatKind) (b : Nat) : (store a (.float k b) m).run P w = stored P w a (.float k b) m := run_store P w a _ m rfl
attribute [local go_sem] run_store_fS
theorem take_same {l m : List Nat} {k : Nat} (h : l.take k = m.take k) (h1 : k < l.length) (h2 : k < m.length) (e : l[k] = m[k]) : l.take (k + 1) = m.take (k + 1) := by
  rw [List.take_succ_eq_append_getElem h1, List.take_succ_eq_append_getElem h2, h, e]
theorem eq_of_take {l m : List Nat} (hl : l.length = m.length) (h : l.take l.length = m.take l.length) : l = m := by
  rw [List.take_length] at h
  rw [h, hl, List.take_length]
theorem u32n_get (l : List Nat) (j : Nat) (h : j < l.length) : (u32n l)[j]? = some (.int .u32 ((l[j] : Nat) : Int)) := by simp [u32n, h]
theorem rd_word {w : World} {B n : Nat} {A : Option Addr} {l : List Nat} {k : Nat} (h : Rd w B 1 A n (u32n l)) (hk : k < l.length) : ∃ a, A = some a ∧ a.block < B ∧ w.cell? (a.add k) = some (.int .u32 ((l[k] : Nat) : Int)) := by
  obtain ⟨a, u, e, hb, hx, hc⟩ := h.at1 (k := k) (by have := h.1; simp at this; omega)
  rw [u32n_get l k hk] at hx
  injection hx with hx
  exact ⟨a, e, hb, by rw [hc, hx]⟩
set_option maxRecDepth 20000 in
theorem same02_any (w : World) (B : Nat) (A A' : Option Addr) (c c' : Nat) (l m : List Nat) (h : Rd w B 1 A l.length (u32n l)) (h' : Rd w B 1 A' m.length (u32n m)) (hn : l.length ≤ 9223372036854775807) (hm : m.length ≤ 9223372036854775807) :
    Calls Tryz.prog 64 #[.slice A l.length c, .slice A' m.length c'] w fun y w' => y = .returned (.bool (decide (l = m))) ∧ Drw w w' := by
  have H := Lib.hid h; have H' := Lib.hid h'; clear h h'
  by_cases hl : l.length = m.length
  · have t1 : ((l.length : Int) != (m.length : Int)) = false := by rw [hl]; simp
    have HL := Lib.hid hl; clear hl
    go_enter Tryz.func64, Tryz.ntmps64
    go_wp2
    go_loopw [5] (fun i wr => ∃ k : Nat, k ≤ l.length ∧ i = .int .i64 (k : Int) ∧ Hid (l.take k = m.take k) ∧ Hid (Drw w wr)) (fun i _ => l.length - (intOf i).toNat)
    case atStart => exact ⟨0, by omega, rfl, rfl, Drw.refl _⟩
    case round =>
      obtain ⟨k, hk, rfl, HT, HD⟩ := hrel
      by_cases hlt : k < l.length
      · have hltm : k < m.length := by rw [← HL.out]; exact hlt
        obtain ⟨a, rfl, hab, x0⟩ := rd_word (rd_drw H.out HD.out) hlt
        obtain ⟨a', rfl, hab', y0⟩ := rd_word (rd_drw H'.out HD.out) hltm
        have q1 : (0 : Int) ≤ (k : Int) := by omega
        have q2 : (k : Int) < (l.length : Int) := by omega
        have q3 : (k : Int) < (m.length : Int) := by omega
        have hnx := take_same HT.out hlt hltm
        have hne : l[k] ≠ m[k] → decide (l = m) = false := fun hh => decide_eq_false fun e => hh (by subst e; rfl)
        generalize l[k] = x at *
        generalize m[k] = y at *
        by_cases g : x = y
        · subst g
          have t2 : ((x : Int) != (x : Int)) = false := by simp
          have HNX := Lib.hid (hnx rfl)
          clear hnx hne
          go_wp2
          go_quiet (fail)
          go_wp2
          go_roundw
          case rel => exact ⟨k + 1, by omega, by go_num, HNX.out, HD.out.drewN _⟩
          case measure => simp [intOf]; omega
        · have t2 : ((x : Int) != (y : Int)) = true := by rw [bne_iff_ne]; omega
          have HF := Lib.hid (hne g)
          clear hnx hne g
          go_wp2
          go_quiet (fail)
          go_wp2
          go_ret
          exact ⟨by rw [HF.out]; rfl, HD.out.drewN _⟩
      · obtain rfl : k = l.length := by omega
        have HF := Lib.hid (decide_eq_true (eq_of_take HL.out HT.out))
        have q2 : ¬ (l.length : Int) < (l.length : Int) := by omega
        go_wp2
        go_ret
        exact ⟨by rw [HF.out]; rfl, HD.out⟩
  · have t1 : ((l.length : Int) != (m.length : Int)) = true := by rw [bne_iff_ne]; omega
    have HF := Lib.hid (decide_eq_false (p := l = m) fun e => hl (by rw [e]))
    clear hl
    go_enter Tryz.func64, Tryz.ntmps64
    go_wp2
    go_ret
    exact ⟨by rw [HF.out]; rfl, Drw.refl _⟩
/-! ### cells -/
theorem sameRs_at {l m : List RealS} (h : sameRs l m = true) (k : Nat) (hk : k < l.length) (hm : k < m.length) : sameR l[k] m[k] = true := by
  induction l generalizing m k with
  | nil => simp at hk
  | cons x l ih => cases m with
    | nil => simp at hm
    | cons y m =>
      unfold sameRs at h
      rw [Bool.and_eq_true] at h
      cases k with
      | zero => exact h.1
      | succ k => exact ih h.2 k (by simpa using hk) (by simpa using hm)
theorem sameC_parts {C D : CellS} (h : sameC C D = true) : C.key = D.key ∧ C.count = D.count ∧ C.ints = D.ints ∧ sameRs C.nums D.nums = true := by
  unfold sameC at h
  simp only [Bool.and_eq_true, decide_eq_true_iff] at h
  exact ⟨h.1.1.1, h.1.1.2, sameWs_eq h.1.2, h.2⟩
theorem sameC_no {C D : CellS} (h : ¬ (C.key = D.key ∧ C.count = D.count ∧ C.ints = D.ints ∧ sameRs C.nums D.nums = true)) : sameC C D = false := by
  rw [← Bool.not_eq_true]; exact fun hh => h (sameC_parts hh)
theorem sameC_yes {C D : CellS} (h1 : C.key = D.key) (h2 : C.count = D.count) (h3 : C.ints = D.ints) (h4 : sameRs C.nums D.nums = true) : sameC C D = true := by
  unfold sameC; rw [h3, sameWs_self, h4]; simp [h1, h2]
theorem takeW_same {l m : List WholeS} {k : Nat} (h : l.take k = m.take k) (h1 : k < l.length) (h2 : k < m.length) (e : l[k] = m[k]) : l.take (k + 1) = m.take (k + 1) := by
  rw [List.take_succ_eq_append_getElem h1, List.take_succ_eq_append_getElem h2, h, e]
theorem eqW_of_take {l m : List WholeS} (hl : l.length = m.length) (h : l.take l.length = m.take l.length) : l = m := by
  rw [List.take_length] at h
  rw [h, hl, List.take_length]
theorem takeR_same {l m : List RealS} {k : Nat} (h : sameRs (l.take k) (m.take k) = true) (h1 : k < l.length) (h2 : k < m.length) (e : sameR l[k] m[k] = true) : sameRs (l.take (k + 1)) (m.take (k + 1)) = true := by
  rw [List.take_succ_eq_append_getElem h1, List.take_succ_eq_append_getElem h2]; exact sameRs_snoc h e
theorem eqR_of_take {l m : List RealS} (hl : l.length = m.length) (h : sameRs (l.take l.length) (m.take l.length) = true) : sameRs l m = true := by
  rw [List.take_length, hl, List.take_length] at h; exact h
/-- two whole measures' cells in blocks of the call's own -/
structure TwoW (w wr : World) (g1 g2 : Nat) (C D : Array Value) : Prop where
  a : Blk wr g1 53 C
  b : Blk wr g2 53 D
  n : Below w.heap.size w wr
theorem TwoW.below {w wr w' : World} {g1 g2 : Nat} {C D : Array Value} (h : TwoW w wr g1 g2 C D) (hb : Below wr.heap.size wr w') : TwoW w w' g1 g2 C D :=
  ⟨h.a.below hb h.a.lt, h.b.below hb h.b.lt, belT h.n hb⟩
set_option maxRecDepth 20000 in
set_option maxHeartbeats 8000000 in
theorem same14_any (w : World) (B : Nat) (C : CellS) (A2 : Option Addr) (c2 : Nat) (A3 : Option Addr) (c3 : Nat) (D : CellS) (D2 : Option Addr) (d2 : Nat) (D3 : Option Addr) (d3 : Nat) (hv : CellV w B C A2 c2 A3 c3) (hu : CellV w B D D2 d2 D3 d3) (hB : B ≤ w.heap.size) :
    Calls Tryz.prog 27 #[.agg #[.int .u64 (C.key : Int), .int .i64 C.count, .slice A2 C.ints.length c2, .slice A3 C.nums.length c3], .agg #[.int .u64 (D.key : Int), .int .i64 D.count, .slice D2 D.ints.length d2, .slice D3 D.nums.length d3]] w
      fun y w' => y = .returned (.bool (sameC C D)) ∧ Below w.heap.size w w' := by
  have hml : C.ints.length ≤ 9223372036854775807 := by have h1 := hv.ints.1; have h2 := hv.ints.2.1; unfold maxLen at h2; omega
  have hmn : C.nums.length ≤ 9223372036854775807 := by have h1 := hv.nums.1; have h2 := hv.nums.2.1; unfold maxLen at h2; omega
  obtain ⟨W0, hW0⟩ : ∃ W0, W0 = (w.alloc (.cells #[.int .u64 (C.key : Int), .int .i64 C.count, .slice A2 C.ints.length c2, .slice A3 C.nums.length c3] 53)).alloc (.cells #[.int .u64 (D.key : Int), .int .i64 D.count, .slice D2 D.ints.length d2, .slice D3 D.nums.length d3] 53) := ⟨_, rfl⟩
  have ht0 : TwoW w W0 w.heap.size (w.heap.size + 1) #[.int .u64 (C.key : Int), .int .i64 C.count, .slice A2 C.ints.length c2, .slice A3 C.nums.length c3] #[.int .u64 (D.key : Int), .int .i64 D.count, .slice D2 D.ints.length d2, .slice D3 D.nums.length d3] := by
    rw [hW0]
    exact ⟨(Blk.new w _ _).alloc _, by have := Blk.new (w.alloc (.cells #[.int .u64 (C.key : Int), .int .i64 C.count, .slice A2 C.ints.length c2, .slice A3 C.nums.length c3] 53)) 53 #[.int .u64 (D.key : Int), .int .i64 D.count, .slice D2 D.ints.length d2, .slice D3 D.nums.length d3]; simpa using this, belA (belA (belR w) _) _⟩
  have HT0 := Lib.hid ht0; have HW0 := Lib.hid hW0; have HV := Lib.hid hv; have HU := Lib.hid hu
  clear ht0 hW0 hv hu
  have r0 := HT0.out.a.cell 0; have r1 := HT0.out.a.cell 1; have r2 := HT0.out.a.cell 2; have r3 := HT0.out.a.cell 3
  have s0 := HT0.out.b.cell 0; have s1 := HT0.out.b.cell 1; have s2 := HT0.out.b.cell 2; have s3 := HT0.out.b.cell 3
  simp at r0 r1 r2 r3 s0 s1 s2 s3
  rw [HW0.out] at r0 r1 r2 r3 s0 s1 s2 s3
  clear r0 r1 r2 r3 s0 s1 s2 s3
  by_cases g1 : C.key = D.key
  case neg =>
    have t1 : ((C.key : Int) != (D.key : Int)) = true := by rw [bne_iff_ne]; omega
    have HF := Lib.hid (sameC_no (C := C) (D := D) fun h => g1 h.1)
    clear g1
    go_enter Tryz.func27, Tryz.ntmps27
    go_wp2
    go_ret
    exact ⟨by rw [HF.out]; rfl, by have := HT0.out.n; rw [HW0.out] at this; exact this⟩
  by_cases g2 : C.count = D.count
  case neg =>
    have t1 : ((C.key : Int) != (D.key : Int)) = false := by rw [bne_eq_false_iff_eq]; omega
    have t2 : (C.count != D.count) = true := by rw [bne_iff_ne]; omega
    have HF := Lib.hid (sameC_no (C := C) (D := D) fun h => g2 h.2.1)
    clear g1 g2
    go_enter Tryz.func27, Tryz.ntmps27
    go_wp2
    go_ret
    exact ⟨by rw [HF.out]; rfl, by have := HT0.out.n; rw [HW0.out] at this; exact this⟩
  by_cases g3 : C.ints.length = D.ints.length
  case neg =>
    have t1 : ((C.key : Int) != (D.key : Int)) = false := by rw [bne_eq_false_iff_eq]; omega
    have t2 : (C.count != D.count) = false := by rw [bne_eq_false_iff_eq]; omega
    have t3 : ((C.ints.length : Int) != (D.ints.length : Int)) = true := by rw [bne_iff_ne]; omega
    have HF := Lib.hid (sameC_no (C := C) (D := D) fun h => g3 (by rw [h.2.2.1]))
    clear g1 g2 g3
    go_enter Tryz.func27, Tryz.ntmps27
    go_wp2
    go_ret
    exact ⟨by rw [HF.out]; rfl, by have := HT0.out.n; rw [HW0.out] at this; exact this⟩
  by_cases g4 : C.nums.length = D.nums.length
  case neg =>
    have t1 : ((C.key : Int) != (D.key : Int)) = false := by rw [bne_eq_false_iff_eq]; omega
    have t2 : (C.count != D.count) = false := by rw [bne_eq_false_iff_eq]; omega
    have t3 : ((C.ints.length : Int) != (D.ints.length : Int)) = false := by rw [bne_eq_false_iff_eq]; omega
    have t4 : ((C.nums.length : Int) != (D.nums.length : Int)) = true := by rw [bne_iff_ne]; omega
    have HF := Lib.hid (sameC_no (C := C) (D := D) fun h => g4 (sameRs_len h.2.2.2))
    clear g1 g2 g3 g4
    go_enter Tryz.func27, Tryz.ntmps27
    go_wp2
    go_ret
    exact ⟨by rw [HF.out]; rfl, by have := HT0.out.n; rw [HW0.out] at this; exact this⟩
  have t1 : ((C.key : Int) != (D.key : Int)) = false := by rw [bne_eq_false_iff_eq]; omega
  have t2 : (C.count != D.count) = false := by rw [bne_eq_false_iff_eq]; omega
  have t3 : ((C.ints.length : Int) != (D.ints.length : Int)) = false := by rw [bne_eq_false_iff_eq]; omega
  have t4 : ((C.nums.length : Int) != (D.nums.length : Int)) = false := by rw [bne_eq_false_iff_eq]; omega
  have HYES := Lib.hid (sameC_yes (C := C) (D := D) g1 g2)
  have G3 := Lib.hid g3; have G4 := Lib.hid g4
  clear g1 g2 g3 g4
  go_enter Tryz.func27, Tryz.ntmps27
  go_wp2
  clear t1 t2 t3 t4
  rw [← HW0.out]
  have hzw : w.heap.size + 1 < W0.heap.size := by rw [HW0.out]; simp
  go_loopw [5] (fun i wr => ∃ k : Nat, k ≤ C.ints.length ∧ i = .int .i64 (k : Int) ∧ Hid (C.ints.take k = D.ints.take k) ∧ Hid (TwoW w wr w.heap.size (w.heap.size + 1) #[.int .u64 (C.key : Int), .int .i64 C.count, .slice A2 C.ints.length c2, .slice A3 C.nums.length c3] #[.int .u64 (D.key : Int), .int .i64 D.count, .slice D2 D.ints.length d2, .slice D3 D.nums.length d3])) (fun i _ => C.ints.length - (intOf i).toNat)
  case atStart => exact ⟨0, by omega, rfl, rfl, HT0.out⟩
  case round =>
    obtain ⟨k, hk, rfl, HE, HT⟩ := hrel
    have r2 := HT.out.a.cell 2; have s2 := HT.out.b.cell 2
    simp at r2 s2
    by_cases hlt : k < C.ints.length
    · have hltm : k < D.ints.length := by rw [← G3.out]; exact hlt
      obtain ⟨a, Aq, cq, ea, hab, x0, x1, x2, x3, x4, hRq, hq1, hq2, hq3, hs, ha, hmi, hmx⟩ := (HV.out.ints.keep (HT.out.n.mono hB) (Nat.le_refl _)).wholeAt hlt
      obtain ⟨b, Bq, bq, eb, hbb, y0, y1, y2, y3, y4, hSq, hp1, hp2, hp3, ps, pa, pmi, pmx⟩ := (HU.out.ints.keep (HT.out.n.mono hB) (Nat.le_refl _)).wholeAt hltm
      have q1 : (0 : Int) ≤ (k : Int) := by omega
      have q2 : (k : Int) < (C.ints.length : Int) := by omega
      have q3 : (k : Int) < (D.ints.length : Int) := by omega
      have hnx := takeW_same HE.out hlt hltm
      have hne : C.ints[k] ≠ D.ints[k] → sameC C D = false := fun hh => sameC_no fun h => hh (by have := h.2.2.1; simp only [this])
      subst ea eb
      have hzr : w.heap.size + 1 < wr.heap.size := HT.out.b.lt
      have hza : (a.add (k * 5)).block < wr.heap.size := by rw [block_add]; omega
      have hzb : (b.add (k * 5)).block < wr.heap.size := by rw [block_add]; omega
      have hzr2 : w.heap.size < wr.heap.size := by omega
      have hza2 : (a.add (k * 5)).block < wr.heap.size + 1 := by omega
      have hzb2 : (b.add (k * 5)).block < wr.heap.size + 1 := by omega
      generalize C.ints[k] = X at *
      generalize D.ints[k] = Y at *
      have HNX := Lib.hid hnx; have HNE := Lib.hid hne
      have HRq := Lib.hid hRq; have HSq := Lib.hid hSq
      have hmq : X.sq.length ≤ 9223372036854775807 := by unfold maxLen at hq2; omega
      have hmp : Y.sq.length ≤ 9223372036854775807 := by unfold maxLen at hp2; omega
      have hA1 := ((Blk.new wr 122 #[.int .i64 X.sum, .int .i64 X.abs, .slice Aq X.sq.length cq, .int .i64 X.mn, .int .i64 X.mx]).alloc (.cells #[.int .i64 Y.sum, .int .i64 Y.abs, .slice Bq Y.sq.length bq, .int .i64 Y.mn, .int .i64 Y.mx] 122)).drew
      have hA2 := (Blk.new (wr.alloc (.cells #[.int .i64 X.sum, .int .i64 X.abs, .slice Aq X.sq.length cq, .int .i64 X.mn, .int .i64 X.mx] 122)) 122 #[.int .i64 Y.sum, .int .i64 Y.abs, .slice Bq Y.sq.length bq, .int .i64 Y.mn, .int .i64 Y.mx]).drew
      have hA3 := ((Blk.new wr 122 #[.int .i64 Y.sum, .int .i64 Y.abs, .slice Bq Y.sq.length bq, .int .i64 Y.mn, .int .i64 Y.mx]).alloc (.cells #[.int .i64 X.sum, .int .i64 X.abs, .slice Aq X.sq.length cq, .int .i64 X.mn, .int .i64 X.mx] 122)).drew
      have hA4 := (Blk.new (wr.alloc (.cells #[.int .i64 Y.sum, .int .i64 Y.abs, .slice Bq Y.sq.length bq, .int .i64 Y.mn, .int .i64 Y.mx] 122)) 122 #[.int .i64 X.sum, .int .i64 X.abs, .slice Aq X.sq.length cq, .int .i64 X.mn, .int .i64 X.mx]).drew
      have hz1 : (wr.alloc (.cells #[.int .i64 X.sum, .int .i64 X.abs, .slice Aq X.sq.length cq, .int .i64 X.mn, .int .i64 X.mx] 122)).heap.size = wr.heap.size + 1 := by simp
      have hz2 : (wr.alloc (.cells #[.int .i64 Y.sum, .int .i64 Y.abs, .slice Bq Y.sq.length bq, .int .i64 Y.mn, .int .i64 Y.mx] 122)).heap.size = wr.heap.size + 1 := by simp
      rw [hz1] at hA2; rw [hz2] at hA4
      have hA5 := (belA (belA (belR wr) (.cells #[.int .i64 X.sum, .int .i64 X.abs, .slice Aq X.sq.length cq, .int .i64 X.mn, .int .i64 X.mx] 122)) (.cells #[.int .i64 Y.sum, .int .i64 Y.abs, .slice Bq Y.sq.length bq, .int .i64 Y.mn, .int .i64 Y.mx] 122)).drew
      have hA6 := (belA (belA (belR wr) (.cells #[.int .i64 Y.sum, .int .i64 Y.abs, .slice Bq Y.sq.length bq, .int .i64 Y.mn, .int .i64 Y.mx] 122)) (.cells #[.int .i64 X.sum, .int .i64 X.abs, .slice Aq X.sq.length cq, .int .i64 X.mn, .int .i64 X.mx] 122)).drew
      have HA1 := Lib.hid hA1; have HA2 := Lib.hid hA2; have HA3 := Lib.hid hA3; have HA4 := Lib.hid hA4; have HA5 := Lib.hid hA5; have HA6 := Lib.hid hA6
      have hzB : B ≤ wr.heap.size := Nat.le_trans hB HT.out.n.size
      clear hnx hne hRq hSq hA1 hA2 hA3 hA4 hz1 hz2 hA5 hA6
      go_upto_region 6 with (fail)
      go_cut [6, 7] (fun v6 v7 wx => ∃ gx gy : Nat, v6 = .pointer (some ⟨gx, 0, none⟩) ∧ v7 = .pointer (some ⟨gy, 0, none⟩) ∧ Hid (Blk wx gx 122 #[.int .i64 X.sum, .int .i64 X.abs, .slice Aq X.sq.length cq, .int .i64 X.mn, .int .i64 X.mx]) ∧ Hid (Blk wx gy 122 #[.int .i64 Y.sum, .int .i64 Y.abs, .slice Bq Y.sq.length bq, .int .i64 Y.mn, .int .i64 Y.mx]) ∧ Hid (Below wr.heap.size wr wx))
      case first =>
        go_region
        all_goals
          go_wp2
          go_meet
          case rel => first | exact ⟨_, _, rfl, rfl, HA1.out, HA2.out, HA5.out⟩ | exact ⟨_, _, rfl, rfl, HA4.out, HA3.out, HA6.out⟩
      case rest =>
        obtain ⟨gx, gy, rfl, rfl, HX, HY, HBx⟩ := hcut
        clear x0 x1 x2 x3 x4 y0 y1 y2 y3 y4 HA1 HA2 HA3 HA4 HA5 HA6
        have x0 := HX.out.cell 0; have x1 := HX.out.cell 1; have x2 := HX.out.cell 2; have x3 := HX.out.cell 3; have x4 := HX.out.cell 4
        have y0 := HY.out.cell 0; have y1 := HY.out.cell 1; have y2 := HY.out.cell 2; have y3 := HY.out.cell 3; have y4 := HY.out.cell 4
        simp at x0 x1 x2 x3 x4 y0 y1 y2 y3 y4
        have HTX := Lib.hid (HT.out.below HBx.out)
        have HSM := Lib.hid (same02_any _ B Aq Bq cq bq X.sq Y.sq (HRq.out.below (HBx.out.mono hzB)) (HSq.out.below (HBx.out.mono hzB)) hmq hmp)
        by_cases e1 : X.sum = Y.sum
        case neg =>
          have t1 : (X.sum != Y.sum) = true := by rw [bne_iff_ne]; exact e1
          have HF := Lib.hid (HNE.out fun hh => e1 (by rw [hh]))
          clear e1
          go_wp2
          go_ret
          exact ⟨by rw [HF.out]; rfl, HTX.out.n⟩
        have t1 : (X.sum != Y.sum) = false := by rw [bne_eq_false_iff_eq]; exact e1
        by_cases e2 : X.abs = Y.abs
        case neg =>
          have t2 : (X.abs != Y.abs) = true := by rw [bne_iff_ne]; exact e2
          have HF := Lib.hid (HNE.out fun hh => e2 (by rw [hh]))
          clear e1 e2
          go_wp2
          go_ret
          exact ⟨by rw [HF.out]; rfl, HTX.out.n⟩
        have t2 : (X.abs != Y.abs) = false := by rw [bne_eq_false_iff_eq]; exact e2
        by_cases e3 : X.mn = Y.mn
        case neg =>
          have t3 : (X.mn != Y.mn) = true := by rw [bne_iff_ne]; exact e3
          have HF := Lib.hid (HNE.out fun hh => e3 (by rw [hh]))
          clear e1 e2 e3
          go_wp2
          go_ret
          exact ⟨by rw [HF.out]; rfl, HTX.out.n⟩
        have t3 : (X.mn != Y.mn) = false := by rw [bne_eq_false_iff_eq]; exact e3
        by_cases e4 : X.mx = Y.mx
        case neg =>
          have t4 : (X.mx != Y.mx) = true := by rw [bne_iff_ne]; exact e4
          have HF := Lib.hid (HNE.out fun hh => e4 (by rw [hh]))
          clear e1 e2 e3 e4
          go_wp2
          go_ret
          exact ⟨by rw [HF.out]; rfl, HTX.out.n⟩
        have t4 : (X.mx != Y.mx) = false := by rw [bne_eq_false_iff_eq]; exact e4
        by_cases e5 : X.sq = Y.sq
        case neg =>
          have hsm := HSM.out
          rw [decide_eq_false e5] at hsm
          have HS2 := Lib.hid hsm
          have HF := Lib.hid (HNE.out fun hh => e5 (by rw [hh]))
          clear e1 e2 e3 e4 e5 hsm HSM
          go_wp2_with (go_at_call 64; (with_reducible refine HS2.out.mono ?_); rintro y w5 ⟨rfl, hd5⟩; have HB5 := Lib.hid (hd5.below HTX.out.n); clear hd5)
          go_ret
          exact ⟨by rw [HF.out]; rfl, HB5.out⟩
        have hsm := HSM.out
        rw [decide_eq_true e5] at hsm
        have HS2 := Lib.hid hsm
        have hxy : X = Y := by cases X; cases Y; simp only at e1 e2 e3 e4 e5; subst e1 e2 e3 e4 e5; rfl
        have HNX2 := Lib.hid (HNX.out hxy)
        clear e1 e2 e3 e4 e5 hsm HSM hxy
        go_wp2_with (go_at_call 64; (with_reducible refine HS2.out.mono ?_); rintro y w5 ⟨rfl, hd5⟩; have HT5 := Lib.hid (HTX.out.below (hd5.below (belR _))); clear hd5)
        go_roundw
        case rel => exact ⟨k + 1, by omega, by go_num, HNX2.out, HT5.out⟩
        case measure => simp [intOf]; omega
    · obtain rfl : k = C.ints.length := by omega
      have HE2 := Lib.hid (eqW_of_take G3.out HE.out)
      have q2 : ¬ (C.ints.length : Int) < (C.ints.length : Int) := by omega
      go_wp2
      clear r2 s2
      go_loopw [8] (fun i wr => ∃ k : Nat, k ≤ C.nums.length ∧ i = .int .i64 (k : Int) ∧ Hid (sameRs (C.nums.take k) (D.nums.take k) = true) ∧ Hid (TwoW w wr w.heap.size (w.heap.size + 1) #[.int .u64 (C.key : Int), .int .i64 C.count, .slice A2 C.ints.length c2, .slice A3 C.nums.length c3] #[.int .u64 (D.key : Int), .int .i64 D.count, .slice D2 D.ints.length d2, .slice D3 D.nums.length d3])) (fun i _ => C.nums.length - (intOf i).toNat)
      case atStart => exact ⟨0, by omega, rfl, rfl, HT.out⟩
      case round =>
        obtain ⟨k, hk, rfl, HE, HT⟩ := hrel
        have r3 := HT.out.a.cell 3; have s3 := HT.out.b.cell 3
        simp at r3 s3
        by_cases hlt : k < C.nums.length
        · have hltm : k < D.nums.length := by rw [← G4.out]; exact hlt
          obtain ⟨a, Aq, cq, ea, hab, x0, x1, x2, hRq, hq1, hq2, hs, ha⟩ := (HV.out.nums.keep (HT.out.n.mono hB) (Nat.le_refl _)).realAt hlt
          obtain ⟨b, Bq, bq, eb, hbb, y0, y1, y2, hSq, hp1, hp2, ps, pa⟩ := (HU.out.nums.keep (HT.out.n.mono hB) (Nat.le_refl _)).realAt hltm
          have q1 : (0 : Int) ≤ (k : Int) := by omega
          have q2 : (k : Int) < (C.nums.length : Int) := by omega
          have q3 : (k : Int) < (D.nums.length : Int) := by omega
          have hnx := takeR_same HE.out hlt hltm
          have hne : sameR C.nums[k] D.nums[k] = false → sameC C D = false := fun hh => sameC_no fun h => by have := sameRs_at h.2.2.2 k hlt hltm; rw [hh] at this; cases this
          subst ea eb
          have hzr : w.heap.size + 1 < wr.heap.size := HT.out.b.lt
          have hza : (a.add (k * 3)).block < wr.heap.size := by rw [block_add]; omega
          have hzb : (b.add (k * 3)).block < wr.heap.size := by rw [block_add]; omega
          have hzr2 : w.heap.size < wr.heap.size := by omega
          have hza2 : (a.add (k * 3)).block < wr.heap.size + 1 := by omega
          have hzb2 : (b.add (k * 3)).block < wr.heap.size + 1 := by omega
          generalize C.nums[k] = X at *
          generalize D.nums[k] = Y at *
          obtain ⟨s1, m1, M1⟩ := X
          obtain ⟨s2, m2, M2⟩ := Y
          simp only at x0 x1 x2 y0 y1 y2 hRq hSq hs ha ps pa hq1 hp1
          have HNX := Lib.hid hnx; have HNE := Lib.hid hne
          have HRq := Lib.hid hRq; have HSq := Lib.hid hSq
          have hA1 := ((Blk.new wr 60 #[.slice Aq s1.length cq, .float .f64 m1, .float .f64 M1]).alloc (.cells #[.slice Bq s2.length bq, .float .f64 m2, .float .f64 M2] 60)).drew
          have hA2 := (Blk.new (wr.alloc (.cells #[.slice Aq s1.length cq, .float .f64 m1, .float .f64 M1] 60)) 60 #[.slice Bq s2.length bq, .float .f64 m2, .float .f64 M2]).drew
          have hA3 := ((Blk.new wr 60 #[.slice Bq s2.length bq, .float .f64 m2, .float .f64 M2]).alloc (.cells #[.slice Aq s1.length cq, .float .f64 m1, .float .f64 M1] 60)).drew
          have hA4 := (Blk.new (wr.alloc (.cells #[.slice Bq s2.length bq, .float .f64 m2, .float .f64 M2] 60)) 60 #[.slice Aq s1.length cq, .float .f64 m1, .float .f64 M1]).drew
          have hz1 : (wr.alloc (.cells #[.slice Aq s1.length cq, .float .f64 m1, .float .f64 M1] 60)).heap.size = wr.heap.size + 1 := by simp
          have hz2 : (wr.alloc (.cells #[.slice Bq s2.length bq, .float .f64 m2, .float .f64 M2] 60)).heap.size = wr.heap.size + 1 := by simp
          rw [hz1] at hA2; rw [hz2] at hA4
          have hA5 := (belA (belA (belR wr) (.cells #[.slice Aq s1.length cq, .float .f64 m1, .float .f64 M1] 60)) (.cells #[.slice Bq s2.length bq, .float .f64 m2, .float .f64 M2] 60)).drew
          have hA6 := (belA (belA (belR wr) (.cells #[.slice Bq s2.length bq, .float .f64 m2, .float .f64 M2] 60)) (.cells #[.slice Aq s1.length cq, .float .f64 m1, .float .f64 M1] 60)).drew
          have HA1 := Lib.hid hA1; have HA2 := Lib.hid hA2; have HA3 := Lib.hid hA3; have HA4 := Lib.hid hA4; have HA5 := Lib.hid hA5; have HA6 := Lib.hid hA6
          have hzB : B ≤ wr.heap.size := Nat.le_trans hB HT.out.n.size
          clear hnx hne hRq hSq hA1 hA2 hA3 hA4 hz1 hz2 hA5 hA6
          go_upto_region 12 with (fail)
          go_cut [9, 10] (fun v6 v7 wx => ∃ gx gy : Nat, v6 = .pointer (some ⟨gx, 0, none⟩) ∧ v7 = .pointer (some ⟨gy, 0, none⟩) ∧ Hid (Blk wx gx 60 #[.slice Aq s1.length cq, .float .f64 m1, .float .f64 M1]) ∧ Hid (Blk wx gy 60 #[.slice Bq s2.length bq, .float .f64 m2, .float .f64 M2]) ∧ Hid (Below wr.heap.size wr wx))
          case first =>
            go_region
            all_goals
              go_wp2
              go_meet
              case rel => first | exact ⟨_, _, rfl, rfl, HA1.out, HA2.out, HA5.out⟩ | exact ⟨_, _, rfl, rfl, HA4.out, HA3.out, HA6.out⟩
          case rest =>
            obtain ⟨gx, gy, rfl, rfl, HX, HY, HBx⟩ := hcut
            clear x0 x1 x2 y0 y1 y2 HA1 HA2 HA3 HA4 HA5 HA6
            have x0 := HX.out.cell 0; have x1 := HX.out.cell 1; have x2 := HX.out.cell 2
            have y0 := HY.out.cell 0; have y1 := HY.out.cell 1; have y2 := HY.out.cell 2
            simp at x0 x1 x2 y0 y1 y2
            have HTX := Lib.hid (HT.out.below HBx.out)
            have hcv := run_str (P := Tryz.prog) (src := 27) (dst := 9) (c := cq) (HRq.out.below (HBx.out.mono hzB)) Tryz.underlying27 Tryz.underlying5 Tryz.underlying9
            have hcv' := run_str (P := Tryz.prog) (src := 27) (dst := 9) (c := bq) (HSq.out.below (HBx.out.mono hzB)) Tryz.underlying27 Tryz.underlying5 Tryz.underlying9
            have HS1 := Lib.hid (fun W => refFSame_any m1 m2 W hs ps)
            have HS2 := Lib.hid (fun W => refFSame_any M1 M2 W ha pa)
            by_cases e1 : s1 = s2
            case neg =>
              have HF := Lib.hid (HNE.out (by rw [← Bool.not_eq_true]; intro hh; unfold sameR at hh; simp only [Bool.and_eq_true, decide_eq_true_iff] at hh; exact e1 hh.1.1))
              go_wp2
              go_ret
              exact ⟨by rw [HF.out]; rfl, HTX.out.n⟩
            subst e1
            by_cases e2 : keyB m1 = keyB m2
            case neg =>
              have hsm := HS1.out
              rw [decide_eq_false e2] at hsm
              have HSM := Lib.hid hsm
              have HF := Lib.hid (HNE.out (by rw [← Bool.not_eq_true]; intro hh; unfold sameR at hh; simp only [Bool.and_eq_true, decide_eq_true_iff] at hh; exact e2 hh.1.2))
              clear e2 hsm HS1
              go_wp2_with (go_at_call 21; (with_reducible refine (HSM.out _).mono ?_); rintro y w5 ⟨rfl, hd5⟩; have HB5 := Lib.hid (Drw.below hd5 HTX.out.n); clear hd5)
              go_ret
              exact ⟨by rw [HF.out]; rfl, HB5.out⟩
            by_cases e3 : keyB M1 = keyB M2
            case neg =>
              have hsm := HS1.out
              rw [decide_eq_true e2] at hsm
              have hsn := HS2.out
              rw [decide_eq_false e3] at hsn
              have HSM := Lib.hid hsm; have HSN := Lib.hid hsn
              have HF := Lib.hid (HNE.out (by rw [← Bool.not_eq_true]; intro hh; unfold sameR at hh; simp only [Bool.and_eq_true, decide_eq_true_iff] at hh; exact e3 hh.2))
              clear e2 e3 hsm hsn HS1 HS2
              go_wp2_with (first
                | (go_at_call 21; (with_reducible refine (HSM.out _).mono ?_); rintro y w5 ⟨rfl, hd5⟩; have HB5 := Lib.hid (Drw.below hd5 HTX.out.n); have HX5 := HX.out.drw hd5; have HY5 := HY.out.drw hd5; have x25 := HX5.cell 2; have y25 := HY5.cell 2; simp at x25 y25; clear hd5 HX5 HY5 HSM)
                | (go_at_call 21; (with_reducible refine (HSN.out _).mono ?_); rintro y w6 ⟨rfl, hd6⟩; have HB6 := Lib.hid (Drw.below hd6 HB5.out); clear hd6))
              go_ret
              exact ⟨by rw [HF.out]; rfl, HB6.out⟩
            have hsm := HS1.out
            rw [decide_eq_true e2] at hsm
            have hsn := HS2.out
            rw [decide_eq_true e3] at hsn
            have HSM := Lib.hid hsm; have HSN := Lib.hid hsn
            have HNX2 := Lib.hid (HNX.out (by unfold sameR; simp [e2, e3]))
            clear e2 e3 hsm hsn HS1 HS2
            go_wp2_with (first
              | (go_at_call 21; (with_reducible refine (HSM.out _).mono ?_); rintro y w5 ⟨rfl, hd5⟩; have HT5 := Lib.hid (HTX.out.below (Drw.below hd5 (belR _))); have HX5 := HX.out.drw hd5; have HY5 := HY.out.drw hd5; have x25 := HX5.cell 2; have y25 := HY5.cell 2; simp at x25 y25; clear hd5 HX5 HY5 HSM)
              | (go_at_call 21; (with_reducible refine (HSN.out _).mono ?_); rintro y w6 ⟨rfl, hd6⟩; have HT6 := Lib.hid (HT5.out.below (Drw.below hd6 (belR _))); clear hd6))
            go_roundw
            case rel => exact ⟨k + 1, by omega, by go_num, HNX2.out, HT6.out⟩
            case measure => simp [intOf]; omega
        · obtain rfl : k = C.nums.length := by omega
          have HF := Lib.hid (HYES.out HE2.out (eqR_of_take G4.out HE.out))
          have q2 : ¬ (C.nums.length : Int) < (C.nums.length : Int) := by omega
          go_wp2
          go_ret
          exact ⟨by rw [HF.out]; rfl, HT.out.n⟩
end Go.Proofs.YtfhmaincnlaapaaGreat
namespace Go.Proofs.YtfhmaincnlaapaaGreat.Sy
open Go.ChangeShapes Go.WideShapes Go.ChangeAt Go.RowKit
set_option linter.unusedVariables false
def encStr (s : ByteArray) : List AV := [.v (.string s)]
def encI64 (z : Int) : List AV := [.v (.int .i64 z)]
def encU32 (z : Int) : List AV := [.v (.int .u32 z)]
def encDim (d : ByteArray × Int) : List AV := encStr d.1 ++ encI64 d.2
def encSch (S : Sch) : List AV := encL encDim S.dims ++ (encL encStr S.ints ++ (encL encStr S.nums ++ encL encU32 S.views))
def okStr (s : ByteArray) : Prop := s.size ≤ maxLen
def okI64 (z : Int) : Prop := (Lit.int .i64 z).wf = true
def okU32 (z : Int) : Prop := (Lit.int .u32 z).wf = true
def okSch (S : Sch) : Prop := (∀ d ∈ S.dims, okStr d.1 ∧ okI64 d.2) ∧ (∀ x ∈ S.ints, okStr x) ∧ (∀ x ∈ S.nums, okStr x) ∧ ∀ x ∈ S.views, okU32 x
theorem enc_str : Enc strR encStr okStr := Enc.val
theorem enc_i64 : Enc i64R encI64 okI64 := Enc.val
theorem enc_u32 : Enc u32R encU32 okU32 := Enc.val
theorem enc_sch : Enc schR encSch okSch := Enc.two (Enc.sl (Enc.two enc_str enc_i64)) (Enc.two (Enc.sl enc_str) (Enc.two (Enc.sl enc_str) (Enc.sl enc_u32)))
theorem okSch_of {S : Sch} (h : SchOk S) : okSch S := ⟨fun d hd => ⟨(h.dims d hd).1, WalkArith.wf_i64 (h.dims d hd).2⟩, h.ints, h.nums, fun x hx => WalkArith.wf_u32 (h.views x hx)⟩
def encU8 (b : UInt8) : List AV := [.v (.int .u8 (b.toNat : Int))]
def encU32n (n : Nat) : List AV := [.v (.int .u32 (n : Int))]
def encU64n (n : Nat) : List AV := [.v (.int .u64 (n : Int))]
def encF64 (b : Nat) : List AV := [.v (.float .f64 b)]
def encWh (X : WholeS) : List AV := encI64 X.sum ++ (encI64 X.abs ++ (encL encU32n X.sq ++ (encI64 X.mn ++ encI64 X.mx)))
def encRe (X : RealS) : List AV := encL encU8 X.sum ++ (encF64 X.mn ++ encF64 X.mx)
def encCl (C : CellS) : List AV := encU64n C.key ++ (encI64 C.count ++ (encL encWh C.ints ++ encL encRe C.nums))
def okWh (X : WholeS) : Prop := okI64 X.sum ∧ okI64 X.abs ∧ (∀ n ∈ X.sq, n < 4294967296) ∧ okI64 X.mn ∧ okI64 X.mx
def okRe (X : RealS) : Prop := (∀ b ∈ X.sum, True) ∧ X.mn < 18446744073709551616 ∧ X.mx < 18446744073709551616
def okCl (C : CellS) : Prop := C.key < 18446744073709551616 ∧ okI64 C.count ∧ (∀ X ∈ C.ints, okWh X) ∧ ∀ X ∈ C.nums, okRe X
theorem enc_wh : Enc wholeR encWh okWh := Enc.two enc_i64 (Enc.two enc_i64 (Enc.two (Enc.sl Enc.val) (Enc.two enc_i64 enc_i64)))
theorem enc_re : Enc realR encRe okRe := Enc.two (Enc.sl Enc.val) (Enc.two Enc.val Enc.val)
theorem enc_cl : Enc cellR encCl okCl := Enc.two Enc.val (Enc.two enc_i64 (Enc.two (Enc.sl enc_wh) (Enc.sl enc_re)))
theorem len2 {α : Type} : ∀ {l : List α}, l.length = 2 → ∃ a b, l = [a, b]
  | [a, b], _ => ⟨a, b, rfl⟩
theorem len3 {α : Type} : ∀ {l : List α}, l.length = 3 → ∃ a b c, l = [a, b, c]
  | [a, b, c], _ => ⟨a, b, c, rfl⟩
/-! ### opened -/
theorem sch_open {E : Env} {S : Sch} {u : Value} (hF : ∀ b, E.F b → b < E.w.heap.size) (ho : okSch S) (h : Sees1 E (.agg (encSch S)) u) : SchAt E.w E.w.heap.size u S := by
  obtain ⟨cs, rfl, hr⟩ := enc_sch.unsee hF rfl h ho
  exact (schR_at (cs := cs.toArray) (by simpa using hr)).1
theorem cell_open {E : Env} {C : CellS} {u : Value} (hF : ∀ b, E.F b → b < E.w.heap.size) (ho : okCl C) (h : Sees1 E (.agg (encCl C)) u) : ∃ A2 c2 A3 c3, u = .agg #[.int .u64 (C.key : Int), .int .i64 C.count, .slice A2 C.ints.length c2, .slice A3 C.nums.length c3] ∧ CellV E.w E.w.heap.size C A2 c2 A3 c3 := by
  obtain ⟨cs, rfl, hr⟩ := enc_cl.unsee hF rfl h ho
  obtain ⟨A2, c2, A3, c3, rfl, hv⟩ := cellR_at hr
  exact ⟨A2, c2, A3, c3, rfl, hv⟩
theorem cell_see {E : Env} {B : Nat} {C : CellS} {A2 A3 : Option Addr} {c2 c3 : Nat} (hF : ∀ b, b < B → E.F b) (hv : CellV E.w B C A2 c2 A3 c3) : Sees1 E (.agg (encCl C)) (.agg #[.int .u64 (C.key : Int), .int .i64 C.count, .slice A2 C.ints.length c2, .slice A3 C.nums.length c3]) := enc_cl.see hF (cellR_mk hv)
theorem cell_ok' {w : World} {B : Nat} {C : CellS} {A2 A3 : Option Addr} {c2 c3 : Nat} (hv : CellV w B C A2 c2 A3 c3) : okCl C := (enc_cl.fw (F := fun _ => True) (fun _ _ => trivial) (cellR_mk hv)).2
/-! ### what is known -/
theorem light_fn {S : Sch} (ho : okSch S) : FnOk Tryz.prog 9 ⟨[.agg (encSch S)], [], .v (.bool (lightB S)), []⟩ :=
  FnOk.of_calls rfl fun E vs hF hl hs => by
    obtain ⟨u, rfl⟩ : ∃ u, vs = [u] := List.length_eq_one_iff.1 hl
    exact light_any E.w E.w.heap.size u S (sch_open hF ho (hs 0 _ u rfl rfl)) (Nat.le_refl _)
theorem lightC_fn {C : CellS} (ho : okCl C) : FnOk Tryz.prog 19 ⟨[.agg (encCl C)], [], .v (.bool (lightC C)), []⟩ :=
  FnOk.of_calls rfl fun E vs hF hl hs => by
    obtain ⟨u, rfl⟩ : ∃ u, vs = [u] := List.length_eq_one_iff.1 hl
    obtain ⟨A2, c2, A3, c3, rfl, hv⟩ := cell_open hF ho (hs 0 _ u rfl rfl)
    exact lightC_any E.w E.w.heap.size C A2 c2 A3 c3 hv (Nat.le_refl _)
theorem right_fn {S : Sch} {C : CellS} {mask : Nat} (hs : SchOk S) (ho : okCl C) (hm : mask < 4294967296) : FnOk Tryz.prog 25 ⟨[.agg (encSch S), .v (.int .u32 (mask : Int)), .agg (encCl C)], [], .v (.bool (rightC S mask C)), []⟩ :=
  FnOk.of_calls rfl fun E vs hF hl hz => by
    obtain ⟨u, v, x, rfl⟩ : ∃ u v x, vs = [u, v, x] := len3 hl
    have h1 := sch_open hF (okSch_of hs) (hz 0 _ u rfl rfl)
    obtain ⟨rfl, _⟩ : v = .int .u32 (mask : Int) ∧ _ := hz 1 _ v rfl rfl
    obtain ⟨A2, c2, A3, c3, rfl, hv⟩ := cell_open hF ho (hz 2 _ x rfl rfl)
    exact ref14Right_any E.w E.w.heap.size u S mask C A2 c2 A3 c3 h1 hs hv (Nat.le_refl _) hm
theorem same_fn {C D : CellS} (hC : okCl C) (hD : okCl D) : FnOk Tryz.prog 27 ⟨[.agg (encCl C), .agg (encCl D)], [], .v (.bool (sameC C D)), []⟩ :=
  FnOk.of_calls rfl fun E vs hF hl hz => by
    obtain ⟨u, x, rfl⟩ : ∃ u x, vs = [u, x] := len2 hl
    obtain ⟨A2, c2, A3, c3, rfl, hv⟩ := cell_open hF hC (hz 0 _ u rfl rfl)
    obtain ⟨B2, d2, B3, d3, rfl, hu⟩ := cell_open hF hD (hz 1 _ x rfl rfl)
    exact same14_any E.w E.w.heap.size C A2 c2 A3 c3 D B2 d2 B3 d3 hv hu (Nat.le_refl _)
/-! ### results in new blocks -/
def newF (E : Env) (w' : World) (b : Nat) : Prop := E.F b ∨ (E.w.heap.size ≤ b ∧ b < w'.heap.size)
theorem FnOk.of_new {P : Program} {f : FuncId} {args : List AV} {r : AV} (h : ∀ (E : Env) (vs : List Value), (∀ b, E.F b → b < E.w.heap.size) → vs.length = args.length → (∀ (j : Nat) (x : AV) (u : Value), args[j]? = some x → vs[j]? = some u → Sees1 E x u) →
    Calls P f vs.toArray E.w fun y w' => ∃ v, y = .returned v ∧ Below E.w.heap.size E.w w' ∧ Sees ⟨w', newF E w', E.β, E.ν, E.ob⟩ r v) : FnOk P f ⟨args, [], r, []⟩ := by
  intro M w0 E vs hob hm hl hs
  refine (h E vs hm.fz hl hs).mono ?_
  rintro y w' ⟨v, rfl, hb, hsee⟩
  obtain ⟨h1, h2⟩ := hm.grow hb (newF E w') (fun b hb => hb) (fun b hb => .inl hb)
  exact ⟨⟨w', newF E w', E.β, E.ν, E.ob⟩, v, rfl, rfl, hob, h1, h2, hsee⟩
/-- a row of the call's own -/
theorem own_rep {w : World} {base : Nat} {F : Nat → Prop} {e : TypeId} {s n : Nat} {v : Value} {us : List Value} {cs : List AV} (h : w.ownsRow base e s v n us) (hF : ∀ b, base ≤ b → b < w.heap.size → F b) (hr : RepL w F cs us) : Rep w F (.lst n cs) v := by
  rcases h.2 with ⟨hv, hn⟩ | ⟨g, cap, cur, hv, hg, hh, hnc, hcm, _⟩
  · subst hn
    have hc : cs = [] := List.eq_nil_of_length_eq_zero (by rw [← hr.1, h.1]; simp)
    subst hc; rw [hv]; exact .nil none 0 (Nat.zero_le _)
  · have hcell := h.cells (g := g) (by rw [hv]; rfl)
    have hlt : g < w.heap.size := by
      rcases Nat.lt_or_ge g w.heap.size with h1 | h1
      · exact h1
      · rw [Array.getElem?_eq_none h1] at hh; cases hh
    rw [hv]
    rcases Nat.eq_zero_or_pos n with hn | hn
    · subst hn
      have hc : cs = [] := List.eq_nil_of_length_eq_zero (by rw [← hr.1, h.1]; simp)
      subst hc; exact .nil _ cap hcm
    · exact .lst n cap cs ⟨g, 0, none⟩ us hn hnc hcm (hF g hg hlt) hr.1 hr.ones hcell hr.2
theorem repL_v {w : World} {F : Nat → Prop} {us : List Value} (h : ∀ u ∈ us, u.oneCell' = true) : RepL w F (us.map .v) us := by
  refine ⟨by simp, fun j x u hx hu => ?_⟩
  rw [List.getElem?_map, hu] at hx
  injection hx with hx; subst hx
  exact .v u (h u (List.mem_of_getElem? hu))
theorem byL_u8s (l : List UInt8) : byL l = (u8s l).map .v := by simp [byL, u8s]
theorem put_fn {C : CellS} (ho : okCl C) (hl : lightC C = true) : FnOk Tryz.prog 36 ⟨[.agg (encCl C)], [], .lst (encCell C).length (byL (encCell C)), []⟩ :=
  FnOk.of_new fun E vs hF hlen hs => by
    obtain ⟨u, rfl⟩ : ∃ u, vs = [u] := List.length_eq_one_iff.1 hlen
    obtain ⟨A2, c2, A3, c3, rfl, hv⟩ := cell_open hF ho (hs 0 _ u rfl rfl)
    refine (aggPut_any E.w E.w.heap.size C A2 c2 A3 c3 hv hl (Nat.le_refl _)).mono ?_
    rintro y w' ⟨v, rfl, ho, hb⟩
    exact ⟨v, rfl, hb, own_rep ho (fun b h1 h2 => .inr ⟨h1, h2⟩) (by rw [byL_u8s]; exact repL_v fun u hu => (List.mem_map.1 hu).elim fun z hz => by rw [← hz.2]; rfl)⟩
theorem refPut_fn {C : CellS} (ho : okCl C) (hl : lightC C = true) : FnOk Tryz.prog 35 ⟨[.agg (encCl C)], [], .lst (encCell C).length (byL (encCell C)), []⟩ :=
  FnOk.of_new fun E vs hF hlen hs => by
    obtain ⟨u, rfl⟩ : ∃ u, vs = [u] := List.length_eq_one_iff.1 hlen
    obtain ⟨A2, c2, A3, c3, rfl, hv⟩ := cell_open hF ho (hs 0 _ u rfl rfl)
    refine (refPutC_any E.w E.w.heap.size C A2 c2 A3 c3 hv hl (Nat.le_refl _)).mono ?_
    rintro y w' ⟨v, rfl, ho, hb⟩
    exact ⟨v, rfl, hb, own_rep ho (fun b h1 h2 => .inr ⟨h1, h2⟩) (by rw [byL_u8s]; exact repL_v fun u hu => (List.mem_map.1 hu).elim fun z hz => by rw [← hz.2]; rfl)⟩
theorem bytes_open {E : Env} {l : List UInt8} {u : Value} (hF : ∀ b, E.F b → b < E.w.heap.size) (h : Sees1 E (.lst l.length (byL l)) u) : ∃ A c, u = .slice A l.length c ∧ Rd E.w E.w.heap.size 1 A l.length (u8s l) := by
  have hr : Rep E.w E.F (.lst l.length (byL l)) u := h
  generalize hn : l.length = n at hr ⊢
  generalize hcs : byL l = cs at hr
  cases hr with
  | nil A c _ =>
    obtain rfl := List.eq_nil_of_length_eq_zero hn
    exact ⟨A, c, rfl, Rd.nil⟩
  | lst _ c _ a us h0 h1 h2 hFa hl h1' hu hr =>
    subst hcs
    have hus : us = u8s l := by
      refine List.ext_getElem? fun j => ?_
      by_cases hj : j < l.length
      · obtain ⟨u, h5⟩ := getElem?_of (l := us) (j := j) (by rw [hl]; simpa [byL] using hj)
        have h6 := hr j (.v (.int .u8 ((l[j]).toNat : Int))) u (by unfold byL; rw [List.getElem?_map, List.getElem?_eq_getElem hj]; rfl) h5
        unfold u8s
        rw [h5, List.getElem?_map, List.getElem?_eq_getElem hj]
        cases h6 with
        | v _ h7 => rfl
      · rw [List.getElem?_eq_none (by rw [hl]; simpa [byL] using hj), List.getElem?_eq_none (by simpa [u8s] using hj)]
    exact ⟨some a, c, rfl, by rw [← hus, hl]; simp [byL, hn], fun _ => ⟨a, rfl, hF _ hFa, by rw [← hus]; exact hu⟩⟩
theorem flat_v {α : Type} (g : α → Value) (l : List α) : (l.flatMap fun x => [AV.v (g x)]) = (l.map g).map .v := by
  induction l with
  | nil => rfl
  | cons x l ih => simp only [List.flatMap_cons, ih, List.map_cons]; rfl
theorem wh_rep {w : World} {base : Nat} {F : Nat → Prop} (hF : ∀ b, base ≤ b → b < w.heap.size → F b) : ∀ {l : List WholeS} {xs : List Value}, WhO w base l xs → RepL w F (l.flatMap encWh) xs
  | [], xs, h => by cases h; exact .nil
  | X :: l, xs, h => by
    obtain ⟨v, rest, rfl, ho, hr⟩ := h
    refine RepL.app (a := encWh X) ?_ (wh_rep hF hr)
    have hv := own_rep ho hF (cs := X.sq.flatMap encU32n) (by
      rw [show X.sq.flatMap encU32n = (u32n X.sq).map .v from flat_v _ _]; exact repL_v fun u hu => (List.mem_map.1 hu).elim fun z hz => by rw [← hz.2]; rfl)
    exact (RepL.one.2 (.v _ rfl)).app ((RepL.one.2 (.v _ rfl)).app ((RepL.one.2 hv).app ((RepL.one.2 (.v _ rfl)).app (RepL.one.2 (.v _ rfl)))))
theorem re_rep {w : World} {base : Nat} {F : Nat → Prop} (hF : ∀ b, base ≤ b → b < w.heap.size → F b) : ∀ {l : List RealS} {xs : List Value}, ReO w base l xs → RepL w F (l.flatMap encRe) xs
  | [], xs, h => by cases h; exact .nil
  | X :: l, xs, h => by
    obtain ⟨v, rest, rfl, ho, hr⟩ := h
    refine RepL.app (a := encRe X) ?_ (re_rep hF hr)
    have hv := own_rep ho hF (cs := X.sum.flatMap encU8) (by
      rw [show X.sum.flatMap encU8 = (u8s X.sum).map .v from flat_v _ _]; exact repL_v fun u hu => (List.mem_map.1 hu).elim fun z hz => by rw [← hz.2]; rfl)
    exact (RepL.one.2 hv).app ((RepL.one.2 (.v _ rfl)).app (RepL.one.2 (.v _ rfl)))
theorem leafs_rep {E : Env} {cs : List AV} {us : List Value} (h : RepL E.w E.F cs us) : Leafs E cs us := ⟨h.1, fun j x u hx hu => ⟨Leaf.rep (h.2 j x u hx hu), (h.2 j x u hx hu).one⟩⟩
theorem get_fn {S : Sch} {mask : Nat} {t : List UInt8} (hs : SchOk S) (hm : mask < 4294967296) (ht : t.length ≤ 1000000) : FnOk Tryz.prog 33 ⟨[.agg (encSch S), .v (.int .u32 (mask : Int)), .lst t.length (byL t)], [], .tup [.agg (encCl (getC S mask t).1), .v (.int .i64 ((getC S mask t).2.1 : Int)), .v (.int .i64 ((getC S mask t).2.2 : Int))], []⟩ :=
  FnOk.of_new fun E vs hF hlen hz => by
    obtain ⟨u, v, x, rfl⟩ := len3 hlen
    have h1 := sch_open hF (okSch_of hs) (hz 0 _ u rfl rfl)
    obtain ⟨rfl, _⟩ : v = .int .u32 (mask : Int) ∧ _ := hz 1 _ v rfl rfl
    obtain ⟨A, c, rfl, hr⟩ := bytes_open hF (hz 2 _ x rfl rfl)
    refine (aggGet_any E.w E.w.heap.size u S mask A t.length c t h1 hs hr (Nat.le_refl _) ht hm).mono ?_
    rintro y w' ⟨A2, c2, A3, c3, rfl, ho, hb⟩
    refine ⟨_, rfl, hb, _, rfl, rfl, fun j y v hy hv => ?_⟩
    obtain ⟨xs, o1, o2⟩ := ho.o2
    obtain ⟨ys, o3, o4⟩ := ho.o3
    have hN : ∀ b, E.w.heap.size ≤ b → b < w'.heap.size → newF E w' b := fun b h1 h2 => .inr ⟨h1, h2⟩
    have k2 := own_rep o1 hN (wh_rep hN o2)
    have k3 := own_rep o3 hN (re_rep hN o4)
    match j, hy, hv with
    | 0, hy, hv =>
      injection hy with hy; injection hv with hv; subst hy; subst hv
      exact ⟨_, rfl, leafs_rep (E := ⟨w', newF E w', E.β, E.ν, E.ob⟩) ((RepL.one.2 (.v _ rfl)).app ((RepL.one.2 (.v _ rfl)).app ((RepL.one.2 k2).app (RepL.one.2 k3))))⟩
    | 1, hy, hv => injection hy with hy; injection hv with hv; subst hy; subst hv; exact ⟨rfl, rfl⟩
    | 2, hy, hv => injection hy with hy; injection hv with hv; subst hy; subst hv; exact ⟨rfl, rfl⟩
    | j + 3, hy, hv => simp at hy
end Go.Proofs.YtfhmaincnlaapaaGreat.Sy
namespace Go.Proofs.YtfhmaincnlaapaaGreat
open Go.ChangeShapes Go.WideShapes Go.ChangeAt Go.RowKit
set_option linter.unusedVariables false

/-- one thing read without a fault: the bytes behind the place are its bytes -/
structure Back {V : Type} (t : List UInt8) (g : V → List UInt8) (f : Nat → Nat → Nat → List V × Nat × Nat) : Prop where
  inb : ∀ k p e, p ≤ t.length → (f k p e).2.1 ≤ t.length
  bk : ∀ k p e, p ≤ t.length → (f k p e).2.2 = 0 → e = 0 ∧ t.take (f k p e).2.1 = t.take p ++ (f k p e).1.flatMap g
theorem Back.runI {V : Type} {t : List UInt8} {g : V → List UInt8} {f : Nat → Nat → Nat → List V × Nat × Nat} (h : Back t g f) (n p e : Nat) (hp : p ≤ t.length) : (runN f p e n).2.1 ≤ t.length := by
  induction n with
  | zero => exact hp
  | succ n ih => rw [runN_succ]; exact h.inb _ _ _ ih
theorem Back.run {V : Type} {t : List UInt8} {g : V → List UInt8} {f : Nat → Nat → Nat → List V × Nat × Nat} (h : Back t g f) (n p e : Nat) (hp : p ≤ t.length) (he : (runN f p e n).2.2 = 0) :
    e = 0 ∧ t.take (runN f p e n).2.1 = t.take p ++ (runN f p e n).1.flatMap g := by
  induction n with
  | zero => exact ⟨he, by simp [runN]⟩
  | succ n ih =>
    rw [runN_succ] at he ⊢
    simp only at he ⊢
    obtain ⟨h0, d2⟩ := h.bk n _ _ (h.runI n p e hp) he
    obtain ⟨a, d⟩ := ih h0
    exact ⟨a, by rw [d2, d, List.flatMap_append, List.append_assoc]⟩
end Go.Proofs.YtfhmaincnlaapaaGreat
namespace Go.Proofs.YtfhmaincnlaapaaGreat
open Go.ChangeShapes Go.WideShapes Go.ChangeAt Go.RowKit
set_option linter.unusedVariables false

/-! ### how far agg.Get goes -/
/-! ### what ReadLeaf comes to -/
def rlS (S : Sch) (mask : Nat) (d : List UInt8) : Nat → List CellS × Nat × Nat
  | 0 => ([], 0, 0)
  | k + 1 => if (rlS S mask d k).2.2 ≠ 0 then rlS S mask d k
    else if (getC S mask (d.drop (rlS S mask d k).2.1)).2.2 ≠ 0 then ([], 0, (getC S mask (d.drop (rlS S mask d k).2.1)).2.2)
    else ((rlS S mask d k).1 ++ [(getC S mask (d.drop (rlS S mask d k).2.1)).1], (rlS S mask d k).2.1 + (getC S mask (d.drop (rlS S mask d k).2.1)).2.1, 0)
def readL (S : Sch) (mask : Nat) (s : Sht) : List CellS × Nat :=
  if checkN S ≠ 0 then ([], 1) else if (keysOf S mask).isNone = true then ([], 11) else if s.k ≠ 3 ∨ s.a < 1 ∨ 1001 < s.a ∨ s.b ≠ mask then ([], 6)
  else if (rlS S mask s.d s.a).2.2 ≠ 0 then ([], (rlS S mask s.d s.a).2.2) else if (rlS S mask s.d s.a).2.1 < s.d.length then ([], 7)
  else if risingC (rlS S mask s.d s.a).1 = true then ((rlS S mask s.d s.a).1, 0) else ([], 6)
section
variable {S : Sch} {mask : Nat} {s : Sht}
end
/-! ### cells of the call's own -/
def CeO (w : World) (base : Nat) : List CellS → List Value → Prop
  | [], xs => xs = []
  | C :: l, xs => ∃ A2 c2 A3 c3 rest, xs = cellC C A2 c2 A3 c3 ++ rest ∧ CellO w base C A2 c2 A3 c3 ∧ CeO w base l rest
section
variable {w w' : World} {base base' : Nat} {l l' : List CellS} {xs xs' : List Value}
theorem CeO.map (h : CeO w base l xs) (hb : base' ≤ base) (k : ∀ (e : TypeId) (size : Nat) (v : Value) (n : Nat) (ys : List Value), e ≠ 53 → w.ownsRow base e size v n ys → w'.ownsRow base e size v n ys) : CeO w' base' l xs := by
  induction l generalizing xs with
  | nil => exact h
  | cons C l ih => obtain ⟨A2, c2, A3, c3, rest, rfl, o, hr⟩ := h; exact ⟨A2, c2, A3, c3, rest, rfl, o.map hb k, ih hr⟩
theorem CeO.app (h : CeO w base l xs) (k : CeO w base l' xs') : CeO w base (l ++ l') (xs ++ xs') := by
  induction l generalizing xs with
  | nil => cases h; exact k
  | cons C l ih => obtain ⟨A2, c2, A3, c3, rest, rfl, o, hr⟩ := h; exact ⟨A2, c2, A3, c3, rest ++ xs', by rw [List.append_assoc], o, ih hr⟩
theorem CeO.one {C : CellS} {A2 A3 : Option Addr} {c2 c3 : Nat} (h : CellO w base C A2 c2 A3 c3) : CeO w base [C] (cellC C A2 c2 A3 c3) := ⟨A2, c2, A3, c3, [], by simp, h, rfl⟩
theorem CeO.chunk (h : CeO w base l xs) : Chunk cellR w w.heap.size l xs := by
  induction l generalizing xs with
  | nil => exact h
  | cons C l ih => obtain ⟨A2, c2, A3, c3, rest, rfl, o, hr⟩ := h; exact ⟨_, rest, rfl, cellR_mk o.cellV, ih hr⟩
theorem CeO.below (h : CeO w base l xs) (hb : Below w.heap.size w w') : CeO w' base l xs := h.map (Nat.le_refl _) fun e size v n ys _ o => own_below o hb (Nat.le_refl _)
theorem CeO.alloc (h : CeO w base l xs) (o : Obj) : CeO (w.alloc o) base l xs := h.below (belA (belR w) o)
theorem CeO.drewN (h : CeO w base l xs) (n : Nat) : CeO (w.drewN n) base l xs := h.below (belD (belR w) n)
theorem CeO.appd {v v' : Value} {b n size : Nat} {ys : List Value} (h : CeO w base l xs) (k : Appd w w' v v') (ho : w.ownsRow b 53 size v n ys) : CeO w' base l xs := h.map (Nat.le_refl _) fun _ _ _ _ _ he o => k.kept o (own_own_ne o ho he)
theorem CeO.len (h : CeO w base l xs) : xs.length = l.length * 4 := h.chunk.len
end
/-- a leaf that is being read -/
structure RlR (w wr : World) (SV XV : Array Value) (ov : Value) (l : List CellS) (xs : List Value) : Prop where
  s : Blk wr w.heap.size 26 SV
  x : Blk wr (w.heap.size + 1) 42 XV
  o : wr.ownsRow (w.heap.size + 1 + 1) 53 4 ov l.length xs
  c : CeO wr (w.heap.size + 1 + 1) l xs
  n : Below w.heap.size w wr
section
variable {w wr w2 w3 : World} {SV XV : Array Value} {ov v' : Value} {l : List CellS} {xs : List Value}
theorem RlR.lt (h : RlR w wr SV XV ov l xs) : w.heap.size + 1 + 1 ≤ wr.heap.size := h.x.lt
theorem RlR.below (h : RlR w wr SV XV ov l xs) (hb : Below wr.heap.size wr w2) : RlR w w2 SV XV ov l xs :=
  ⟨h.s.below hb h.s.lt, h.x.below hb h.x.lt, own_below h.o hb (Nat.le_refl _), h.c.below hb, belT h.n hb⟩
theorem RlR.put {C : CellS} {A2 A3 : Option Addr} {c2 c3 : Nat} (h : RlR w wr SV XV ov l xs) (hc : CellO wr (w.heap.size + 1 + 1) C A2 c2 A3 c3) (ho : w3.ownsRow (w.heap.size + 1 + 1) 53 4 v' (l.length + 1) (xs ++ cellC C A2 c2 A3 c3)) (k : Appd wr w3 ov v') :
    RlR w w3 SV XV v' (l ++ [C]) (xs ++ cellC C A2 c2 A3 c3) := by
  have hz := h.lt
  have hb : Below (w.heap.size + 1 + 1) wr w3 := (Below.refl _ _).grown k.1 h.lt fun j hj => (h.o.lt j hj).1
  exact ⟨h.s.below hb (by omega), h.x.below hb (by omega), by simpa using ho, (h.c.appd k h.o).app (CeO.one (hc.map (Nat.le_refl _) fun _ _ _ _ _ he o => k.kept o (own_own_ne o h.o he))), h.n.trans (hb.mono (by omega))⟩
end
/-- the answer of tree.ReadLeaf -/
def RetLeaf (w : World) (S : Sch) (mask : Nat) (s : Sht) (y : Ending) (w' : World) : Prop := ∃ v xs, y = .returned (.tuple #[v, .int .i64 ((readL S mask s).2 : Int)]) ∧ w'.ownsRow w.heap.size 53 4 v (readL S mask s).1.length xs ∧ CeO w' w.heap.size (readL S mask s).1 xs ∧ Below w.heap.size w w'
theorem RetLeaf.bad {w w' : World} {S : Sch} {mask : Nat} {s : Sht} {e : Nat} (h : readL S mask s = ([], e)) (hb : Below w.heap.size w w') : RetLeaf w S mask s (.returned (.tuple #[.slice none 0 0, .int .i64 (e : Int)])) w' :=
  ⟨.slice none 0 0, [], by rw [h], by rw [h]; exact World.ownsRow_nil _ _ _ 4, by rw [h]; rfl, hb⟩
/-- behind one agg.Get -/
def LfCut (wr : World) (C : CellS) (q e : Nat) (v12 v13 v14 : Value) (wx : World) : Prop :=
  ∃ gc D2 d2 D3 d3, v12 = .pointer (some ⟨gc, 0, none⟩) ∧ v13 = .int .i64 (q : Int) ∧ v14 = .int .i64 (e : Int) ∧ Blk wx gc 53 (cellC C D2 d2 D3 d3).toArray ∧ CellO wx wr.heap.size C D2 d2 D3 d3 ∧ Below wr.heap.size wr wx
theorem LfCut.after {wr W w5 : World} {C : CellS} {q e : Nat} {D2 D3 : Option Addr} {d2 d3 : Nat} (hc : CellO w5 W.heap.size C D2 d2 D3 d3) (hw : Below wr.heap.size wr W) (hb : Below W.heap.size W w5) :
    LfCut wr C q e (.pointer (some ⟨w5.heap.size, 0, none⟩)) (.int .i64 (q : Int)) (.int .i64 (e : Int)) (w5.alloc (.cells #[.int .u64 (C.key : Int), .int .i64 C.count, .slice D2 C.ints.length d2, .slice D3 C.nums.length d3] 53)) :=
  ⟨_, D2, d2, D3, d3, rfl, rfl, rfl, Blk.new w5 _ _, hc.map hw.size fun _ _ _ _ _ _ o => o.alloc _, belA (belT hw hb) _⟩
theorem LfCut.before {wr W w5 : World} {C : CellS} {q e : Nat} {D2 D3 : Option Addr} {d2 d3 : Nat} (hz : W.heap.size = wr.heap.size + 1) (hk : Blk W wr.heap.size 53 #[.int .u64 0, .int .i64 0, .slice none 0 0, .slice none 0 0]) (hc : CellO w5 W.heap.size C D2 d2 D3 d3) (hw : Below wr.heap.size wr W) (hb : Below W.heap.size W w5) :
    LfCut wr C q e (.pointer (some ⟨wr.heap.size, 0, none⟩)) (.int .i64 (q : Int)) (.int .i64 (e : Int)) ((((w5.setCell ⟨wr.heap.size, 0, none⟩ (.int .u64 (C.key : Int))).setCell ⟨wr.heap.size, 1, none⟩ (.int .i64 C.count)).setCell ⟨wr.heap.size, 2, none⟩ (.slice D2 C.ints.length d2)).setCell ⟨wr.heap.size, 3, none⟩ (.slice D3 C.nums.length d3)) := by
  have hk5 := hk.below hb (by omega)
  refine ⟨_, D2, d2, D3, d3, rfl, rfl, rfl, ?_, hc.map (by omega) fun _ _ _ _ _ _ o => own_set_lo (own_set_lo (own_set_lo (own_set_lo o (p := ⟨wr.heap.size, 0, none⟩) (by simp only; omega) _) (p := ⟨wr.heap.size, 1, none⟩) (by simp only; omega) _) (p := ⟨wr.heap.size, 2, none⟩) (by simp only; omega) _) (p := ⟨wr.heap.size, 3, none⟩) (by simp only; omega) _, bel4 (belT hw hb) (Nat.le_refl _) _ _ _ _⟩
  exact (((hk5.set_ 0 (.int .u64 (C.key : Int))).set_ 1 (.int .i64 C.count)).set_ 2 (.slice D2 C.ints.length d2)).set_ 3 (.slice D3 C.nums.length d3)
end Go.Proofs.YtfhmaincnlaapaaGreat
namespace Go.Proofs.YtfhmaincnlaapaaGreat
open Go.ChangeShapes Go.WideShapes Go.ChangeAt Go.RowKit
set_option linter.unusedVariables false

/-! ### lengths -/
/-! ### reading -/
/-- what stands in memory is bounded -/
theorem cell_ok {w : World} {B : Nat} {C : CellS} {A2 A3 : Option Addr} {c2 c3 : Nat} (h : CellV w B C A2 c2 A3 c3) : CellOk C := by
  refine ⟨h.key, h.count, fun X hX => ?_⟩
  obtain ⟨k, hk, rfl⟩ := List.getElem_of_mem hX
  obtain ⟨_, _, _, _, _, _, _, _, _, _, _, _, _, h5, h1, h2, h3, h4⟩ := h.ints.wholeAt hk
  exact ⟨h1, h2, h3, h4, h5⟩
end Go.Proofs.YtfhmaincnlaapaaGreat
