/-
  The leaves of a right list, read one by one, yield the list.
  bushelref02.Same, bushelref14.Same, bushelref15.Same.
-/
import Derived.Deep.DeepCutAuto
import Derived.StillTailTactics
import Derived.Test.YtfhmaincnlaapaaGreatTlBufOutKeep
import Derived.Test.YtfhmaincnlaapaaGreatTlExactHead
import Derived.Test.YtfhmaincnlaapaaGreatTlReadLeaf
namespace Go.Proofs.YtfhmaincnlaapaaGreat
open Go.ChangeShapes Go.WideShapes Go.ChangeAt Go.RowKit
set_option linter.unusedVariables false

theorem run_store_fS {P : Program} {w : World} {a : Addr} {m : Mode} (k : FloatKind) (b : Nat) : (store a (.float k b) m).run P w = stored P w a (.float k b) m := run_store P w a _ m rfl
attribute [local go_sem] run_store_fS
theorem take_same {l m : List Nat} {k : Nat} (h : l.take k = m.take k) (h1 : k < l.length) (h2 : k < m.length) (e : l[k] = m[k]) : l.take (k + 1) = m.take (k + 1) := by
  rw [List.take_succ_eq_append_getElem h1, List.take_succ_eq_append_getElem h2, h, e]
theorem eq_of_take {l m : List Nat} (hl : l.length = m.length) (h : l.take l.length = m.take l.length) : l = m := by
  rw [List.take_length] at h
  rw [h, hl, List.take_length]
theorem u32n_get (l : List Nat) (j : Nat) (h : j < l.length) : (u32n l)[j]? = some (.int .u32 ((l[j] : Nat) : Int)) := by simp [u32n, h]
theorem rd_word {w : World} {B n : Nat} {A : Option Addr} {l : List Nat} {k : Nat} (h : Rd w B 1 A n (u32n l)) (hk : k < l.length) : ∃ a, A = some a ∧ a.block < B ∧ w.cell? (a.add k) = some (.int .u32 ((l[k] : Nat) : Int)) := by
  obtain ⟨a, u, e, hb, hx, hc⟩ := h.at1 (k := k) (by have := h.1; simp at this; omega)
  rw [u32n_get l k hk] at hx
  injection hx with hx
  exact ⟨a, e, hb, by rw [hc, hx]⟩
set_option maxRecDepth 20000 in
theorem same02_any (w : World) (B : Nat) (A A' : Option Addr) (c c' : Nat) (l m : List Nat) (h : Rd w B 1 A l.length (u32n l)) (h' : Rd w B 1 A' m.length (u32n m)) (hn : l.length ≤ 9223372036854775807) (hm : m.length ≤ 9223372036854775807) :
    Calls Tryz.prog 64 #[.slice A l.length c, .slice A' m.length c'] w fun y w' => y = .returned (.bool (decide (l = m))) ∧ Drw w w' := by
  have H := Lib.hid h; have H' := Lib.hid h'; clear h h'
  by_cases hl : l.length = m.length
  · have t1 : ((l.length : Int) != (m.length : Int)) = false := by rw [hl]; simp
    have HL := Lib.hid hl; clear hl
    go_enter Tryz.func64, Tryz.ntmps64
    go_wp2
    go_loopw [5] (fun i wr => ∃ k : Nat, k ≤ l.length ∧ i = .int .i64 (k : Int) ∧ Hid (l.take k = m.take k) ∧ Hid (Drw w wr)) (fun i _ => l.length - (intOf i).toNat)
    case atStart => exact ⟨0, by omega, rfl, rfl, Drw.refl _⟩
    case round =>
      obtain ⟨k, hk, rfl, HT, HD⟩ := hrel
      by_cases hlt : k < l.length
      · have hltm : k < m.length := by rw [← HL.out]; exact hlt
        obtain ⟨a, rfl, hab, x0⟩ := rd_word (rd_drw H.out HD.out) hlt
        obtain ⟨a', rfl, hab', y0⟩ := rd_word (rd_drw H'.out HD.out) hltm
        have q1 : (0 : Int) ≤ (k : Int) := by omega
        have q2 : (k : Int) < (l.length : Int) := by omega
        have q3 : (k : Int) < (m.length : Int) := by omega
        have hnx := take_same HT.out hlt hltm
        have hne : l[k] ≠ m[k] → decide (l = m) = false := fun hh => decide_eq_false fun e => hh (by subst e; rfl)
        generalize l[k] = x at *
        generalize m[k] = y at *
        by_cases g : x = y
        · subst g
          have t2 : ((x : Int) != (x : Int)) = false := by simp
          have HNX := Lib.hid (hnx rfl)
          clear hnx hne
          go_wp2
          go_quiet (fail)
          go_wp2
          go_roundw
          case rel => exact ⟨k + 1, by omega, by go_num, HNX.out, HD.out.drewN _⟩
          case measure => simp [intOf]; omega
        · have t2 : ((x : Int) != (y : Int)) = true := by rw [bne_iff_ne]; omega
          have HF := Lib.hid (hne g)
          clear hnx hne g
          go_wp2
          go_quiet (fail)
          go_wp2
          go_ret
          exact ⟨by rw [HF.out]; rfl, HD.out.drewN _⟩
      · obtain rfl : k = l.length := by omega
        have HF := Lib.hid (decide_eq_true (eq_of_take HL.out HT.out))
        have q2 : ¬ (l.length : Int) < (l.length : Int) := by omega
        go_wp2
        go_ret
        exact ⟨by rw [HF.out]; rfl, HD.out⟩
  · have t1 : ((l.length : Int) != (m.length : Int)) = true := by rw [bne_iff_ne]; omega
    have HF := Lib.hid (decide_eq_false (p := l = m) fun e => hl (by rw [e]))
    clear hl
    go_enter Tryz.func64, Tryz.ntmps64
    go_wp2
    go_ret
    exact ⟨by rw [HF.out]; rfl, Drw.refl _⟩
/-! ### cells -/
theorem sameRs_at {l m : List RealS} (h : sameRs l m = true) (k : Nat) (hk : k < l.length) (hm : k < m.length) : sameR l[k] m[k] = true := by
  induction l generalizing m k with
  | nil => simp at hk
  | cons x l ih => cases m with
    | nil => simp at hm
    | cons y m =>
      unfold sameRs at h
      rw [Bool.and_eq_true] at h
      cases k with
      | zero => exact h.1
      | succ k => exact ih h.2 k (by simpa using hk) (by simpa using hm)
theorem sameC_parts {C D : CellS} (h : sameC C D = true) : C.key = D.key ∧ C.count = D.count ∧ C.ints = D.ints ∧ sameRs C.nums D.nums = true := by
  unfold sameC at h
  simp only [Bool.and_eq_true, decide_eq_true_iff] at h
  exact ⟨h.1.1.1, h.1.1.2, sameWs_eq h.1.2, h.2⟩
theorem sameC_no {C D : CellS} (h : ¬ (C.key = D.key ∧ C.count = D.count ∧ C.ints = D.ints ∧ sameRs C.nums D.nums = true)) : sameC C D = false := by
  rw [← Bool.not_eq_true]; exact fun hh => h (sameC_parts hh)
theorem sameC_yes {C D : CellS} (h1 : C.key = D.key) (h2 : C.count = D.count) (h3 : C.ints = D.ints) (h4 : sameRs C.nums D.nums = true) : sameC C D = true := by
  unfold sameC; rw [h3, sameWs_self, h4]; simp [h1, h2]
theorem takeW_same {l m : List WholeS} {k : Nat} (h : l.take k = m.take k) (h1 : k < l.length) (h2 : k < m.length) (e : l[k] = m[k]) : l.take (k + 1) = m.take (k + 1) := by
  rw [List.take_succ_eq_append_getElem h1, List.take_succ_eq_append_getElem h2, h, e]
theorem eqW_of_take {l m : List WholeS} (hl : l.length = m.length) (h : l.take l.length = m.take l.length) : l = m := by
  rw [List.take_length] at h
  rw [h, hl, List.take_length]
theorem takeR_same {l m : List RealS} {k : Nat} (h : sameRs (l.take k) (m.take k) = true) (h1 : k < l.length) (h2 : k < m.length) (e : sameR l[k] m[k] = true) : sameRs (l.take (k + 1)) (m.take (k + 1)) = true := by
  rw [List.take_succ_eq_append_getElem h1, List.take_succ_eq_append_getElem h2]; exact sameRs_snoc h e
theorem eqR_of_take {l m : List RealS} (hl : l.length = m.length) (h : sameRs (l.take l.length) (m.take l.length) = true) : sameRs l m = true := by
  rw [List.take_length, hl, List.take_length] at h; exact h
/-- two whole measures' cells in blocks of the call's own -/
structure TwoW (w wr : World) (g1 g2 : Nat) (C D : Array Value) : Prop where
  a : Blk wr g1 53 C
  b : Blk wr g2 53 D
  n : Below w.heap.size w wr
theorem TwoW.below {w wr w' : World} {g1 g2 : Nat} {C D : Array Value} (h : TwoW w wr g1 g2 C D) (hb : Below wr.heap.size wr w') : TwoW w w' g1 g2 C D :=
  ⟨h.a.below hb h.a.lt, h.b.below hb h.b.lt, belT h.n hb⟩
set_option maxRecDepth 20000 in
set_option maxHeartbeats 8000000 in
theorem same14_any (w : World) (B : Nat) (C : CellS) (A2 : Option Addr) (c2 : Nat) (A3 : Option Addr) (c3 : Nat) (D : CellS) (D2 : Option Addr) (d2 : Nat) (D3 : Option Addr) (d3 : Nat) (hv : CellV w B C A2 c2 A3 c3) (hu : CellV w B D D2 d2 D3 d3) (hB : B ≤ w.heap.size) :
    Calls Tryz.prog 27 #[.agg #[.int .u64 (C.key : Int), .int .i64 C.count, .slice A2 C.ints.length c2, .slice A3 C.nums.length c3], .agg #[.int .u64 (D.key : Int), .int .i64 D.count, .slice D2 D.ints.length d2, .slice D3 D.nums.length d3]] w
      fun y w' => y = .returned (.bool (sameC C D)) ∧ Below w.heap.size w w' := by
  have hml : C.ints.length ≤ 9223372036854775807 := by have h1 := hv.ints.1; have h2 := hv.ints.2.1; unfold maxLen at h2; omega
  have hmn : C.nums.length ≤ 9223372036854775807 := by have h1 := hv.nums.1; have h2 := hv.nums.2.1; unfold maxLen at h2; omega
  obtain ⟨W0, hW0⟩ : ∃ W0, W0 = (w.alloc (.cells #[.int .u64 (C.key : Int), .int .i64 C.count, .slice A2 C.ints.length c2, .slice A3 C.nums.length c3] 53)).alloc (.cells #[.int .u64 (D.key : Int), .int .i64 D.count, .slice D2 D.ints.length d2, .slice D3 D.nums.length d3] 53) := ⟨_, rfl⟩
  have ht0 : TwoW w W0 w.heap.size (w.heap.size + 1) #[.int .u64 (C.key : Int), .int .i64 C.count, .slice A2 C.ints.length c2, .slice A3 C.nums.length c3] #[.int .u64 (D.key : Int), .int .i64 D.count, .slice D2 D.ints.length d2, .slice D3 D.nums.length d3] := by
    rw [hW0]
    exact ⟨(Blk.new w _ _).alloc _, by have := Blk.new (w.alloc (.cells #[.int .u64 (C.key : Int), .int .i64 C.count, .slice A2 C.ints.length c2, .slice A3 C.nums.length c3] 53)) 53 #[.int .u64 (D.key : Int), .int .i64 D.count, .slice D2 D.ints.length d2, .slice D3 D.nums.length d3]; simpa using this, belA (belA (belR w) _) _⟩
  have HT0 := Lib.hid ht0; have HW0 := Lib.hid hW0; have HV := Lib.hid hv; have HU := Lib.hid hu
  clear ht0 hW0 hv hu
  have r0 := HT0.out.a.cell 0; have r1 := HT0.out.a.cell 1; have r2 := HT0.out.a.cell 2; have r3 := HT0.out.a.cell 3
  have s0 := HT0.out.b.cell 0; have s1 := HT0.out.b.cell 1; have s2 := HT0.out.b.cell 2; have s3 := HT0.out.b.cell 3
  simp at r0 r1 r2 r3 s0 s1 s2 s3
  rw [HW0.out] at r0 r1 r2 r3 s0 s1 s2 s3
  clear r0 r1 r2 r3 s0 s1 s2 s3
  by_cases g1 : C.key = D.key
  case neg =>
    have t1 : ((C.key : Int) != (D.key : Int)) = true := by rw [bne_iff_ne]; omega
    have HF := Lib.hid (sameC_no (C := C) (D := D) fun h => g1 h.1)
    clear g1
    go_enter Tryz.func27, Tryz.ntmps27
    go_wp2
    go_ret
    exact ⟨by rw [HF.out]; rfl, by have := HT0.out.n; rw [HW0.out] at this; exact this⟩
  by_cases g2 : C.count = D.count
  case neg =>
    have t1 : ((C.key : Int) != (D.key : Int)) = false := by rw [bne_eq_false_iff_eq]; omega
    have t2 : (C.count != D.count) = true := by rw [bne_iff_ne]; omega
    have HF := Lib.hid (sameC_no (C := C) (D := D) fun h => g2 h.2.1)
    clear g1 g2
    go_enter Tryz.func27, Tryz.ntmps27
    go_wp2
    go_ret
    exact ⟨by rw [HF.out]; rfl, by have := HT0.out.n; rw [HW0.out] at this; exact this⟩
  by_cases g3 : C.ints.length = D.ints.length
  case neg =>
    have t1 : ((C.key : Int) != (D.key : Int)) = false := by rw [bne_eq_false_iff_eq]; omega
    have t2 : (C.count != D.count) = false := by rw [bne_eq_false_iff_eq]; omega
    have t3 : ((C.ints.length : Int) != (D.ints.length : Int)) = true := by rw [bne_iff_ne]; omega
    have HF := Lib.hid (sameC_no (C := C) (D := D) fun h => g3 (by rw [h.2.2.1]))
    clear g1 g2 g3
    go_enter Tryz.func27, Tryz.ntmps27
    go_wp2
    go_ret
    exact ⟨by rw [HF.out]; rfl, by have := HT0.out.n; rw [HW0.out] at this; exact this⟩
  by_cases g4 : C.nums.length = D.nums.length
  case neg =>
    have t1 : ((C.key : Int) != (D.key : Int)) = false := by rw [bne_eq_false_iff_eq]; omega
    have t2 : (C.count != D.count) = false := by rw [bne_eq_false_iff_eq]; omega
    have t3 : ((C.ints.length : Int) != (D.ints.length : Int)) = false := by rw [bne_eq_false_iff_eq]; omega
    have t4 : ((C.nums.length : Int) != (D.nums.length : Int)) = true := by rw [bne_iff_ne]; omega
    have HF := Lib.hid (sameC_no (C := C) (D := D) fun h => g4 (sameRs_len h.2.2.2))
    clear g1 g2 g3 g4
    go_enter Tryz.func27, Tryz.ntmps27
    go_wp2
    go_ret
    exact ⟨by rw [HF.out]; rfl, by have := HT0.out.n; rw [HW0.out] at this; exact this⟩
  have t1 : ((C.key : Int) != (D.key : Int)) = false := by rw [bne_eq_false_iff_eq]; omega
  have t2 : (C.count != D.count) = false := by rw [bne_eq_false_iff_eq]; omega
  have t3 : ((C.ints.length : Int) != (D.ints.length : Int)) = false := by rw [bne_eq_false_iff_eq]; omega
  have t4 : ((C.nums.length : Int) != (D.nums.length : Int)) = false := by rw [bne_eq_false_iff_eq]; omega
  have HYES := Lib.hid (sameC_yes (C := C) (D := D) g1 g2)
  have G3 := Lib.hid g3; have G4 := Lib.hid g4
  clear g1 g2 g3 g4
  go_enter Tryz.func27, Tryz.ntmps27
  go_wp2
  clear t1 t2 t3 t4
  rw [← HW0.out]
  have hzw : w.heap.size + 1 < W0.heap.size := by rw [HW0.out]; simp
  go_loopw [5] (fun i wr => ∃ k : Nat, k ≤ C.ints.length ∧ i = .int .i64 (k : Int) ∧ Hid (C.ints.take k = D.ints.take k) ∧ Hid (TwoW w wr w.heap.size (w.heap.size + 1) #[.int .u64 (C.key : Int), .int .i64 C.count, .slice A2 C.ints.length c2, .slice A3 C.nums.length c3] #[.int .u64 (D.key : Int), .int .i64 D.count, .slice D2 D.ints.length d2, .slice D3 D.nums.length d3])) (fun i _ => C.ints.length - (intOf i).toNat)
  case atStart => exact ⟨0, by omega, rfl, rfl, HT0.out⟩
  case round =>
    obtain ⟨k, hk, rfl, HE, HT⟩ := hrel
    have r2 := HT.out.a.cell 2; have s2 := HT.out.b.cell 2
    simp at r2 s2
    by_cases hlt : k < C.ints.length
    · have hltm : k < D.ints.length := by rw [← G3.out]; exact hlt
      obtain ⟨a, Aq, cq, ea, hab, x0, x1, x2, x3, x4, hRq, hq1, hq2, hq3, hs, ha, hmi, hmx⟩ := (HV.out.ints.keep (HT.out.n.mono hB) (Nat.le_refl _)).wholeAt hlt
      obtain ⟨b, Bq, bq, eb, hbb, y0, y1, y2, y3, y4, hSq, hp1, hp2, hp3, ps, pa, pmi, pmx⟩ := (HU.out.ints.keep (HT.out.n.mono hB) (Nat.le_refl _)).wholeAt hltm
      have q1 : (0 : Int) ≤ (k : Int) := by omega
      have q2 : (k : Int) < (C.ints.length : Int) := by omega
      have q3 : (k : Int) < (D.ints.length : Int) := by omega
      have hnx := takeW_same HE.out hlt hltm
      have hne : C.ints[k] ≠ D.ints[k] → sameC C D = false := fun hh => sameC_no fun h => hh (by have := h.2.2.1; simp only [this])
      subst ea eb
      have hzr : w.heap.size + 1 < wr.heap.size := HT.out.b.lt
      have hza : (a.add (k * 5)).block < wr.heap.size := by rw [block_add]; omega
      have hzb : (b.add (k * 5)).block < wr.heap.size := by rw [block_add]; omega
      have hzr2 : w.heap.size < wr.heap.size := by omega
      have hza2 : (a.add (k * 5)).block < wr.heap.size + 1 := by omega
      have hzb2 : (b.add (k * 5)).block < wr.heap.size + 1 := by omega
      generalize C.ints[k] = X at *
      generalize D.ints[k] = Y at *
      have HNX := Lib.hid hnx; have HNE := Lib.hid hne
      have HRq := Lib.hid hRq; have HSq := Lib.hid hSq
      have hmq : X.sq.length ≤ 9223372036854775807 := by unfold maxLen at hq2; omega
      have hmp : Y.sq.length ≤ 9223372036854775807 := by unfold maxLen at hp2; omega
      have hA1 := ((Blk.new wr 122 #[.int .i64 X.sum, .int .i64 X.abs, .slice Aq X.sq.length cq, .int .i64 X.mn, .int .i64 X.mx]).alloc (.cells #[.int .i64 Y.sum, .int .i64 Y.abs, .slice Bq Y.sq.length bq, .int .i64 Y.mn, .int .i64 Y.mx] 122)).drew
      have hA2 := (Blk.new (wr.alloc (.cells #[.int .i64 X.sum, .int .i64 X.abs, .slice Aq X.sq.length cq, .int .i64 X.mn, .int .i64 X.mx] 122)) 122 #[.int .i64 Y.sum, .int .i64 Y.abs, .slice Bq Y.sq.length bq, .int .i64 Y.mn, .int .i64 Y.mx]).drew
      have hA3 := ((Blk.new wr 122 #[.int .i64 Y.sum, .int .i64 Y.abs, .slice Bq Y.sq.length bq, .int .i64 Y.mn, .int .i64 Y.mx]).alloc (.cells #[.int .i64 X.sum, .int .i64 X.abs, .slice Aq X.sq.length cq, .int .i64 X.mn, .int .i64 X.mx] 122)).drew
      have hA4 := (Blk.new (wr.alloc (.cells #[.int .i64 Y.sum, .int .i64 Y.abs, .slice Bq Y.sq.length bq, .int .i64 Y.mn, .int .i64 Y.mx] 122)) 122 #[.int .i64 X.sum, .int .i64 X.abs, .slice Aq X.sq.length cq, .int .i64 X.mn, .int .i64 X.mx]).drew
      have hz1 : (wr.alloc (.cells #[.int .i64 X.sum, .int .i64 X.abs, .slice Aq X.sq.length cq, .int .i64 X.mn, .int .i64 X.mx] 122)).heap.size = wr.heap.size + 1 := by simp
      have hz2 : (wr.alloc (.cells #[.int .i64 Y.sum, .int .i64 Y.abs, .slice Bq Y.sq.length bq, .int .i64 Y.mn, .int .i64 Y.mx] 122)).heap.size = wr.heap.size + 1 := by simp
      rw [hz1] at hA2; rw [hz2] at hA4
      have hA5 := (belA (belA (belR wr) (.cells #[.int .i64 X.sum, .int .i64 X.abs, .slice Aq X.sq.length cq, .int .i64 X.mn, .int .i64 X.mx] 122)) (.cells #[.int .i64 Y.sum, .int .i64 Y.abs, .slice Bq Y.sq.length bq, .int .i64 Y.mn, .int .i64 Y.mx] 122)).drew
      have hA6 := (belA (belA (belR wr) (.cells #[.int .i64 Y.sum, .int .i64 Y.abs, .slice Bq Y.sq.length bq, .int .i64 Y.mn, .int .i64 Y.mx] 122)) (.cells #[.int .i64 X.sum, .int .i64 X.abs, .slice Aq X.sq.length cq, .int .i64 X.mn, .int .i64 X.mx] 122)).drew
      have HA1 := Lib.hid hA1; have HA2 := Lib.hid hA2; have HA3 := Lib.hid hA3; have HA4 := Lib.hid hA4; have HA5 := Lib.hid hA5; have HA6 := Lib.hid hA6
      have hzB : B ≤ wr.heap.size := Nat.le_trans hB HT.out.n.size
      clear hnx hne hRq hSq hA1 hA2 hA3 hA4 hz1 hz2 hA5 hA6
      go_upto_region 6 with (fail)
      go_cut [6, 7] (fun v6 v7 wx => ∃ gx gy : Nat, v6 = .pointer (some ⟨gx, 0, none⟩) ∧ v7 = .pointer (some ⟨gy, 0, none⟩) ∧ Hid (Blk wx gx 122 #[.int .i64 X.sum, .int .i64 X.abs, .slice Aq X.sq.length cq, .int .i64 X.mn, .int .i64 X.mx]) ∧ Hid (Blk wx gy 122 #[.int .i64 Y.sum, .int .i64 Y.abs, .slice Bq Y.sq.length bq, .int .i64 Y.mn, .int .i64 Y.mx]) ∧ Hid (Below wr.heap.size wr wx))
      case first =>
        go_region
        all_goals
          go_wp2
          go_meet
          case rel => first | exact ⟨_, _, rfl, rfl, HA1.out, HA2.out, HA5.out⟩ | exact ⟨_, _, rfl, rfl, HA4.out, HA3.out, HA6.out⟩
      case rest =>
        obtain ⟨gx, gy, rfl, rfl, HX, HY, HBx⟩ := hcut
        clear x0 x1 x2 x3 x4 y0 y1 y2 y3 y4 HA1 HA2 HA3 HA4 HA5 HA6
        have x0 := HX.out.cell 0; have x1 := HX.out.cell 1; have x2 := HX.out.cell 2; have x3 := HX.out.cell 3; have x4 := HX.out.cell 4
        have y0 := HY.out.cell 0; have y1 := HY.out.cell 1; have y2 := HY.out.cell 2; have y3 := HY.out.cell 3; have y4 := HY.out.cell 4
        simp at x0 x1 x2 x3 x4 y0 y1 y2 y3 y4
        have HTX := Lib.hid (HT.out.below HBx.out)
        have HSM := Lib.hid (same02_any _ B Aq Bq cq bq X.sq Y.sq (HRq.out.below (HBx.out.mono hzB)) (HSq.out.below (HBx.out.mono hzB)) hmq hmp)
        by_cases e1 : X.sum = Y.sum
        case neg =>
          have t1 : (X.sum != Y.sum) = true := by rw [bne_iff_ne]; exact e1
          have HF := Lib.hid (HNE.out fun hh => e1 (by rw [hh]))
          clear e1
          go_wp2
          go_ret
          exact ⟨by rw [HF.out]; rfl, HTX.out.n⟩
        have t1 : (X.sum != Y.sum) = false := by rw [bne_eq_false_iff_eq]; exact e1
        by_cases e2 : X.abs = Y.abs
        case neg =>
          have t2 : (X.abs != Y.abs) = true := by rw [bne_iff_ne]; exact e2
          have HF := Lib.hid (HNE.out fun hh => e2 (by rw [hh]))
          clear e1 e2
          go_wp2
          go_ret
          exact ⟨by rw [HF.out]; rfl, HTX.out.n⟩
        have t2 : (X.abs != Y.abs) = false := by rw [bne_eq_false_iff_eq]; exact e2
        by_cases e3 : X.mn = Y.mn
        case neg =>
          have t3 : (X.mn != Y.mn) = true := by rw [bne_iff_ne]; exact e3
          have HF := Lib.hid (HNE.out fun hh => e3 (by rw [hh]))
          clear e1 e2 e3
          go_wp2
          go_ret
          exact ⟨by rw [HF.out]; rfl, HTX.out.n⟩
        have t3 : (X.mn != Y.mn) = false := by rw [bne_eq_false_iff_eq]; exact e3
        by_cases e4 : X.mx = Y.mx
        case neg =>
          have t4 : (X.mx != Y.mx) = true := by rw [bne_iff_ne]; exact e4
          have HF := Lib.hid (HNE.out fun hh => e4 (by rw [hh]))
          clear e1 e2 e3 e4
          go_wp2
          go_ret
          exact ⟨by rw [HF.out]; rfl, HTX.out.n⟩
        have t4 : (X.mx != Y.mx) = false := by rw [bne_eq_false_iff_eq]; exact e4
        by_cases e5 : X.sq = Y.sq
        case neg =>
          have hsm := HSM.out
          rw [decide_eq_false e5] at hsm
          have HS2 := Lib.hid hsm
          have HF := Lib.hid (HNE.out fun hh => e5 (by rw [hh]))
          clear e1 e2 e3 e4 e5 hsm HSM
          go_wp2_with (go_at_call 64; (with_reducible refine HS2.out.mono ?_); rintro y w5 ⟨rfl, hd5⟩; have HB5 := Lib.hid (hd5.below HTX.out.n); clear hd5)
          go_ret
          exact ⟨by rw [HF.out]; rfl, HB5.out⟩
        have hsm := HSM.out
        rw [decide_eq_true e5] at hsm
        have HS2 := Lib.hid hsm
        have hxy : X = Y := by cases X; cases Y; simp only at e1 e2 e3 e4 e5; subst e1 e2 e3 e4 e5; rfl
        have HNX2 := Lib.hid (HNX.out hxy)
        clear e1 e2 e3 e4 e5 hsm HSM hxy
        go_wp2_with (go_at_call 64; (with_reducible refine HS2.out.mono ?_); rintro y w5 ⟨rfl, hd5⟩; have HT5 := Lib.hid (HTX.out.below (hd5.below (belR _))); clear hd5)
        go_roundw
        case rel => exact ⟨k + 1, by omega, by go_num, HNX2.out, HT5.out⟩
        case measure => simp [intOf]; omega
    · obtain rfl : k = C.ints.length := by omega
      have HE2 := Lib.hid (eqW_of_take G3.out HE.out)
      have q2 : ¬ (C.ints.length : Int) < (C.ints.length : Int) := by omega
      go_wp2
      clear r2 s2
      go_loopw [8] (fun i wr => ∃ k : Nat, k ≤ C.nums.length ∧ i = .int .i64 (k : Int) ∧ Hid (sameRs (C.nums.take k) (D.nums.take k) = true) ∧ Hid (TwoW w wr w.heap.size (w.heap.size + 1) #[.int .u64 (C.key : Int), .int .i64 C.count, .slice A2 C.ints.length c2, .slice A3 C.nums.length c3] #[.int .u64 (D.key : Int), .int .i64 D.count, .slice D2 D.ints.length d2, .slice D3 D.nums.length d3])) (fun i _ => C.nums.length - (intOf i).toNat)
      case atStart => exact ⟨0, by omega, rfl, rfl, HT.out⟩
      case round =>
        obtain ⟨k, hk, rfl, HE, HT⟩ := hrel
        have r3 := HT.out.a.cell 3; have s3 := HT.out.b.cell 3
        simp at r3 s3
        by_cases hlt : k < C.nums.length
        · have hltm : k < D.nums.length := by rw [← G4.out]; exact hlt
          obtain ⟨a, Aq, cq, ea, hab, x0, x1, x2, hRq, hq1, hq2, hs, ha⟩ := (HV.out.nums.keep (HT.out.n.mono hB) (Nat.le_refl _)).realAt hlt
          obtain ⟨b, Bq, bq, eb, hbb, y0, y1, y2, hSq, hp1, hp2, ps, pa⟩ := (HU.out.nums.keep (HT.out.n.mono hB) (Nat.le_refl _)).realAt hltm
          have q1 : (0 : Int) ≤ (k : Int) := by omega
          have q2 : (k : Int) < (C.nums.length : Int) := by omega
          have q3 : (k : Int) < (D.nums.length : Int) := by omega
          have hnx := takeR_same HE.out hlt hltm
          have hne : sameR C.nums[k] D.nums[k] = false → sameC C D = false := fun hh => sameC_no fun h => by have := sameRs_at h.2.2.2 k hlt hltm; rw [hh] at this; cases this
          subst ea eb
          have hzr : w.heap.size + 1 < wr.heap.size := HT.out.b.lt
          have hza : (a.add (k * 3)).block < wr.heap.size := by rw [block_add]; omega
          have hzb : (b.add (k * 3)).block < wr.heap.size := by rw [block_add]; omega
          have hzr2 : w.heap.size < wr.heap.size := by omega
          have hza2 : (a.add (k * 3)).block < wr.heap.size + 1 := by omega
          have hzb2 : (b.add (k * 3)).block < wr.heap.size + 1 := by omega
          generalize C.nums[k] = X at *
          generalize D.nums[k] = Y at *
          obtain ⟨s1, m1, M1⟩ := X
          obtain ⟨s2, m2, M2⟩ := Y
          simp only at x0 x1 x2 y0 y1 y2 hRq hSq hs ha ps pa hq1 hp1
          have HNX := Lib.hid hnx; have HNE := Lib.hid hne
          have HRq := Lib.hid hRq; have HSq := Lib.hid hSq
          have hA1 := ((Blk.new wr 60 #[.slice Aq s1.length cq, .float .f64 m1, .float .f64 M1]).alloc (.cells #[.slice Bq s2.length bq, .float .f64 m2, .float .f64 M2] 60)).drew
          have hA2 := (Blk.new (wr.alloc (.cells #[.slice Aq s1.length cq, .float .f64 m1, .float .f64 M1] 60)) 60 #[.slice Bq s2.length bq, .float .f64 m2, .float .f64 M2]).drew
          have hA3 := ((Blk.new wr 60 #[.slice Bq s2.length bq, .float .f64 m2, .float .f64 M2]).alloc (.cells #[.slice Aq s1.length cq, .float .f64 m1, .float .f64 M1] 60)).drew
          have hA4 := (Blk.new (wr.alloc (.cells #[.slice Bq s2.length bq, .float .f64 m2, .float .f64 M2] 60)) 60 #[.slice Aq s1.length cq, .float .f64 m1, .float .f64 M1]).drew
          have hz1 : (wr.alloc (.cells #[.slice Aq s1.length cq, .float .f64 m1, .float .f64 M1] 60)).heap.size = wr.heap.size + 1 := by simp
          have hz2 : (wr.alloc (.cells #[.slice Bq s2.length bq, .float .f64 m2, .float .f64 M2] 60)).heap.size = wr.heap.size + 1 := by simp
          rw [hz1] at hA2; rw [hz2] at hA4
          have hA5 := (belA (belA (belR wr) (.cells #[.slice Aq s1.length cq, .float .f64 m1, .float .f64 M1] 60)) (.cells #[.slice Bq s2.length bq, .float .f64 m2, .float .f64 M2] 60)).drew
          have hA6 := (belA (belA (belR wr) (.cells #[.slice Bq s2.length bq, .float .f64 m2, .float .f64 M2] 60)) (.cells #[.slice Aq s1.length cq, .float .f64 m1, .float .f64 M1] 60)).drew
          have HA1 := Lib.hid hA1; have HA2 := Lib.hid hA2; have HA3 := Lib.hid hA3; have HA4 := Lib.hid hA4; have HA5 := Lib.hid hA5; have HA6 := Lib.hid hA6
          have hzB : B ≤ wr.heap.size := Nat.le_trans hB HT.out.n.size
          clear hnx hne hRq hSq hA1 hA2 hA3 hA4 hz1 hz2 hA5 hA6
          go_upto_region 12 with (fail)
          go_cut [9, 10] (fun v6 v7 wx => ∃ gx gy : Nat, v6 = .pointer (some ⟨gx, 0, none⟩) ∧ v7 = .pointer (some ⟨gy, 0, none⟩) ∧ Hid (Blk wx gx 60 #[.slice Aq s1.length cq, .float .f64 m1, .float .f64 M1]) ∧ Hid (Blk wx gy 60 #[.slice Bq s2.length bq, .float .f64 m2, .float .f64 M2]) ∧ Hid (Below wr.heap.size wr wx))
          case first =>
            go_region
            all_goals
              go_wp2
              go_meet
              case rel => first | exact ⟨_, _, rfl, rfl, HA1.out, HA2.out, HA5.out⟩ | exact ⟨_, _, rfl, rfl, HA4.out, HA3.out, HA6.out⟩
          case rest =>
            obtain ⟨gx, gy, rfl, rfl, HX, HY, HBx⟩ := hcut
            clear x0 x1 x2 y0 y1 y2 HA1 HA2 HA3 HA4 HA5 HA6
            have x0 := HX.out.cell 0; have x1 := HX.out.cell 1; have x2 := HX.out.cell 2
            have y0 := HY.out.cell 0; have y1 := HY.out.cell 1; have y2 := HY.out.cell 2
            simp at x0 x1 x2 y0 y1 y2
            have HTX := Lib.hid (HT.out.below HBx.out)
            have hcv := run_str (P := Tryz.prog) (src := 27) (dst := 9) (c := cq) (HRq.out.below (HBx.out.mono hzB)) Tryz.underlying27 Tryz.underlying5 Tryz.underlying9
            have hcv' := run_str (P := Tryz.prog) (src := 27) (dst := 9) (c := bq) (HSq.out.below (HBx.out.mono hzB)) Tryz.underlying27 Tryz.underlying5 Tryz.underlying9
            have HS1 := Lib.hid (fun W => refFSame_any m1 m2 W hs ps)
            have HS2 := Lib.hid (fun W => refFSame_any M1 M2 W ha pa)
            by_cases e1 : s1 = s2
            case neg =>
              have HF := Lib.hid (HNE.out (by rw [← Bool.not_eq_true]; intro hh; unfold sameR at hh; simp only [Bool.and_eq_true, decide_eq_true_iff] at hh; exact e1 hh.1.1))
              go_wp2
              go_ret
              exact ⟨by rw [HF.out]; rfl, HTX.out.n⟩
            subst e1
            by_cases e2 : keyB m1 = keyB m2
            case neg =>
              have hsm := HS1.out
              rw [decide_eq_false e2] at hsm
              have HSM := Lib.hid hsm
              have HF := Lib.hid (HNE.out (by rw [← Bool.not_eq_true]; intro hh; unfold sameR at hh; simp only [Bool.and_eq_true, decide_eq_true_iff] at hh; exact e2 hh.1.2))
              clear e2 hsm HS1
              go_wp2_with (go_at_call 21; (with_reducible refine (HSM.out _).mono ?_); rintro y w5 ⟨rfl, hd5⟩; have HB5 := Lib.hid (Drw.below hd5 HTX.out.n); clear hd5)
              go_ret
              exact ⟨by rw [HF.out]; rfl, HB5.out⟩
            by_cases e3 : keyB M1 = keyB M2
            case neg =>
              have hsm := HS1.out
              rw [decide_eq_true e2] at hsm
              have hsn := HS2.out
              rw [decide_eq_false e3] at hsn
              have HSM := Lib.hid hsm; have HSN := Lib.hid hsn
              have HF := Lib.hid (HNE.out (by rw [← Bool.not_eq_true]; intro hh; unfold sameR at hh; simp only [Bool.and_eq_true, decide_eq_true_iff] at hh; exact e3 hh.2))
              clear e2 e3 hsm hsn HS1 HS2
              go_wp2_with (first
                | (go_at_call 21; (with_reducible refine (HSM.out _).mono ?_); rintro y w5 ⟨rfl, hd5⟩; have HB5 := Lib.hid (Drw.below hd5 HTX.out.n); have HX5 := HX.out.drw hd5; have HY5 := HY.out.drw hd5; have x25 := HX5.cell 2; have y25 := HY5.cell 2; simp at x25 y25; clear hd5 HX5 HY5 HSM)
                | (go_at_call 21; (with_reducible refine (HSN.out _).mono ?_); rintro y w6 ⟨rfl, hd6⟩; have HB6 := Lib.hid (Drw.below hd6 HB5.out); clear hd6))
              go_ret
              exact ⟨by rw [HF.out]; rfl, HB6.out⟩
            have hsm := HS1.out
            rw [decide_eq_true e2] at hsm
            have hsn := HS2.out
            rw [decide_eq_true e3] at hsn
            have HSM := Lib.hid hsm; have HSN := Lib.hid hsn
            have HNX2 := Lib.hid (HNX.out (by unfold sameR; simp [e2, e3]))
            clear e2 e3 hsm hsn HS1 HS2
            go_wp2_with (first
              | (go_at_call 21; (with_reducible refine (HSM.out _).mono ?_); rintro y w5 ⟨rfl, hd5⟩; have HT5 := Lib.hid (HTX.out.below (Drw.below hd5 (belR _))); have HX5 := HX.out.drw hd5; have HY5 := HY.out.drw hd5; have x25 := HX5.cell 2; have y25 := HY5.cell 2; simp at x25 y25; clear hd5 HX5 HY5 HSM)
              | (go_at_call 21; (with_reducible refine (HSN.out _).mono ?_); rintro y w6 ⟨rfl, hd6⟩; have HT6 := Lib.hid (HT5.out.below (Drw.below hd6 (belR _))); clear hd6))
            go_roundw
            case rel => exact ⟨k + 1, by omega, by go_num, HNX2.out, HT6.out⟩
            case measure => simp [intOf]; omega
        · obtain rfl : k = C.nums.length := by omega
          have HF := Lib.hid (HYES.out HE2.out (eqR_of_take G4.out HE.out))
          have q2 : ¬ (C.nums.length : Int) < (C.nums.length : Int) := by omega
          go_wp2
          go_ret
          exact ⟨by rw [HF.out]; rfl, HT.out.n⟩
/-- two lists of cells alike -/
def sameL : List CellS → List CellS → Bool
  | [], [] => true
  | C :: l, D :: m => sameC C D && sameL l m
  | _, _ => false
theorem sameL_len {l m : List CellS} (h : sameL l m = true) : l.length = m.length := by
  induction l generalizing m with
  | nil => cases m with
    | nil => rfl
    | cons y m => cases h
  | cons x l ih => cases m with
    | nil => cases h
    | cons y m =>
      unfold sameL at h
      rw [Bool.and_eq_true] at h
      rw [List.length_cons, List.length_cons, ih h.2]
theorem sameL_at {l m : List CellS} (h : sameL l m = true) (k : Nat) (hk : k < l.length) (hm : k < m.length) : sameC l[k] m[k] = true := by
  induction l generalizing m k with
  | nil => simp at hk
  | cons x l ih => cases m with
    | nil => simp at hm
    | cons y m =>
      unfold sameL at h
      rw [Bool.and_eq_true] at h
      cases k with
      | zero => exact h.1
      | succ k => exact ih h.2 k (by simpa using hk) (by simpa using hm)
theorem sameL_app {l m l' m' : List CellS} (h : sameL l m = true) (k : sameL l' m' = true) : sameL (l ++ l') (m ++ m') = true := by
  induction l generalizing m with
  | nil => cases m with
    | nil => exact k
    | cons y m => cases h
  | cons x l ih => cases m with
    | nil => cases h
    | cons y m =>
      unfold sameL at h
      rw [Bool.and_eq_true] at h
      rw [List.cons_append, List.cons_append]
      unfold sameL
      rw [h.1, ih h.2]; rfl
theorem sameL_one {C D : CellS} (h : sameC C D = true) : sameL [C] [D] = true := by show (sameC C D && sameL [] []) = true; rw [h]; rfl
theorem takeL_same {l m : List CellS} {k : Nat} (h : sameL (l.take k) (m.take k) = true) (h1 : k < l.length) (h2 : k < m.length) (e : sameC l[k] m[k] = true) : sameL (l.take (k + 1)) (m.take (k + 1)) = true := by
  rw [List.take_succ_eq_append_getElem h1, List.take_succ_eq_append_getElem h2]; exact sameL_app h (sameL_one e)
theorem eqL_of_take {l m : List CellS} (hl : l.length = m.length) (h : sameL (l.take l.length) (m.take l.length) = true) : sameL l m = true := by
  rw [List.take_length, hl, List.take_length] at h; exact h
set_option maxRecDepth 20000 in
set_option maxHeartbeats 4000000 in
theorem same15_any (w : World) (B : Nat) (A : Option Addr) (c : Nat) (l : List CellS) (A' : Option Addr) (c' : Nat) (m : List CellS) (g : SlR cellR w B l A c) (g' : SlR cellR w B m A' c') (hB : B ≤ w.heap.size) :
    Calls Tryz.prog 18 #[.slice A l.length c, .slice A' m.length c'] w fun y w' => y = .returned (.bool (sameL l m)) ∧ Below w.heap.size w w' := by
  have hml : l.length ≤ 9223372036854775807 := by have h1 := g.1; have h2 := g.2.1; unfold maxLen at h2; omega
  have G := Lib.hid g; have G' := Lib.hid g'
  clear g g'
  by_cases hl : l.length = m.length
  · have t1 : ((l.length : Int) != (m.length : Int)) = false := by rw [hl]; simp
    have HL := Lib.hid hl; clear hl
    go_enter Tryz.func18, Tryz.ntmps18
    go_wp2
    go_loopw [5] (fun i wr => ∃ k : Nat, k ≤ l.length ∧ i = .int .i64 (k : Int) ∧ Hid (sameL (l.take k) (m.take k) = true) ∧ Hid (Below w.heap.size w wr)) (fun i _ => l.length - (intOf i).toNat)
    case atStart => exact ⟨0, by omega, rfl, rfl, belR w⟩
    case round =>
      obtain ⟨k, hk, rfl, HE, HB⟩ := hrel
      by_cases hlt : k < l.length
      · have hltm : k < m.length := by rw [← HL.out]; exact hlt
        obtain ⟨a, D2, d2, D3, d3, ea, hab, x0, x1, x2, x3, hv⟩ := (G.out.keep (HB.out.mono hB) (Nat.le_refl _)).cellAt hlt
        obtain ⟨b, E2, e2, E3, e3, eb, hbb, y0, y1, y2, y3, hu⟩ := (G'.out.keep (HB.out.mono hB) (Nat.le_refl _)).cellAt hltm
        have q1 : (0 : Int) ≤ (k : Int) := by omega
        have q2 : (k : Int) < (l.length : Int) := by omega
        have q3 : (k : Int) < (m.length : Int) := by omega
        have hnx := takeL_same HE.out hlt hltm
        have hne : sameC l[k] m[k] = false → sameL l m = false := fun hh => by
          rw [← Bool.not_eq_true]; intro h
          have := sameL_at h k hlt hltm
          rw [hh] at this; cases this
        subst ea eb
        generalize l[k] = C at *
        generalize m[k] = D at *
        have hzB : B ≤ wr.heap.size := Nat.le_trans hB HB.out.size
        have hsm := same14_any wr.drew B C D2 d2 D3 d3 D E2 e2 E3 e3 (hv.keep ((belR wr).drew.mono hzB) (Nat.le_refl _)) (hu.keep ((belR wr).drew.mono hzB) (Nat.le_refl _)) hzB
        cases hs : sameC C D with
        | false =>
          rw [hs] at hsm
          have HSM := Lib.hid hsm; have HF := Lib.hid (hne hs)
          clear hsm hs hne hnx hv hu
          go_upto_region 6 with (fail)
          go_still_tail 8, (by kernel_rfl)
          go_wp2_with (go_at_call 27; (with_reducible refine HSM.out.mono ?_); rintro y w5 ⟨rfl, hb5⟩; have HB5 := Lib.hid (belT (belD HB.out 1) hb5); clear hb5)
          go_ret
          exact ⟨by rw [HF.out]; rfl, HB5.out⟩
        | true =>
          rw [hs] at hsm
          have HSM := Lib.hid hsm; have HN := Lib.hid (hnx hs)
          clear hsm hs hne hnx hv hu
          go_upto_region 6 with (fail)
          go_still_tail 8, (by kernel_rfl)
          go_wp2_with (go_at_call 27; (with_reducible refine HSM.out.mono ?_); rintro y w5 ⟨rfl, hb5⟩; have HB5 := Lib.hid (belT (belD HB.out 1) hb5); clear hb5)
          go_roundw
          case rel => exact ⟨k + 1, by omega, by go_num, HN.out, HB5.out⟩
          case measure => simp [intOf]; omega
      · obtain rfl : k = l.length := by omega
        have HF := Lib.hid (eqL_of_take HL.out HE.out)
        have q2 : ¬ (l.length : Int) < (l.length : Int) := by omega
        go_wp2
        go_ret
        exact ⟨by rw [HF.out]; rfl, HB.out⟩
  · have t1 : ((l.length : Int) != (m.length : Int)) = true := by rw [bne_iff_ne]; omega
    have HF : Hid (sameL l m = false) := Lib.hid (by rw [← Bool.not_eq_true]; exact fun h => hl (sameL_len h))
    clear hl
    go_enter Tryz.func18, Tryz.ntmps18
    go_wp2
    go_ret
    exact ⟨by rw [HF.out]; rfl, belR w⟩
end Go.Proofs.YtfhmaincnlaapaaGreat
namespace Go.Proofs.YtfhmaincnlaapaaGreat
open Go.ChangeShapes Go.WideShapes Go.ChangeAt Go.RowKit
set_option linter.unusedVariables false

/-- the leaf of some cells -/
def leafOf (b : Nat) (p : List CellS) : Sht := ⟨3, p.length, b, p.flatMap encCell⟩
theorem pk_snoc (kd : Int) (b : Nat) (st : Pst) (l : List (List UInt8 × Bool)) (x : List UInt8 × Bool) : pk kd b st (l ++ [x]) = pput kd b (pk kd b st l) x.1 x.2 := by rw [pk_app]; rfl
theorem pk_parts (b : Nat) (l : List CellS) (h : ∀ C ∈ l, (encCell C).length ≤ 1001) : ∃ (ps : List (List CellS)) (q : List CellS), ps.flatten ++ q = l ∧ pk 3 b ([], 0, []) (l.map itemC) = (ps.map (leafOf b), q.length, q.flatMap encCell) ∧
    (∀ p ∈ ps, p ≠ [] ∧ (p.flatMap encCell).length ≤ 1001) ∧ (q.flatMap encCell).length ≤ 1001 := by
  suffices H : ∀ k, k ≤ l.length → ∃ (ps : List (List CellS)) (q : List CellS), ps.flatten ++ q = l.take k ∧ pk 3 b ([], 0, []) ((l.take k).map itemC) = (ps.map (leafOf b), q.length, q.flatMap encCell) ∧
      (∀ p ∈ ps, p ≠ [] ∧ (p.flatMap encCell).length ≤ 1001) ∧ (q.flatMap encCell).length ≤ 1001 by
    have := H l.length (Nat.le_refl _)
    rwa [List.take_length] at this
  intro k
  induction k with
  | zero => intro _; exact ⟨[], [], by simp, by simp [pk], by simp, by simp⟩
  | succ k ih =>
    intro hk
    obtain ⟨ps, q, h1, h2, h3, h4⟩ := ih (by omega)
    have hC := h l[k] (List.getElem_mem (by omega))
    rw [List.take_succ_eq_append_getElem (by omega), List.map_append, List.map_singleton, pk_snoc, h2]
    generalize l[k] = C at *
    unfold pput itemC
    simp only
    by_cases hc : brkB C.key 0 = true ∨ 1001 < (q.flatMap encCell).length + (encCell C).length
    · rw [if_pos hc]
      by_cases hq : 0 < q.length
      · rw [if_pos hq]
        refine ⟨ps ++ [q], [C], by rw [← h1]; simp, by simp [leafOf], fun p hp => ?_, by simpa using hC⟩
        rcases List.mem_append.1 hp with hp | hp
        · exact h3 p hp
        · obtain rfl := List.mem_singleton.1 hp
          exact ⟨fun e => by rw [e] at hq; simp at hq, h4⟩
      · rw [if_neg hq]
        have hq0 : q = [] := List.eq_nil_of_length_eq_zero (by omega)
        subst hq0
        exact ⟨ps, [C], by rw [← h1]; simp, by simp, h3, by simpa using hC⟩
    · rw [if_neg hc]
      refine ⟨ps, q ++ [C], by rw [← h1]; simp, by simp, h3, ?_⟩
      have hc2 := (not_or.1 hc).2
      rw [List.flatMap_append, List.length_append, List.flatMap_singleton]
      omega
theorem leaves_parts (b : Nat) (l : List CellS) (h : ∀ C ∈ l, (encCell C).length ≤ 1001) : ∃ ps : List (List CellS), ps.flatten = l ∧ leaves b l = ps.map (leafOf b) ∧ ∀ p ∈ ps, p ≠ [] ∧ (p.flatMap encCell).length ≤ 1001 := by
  obtain ⟨ps, q, h1, h2, h3, h4⟩ := pk_parts b l h
  unfold leaves pend
  rw [h2]
  simp only
  by_cases hq : 0 < q.length
  · rw [if_pos hq]
    refine ⟨ps ++ [q], by rw [← h1]; simp, by simp [leafOf], fun p hp => ?_⟩
    rcases List.mem_append.1 hp with hp | hp
    · exact h3 p hp
    · obtain rfl := List.mem_singleton.1 hp
      exact ⟨fun e => by rw [e] at hq; simp at hq, h4⟩
  · rw [if_neg hq]
    have hq0 : q = [] := List.eq_nil_of_length_eq_zero (by omega)
    subst hq0
    exact ⟨ps, by rw [← h1]; simp, rfl, h3⟩
/-! ### lengths -/
theorem encWhole_108 {x : WholeS} (h : x.sq.length ≤ 7) : (encWhole x).length ≤ 108 := by
  have := encSq_le x.sq; have := encI_9 x.sum; have := encI_9 x.abs; have := encI_9 x.mn; have := encI_9 x.mx; have := encU_9 x.sq.length
  unfold encWhole; simp only [List.length_append]; omega
theorem encReal_308 {x : RealS} (h : x.sum.length ≤ 283) : (encReal x).length ≤ 308 := by
  have := encU_9 x.sum.length
  unfold encReal; simp only [List.length_append, be_length]; omega
theorem sch_few {S : Sch} (h : checkN S = 0) : S.ints.length ≤ 3 ∧ S.nums.length ≤ 2 := by
  obtain ⟨_, h1, h2, _⟩ := sch_manyOk h; exact ⟨h1, h2⟩
theorem right_len {S : Sch} {mask : Nat} {C : CellS} (h : rightC S mask C = true) : (encCell C).length ≤ 1001 := by
  obtain ⟨n, k1, _, _, k2, k3, k4, k5⟩ := rightC_some' h
  obtain ⟨m1, m2⟩ := sch_few (keysOf_check k1)
  have h1 := flat_le encWhole 108 C.ints fun x hx => encWhole_108 (okW_sq (k4 x hx))
  have h2 := flat_le encReal 308 C.nums fun x hx => encReal_308 (readE_len (okR_sum (k5 x hx)))
  have := encU_9 C.key; have := encI_9 C.count
  unfold encCell encWholes encReals; simp only [List.length_append]; omega
theorem encCell_pos (C : CellS) : 1 ≤ (encCell C).length := by
  unfold encCell encU; simp only [List.length_append, List.length_cons]; omega
theorem flat_ge (p : List CellS) : p.length ≤ (p.flatMap encCell).length := by
  induction p with
  | nil => simp
  | cons C p ih => rw [List.flatMap_cons, List.length_append, List.length_cons]; have := encCell_pos C; omega
/-! ### reading -/
theorem sameC_symm {C D : CellS} (h : sameC C D = true) : sameC D C = true := by
  obtain ⟨h1, h2, h3, h4⟩ := sameC_parts h
  refine sameC_yes h1.symm h2.symm h3.symm ?_
  clear h h1 h2 h3
  generalize C.nums = l at *
  generalize D.nums = m at *
  induction l generalizing m with
  | nil => cases m with
    | nil => rfl
    | cons y m => cases h4
  | cons x l ih => cases m with
    | nil => cases h4
    | cons y m =>
      unfold sameRs at h4 ⊢
      rw [Bool.and_eq_true] at h4 ⊢
      refine ⟨?_, ih _ h4.2⟩
      have := h4.1
      unfold sameR at this ⊢
      simp only [Bool.and_eq_true, decide_eq_true_iff] at this ⊢
      exact ⟨⟨this.1.1.symm, this.1.2.symm⟩, this.2.symm⟩
theorem sameL_symm {l m : List CellS} (h : sameL l m = true) : sameL m l = true := by
  induction l generalizing m with
  | nil => cases m with
    | nil => rfl
    | cons y m => cases h
  | cons x l ih => cases m with
    | nil => cases h
    | cons y m =>
      unfold sameL at h ⊢
      rw [Bool.and_eq_true] at h ⊢
      exact ⟨sameC_symm h.1, ih h.2⟩
theorem rlS_put {S : Sch} {mask : Nat} {p : List CellS} (h : ∀ C ∈ p, rightC S mask C = true ∧ CellOk C) (k : Nat) (hk : k ≤ p.length) :
    ∃ m, rlS S mask (p.flatMap encCell) k = (m, ((p.take k).flatMap encCell).length, 0) ∧ sameL (p.take k) m = true := by
  induction k with
  | zero => exact ⟨[], by simp [rlS], rfl⟩
  | succ k ih =>
    obtain ⟨m, h1, h2⟩ := ih (by omega)
    obtain ⟨hr, ho⟩ := h p[k] (List.getElem_mem (by omega))
    have hsp : (p.flatMap encCell).drop ((p.take k).flatMap encCell).length = encCell p[k] ++ (p.drop (k + 1)).flatMap encCell := by
      have : p.flatMap encCell = (p.take k).flatMap encCell ++ (encCell p[k] ++ (p.drop (k + 1)).flatMap encCell) := by
        conv => lhs; rw [← List.take_append_drop k p, List.drop_eq_getElem_cons (by omega : k < p.length)]
        rw [List.flatMap_append, List.flatMap_cons]
      rw [this, List.drop_left]
    obtain ⟨D, e1, e2, _⟩ := getC_put ((p.drop (k + 1)).flatMap encCell) hr ho
    rw [← hsp] at e1
    refine ⟨m ++ [D], ?_, ?_⟩
    · rw [rlS_good h1 e1, List.take_succ_eq_append_getElem (by omega), List.flatMap_append, List.length_append]
      simp
    · rw [List.take_succ_eq_append_getElem (by omega)]
      exact sameL_app h2 (sameL_one e2)
theorem sameL_key {l m : List CellS} (h : sameL l m = true) : l.map CellS.key = m.map CellS.key := by
  induction l generalizing m with
  | nil => cases m with
    | nil => rfl
    | cons y m => cases h
  | cons x l ih => cases m with
    | nil => cases h
    | cons y m =>
      unfold sameL at h
      rw [Bool.and_eq_true] at h
      rw [List.map_cons, List.map_cons, (sameC_parts h.1).1, ih h.2]
theorem rising_keys {l m : List CellS} (h : l.map CellS.key = m.map CellS.key) (hr : risingC l = true) : risingC m = true := by
  have hl : l.length = m.length := by have := congrArg List.length h; simpa using this
  rw [risingC_iff] at hr ⊢
  intro j hj
  have := hr j (by omega)
  unfold kyC at this ⊢
  rwa [h] at this
theorem rising_app {a b : List CellS} (h : risingC (a ++ b) = true) : risingC a = true ∧ risingC b = true := by
  rw [risingC_iff] at h
  refine ⟨(risingC_iff a).2 fun j hj => ?_, (risingC_iff b).2 fun j hj => ?_⟩
  · have := h j (by rw [List.length_append]; omega)
    unfold kyC at this ⊢
    rw [List.map_append] at this
    simp only [List.getD, List.getElem?_append_left (show j < (a.map CellS.key).length by simp; omega), List.getElem?_append_left (show j + 1 < (a.map CellS.key).length by simp; omega)] at this
    exact this
  · have := h (a.length + j) (by rw [List.length_append]; omega)
    unfold kyC at this ⊢
    rw [List.map_append] at this
    simp only [List.getD] at this ⊢
    rw [List.getElem?_append_right (by simp), List.getElem?_append_right (by simp; omega)] at this
    have e1 : a.length + j - (a.map CellS.key).length = j := by simp
    have e2 : a.length + j + 1 - (a.map CellS.key).length = j + 1 := by simp; omega
    rw [e1, e2] at this
    exact this
theorem rising_part {ps : List (List CellS)} (h : risingC ps.flatten = true) : ∀ p ∈ ps, risingC p = true := by
  induction ps with
  | nil => intro p hp; cases hp
  | cons q ps ih =>
    rw [List.flatten_cons] at h
    obtain ⟨h1, h2⟩ := rising_app h
    intro p hp
    rcases List.mem_cons.1 hp with rfl | hp
    · exact h1
    · exact ih h2 p hp
/-- a leaf is read -/
theorem readL_put {S : Sch} {mask n : Nat} {p : List CellS} (hk : keysOf S mask = some n) (h : ∀ C ∈ p, rightC S mask C = true ∧ CellOk C) (h0 : p ≠ []) (hl : (p.flatMap encCell).length ≤ 1001) (hr : risingC p = true) : ∃ m, readL S mask (leafOf mask p) = (m, 0) ∧ sameL p m = true ∧ m ≠ [] := by
  obtain ⟨m, h1, h2⟩ := rlS_put h p.length (Nat.le_refl _)
  rw [List.take_length] at h1 h2
  have hg := flat_ge p
  have hp : 0 < p.length := by
    cases p with
    | nil => exact absurd rfl h0
    | cons C p => simp
  have hml := sameL_len h2
  refine ⟨m, ?_, h2, fun e => by rw [e] at hml; simp at hml; exact h0 hml⟩
  refine readL_ok (s := leafOf mask p) (l := m) (p := (p.flatMap encCell).length) (keysOf_check hk) (by rw [hk]; simp) ?_ h1 (Nat.lt_irrefl _) (rising_keys (sameL_key h2) hr)
  unfold leafOf
  simp only
  omega
theorem rightL_parts {S : Sch} {mask : Nat} {l : List CellS} (h : rightL S mask l = true) : (∃ n, keysOf S mask = some n) ∧ risingC l = true ∧ ∀ C ∈ l, rightC S mask C = true := by
  unfold rightL at h
  rw [Bool.and_eq_true, Bool.and_eq_true, List.all_eq_true] at h
  exact ⟨Option.isSome_iff_exists.1 h.1.1, h.1.2, h.2⟩
/-- what stands in memory is bounded -/
theorem cell_ok {w : World} {B : Nat} {C : CellS} {A2 A3 : Option Addr} {c2 c3 : Nat} (h : CellV w B C A2 c2 A3 c3) : CellOk C := by
  refine ⟨h.key, h.count, fun X hX => ?_⟩
  obtain ⟨k, hk, rfl⟩ := List.getElem_of_mem hX
  obtain ⟨_, _, _, _, _, _, _, _, _, _, _, _, _, h5, h1, h2, h3, h4⟩ := h.ints.wholeAt hk
  exact ⟨h1, h2, h3, h4, h5⟩
theorem cells_ok {w : World} {B c : Nat} {A : Option Addr} {l : List CellS} (h : SlR cellR w B l A c) : ∀ C ∈ l, CellOk C := by
  intro C hC
  obtain ⟨k, hk, rfl⟩ := List.getElem_of_mem hC
  obtain ⟨_, _, _, _, _, _, _, _, _, _, _, hv⟩ := h.cellAt hk
  exact cell_ok hv
/-- the leaves of a right list -/
structure LeafR (S : Sch) (mask : Nat) (l : List CellS) (ps : List (List CellS)) : Prop where
  all : ps.flatten = l
  lv : leaves mask l = ps.map (leafOf mask)
  rd : ∀ p ∈ ps, (p.flatMap encCell).length ≤ 1001 ∧ ∃ m, readL S mask (leafOf mask p) = (m, 0) ∧ sameL p m = true ∧ m ≠ []
theorem parts_few {ps : List (List CellS)} (h : ∀ p ∈ ps, p ≠ []) : ps.length ≤ ps.flatten.length := by
  induction ps with
  | nil => simp
  | cons p ps ih =>
    rw [List.flatten_cons, List.length_append, List.length_cons]
    have h4 := ih (fun q hq => h q (by simp [hq]))
    have h5 := h p (by simp)
    have : 0 < p.length := by
      cases p with
      | nil => exact absurd rfl h5
      | cons _ _ => simp
    omega
theorem LeafR.few {S : Sch} {mask : Nat} {l : List CellS} {ps : List (List CellS)} (h : LeafR S mask l ps) : ps.length ≤ l.length := by
  rw [← h.all]
  refine parts_few fun p hp e => ?_
  obtain ⟨_, m, _, h6, h7⟩ := h.rd p hp
  have := sameL_len h6
  subst e
  exact h7 (List.eq_nil_of_length_eq_zero (by simpa using this.symm))
theorem leaf_all {S : Sch} {mask : Nat} {l : List CellS} (h : rightL S mask l = true) (ho : ∀ C ∈ l, CellOk C) : ∃ ps, LeafR S mask l ps := by
  obtain ⟨⟨n, hk⟩, hr, hc⟩ := rightL_parts h
  obtain ⟨ps, h1, h2, h3⟩ := leaves_parts mask l fun C hC => right_len (hc C hC)
  refine ⟨ps, h1, h2, fun p hp => ⟨(h3 p hp).2, ?_⟩⟩
  have hm : ∀ C ∈ p, C ∈ l := fun C hC => by rw [← h1]; exact List.mem_flatten.2 ⟨p, hp, hC⟩
  exact readL_put hk (fun C hC => ⟨hc C (hm C hC), ho C (hm C hC)⟩) (h3 p hp).1 (h3 p hp).2 (rising_part (by rw [h1]; exact hr) p hp)
end Go.Proofs.YtfhmaincnlaapaaGreat
