/-
  fact.Check, fact.Batch, bushelref12.Batch.
-/
import Derived.Test.YtfhmaincnlaapaaFactFits
import Derived.Test.YtfhmaincnlaapaaRefCheck
import Derived.StillTailTactics
import Derived.Deep.RegionHeld3
import Derived.Deep.DeepCutAuto
namespace Go.Proofs.Ytfhmaincnlaapaa
open Go.ChangeShapes Go.WideShapes Go.ChangeAt Go.RowKit
set_option linter.unusedVariables false

theorem find_range (p : Nat → Bool) (n k : Nat) (hk : k < n) (h : ∀ j, j < k → p j = false) (hp : p k = true) : (List.range n).find? p = some k := by
  rw [List.find?_eq_some_iff_append]
  refine ⟨hp, List.range k, (List.range' (k + 1) (n - k - 1)), ?_, fun j hj => by rw [h j (List.mem_range.1 hj)]; rfl⟩
  rw [List.range_eq_range', List.range_eq_range', ← List.range'_succ]
  have h1 := List.range'_append_1 (s := 0) (m := k) (n := n - k - 1 + 1)
  rw [Nat.zero_add] at h1
  rw [h1]
  congr 1; omega
theorem find_range_none (p : Nat → Bool) (n : Nat) (h : ∀ j, j < n → p j = false) : (List.range n).find? p = none := by
  rw [List.find?_eq_none]
  intro j hj
  rw [h j (List.mem_range.1 hj)]; decide
def fitsAt (S : Sch) (l : List FactS) (k : Nat) : Nat := fitsN S (l.getD k ⟨[], [], []⟩)
theorem fitsAt_get (S : Sch) (l : List FactS) (k : Nat) (hk : k < l.length) : fitsAt S l k = fitsN S l[k] := by
  unfold fitsAt; simp [List.getD, hk]
/-- which fact of a batch is none, and why -/
def batchN (S : Sch) (l : List FactS) : Nat × Nat :=
  if checkN S = 0 then
    if 1 ≤ l.length ∧ l.length ≤ 200 then
      match (List.range l.length).find? (fun k => decide (fitsAt S l k ≠ 0)) with
      | some k => (k, fitsAt S l k)
      | none => (0, 0)
    else (0, 3)
  else (0, 1)
theorem batchN_arg {S : Sch} {l : List FactS} (h : checkN S ≠ 0) : batchN S l = (0, 1) := if_neg h
theorem batchN_many {S : Sch} {l : List FactS} (h : checkN S = 0) (h1 : ¬ (1 ≤ l.length ∧ l.length ≤ 200)) : batchN S l = (0, 3) := by
  unfold batchN; rw [if_pos h, if_neg h1]
theorem batchN_bad {S : Sch} {l : List FactS} (h : checkN S = 0) (h1 : 1 ≤ l.length ∧ l.length ≤ 200) {k : Nat} (hk : k < l.length) (ha : ∀ j, j < k → fitsAt S l j = 0) (hb : fitsAt S l k ≠ 0) : batchN S l = (k, fitsAt S l k) := by
  unfold batchN; rw [if_pos h, if_pos h1, find_range _ _ k hk (fun j hj => by rw [ha j hj]; rfl) (decide_eq_true hb)]
theorem batchN_ok {S : Sch} {l : List FactS} (h : checkN S = 0) (h1 : 1 ≤ l.length ∧ l.length ≤ 200) (ha : ∀ j, j < l.length → fitsAt S l j = 0) : batchN S l = (0, 0) := by
  unfold batchN; rw [if_pos h, if_pos h1, find_range_none _ _ (fun j hj => by rw [ha j hj]; rfl)]
theorem batchN_zero {S : Sch} {l : List FactS} (h : (batchN S l).2 = 0) : checkN S = 0 ∧ 1 ≤ l.length ∧ l.length ≤ 200 ∧ ∀ j, j < l.length → fitsAt S l j = 0 := by
  by_cases h0 : checkN S = 0
  · by_cases h1 : 1 ≤ l.length ∧ l.length ≤ 200
    · refine ⟨h0, h1.1, h1.2, fun j hj => ?_⟩
      unfold batchN at h
      rw [if_pos h0, if_pos h1] at h
      cases hf : (List.range l.length).find? (fun k => decide (fitsAt S l k ≠ 0)) with
      | none =>
        rw [List.find?_eq_none] at hf
        have := hf j (List.mem_range.2 hj)
        simpa using this
      | some k =>
        rw [hf] at h
        have := List.find?_some hf
        simp at this
        exact absurd h this
    · rw [batchN_many h0 h1] at h; cases h
  · rw [batchN_arg h0] at h; cases h
def factCheckN (S : Sch) (F : FactS) : Nat := if checkN S = 0 then fitsN S F else 1
theorem i64_ne0 {n : Nat} (h : n ≠ 0) : ((n : Int) != 0) = true := by rw [bne_iff_ne]; omega
theorem i64_eq0 {n : Nat} (h : n ≠ 0) : ((n : Int) == 0) = false := by rw [beq_eq_false_iff_ne]; omega
set_option maxRecDepth 20000 in
set_option maxHeartbeats 2000000 in
theorem factCheck_any (w : World) (B : Nat) (v u : Value) (S : Sch) (F : FactS) (h : SchAt w B v S) (ho : SchOk S) (g : FactAt w B u F) (hB : B ≤ w.heap.size) :
    Calls Try.prog 79 #[v, u] w fun y w' => y = .returned (.int .i64 (factCheckN S F : Int)) ∧ Below w.heap.size w w' := by
  have hh := h; have gg := g
  obtain ⟨A0, c0, A1, c1, A2, c2, A3, c3, rfl, r0, r1, r2, r3, b0, b1, b2, b3⟩ := hh
  obtain ⟨v0, v1, v2, rfl, D0, d0, D1, d1, D2, d2, rfl, rfl, rfl, s0, s1, s2, e0, e1, e2⟩ := gg
  clear r0 r1 r2 r3 s0 s1 s2
  have hw0 := belA (belA (belR w) (.cells #[.slice A0 S.dims.length c0, .slice A1 S.ints.length c1, .slice A2 S.nums.length c2, .slice A3 S.views.length c3] 26)) (.cells #[.slice D0 F.codes.length d0, .slice D1 F.ints.length d1, .slice D2 F.nums.length d2] 79)
  have hc := schemaCheck_any ((w.alloc (.cells #[.slice A0 S.dims.length c0, .slice A1 S.ints.length c1, .slice A2 S.nums.length c2, .slice A3 S.views.length c3] 26)).alloc (.cells #[.slice D0 F.codes.length d0, .slice D1 F.ints.length d1, .slice D2 F.nums.length d2] 79)) B _ S (h.keep (hw0.mono hB) (Nat.le_refl _)) ho (by simp; omega)
  have K1 := Lib.hid (Blk.new (w.alloc (.cells #[.slice A0 S.dims.length c0, .slice A1 S.ints.length c1, .slice A2 S.nums.length c2, .slice A3 S.views.length c3] 26)) 79 #[.slice D0 F.codes.length d0, .slice D1 F.ints.length d1, .slice D2 F.nums.length d2])
  have K0 := Lib.hid ((Blk.new w 26 #[.slice A0 S.dims.length c0, .slice A1 S.ints.length c1, .slice A2 S.nums.length c2, .slice A3 S.views.length c3]).alloc (.cells #[.slice D0 F.codes.length d0, .slice D1 F.ints.length d1, .slice D2 F.nums.length d2] 79))
  have HW0 := Lib.hid hw0; have HC := Lib.hid hc; have H := Lib.hid h; have G := Lib.hid g
  clear hw0 hc h g
  by_cases h0 : checkN S = 0
  · have HH := Lib.hid h0
    have hc2 := HC.out
    rw [h0] at hc2
    have HC2 := Lib.hid hc2
    clear hc2 h0
    rw [show (w.alloc (.cells #[.slice A0 S.dims.length c0, .slice A1 S.ints.length c1, .slice A2 S.nums.length c2, .slice A3 S.views.length c3] 26)).heap.size = w.heap.size + 1 from by simp] at K1
    go_enter Try.func79, Try.ntmps79
    go_wp2_with fail
    (with_reducible refine HC2.out.mono ?_)
    rintro y w1 ⟨rfl, hb1⟩
    have hk0 := K0.out.below hb1 (by simp; omega)
    have hk1 := K1.out.below hb1 (by simp)
    have hbb := HW0.out.trans (hb1.mono (by simp; omega))
    have k00 := hk0.cell 0; have k01 := hk0.cell 1; have k02 := hk0.cell 2; have k03 := hk0.cell 3
    have k10 := hk1.cell 0; have k11 := hk1.cell 1; have k12 := hk1.cell 2
    simp at k00 k01 k02 k03 k10 k11 k12
    have hf := fits_any w1 B _ _ S F (H.out.keep (hbb.mono hB) (Nat.le_refl _)) (show FactAt w1 B (.agg #[.slice D0 F.codes.length d0, .slice D1 F.ints.length d1, .slice D2 F.nums.length d2]) F from by
      obtain ⟨_, _, _, e, hv⟩ := G.out
      injection e with e
      simp only [Array.mk.injEq, List.cons.injEq, and_true] at e
      obtain ⟨rfl, rfl, rfl⟩ := e
      exact ⟨_, _, _, rfl, hv.keep (hbb.mono hB) (Nat.le_refl _)⟩) (Nat.le_trans hB hbb.size)
    have HF := Lib.hid hf; have HBB := Lib.hid hbb
    clear hf hbb hk0 hk1 hb1
    go_wp2_with (go_at_call 120; (with_reducible refine HF.out.mono ?_); rintro y w2 ⟨rfl, hb2⟩; have HB2 := Lib.hid hb2; clear hb2)
    go_ret
    exact ⟨by rw [show factCheckN S F = fitsN S F from if_pos HH.out]; rfl, belT HBB.out HB2.out⟩
  · have HH := Lib.hid h0
    have t0 := i64_ne0 h0
    clear h0
    go_enter Try.func79, Try.ntmps79
    go_wp2_with (go_at_call 46; (with_reducible refine HC.out.mono ?_); rintro y w1 ⟨rfl, hb1⟩; have HB1 := Lib.hid hb1; clear hb1)
    go_ret
    exact ⟨by rw [show factCheckN S F = 1 from if_neg HH.out]; rfl, HW0.out.trans (HB1.out.mono (by simp; omega))⟩
theorem SlR.fact3 {w : World} {B c : Nat} {l : List FactS} {A : Option Addr} (h : SlR factR w B l A c) {k : Nat} (hk : k < l.length) : ∃ a D0 d0 D1 d1 D2 d2, A = some a ∧ a.block < B ∧ w.cell? (a.add (k * 3)) = some (.slice D0 l[k].codes.length d0) ∧
    w.cell? ⟨(a.add (k * 3)).block, (a.add (k * 3)).off + 1, none⟩ = some (.slice D1 l[k].ints.length d1) ∧ w.cell? ⟨(a.add (k * 3)).block, (a.add (k * 3)).off + 2, none⟩ = some (.slice D2 l[k].nums.length d2) ∧
    FactAt w B (.agg #[.slice D0 l[k].codes.length d0, .slice D1 l[k].ints.length d1, .slice D2 l[k].nums.length d2]) l[k] ∧ FactOk l[k] := by
  obtain ⟨a, v0, v1, v2, rfl, hb, x0, x1, x2, hv, ho⟩ := h.fact hk
  have hv2 := hv
  obtain ⟨D0, d0, D1, d1, D2, d2, rfl, rfl, rfl, _⟩ := hv2
  exact ⟨a, D0, d0, D1, d1, D2, d2, rfl, hb, x0, x1, x2, ⟨_, _, _, rfl, hv⟩, ho⟩
def okTo (S : Sch) (l : List FactS) (k : Nat) : Prop := ∀ j, j < k → fitsAt S l j = 0
theorem okTo.snoc {S : Sch} {l : List FactS} {k : Nat} (h : okTo S l k) (hk : fitsAt S l k = 0) : okTo S l (k + 1) := fun j hj => by
  by_cases e : j = k
  · subst e; exact hk
  · exact h j (by omega)
set_option maxRecDepth 20000 in
set_option maxHeartbeats 4000000 in
theorem batch_any (w : World) (B : Nat) (v : Value) (S : Sch) (A : Option Addr) (c : Nat) (l : List FactS) (h : SchAt w B v S) (ho : SchOk S) (g : SlR factR w B l A c) (hB : B ≤ w.heap.size) :
    Calls Try.prog 60 #[v, .slice A l.length c] w fun y w' => y = .returned (.tuple #[.int .i64 ((batchN S l).1 : Int), .int .i64 ((batchN S l).2 : Int)]) ∧ Below w.heap.size w w' := by
  have hh := h
  obtain ⟨A0, c0, A1, c1, A2, c2, A3, c3, rfl, r0, r1, r2, r3, b0, b1, b2, b3⟩ := hh
  clear r0 r1 r2 r3
  have hw0 := belA (belR w) (.cells #[.slice A0 S.dims.length c0, .slice A1 S.ints.length c1, .slice A2 S.nums.length c2, .slice A3 S.views.length c3] 26)
  have hc := schemaCheck_any (w.alloc (.cells #[.slice A0 S.dims.length c0, .slice A1 S.ints.length c1, .slice A2 S.nums.length c2, .slice A3 S.views.length c3] 26)) B _ S (h.keep (hw0.mono hB) (Nat.le_refl _)) ho (by simp; omega)
  have K0 := Lib.hid (Blk.new w 26 #[.slice A0 S.dims.length c0, .slice A1 S.ints.length c1, .slice A2 S.nums.length c2, .slice A3 S.views.length c3])
  have hml : l.length ≤ 9223372036854775807 := by have h1 := g.1; have h2 := g.2.1; unfold maxLen at h2; omega
  have HW0 := Lib.hid hw0; have HC := Lib.hid hc; have H := Lib.hid h; have G := Lib.hid g
  clear hw0 hc h g
  by_cases h0 : checkN S = 0
  case neg =>
    have HH := Lib.hid (batchN_arg (l := l) h0)
    have t0 := i64_ne0 h0
    clear h0
    go_enter Try.func60, Try.ntmps60
    go_wp2_with (go_at_call 46; (with_reducible refine HC.out.mono ?_); rintro y w1 ⟨rfl, hb1⟩; have HB1 := Lib.hid hb1; clear hb1)
    go_ret2
    exact ⟨by rw [HH.out]; rfl, HW0.out.trans (HB1.out.mono (by simp))⟩
  case pos =>
    have hc2 := HC.out
    rw [h0] at hc2
    have HC2 := Lib.hid hc2
    clear hc2
    by_cases h1 : 1 ≤ l.length ∧ l.length ≤ 200
    case neg =>
      have HH := Lib.hid (batchN_many h0 h1)
      clear h0
      by_cases h2 : l.length = 0
      · have t0 : ((l.length : Int) == 0) = true := by rw [beq_iff_eq]; omega
        clear h2
        go_enter Try.func60, Try.ntmps60
        go_wp2_with (go_at_call 46; (with_reducible refine HC2.out.mono ?_); rintro y w1 ⟨rfl, hb1⟩; have HB1 := Lib.hid hb1; clear hb1)
        go_ret2
        exact ⟨by rw [HH.out]; rfl, HW0.out.trans (HB1.out.mono (by simp))⟩
      · have t0 := i64_eq0 h2
        have t1 : 200 < l.length := by omega
        clear h2 h1
        go_enter Try.func60, Try.ntmps60
        go_wp2_with (go_at_call 46; (with_reducible refine HC2.out.mono ?_); rintro y w1 ⟨rfl, hb1⟩; have HB1 := Lib.hid hb1; clear hb1)
        go_ret2
        exact ⟨by rw [HH.out]; rfl, HW0.out.trans (HB1.out.mono (by simp))⟩
    case pos =>
      have HBAD := Lib.hid (fun k (hk : k < l.length) ha hb => batchN_bad h0 h1 hk ha hb); have HOK := Lib.hid (batchN_ok (l := l) h0 h1)
      have t0 := i64_eq0 (show l.length ≠ 0 by omega)
      have t1 : l.length ≤ 200 := h1.2
      clear h0 h1
      go_enter Try.func60, Try.ntmps60
      go_wp2_with (go_at_call 46; (with_reducible refine HC2.out.mono ?_); rintro y w1 ⟨rfl, hb1⟩; have HB1 := Lib.hid (HW0.out.trans (hb1.mono (by simp))); have HK1 := Lib.hid (K0.out.below hb1 (by simp)); clear hb1)
      have hz1 : w.heap.size < w1.heap.size := HK1.out.lt
      go_loopw [22] (fun i wr => ∃ k : Nat, k ≤ l.length ∧ i = .int .i64 (k : Int) ∧ Hid (okTo S l k) ∧ Hid (Below w1.heap.size w1 wr)) (fun i _ => l.length - (intOf i).toNat)
      case atStart => exact ⟨0, by omega, rfl, fun j hj => by omega, belR w1⟩
      case round =>
        obtain ⟨k, hk, rfl, HA, HBr⟩ := hrel
        have hz := HBr.out.size
        have HBW := Lib.hid (HB1.out.trans (HBr.out.mono (Nat.le_of_lt hz1)))
        by_cases hlt : k < l.length
        · have hk1 := HK1.out.below HBr.out hz1
          obtain ⟨a, D0, d0, D1, d1, D2, d2, rfl, hab, x0, x1, x2, hf, hfo⟩ := (G.out.keep (HBW.out.mono hB) (Nat.le_refl _)).fact3 hlt
          have q1 : (0 : Int) ≤ (k : Int) := by omega
          have q2 : (k : Int) < (l.length : Int) := by omega
          have hg := fitsAt_get S l k hlt
          have hbad := HBAD.out k hlt HA.out
          have hst := fun h => HA.out.snoc h
          generalize l[k] = F at *
          rw [hg] at hbad hst
          have hbx := belA (belR wr) (.cells #[.slice D0 F.codes.length d0, .slice D1 F.ints.length d1, .slice D2 F.nums.length d2] 79)
          have hcf := fits_any (wr.alloc (.cells #[.slice D0 F.codes.length d0, .slice D1 F.ints.length d1, .slice D2 F.nums.length d2] 79)) B _ _ S F (H.out.keep ((HBW.out.mono hB).trans (hbx.mono (by omega))) (Nat.le_refl _)) (by
            obtain ⟨_, _, _, e, hv⟩ := hf
            injection e with e
            simp only [Array.mk.injEq, List.cons.injEq, and_true] at e
            obtain ⟨rfl, rfl, rfl⟩ := e
            exact ⟨_, _, _, rfl, hv.keep (hbx.mono (by omega)) (Nat.le_refl _)⟩) (by simp; omega)
          have hk2 := hk1.alloc (.cells #[.slice D0 F.codes.length d0, .slice D1 F.ints.length d1, .slice D2 F.nums.length d2] 79)
          have k10 := hk2.cell 0; have k11 := hk2.cell 1; have k12 := hk2.cell 2; have k13 := hk2.cell 3
          rw [show (#[.slice A0 S.dims.length c0, .slice A1 S.ints.length c1, .slice A2 S.nums.length c2, .slice A3 S.views.length c3] : Array Value)[0]? = some (.slice A0 S.dims.length c0) from rfl] at k10
          rw [show (#[.slice A0 S.dims.length c0, .slice A1 S.ints.length c1, .slice A2 S.nums.length c2, .slice A3 S.views.length c3] : Array Value)[1]? = some (.slice A1 S.ints.length c1) from rfl] at k11
          rw [show (#[.slice A0 S.dims.length c0, .slice A1 S.ints.length c1, .slice A2 S.nums.length c2, .slice A3 S.views.length c3] : Array Value)[2]? = some (.slice A2 S.nums.length c2) from rfl] at k12
          rw [show (#[.slice A0 S.dims.length c0, .slice A1 S.ints.length c1, .slice A2 S.nums.length c2, .slice A3 S.views.length c3] : Array Value)[3]? = some (.slice A3 S.views.length c3) from rfl] at k13
          have HBX := Lib.hid hbx; have HBAD2 := Lib.hid hbad; have HST := Lib.hid hst
          clear hbx hf hk1 hk2 hbad hst hg
          by_cases hz0 : fitsN S F = 0
          · have hcf2 := hcf
            rw [hz0] at hcf2
            have HCF := Lib.hid hcf2
            have HY := Lib.hid (HST.out hz0)
            clear hcf hcf2 hz0
            go_wp2_with (go_at_call 120; (with_reducible refine HCF.out.mono ?_); rintro y w2 ⟨rfl, hb2⟩; have HB2 := Lib.hid (hb2.mono (show wr.heap.size ≤ _ by simp)); clear hb2)
            go_roundw
            case rel => exact ⟨k + 1, by omega, by go_num, HY, belT HBr.out (HBX.out.trans HB2.out)⟩
            case measure => simp [intOf]; omega
          · have t2 := i64_ne0 hz0
            have HN := Lib.hid (HBAD2.out hz0)
            have HCF := Lib.hid hcf
            clear hcf hz0
            go_wp2_with (go_at_call 120; (with_reducible refine HCF.out.mono ?_); rintro y w2 ⟨rfl, hb2⟩; have HB2 := Lib.hid (hb2.mono (show wr.heap.size ≤ _ by simp)); clear hb2)
            go_ret2
            exact ⟨by rw [HN.out]; rfl, belT HBW.out (HBX.out.trans HB2.out)⟩
        · obtain rfl : k = l.length := by omega
          have HY := Lib.hid (HOK.out HA.out)
          go_wp2
          go_ret2
          exact ⟨by rw [HY.out]; rfl, HBW.out⟩
set_option maxRecDepth 20000 in
set_option maxHeartbeats 4000000 in
theorem refBatch_any (w : World) (B : Nat) (v : Value) (S : Sch) (A : Option Addr) (c : Nat) (l : List FactS) (h : SchAt w B v S) (ho : SchOk S) (g : SlR factR w B l A c) (hB : B ≤ w.heap.size) :
    Calls Try.prog 63 #[v, .slice A l.length c] w fun y w' => y = .returned (.tuple #[.int .i64 ((batchN S l).1 : Int), .int .i64 ((batchN S l).2 : Int)]) ∧ Below w.heap.size w w' := by
  have hh := h
  obtain ⟨A0, c0, A1, c1, A2, c2, A3, c3, rfl, r0, r1, r2, r3, b0, b1, b2, b3⟩ := hh
  clear r0 r1 r2 r3
  have hw0 := belA (belR w) (.cells #[.slice A0 S.dims.length c0, .slice A1 S.ints.length c1, .slice A2 S.nums.length c2, .slice A3 S.views.length c3] 26)
  have hc := refCheck_any (w.alloc (.cells #[.slice A0 S.dims.length c0, .slice A1 S.ints.length c1, .slice A2 S.nums.length c2, .slice A3 S.views.length c3] 26)) B _ S (h.keep (hw0.mono hB) (Nat.le_refl _)) ho (by simp; omega)
  have K0 := Lib.hid (Blk.new w 26 #[.slice A0 S.dims.length c0, .slice A1 S.ints.length c1, .slice A2 S.nums.length c2, .slice A3 S.views.length c3])
  have hml : l.length ≤ 9223372036854775807 := by have h1 := g.1; have h2 := g.2.1; unfold maxLen at h2; omega
  have HW0 := Lib.hid hw0; have HC := Lib.hid hc; have H := Lib.hid h; have G := Lib.hid g
  clear hw0 hc h g
  by_cases h0 : checkN S = 0
  case neg =>
    have HH := Lib.hid (batchN_arg (l := l) h0)
    have t0 := i64_ne0 h0
    clear h0
    go_enter Try.func63, Try.ntmps63
    go_wp2_with (go_at_call 38; (with_reducible refine HC.out.mono ?_); rintro y w1 ⟨rfl, hb1⟩; have HB1 := Lib.hid hb1; clear hb1)
    go_ret2
    exact ⟨by rw [HH.out]; rfl, HW0.out.trans (HB1.out.mono (by simp))⟩
  case pos =>
    have hc2 := HC.out
    rw [h0] at hc2
    have HC2 := Lib.hid hc2
    clear hc2
    by_cases h1 : 1 ≤ l.length ∧ l.length ≤ 200
    case neg =>
      have HH := Lib.hid (batchN_many h0 h1)
      clear h0
      by_cases h2 : l.length = 0
      · have t0 : l.length < 1 := by omega
        clear h2 h1
        go_enter Try.func63, Try.ntmps63
        go_wp2_with (go_at_call 38; (with_reducible refine HC2.out.mono ?_); rintro y w1 ⟨rfl, hb1⟩; have HB1 := Lib.hid hb1; clear hb1)
        go_ret2
        exact ⟨by rw [HH.out]; rfl, HW0.out.trans (HB1.out.mono (by simp))⟩
      · have t0 := i64_eq0 h2
        have t1 : 200 < l.length := by omega
        clear h2 h1
        go_enter Try.func63, Try.ntmps63
        go_wp2_with (go_at_call 38; (with_reducible refine HC2.out.mono ?_); rintro y w1 ⟨rfl, hb1⟩; have HB1 := Lib.hid hb1; clear hb1)
        go_ret2
        exact ⟨by rw [HH.out]; rfl, HW0.out.trans (HB1.out.mono (by simp))⟩
    case pos =>
      have HBAD := Lib.hid (fun k (hk : k < l.length) ha hb => batchN_bad h0 h1 hk ha hb); have HOK := Lib.hid (batchN_ok (l := l) h0 h1)
      have t0 : 1 ≤ l.length := h1.1
      have t1 : l.length ≤ 200 := h1.2
      clear h0 h1
      go_enter Try.func63, Try.ntmps63
      go_wp2_with (go_at_call 38; (with_reducible refine HC2.out.mono ?_); rintro y w1 ⟨rfl, hb1⟩; have HB1 := Lib.hid (HW0.out.trans (hb1.mono (by simp))); have HK1 := Lib.hid (K0.out.below hb1 (by simp)); clear hb1)
      have hz1 : w.heap.size < w1.heap.size := HK1.out.lt
      go_loopw [6] (fun i wr => ∃ k : Nat, k ≤ l.length ∧ i = .int .i64 (k : Int) ∧ Hid (okTo S l k) ∧ Hid (Below w1.heap.size w1 wr)) (fun i _ => l.length - (intOf i).toNat)
      case atStart => exact ⟨0, by omega, rfl, fun j hj => by omega, belR w1⟩
      case round =>
        obtain ⟨k, hk, rfl, HA, HBr⟩ := hrel
        have hz := HBr.out.size
        have HBW := Lib.hid (HB1.out.trans (HBr.out.mono (Nat.le_of_lt hz1)))
        by_cases hlt : k < l.length
        · have hk1 := HK1.out.below HBr.out hz1
          obtain ⟨a, D0, d0, D1, d1, D2, d2, rfl, hab, x0, x1, x2, hf, hfo⟩ := (G.out.keep (HBW.out.mono hB) (Nat.le_refl _)).fact3 hlt
          have q1 : (0 : Int) ≤ (k : Int) := by omega
          have q2 : (k : Int) < (l.length : Int) := by omega
          have hg := fitsAt_get S l k hlt
          have hbad := HBAD.out k hlt HA.out
          have hst := fun h => HA.out.snoc h
          generalize l[k] = F at *
          rw [hg] at hbad hst
          have hcf : ∀ W, Below wr.heap.size wr W → Calls Try.prog 39 #[.agg #[.slice A0 S.dims.length c0, .slice A1 S.ints.length c1, .slice A2 S.nums.length c2, .slice A3 S.views.length c3], .agg #[.slice D0 F.codes.length d0, .slice D1 F.ints.length d1, .slice D2 F.nums.length d2]] W fun y w' => y = .returned (.int .i64 (fitsN S F : Int)) ∧ Below W.heap.size W w' := fun W hb =>
            refFits_any W B _ _ S F (H.out.keep ((HBW.out.mono hB).trans (hb.mono (by omega))) (Nat.le_refl _)) (by
              obtain ⟨_, _, _, e, hv⟩ := hf
              injection e with e
              simp only [Array.mk.injEq, List.cons.injEq, and_true] at e
              obtain ⟨rfl, rfl, rfl⟩ := e
              exact ⟨_, _, _, rfl, hv.keep (hb.mono (by omega)) (Nat.le_refl _)⟩) (by have := hb.size; omega)
          have k10 := hk1.cell 0; have k11 := hk1.cell 1; have k12 := hk1.cell 2; have k13 := hk1.cell 3
          simp at k10 k11 k12 k13
          have HCF := Lib.hid hcf; have HBAD2 := Lib.hid hbad; have HST := Lib.hid hst; have HK2 := Lib.hid hk1
          clear hf hk1 hbad hst hg hcf
          by_cases hz0 : fitsN S F = 0
          · have hcf2 := HCF.out wr.drew (belD (belR wr) 1)
            rw [hz0] at hcf2
            have HCF2 := Lib.hid hcf2
            have HY := Lib.hid (HST.out hz0)
            clear hcf2 hz0
            go_upto_region 8 with (fail)
            go_still_tail 5, (by kernel_rfl)
            go_wp2_with (go_at_call 39; (with_reducible refine HCF2.out.mono ?_); rintro y w2 ⟨rfl, hb2⟩; have HB2 := Lib.hid ((belD (belR wr) 1).trans hb2); clear hb2)
            go_roundw
            case rel => exact ⟨k + 1, by omega, by go_num, HY, belT HBr.out HB2.out⟩
            case measure => simp [intOf]; omega
          · have t2 := i64_ne0 hz0
            have HN := Lib.hid (HBAD2.out hz0)
            have HCF2 := Lib.hid (HCF.out wr.drew (belD (belR wr) 1))
            clear hz0
            go_upto_region 8 with (fail)
            go_still_tail 5, (by kernel_rfl)
            go_wp2_with fail
            (with_reducible refine HCF2.out.mono ?_)
            rintro y w2 ⟨rfl, hb2⟩
            have hb3 := (belD (belR wr) 1).trans hb2
            have hS : ∀ W : World, Below wr.heap.size wr W → (W.cell? ⟨w.heap.size, 0, none⟩ = some (.slice A0 S.dims.length c0) ∧ W.cell? ⟨w.heap.size, 1, none⟩ = some (.slice A1 S.ints.length c1) ∧ W.cell? ⟨w.heap.size, 2, none⟩ = some (.slice A2 S.nums.length c2) ∧ W.cell? ⟨w.heap.size, 3, none⟩ = some (.slice A3 S.views.length c3) ∧ W.cell? (a.add (k * 3)) = some (.slice D0 F.codes.length d0) ∧ W.cell? ⟨(a.add (k * 3)).block, (a.add (k * 3)).off + 1, none⟩ = some (.slice D1 F.ints.length d1) ∧ W.cell? ⟨(a.add (k * 3)).block, (a.add (k * 3)).off + 2, none⟩ = some (.slice D2 F.nums.length d2)) := fun W hb => by
              have hk3 := HK2.out.below hb (by omega)
              exact ⟨hk3.cell 0, hk3.cell 1, hk3.cell 2, hk3.cell 3, (hb.cell (p := a.add (k * 3)) (by rw [block_add]; omega)).trans x0,
                (hb.cell (p := ⟨(a.add (k * 3)).block, (a.add (k * 3)).off + 1, none⟩) (by show (a.add (k * 3)).block < _; rw [block_add]; omega)).trans x1,
                (hb.cell (p := ⟨(a.add (k * 3)).block, (a.add (k * 3)).off + 2, none⟩) (by show (a.add (k * 3)).block < _; rw [block_add]; omega)).trans x2⟩
            have HS1 := Lib.hid (hS w2.drew (belD hb3 1)); have HS := Lib.hid hS
            have HCF3 := Lib.hid (HCF.out w2.drew (belD hb3 1))
            have HB3 := Lib.hid hb3
            clear hb2 hb3 x0 x1 x2 k10 k11 k12 k13 hS
            go_upto_region 9 with (fail)
            go_region_held3 (fun W' => W'.cell? ⟨w.heap.size, 0, none⟩ = some (.slice A0 S.dims.length c0) ∧ W'.cell? ⟨w.heap.size, 1, none⟩ = some (.slice A1 S.ints.length c1) ∧ W'.cell? ⟨w.heap.size, 2, none⟩ = some (.slice A2 S.nums.length c2) ∧ W'.cell? ⟨w.heap.size, 3, none⟩ = some (.slice A3 S.views.length c3) ∧ W'.cell? (a.add (k * 3)) = some (.slice D0 F.codes.length d0) ∧ W'.cell? ⟨(a.add (k * 3)).block, (a.add (k * 3)).off + 1, none⟩ = some (.slice D1 F.ints.length d1) ∧ W'.cell? ⟨(a.add (k * 3)).block, (a.add (k * 3)).off + 2, none⟩ = some (.slice D2 F.nums.length d2)) (first | (with_reducible exact HS1.out) | (exact HS2.out))
              ((go_at_call 39; (with_reducible refine HCF3.out.mono ?_); rintro y w3 ⟨rfl, hb3⟩; have HB4 := Lib.hid ((belD (belR w2) 1).trans hb3); have HS2 := Lib.hid (HS.out w3 (belT HB3.out HB4.out)); clear hb3))
            go_wp2
            go_ret2
            exact ⟨by rw [HN.out]; rfl, belT HBW.out (belT HB3.out HB4.out)⟩
        · obtain rfl : k = l.length := by omega
          have HY := Lib.hid (HOK.out HA.out)
          go_wp2
          go_ret2
          exact ⟨by rw [HY.out]; rfl, HBW.out⟩
end Go.Proofs.Ytfhmaincnlaapaa
