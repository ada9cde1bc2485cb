/-
  fact.fits, bushelref12.Fits.
-/
import Derived.Test.YtfhmaincnlaapaaSchemaCheck
import Derived.Test.YtfhmaincnlaapaaRepCell
namespace Go.Proofs.Ytfhmaincnlaapaa
open Go.ChangeShapes Go.WideShapes Go.ChangeAt Go.RowKit
set_option linter.unusedVariables false

def FactAt (w : World) (B : Nat) (v : Value) (F : FactS) : Prop := ∃ v0 v1 v2, v = .agg #[v0, v1, v2] ∧ FactV w B F v0 v1 v2
theorem FactV.keep {w w' : World} {B B' : Nat} {F : FactS} {v0 v1 v2 : Value} (h : FactV w B F v0 v1 v2) (hb : Below B w w') (hB : B ≤ B') : FactV w' B' F v0 v1 v2 := by
  obtain ⟨A0, c0, A1, c1, A2, c2, e0, e1, e2, r0, r1, r2, b⟩ := h
  exact ⟨A0, c0, A1, c1, A2, c2, e0, e1, e2, (r0.below hb).more hB, (r1.below hb).more hB, (r2.below hb).more hB, b⟩
theorem SchAt.keep {w w' : World} {B B' : Nat} {v : Value} {S : Sch} (h : SchAt w B v S) (hb : Below B w w') (hB : B ≤ B') : SchAt w' B' v S := by
  obtain ⟨A0, c0, A1, c1, A2, c2, A3, c3, e, r0, r1, r2, r3, b⟩ := h
  exact ⟨A0, c0, A1, c1, A2, c2, A3, c3, e, (r0.below hb).more hB, (r1.below hb).more hB, (r2.below hb).more hB, (r3.below hb).more hB, b⟩
theorem FactAt.keep {w w' : World} {B : Nat} {v : Value} {F : FactS} (h : FactAt w B v F) (hb : Below B w w') : FactAt w' B v F := by
  obtain ⟨v0, v1, v2, e, hv⟩ := h
  exact ⟨v0, v1, v2, e, hv.keep hb (Nat.le_refl _)⟩
def codeAt (F : FactS) (k : Nat) : Int := F.codes.getD k 0
theorem Rd.i64 {w : World} {B : Nat} {A : Option Addr} {l : List Int} (h : Rd w B 1 A l.length (i64s l)) {k : Nat} (hk : k < l.length) : ∃ a, A = some a ∧ a.block < B ∧ w.cell? (a.add k) = some (.int .i64 (l.getD k 0)) := by
  obtain ⟨a, u, rfl, hb, hx, hc⟩ := h.at1 hk
  refine ⟨a, rfl, hb, ?_⟩
  rw [show (i64s l)[k]? = some (.int .i64 (l.getD k 0)) from by simp [i64s, List.getD, hk]] at hx
  rw [hc]; exact hx.symm
def codeOk (S : Sch) (F : FactS) (k : Nat) : Bool := decide (0 ≤ codeAt F k) && decide (codeAt F k < szAt S k)
def codesTo (S : Sch) (F : FactS) (k : Nat) : Bool := (List.range k).all (codeOk S F)
theorem codesTo_succ (S : Sch) (F : FactS) (k : Nat) : codesTo S F (k + 1) = (codesTo S F k && codeOk S F k) := by
  unfold codesTo
  rw [List.range_succ, List.all_append]; simp
theorem codesTo_no (S : Sch) (F : FactS) (k : Nat) (hk : k < F.codes.length) (h : codeOk S F k = false) : codesTo S F F.codes.length = false := by
  unfold codesTo
  rw [List.all_eq_false]
  exact ⟨k, List.mem_range.2 hk, by rw [h]; decide⟩
def lensOk (S : Sch) (F : FactS) : Prop := F.codes.length = S.dims.length ∧ F.ints.length = S.ints.length ∧ F.nums.length = S.nums.length
instance (S : Sch) (F : FactS) : Decidable (lensOk S F) := by unfold lensOk; infer_instance
/-- why a fact is none of a schema; 0: it is -/
def fitsN (S : Sch) (F : FactS) : Nat := if lensOk S F then (if codesTo S F F.codes.length = true then 0 else 2) else 3
theorem fitsN_many {S : Sch} {F : FactS} (h : ¬ lensOk S F) : fitsN S F = 3 := if_neg h
theorem fitsN_range {S : Sch} {F : FactS} (h : lensOk S F) (h1 : codesTo S F F.codes.length = false) : fitsN S F = 2 := by
  unfold fitsN; rw [if_pos h, if_neg (by rw [h1]; decide)]
theorem fitsN_ok {S : Sch} {F : FactS} (h : lensOk S F) (h1 : codesTo S F F.codes.length = true) : fitsN S F = 0 := by
  unfold fitsN; rw [if_pos h, if_pos h1]
theorem lens_cases {S : Sch} {F : FactS} (h : ¬ lensOk S F) : F.codes.length ≠ S.dims.length ∨ (F.codes.length = S.dims.length ∧ F.ints.length ≠ S.ints.length) ∨ (F.codes.length = S.dims.length ∧ F.ints.length = S.ints.length ∧ F.nums.length ≠ S.nums.length) := by
  unfold lensOk at h; omega
theorem ne_true {a b : Nat} (h : a ≠ b) : ((a : Int) != (b : Int)) = true := by rw [bne_iff_ne]; omega
theorem ne_false {a b : Nat} (h : a = b) : ((a : Int) != (b : Int)) = false := by rw [h]; exact bne_self_eq_false _
set_option maxRecDepth 20000 in
set_option maxHeartbeats 2000000 in
theorem fits_any (w : World) (B : Nat) (v u : Value) (S : Sch) (F : FactS) (h : SchAt w B v S) (g : FactAt w B u F) (hB : B ≤ w.heap.size) :
    Calls Try.prog 120 #[v, u] w fun y w' => y = .returned (.int .i64 (fitsN S F : Int)) ∧ Below w.heap.size w w' := by
  obtain ⟨A0, c0, A1, c1, A2, c2, A3, c3, rfl, r0, r1, r2, r3, b0, b1, b2, b3⟩ := h
  obtain ⟨v0, v1, v2, rfl, D0, d0, D1, d1, D2, d2, rfl, rfl, rfl, s0, s1, s2, e0, e1, e2⟩ := g
  have hw0 := belA (belA (belR w) (.cells #[.slice A0 S.dims.length c0, .slice A1 S.ints.length c1, .slice A2 S.nums.length c2, .slice A3 S.views.length c3] 26)) (.cells #[.slice D0 F.codes.length d0, .slice D1 F.ints.length d1, .slice D2 F.nums.length d2] 79)
  have R0 := Lib.hid (r0.below (hw0.mono hB)); have S0 := Lib.hid (s0.below (hw0.mono hB)); have HW0 := Lib.hid hw0
  clear r0 r1 r2 r3 s0 s1 s2 hw0
  by_cases hm : lensOk S F
  case neg =>
    have HNO := Lib.hid (fitsN_many hm)
    rcases lens_cases hm with a0 | ⟨a0, a1⟩ | ⟨a0, a1, a2⟩
    · have t0 := ne_true a0
      clear hm a0
      go_enter Try.func120, Try.ntmps120
      go_wp2
      go_ret
      exact ⟨by rw [HNO.out]; rfl, HW0.out⟩
    · have t0 := ne_false a0; have t1 := ne_true a1
      clear hm a0 a1
      go_enter Try.func120, Try.ntmps120
      go_wp2
      go_ret
      exact ⟨by rw [HNO.out]; rfl, HW0.out⟩
    · have t0 := ne_false a0; have t1 := ne_false a1; have t2 := ne_true a2
      clear hm a0 a1 a2
      go_enter Try.func120, Try.ntmps120
      go_wp2
      go_ret
      exact ⟨by rw [HNO.out]; rfl, HW0.out⟩
  case pos =>
    have t0 := ne_false hm.1; have t1 := ne_false hm.2.1; have t2 := ne_false hm.2.2
    have HL1 : Hid (F.codes.length ≤ S.dims.length) := Lib.hid (by rw [hm.1]; exact Nat.le_refl _)
    have hl1 : F.codes.length ≤ S.dims.length := by rw [hm.1]; exact Nat.le_refl _
    have hml : F.codes.length ≤ 9223372036854775807 := by have h1 := e0.1; have h2 := e0.2; unfold maxLen at h2; omega
    have hno := fun h1 => fitsN_range hm h1
    have hyes := fun h1 => fitsN_ok hm h1
    have HNO1 := Lib.hid hno; have HYES1 := Lib.hid hyes
    clear hm hno hyes
    go_enter Try.func120, Try.ntmps120
    go_wp2
    go_loop [35] (fun i => ∃ k : Nat, k ≤ F.codes.length ∧ i = .int .i64 (k : Int) ∧ Hid (codesTo S F k = true)) (fun i => F.codes.length - (intOf i).toNat)
    case atStart => exact ⟨0, by omega, rfl, rfl⟩
    case round =>
      obtain ⟨k, hk, rfl, HA⟩ := hrel
      by_cases hlt : k < F.codes.length
      · obtain ⟨a, rfl, hab, x0⟩ := S0.out.i64 hlt
        have hkd : k < S.dims.length := Nat.lt_of_lt_of_le hlt HL1.out
        obtain ⟨b, rfl, hbb, y0, y1⟩ := R0.out.dim hkd
        rw [szAt_get S k hkd] at y1
        have q1 : (0 : Int) ≤ (k : Int) := by omega
        have q2 : (k : Int) < (F.codes.length : Int) := by omega
        have q3 : (k : Int) < (S.dims.length : Int) := by omega
        have hst := codesTo_succ S F k
        rw [HA.out, Bool.true_and] at hst
        have hno := codesTo_no S F k hlt
        have hok : codeOk S F k = (decide (0 ≤ codeAt F k) && decide (codeAt F k < szAt S k)) := rfl
        have HST := Lib.hid hst; have HOK := Lib.hid hok; have HNO := Lib.hid hno
        clear hst hok hno y0
        rw [show F.codes.getD k 0 = codeAt F k from rfl] at x0
        generalize codeAt F k = x at *
        generalize szAt S k = z at *
        by_cases s1 : x < 0
        · have HN := Lib.hid (HNO1.out (HNO.out (by rw [HOK.out, decide_eq_false (by omega)]; rfl)))
          go_wp2
          go_ret
          exact ⟨by rw [HN.out]; rfl, HW0.out⟩
        · by_cases s2 : z ≤ x
          · have HN := Lib.hid (HNO1.out (HNO.out (by rw [HOK.out, decide_eq_false (show ¬ x < z by omega), Bool.and_false])))
            go_wp2
            go_ret
            exact ⟨by rw [HN.out]; rfl, HW0.out⟩
          · have HY : Hid (codesTo S F (k + 1) = true) := Lib.hid (HST.out.trans (by rw [HOK.out, decide_eq_true (show 0 ≤ x by omega), decide_eq_true (show x < z by omega)]; rfl))
            go_wp2
            go_round
            case rel => exact ⟨k + 1, by omega, by go_num, HY⟩
            case measure => simp [intOf]; omega
      · obtain rfl : k = F.codes.length := by omega
        have HY := Lib.hid (HYES1.out HA.out)
        go_wp2
        go_ret
        exact ⟨by rw [HY.out]; rfl, HW0.out⟩
set_option maxRecDepth 20000 in
set_option maxHeartbeats 2000000 in
theorem refFits_any (w : World) (B : Nat) (v u : Value) (S : Sch) (F : FactS) (h : SchAt w B v S) (g : FactAt w B u F) (hB : B ≤ w.heap.size) :
    Calls Try.prog 39 #[v, u] w fun y w' => y = .returned (.int .i64 (fitsN S F : Int)) ∧ Below w.heap.size w w' := by
  obtain ⟨A0, c0, A1, c1, A2, c2, A3, c3, rfl, r0, r1, r2, r3, b0, b1, b2, b3⟩ := h
  obtain ⟨v0, v1, v2, rfl, D0, d0, D1, d1, D2, d2, rfl, rfl, rfl, s0, s1, s2, e0, e1, e2⟩ := g
  have hw0 := belA (belA (belR w) (.cells #[.slice A0 S.dims.length c0, .slice A1 S.ints.length c1, .slice A2 S.nums.length c2, .slice A3 S.views.length c3] 26)) (.cells #[.slice D0 F.codes.length d0, .slice D1 F.ints.length d1, .slice D2 F.nums.length d2] 79)
  have R0 := Lib.hid (r0.below (hw0.mono hB)); have S0 := Lib.hid (s0.below (hw0.mono hB)); have HW0 := Lib.hid hw0
  have K1 := Lib.hid (Blk.new (w.alloc (.cells #[.slice A0 S.dims.length c0, .slice A1 S.ints.length c1, .slice A2 S.nums.length c2, .slice A3 S.views.length c3] 26)) 79 #[.slice D0 F.codes.length d0, .slice D1 F.ints.length d1, .slice D2 F.nums.length d2])
  have K0 := Lib.hid ((Blk.new w 26 #[.slice A0 S.dims.length c0, .slice A1 S.ints.length c1, .slice A2 S.nums.length c2, .slice A3 S.views.length c3]).alloc (.cells #[.slice D0 F.codes.length d0, .slice D1 F.ints.length d1, .slice D2 F.nums.length d2] 79))
  clear r0 r1 r2 r3 s0 s1 s2 hw0
  by_cases hm : lensOk S F
  case neg =>
    have HNO := Lib.hid (fitsN_many hm)
    rcases lens_cases hm with a0 | ⟨a0, a1⟩ | ⟨a0, a1, a2⟩
    · have t0 := ne_true a0
      clear hm a0
      go_enter Try.func39, Try.ntmps39
      go_wp2
      go_ret
      exact ⟨by rw [HNO.out]; rfl, HW0.out⟩
    · have t0 := ne_false a0; have t1 := ne_true a1
      clear hm a0 a1
      go_enter Try.func39, Try.ntmps39
      go_wp2
      go_ret
      exact ⟨by rw [HNO.out]; rfl, HW0.out⟩
    · have t0 := ne_false a0; have t1 := ne_false a1; have t2 := ne_true a2
      clear hm a0 a1 a2
      go_enter Try.func39, Try.ntmps39
      go_wp2
      go_ret
      exact ⟨by rw [HNO.out]; rfl, HW0.out⟩
  case pos =>
    have t0 := ne_false hm.1; have t1 := ne_false hm.2.1; have t2 := ne_false hm.2.2
    have HL1 : Hid (F.codes.length ≤ S.dims.length) := Lib.hid (by rw [hm.1]; exact Nat.le_refl _)
    have hl1 : F.codes.length ≤ S.dims.length := by rw [hm.1]; exact Nat.le_refl _
    have hml : F.codes.length ≤ 9223372036854775807 := by have h1 := e0.1; have h2 := e0.2; unfold maxLen at h2; omega
    have hno := fun h1 => fitsN_range hm h1
    have hyes := fun h1 => fitsN_ok hm h1
    have HNO1 := Lib.hid hno; have HYES1 := Lib.hid hyes
    clear hm hno hyes
    go_enter Try.func39, Try.ntmps39
    go_wp2
    generalize hW : (w.alloc (.cells #[.slice A0 S.dims.length c0, .slice A1 S.ints.length c1, .slice A2 S.nums.length c2, .slice A3 S.views.length c3] 26)).alloc (.cells #[.slice D0 F.codes.length d0, .slice D1 F.ints.length d1, .slice D2 F.nums.length d2] 79) = W at *
    clear hW
    rw [show (w.alloc (.cells #[.slice A0 S.dims.length c0, .slice A1 S.ints.length c1, .slice A2 S.nums.length c2, .slice A3 S.views.length c3] 26)).heap.size = w.heap.size + 1 from by simp] at K1
    go_loopw [5] (fun i wr => ∃ k : Nat, k ≤ F.codes.length ∧ i = .int .i64 (k : Int) ∧ Hid (codesTo S F k = true) ∧ Hid (Drw W wr)) (fun i _ => F.codes.length - (intOf i).toNat)
    case atStart => exact ⟨0, by omega, rfl, rfl, Drw.refl W⟩
    case round =>
      obtain ⟨k, hk, rfl, HA, HD⟩ := hrel
      have k0 := (K0.out.drw HD.out).cell 0
      have k1 := (K1.out.drw HD.out).cell 0
      simp at k0 k1
      have HF := Lib.hid (HD.out.below HW0.out)
      by_cases hlt : k < F.codes.length
      · obtain ⟨a, rfl, hab, x0⟩ := (rd_drw S0.out HD.out).i64 hlt
        have hkd : k < S.dims.length := Nat.lt_of_lt_of_le hlt HL1.out
        obtain ⟨b, rfl, hbb, y0, y1⟩ := (rd_drw R0.out HD.out).dim hkd
        rw [szAt_get S k hkd] at y1
        have q1 : (0 : Int) ≤ (k : Int) := by omega
        have q2 : (k : Int) < (F.codes.length : Int) := by omega
        have q3 : (k : Int) < (S.dims.length : Int) := by omega
        have hst := codesTo_succ S F k
        rw [HA.out, Bool.true_and] at hst
        have hno := codesTo_no S F k hlt
        have hok : codeOk S F k = (decide (0 ≤ codeAt F k) && decide (codeAt F k < szAt S k)) := rfl
        have HST := Lib.hid hst; have HOK := Lib.hid hok; have HNO := Lib.hid hno
        clear hst hok hno y0
        rw [show F.codes.getD k 0 = codeAt F k from rfl] at x0
        generalize codeAt F k = x at *
        generalize szAt S k = z at *
        by_cases s1 : x < 0
        · have HN := Lib.hid (HNO1.out (HNO.out (by rw [HOK.out, decide_eq_false (by omega)]; rfl)))
          have t3 : decide (x < 0) = true := decide_eq_true s1
          go_wp2
          go_quiet (fail)
          go_wp2
          go_ret
          exact ⟨by rw [HN.out]; rfl, belD HF.out _⟩
        · have t3 : decide (x < 0) = false := decide_eq_false s1
          by_cases s2 : z ≤ x
          · have HN := Lib.hid (HNO1.out (HNO.out (by rw [HOK.out, decide_eq_false (show ¬ x < z by omega), Bool.and_false])))
            have t4 : decide (z ≤ x) = true := decide_eq_true s2
            go_wp2
            go_quiet (fail)
            go_wp2
            go_ret
            exact ⟨by rw [HN.out]; rfl, belD HF.out _⟩
          · have HY : Hid (codesTo S F (k + 1) = true) := Lib.hid (HST.out.trans (by rw [HOK.out, decide_eq_true (show 0 ≤ x by omega), decide_eq_true (show x < z by omega)]; rfl))
            have t4 : decide (z ≤ x) = false := decide_eq_false s2
            go_wp2
            go_quiet (fail)
            go_wp2
            go_roundw
            case rel => exact ⟨k + 1, by omega, by go_num, HY, HD.out.drewN _⟩
            case measure => simp [intOf]; omega
      · obtain rfl : k = F.codes.length := by omega
        have HY := Lib.hid (HYES1.out HA.out)
        go_wp2
        go_ret
        exact ⟨by rw [HY.out]; rfl, HF.out⟩
end Go.Proofs.Ytfhmaincnlaapaa
