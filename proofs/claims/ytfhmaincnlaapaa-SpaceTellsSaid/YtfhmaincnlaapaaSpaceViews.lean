/-
  schema.Views, bushelref11.Views.
-/
import Derived.Test.YtfhmaincnlaapaaSchemaKeys
import Derived.Test.YtfhmaincnlaapaaRefCheck
import Derived.Deep.RegionLawGrows
namespace Go.Proofs.Ytfhmaincnlaapaa
open Go.ChangeShapes Go.WideShapes Go.ChangeAt Go.RowKit
set_option linter.unusedVariables false

/-- the base, and the other views -/
def viewsL (S : Sch) : List Int := (fullN S : Int) :: S.views
theorem viewsL_len (S : Sch) : (viewsL S).length = S.views.length + 1 := rfl
theorem u32s_one (l : List Int) : ∀ u ∈ u32s l, u.oneCell' = true := by intro u hu; obtain ⟨x, _, rfl⟩ := List.mem_map.1 hu; rfl
theorem fullP_ok {S : Sch} (h : checkN S = 0) : fullP S = fullN S := if_pos h
theorem viewsR {w : World} {base : Nat} {v : Value} {S : Sch} {p : Nat} (h : w.ownsRow base 33 1 v (1 + S.views.length) ([.int .u32 (p : Int)] ++ u32s S.views)) (hp : p = fullN S) : w.ownsRow base 33 1 v (viewsL S).length (u32s (viewsL S)) := by
  subst hp
  rw [viewsL_len, Nat.add_comm]
  exact h
set_option maxRecDepth 20000 in
set_option maxHeartbeats 4000000 in
theorem views_any (w : World) (B : Nat) (v : Value) (S : Sch) (h : SchAt w B v S) (ho : SchOk S) (hB : B ≤ w.heap.size) (h0 : checkN S = 0) :
    Calls Try.prog 47 #[v] w fun y w' => ∃ v', y = .returned v' ∧ w'.ownsRow w.heap.size 33 1 v' (viewsL S).length (u32s (viewsL S)) ∧ Below w.heap.size w w' := by
  obtain ⟨hm, _⟩ := checkN_zero h0
  unfold manyOk at hm
  have hv15 : S.views.length ≤ 15 := hm.2.2.2.2
  have hh := h
  obtain ⟨A0, c0, A1, c1, A2, c2, A3, c3, rfl, r0, r1, r2, r3, b0, b1, b2, b3⟩ := hh
  have hone := u32s_one S.views
  have hw0 := belA (belR w) (.cells #[.slice A0 S.dims.length c0, .slice A1 S.ints.length c1, .slice A2 S.nums.length c2, .slice A3 S.views.length c3] 26)
  have hc := schemaCheck_any (w.alloc (.cells #[.slice A0 S.dims.length c0, .slice A1 S.ints.length c1, .slice A2 S.nums.length c2, .slice A3 S.views.length c3] 26)) B _ S (h.keep (hw0.mono hB) (Nat.le_refl _)) ho (by simp; omega)
  rw [h0] at hc
  have K0 := Lib.hid (Blk.new w 26 #[.slice A0 S.dims.length c0, .slice A1 S.ints.length c1, .slice A2 S.nums.length c2, .slice A3 S.views.length c3])
  have HW0 := Lib.hid hw0; have HC := Lib.hid hc; have H := Lib.hid h; have R3 := Lib.hid r3; have HONE := Lib.hid hone; have HFP := Lib.hid (fullP_ok h0)
  clear hw0 h r0 r1 r2 r3 b0 b1 b2 b3 hc hone hm h0
  go_enter Try.func47, Try.ntmps47
  go_wp2_with (go_at_call 46; (with_reducible refine HC.out.mono ?_); rintro y w1 ⟨rfl, hb1⟩; have HB1 := Lib.hid (HW0.out.trans (hb1.mono (show w.heap.size ≤ _ by simp))); have K1 := Lib.hid (K0.out.below hb1 (by simp)); clear hb1)
  have HFUL := Lib.hid (full_any w1.drew B _ S (H.out.keep (HB1.out.drew.mono hB) (Nat.le_refl _)) ho (Nat.le_trans hB HB1.out.size))
  have s0 : w1.drew.cell? ⟨w.heap.size, 0, none⟩ = some (.slice A0 S.dims.length c0) := K1.out.cell 0
  have s1 : w1.drew.cell? ⟨w.heap.size, 1, none⟩ = some (.slice A1 S.ints.length c1) := K1.out.cell 1
  have s2 : w1.drew.cell? ⟨w.heap.size, 2, none⟩ = some (.slice A2 S.nums.length c2) := K1.out.cell 2
  have s3 : w1.drew.cell? ⟨w.heap.size, 3, none⟩ = some (.slice A3 S.views.length c3) := K1.out.cell 3
  generalize hp : fullP S = p at *
  have HP := Lib.hid hp; clear hp
  go_region_law (first
    | (refine step_appSD (some 11) (by rfl) (by rfl) (.tmp 8) (.tmp 10) 24 (by rfl) w.heap.size 33 (.int .u32 0) 1 4 info_u32 rfl (by decide) Try.underlying24 (.slice (some ⟨w2.heap.size, 0, none⟩) 1 1) 1 [.int .u32 (p : Int)] HOW.out B A3 S.views.length c3 (u32s S.views) HRV.out (by rfl) (by rfl) HONE.out (by omega) (by omega) hz2 ?_; intro v5 w5 ho5 hap5; have HO5 := Lib.hid ho5; have HB5 := Lib.hid ((HB2.out.alloc hzb _).trans (hap5.below hz2 HOW.out)); clear ho5 hap5)
    | (go_simp; go_at_call 103; (with_reducible refine HFUL.out.mono ?_); rintro y w2 ⟨rfl, hb2⟩; have hzb : w.heap.size ≤ w2.heap.size := Nat.le_trans HB1.out.size hb2.size; have hz2 : w.heap.size ≤ (w2.alloc (.cells #[.int .u32 (p : Int)] 33)).heap.size := (by simp; omega); have HB2 := Lib.hid (HB1.out.drew.trans (hb2.mono HB1.out.size)); have k2 := K1.out.drew.below hb2 (by have := HB1.out.size; have := K1.out.lt; exact K1.out.lt); have HRV := Lib.hid ((R3.out.below (HB2.out.mono hB)).alloc (by omega) (.cells #[.int .u32 (p : Int)] 33)); have HOW : Hid ((w2.alloc (.cells #[.int .u32 (p : Int)] 33)).ownsRow w.heap.size 33 1 (.slice (some ⟨w2.heap.size, 0, none⟩) 1 1) 1 [.int .u32 (p : Int)]) := Lib.hid (own_lit1 w2 (.int .u32 (p : Int)) w.heap.size hzb 33); have s4 : w2.cell? ⟨w.heap.size, 3, none⟩ = some (.slice A3 S.views.length c3) := k2.cell 3; have s5 : (w2.alloc (.cells #[.int .u32 (p : Int)] 33)).cell? ⟨w.heap.size, 3, none⟩ = some (.slice A3 S.views.length c3) := (k2.alloc _).cell 3; clear hb2 k2))
  all_goals
    go_wp2
    go_ret
    exact ⟨_, rfl, viewsR HO5.out HFP.out, HB5.out⟩
set_option maxRecDepth 20000 in
theorem refFull_any (w : World) (B : Nat) (v : Value) (S : Sch) (h : SchAt w B v S) (hB : B ≤ w.heap.size) (h1 : 1 ≤ S.dims.length) (h6 : S.dims.length ≤ 6) :
    Calls Try.prog 13 #[v] w fun y w' => y = .returned (.int .u32 (fullN S : Int)) ∧ Below w.heap.size w w' := by
  have hle := fullN_le h1 h6
  have hh := h
  obtain ⟨A0, c0, A1, c1, A2, c2, A3, c3, rfl, r0, r1, r2, r3, b0, b1, b2, b3⟩ := hh
  clear r0 r1 r2 r3 h
  have hw0 := belA (belR w) (.cells #[.slice A0 S.dims.length c0, .slice A1 S.ints.length c1, .slice A2 S.nums.length c2, .slice A3 S.views.length c3] 26)
  have HW0 := Lib.hid hw0
  have HT := Lib.hid (fun W => two_any W S.dims.length (by omega))
  have hp2 : fullN S = p2 S.dims.length - 1 := rfl
  have e : IntKind.u32.wrap ((p2 S.dims.length : Int) - 1) = (fullN S : Int) := by rw [IntKind.wrap_u32]; omega
  have e2 : (p2 S.dims.length : Int) - 1 = (fullN S : Int) := by omega
  have e3 : IntKind.u32.wrap (fullN S : Int) = (fullN S : Int) := by rw [IntKind.wrap_u32]; omega
  generalize fullN S = f at *
  generalize p2 S.dims.length = q at *
  clear hw0 hp2
  go_enter Try.func13, Try.ntmps13
  go_wp2_with (go_at_call 44; (with_reducible refine (HT.out _).mono ?_); rintro y w1 ⟨rfl, rfl⟩)
  go_ret
  first
  | exact ⟨rfl, HW0.out⟩
  | exact ⟨by rw [e2], HW0.out⟩
set_option maxRecDepth 20000 in
set_option maxHeartbeats 4000000 in
theorem refViews_any (w : World) (B : Nat) (v : Value) (S : Sch) (h : SchAt w B v S) (ho : SchOk S) (hB : B ≤ w.heap.size) (h0 : checkN S = 0) :
    Calls Try.prog 48 #[v] w fun y w' => ∃ v', y = .returned v' ∧ w'.ownsRow w.heap.size 33 1 v' (viewsL S).length (u32s (viewsL S)) ∧ Below w.heap.size w w' := by
  obtain ⟨hm, _⟩ := checkN_zero h0
  unfold manyOk at hm
  have hv15 : S.views.length ≤ 15 := hm.2.2.2.2
  have hh := h
  obtain ⟨A0, c0, A1, c1, A2, c2, A3, c3, rfl, r0, r1, r2, r3, b0, b1, b2, b3⟩ := hh
  have hone := u32s_one S.views
  have hw0 := belA (belR w) (.cells #[.slice A0 S.dims.length c0, .slice A1 S.ints.length c1, .slice A2 S.nums.length c2, .slice A3 S.views.length c3] 26)
  have K0 := Lib.hid (Blk.new w 26 #[.slice A0 S.dims.length c0, .slice A1 S.ints.length c1, .slice A2 S.nums.length c2, .slice A3 S.views.length c3])
  have HW0 := Lib.hid hw0; have H := Lib.hid h; have R3 := Lib.hid r3; have HONE := Lib.hid hone; have HD6 := Lib.hid (show 1 ≤ S.dims.length ∧ S.dims.length ≤ 6 from ⟨hm.1, hm.2.1⟩)
  clear hw0 h r0 r1 r2 r3 b0 b1 b2 b3 hone hm h0
  go_enter Try.func48, Try.ntmps48
  go_wp2
  generalize hW1 : w.alloc (.cells #[.slice A0 S.dims.length c0, .slice A1 S.ints.length c1, .slice A2 S.nums.length c2, .slice A3 S.views.length c3] 26) = w1 at *
  have HB1 := HW0
  have K1 := K0
  clear hW1
  have HFUL := Lib.hid (refFull_any w1.drew B _ S (H.out.keep (HB1.out.drew.mono hB) (Nat.le_refl _)) (Nat.le_trans hB HB1.out.size) HD6.out.1 HD6.out.2)
  have s0 : w1.drew.cell? ⟨w.heap.size, 0, none⟩ = some (.slice A0 S.dims.length c0) := K1.out.cell 0
  have s1 : w1.drew.cell? ⟨w.heap.size, 1, none⟩ = some (.slice A1 S.ints.length c1) := K1.out.cell 1
  have s2 : w1.drew.cell? ⟨w.heap.size, 2, none⟩ = some (.slice A2 S.nums.length c2) := K1.out.cell 2
  have s3 : w1.drew.cell? ⟨w.heap.size, 3, none⟩ = some (.slice A3 S.views.length c3) := K1.out.cell 3
  obtain ⟨p, hp⟩ : ∃ p, fullN S = p := ⟨_, rfl⟩
  rw [hp] at HFUL
  have HFP := Lib.hid hp.symm; clear hp
  go_region_law (first
    | (refine step_appSD (some 8) (by rfl) (by rfl) (.tmp 5) (.tmp 7) 24 (by rfl) w.heap.size 33 (.int .u32 0) 1 4 info_u32 rfl (by decide) Try.underlying24 (.slice (some ⟨w2.heap.size, 0, none⟩) 1 1) 1 [.int .u32 (p : Int)] HOW.out B A3 S.views.length c3 (u32s S.views) HRV.out (by rfl) (by rfl) HONE.out (by omega) (by omega) hz2 ?_; intro v5 w5 ho5 hap5; have HO5 := Lib.hid ho5; have HB5 := Lib.hid ((HB2.out.alloc hzb _).trans (hap5.below hz2 HOW.out)); clear ho5 hap5)
    | (go_simp; go_at_call 13; (with_reducible refine HFUL.out.mono ?_); rintro y w2 ⟨rfl, hb2⟩; have hzb : w.heap.size ≤ w2.heap.size := Nat.le_trans HB1.out.size hb2.size; have hz2 : w.heap.size ≤ (w2.alloc (.cells #[.int .u32 (p : Int)] 33)).heap.size := (by simp; omega); have HB2 := Lib.hid (HB1.out.drew.trans (hb2.mono HB1.out.size)); have k2 := K1.out.drew.below hb2 (by have := HB1.out.size; have := K1.out.lt; exact K1.out.lt); have HRV := Lib.hid ((R3.out.below (HB2.out.mono hB)).alloc (by omega) (.cells #[.int .u32 (p : Int)] 33)); have HOW : Hid ((w2.alloc (.cells #[.int .u32 (p : Int)] 33)).ownsRow w.heap.size 33 1 (.slice (some ⟨w2.heap.size, 0, none⟩) 1 1) 1 [.int .u32 (p : Int)]) := Lib.hid (own_lit1 w2 (.int .u32 (p : Int)) w.heap.size hzb 33); have s4 : w2.cell? ⟨w.heap.size, 3, none⟩ = some (.slice A3 S.views.length c3) := k2.cell 3; have s5 : (w2.alloc (.cells #[.int .u32 (p : Int)] 33)).cell? ⟨w.heap.size, 3, none⟩ = some (.slice A3 S.views.length c3) := (k2.alloc _).cell 3; clear hb2 k2))
  all_goals
    go_wp2
    go_ret
    exact ⟨_, rfl, viewsR HO5.out HFP.out, HB5.out⟩
end Go.Proofs.Ytfhmaincnlaapaa
