/-
  bushelref11.Light.
  bushelref11.names: a schema's names.
  schema.all: a schema's names.
-/
import Derived.Test.YtfhmaincnlaapaaRepCell
import Derived.Test.YtfhmaincnlaapaaNodesPure
import Derived.Test.YtfhmaincnlaapaaRefNodesW
import Derived.Deep.RegionHeld3
import Derived.Deep.DeepCutAuto
namespace Go.Proofs.Ytfhmaincnlaapaa
open Go.ChangeShapes Go.WideShapes Go.ChangeAt Go.RowKit
set_option linter.unusedVariables false

def namesL (S : Sch) : List ByteArray := S.dims.map Prod.fst ++ S.ints ++ S.nums
theorem info_str : (Try.prog.info? 9).map (fun i => (i.zero, i.size, i.bytes)) = some (some (.string ⟨#[]⟩), 1, 16) := by kernel_rfl
theorem strs_one (l : List ByteArray) : ∀ u ∈ strs l, u.oneCell' = true := fun u hu => by
  obtain ⟨x, _, rfl⟩ := List.mem_map.1 hu; rfl
theorem strs_snoc (l : List ByteArray) (x : ByteArray) : strs l ++ [.string x] = strs (l ++ [x]) := by simp [strs]
theorem dims_snoc (l : List (ByteArray × Int)) (k : Nat) (hk : k < l.length) : (l.take (k + 1)).map Prod.fst = (l.take k).map Prod.fst ++ [l[k].1] := by
  rw [List.take_succ_eq_append_getElem hk, List.map_append]; rfl
theorem Rd.dim {w : World} {B : Nat} {A : Option Addr} {l : List (ByteArray × Int)} (h : Rd w B 2 A l.length (dimC l)) {k : Nat} (hk : k < l.length) : ∃ a, A = some a ∧ a.block < B ∧ w.cell? (a.add (k * 2)) = some (.string l[k].1) ∧ w.cell? ⟨(a.add (k * 2)).block, (a.add (k * 2)).off + 1, none⟩ = some (.int .i64 l[k].2) := by
  obtain ⟨a, rfl, hb, hc⟩ := h.2 (by omega)
  have key : ∀ j, j < 2 → w.cell? (a.add (k * 2 + j)) = ([.string l[k].1, .int .i64 l[k].2] : List Value)[j]? := fun j hj => by
    have := flat_get (fun x : ByteArray × Int => ([.string x.1, .int .i64 x.2] : List Value)) 2 (fun _ => rfl) l k j hk hj
    have hl : j < ([.string l[k].1, .int .i64 l[k].2] : List Value).length := hj
    rw [List.getElem?_eq_getElem hl] at this ⊢
    exact hc _ _ this
  refine ⟨a, rfl, hb, key 0 (by decide), ?_⟩
  have := key 1 (by decide)
  rw [← add_add', add_succ] at this
  exact this
def AllRel (W wr : World) (S : Sch) (v3 v9 : Value) : Prop :=
  ∃ k : Nat, k ≤ S.dims.length ∧ v9 = .int .i64 (k : Int) ∧ wr.ownsRow W.heap.size 9 1 v3 k (strs ((S.dims.take k).map Prod.fst)) ∧ Below W.heap.size W wr
set_option maxRecDepth 20000 in
set_option maxHeartbeats 1000000 in
theorem all_any (w : World) (B : Nat) (v : Value) (S : Sch) (h : SchAt w B v S) (hB : B ≤ w.heap.size) (h0 : S.dims.length ≤ 100) (h1 : S.ints.length ≤ 100) (h2 : S.nums.length ≤ 100) :
    Calls Try.prog 100 #[v] w fun y w' => ∃ v', y = .returned v' ∧ w'.ownsRow w.heap.size 9 1 v' (namesL S).length (strs (namesL S)) ∧ Below w.heap.size w w' := by
  obtain ⟨A0, c0, A1, c1, A2, c2, A3, c3, rfl, r0, r1, r2, r3, _, _, _, _⟩ := h
  have hw0 := belA (belR w) (.cells #[.slice A0 S.dims.length c0, .slice A1 S.ints.length c1, .slice A2 S.nums.length c2, .slice A3 S.views.length c3] 26)
  have hblk := Blk.new w 26 #[.slice A0 S.dims.length c0, .slice A1 S.ints.length c1, .slice A2 S.nums.length c2, .slice A3 S.views.length c3]
  have R0 := Lib.hid (r0.below (hw0.mono hB)); have R1 := Lib.hid (r1.below (hw0.mono hB)); have R2 := Lib.hid (r2.below (hw0.mono hB)); have HW0 := Lib.hid hw0; have HBLK := Lib.hid hblk
  have hz0 : w.heap.size < (w.alloc (.cells #[.slice A0 S.dims.length c0, .slice A1 S.ints.length c1, .slice A2 S.nums.length c2, .slice A3 S.views.length c3] 26)).heap.size := by simp
  clear r0 r1 r2 r3 hw0 hblk
  go_enter Try.func100, Try.ntmps100
  go_wp2_with fail
  generalize w.alloc (.cells #[.slice A0 S.dims.length c0, .slice A1 S.ints.length c1, .slice A2 S.nums.length c2, .slice A3 S.views.length c3] 26) = W at *
  go_loopw [3, 9] (fun v3 v9 wx => AllRel W wx S v3 v9) (fun _ v9 _ => S.dims.length - (intOf v9).toNat)
  case atStart => exact ⟨0, by omega, rfl, World.ownsRow_nil W W.heap.size 9 1, belR W⟩
  case round =>
    obtain ⟨k, hk, rfl, ho, hb⟩ := hrel
    have HO := Lib.hid ho; have HB := Lib.hid hb; clear ho hb
    by_cases hlt : k < S.dims.length
    · obtain ⟨a, rfl, hab, x0, x1⟩ := ((R0.out.more (show B ≤ W.heap.size by omega)).below HB.out).dim hlt
      have q1 : (0 : Int) ≤ (k : Int) := by omega
      have q2 : (k : Int) < (S.dims.length : Int) := by omega
      have hsn := dims_snoc S.dims k hlt
      generalize S.dims[k] = x at *
      obtain ⟨nm, sz⟩ := x
      simp only at x0 x1 hsn
      have HSN := Lib.hid hsn; clear hsn
      have hz := HB.out.size
      have hz3 : W.heap.size ≤ (wr.alloc (.cells #[.string nm, .int .i64 sz] 89)).heap.size := by simp; omega
      have hxx : Value.slice (some ⟨wr.heap.size + 1, 0, none⟩) 1 1 = .slice (some ⟨(wr.alloc (.cells #[.string nm, .int .i64 sz] 89)).heap.size, 0, none⟩) 1 1 := by simp
      have HO2 := Lib.hid (HO.out.alloc (.cells #[.string nm, .int .i64 sz] 89))
      go_wp2_with (at_builtin; refine wpList_app1 (wr.alloc (.cells #[.string nm, .int .i64 sz] 89)) (.string nm) rfl rfl (.tmp 13) (.tmp 16) 23 rfl W.heap.size 9 (.string ⟨#[]⟩) 16 info_str rfl Try.underlying23 _ k (strs ((S.dims.take k).map Prod.fst)) HO2.out rfl rfl ?_ ?_ ?_ ?_; omega; omega; exact hz3; intro v2 w2 ho2 hb2; have HO3 := Lib.hid ho2; have HB3 := Lib.hid (hb2.below (B := W.heap.size) hz3 HO2.out); clear ho2 hb2)
      go_roundw
      case rel => exact ⟨k + 1, by omega, by go_num, by rw [HSN.out, ← strs_snoc]; exact HO3.out, (HB.out.trans ((belA (belR wr) _).mono hz)).trans HB3.out⟩
      case measure => simp [intOf]; omega
    · obtain rfl : k = S.dims.length := by omega
      rw [List.take_length] at HO
      have hz := HB.out.size
      have k1 := HBLK.out.below HB.out hz0
      have x1 := k1.cell 1; have x2 := k1.cell 2
      simp at x1 x2
      have HR1 := Lib.hid (R1.out.below (HB.out.mono (show B ≤ W.heap.size by omega)))
      have HR2 := Lib.hid (R2.out.below (HB.out.mono (show B ≤ W.heap.size by omega)))
      clear k1
      go_wp2_with (first
        | (at_builtin; refine wpList_appS _ rfl (.tmp 19) (.tmp 21) 23 rfl W.heap.size 9 (.string ⟨#[]⟩) 1 16 info_str rfl (by decide) Try.underlying23 _ S.dims.length (strs (S.dims.map Prod.fst)) HO.out rfl _ A1 S.ints.length c1 (strs S.ints) HR1.out rfl (strs_one _) ?_ ?_ ?_ ?_; omega; omega; exact hz; intro v2 w2 ho2 hap2; have HO2 := Lib.hid ho2; have HB2 := Lib.hid (HB.out.trans (hap2.below hz HO.out)); have hz2 : W.heap.size ≤ w2.heap.size := HB2.out.size; have k2 := HBLK.out.below HB2.out hz0; have y2 := k2.cell 2; simp at y2; have HR3 := Lib.hid (R2.out.below (HB2.out.mono (show B ≤ W.heap.size by omega))); clear ho2 hap2 k2)
        | (at_builtin; refine wpList_appS _ rfl (.tmp 23) (.tmp 25) 23 rfl W.heap.size 9 (.string ⟨#[]⟩) 1 16 info_str rfl (by decide) Try.underlying23 _ (S.dims.length + S.ints.length) (strs (S.dims.map Prod.fst) ++ strs S.ints) HO2.out rfl _ A2 S.nums.length c2 (strs S.nums) HR3.out rfl (strs_one _) ?_ ?_ ?_ ?_; omega; omega; exact hz2; intro v3 w3 ho3 hap3; have HO3 := Lib.hid ho3; have HB3 := Lib.hid (HB2.out.trans (hap3.below hz2 HO2.out)); clear ho3 hap3))
      go_ret
      have hl : (namesL S).length = S.dims.length + S.ints.length + S.nums.length := by unfold namesL; rw [List.length_append, List.length_append, List.length_map]
      have hs : strs (namesL S) = strs (S.dims.map Prod.fst) ++ strs S.ints ++ strs S.nums := by unfold namesL strs; rw [List.map_append, List.map_append]
      exact ⟨_, rfl, by rw [hl, hs]; exact own_mono HO3.out (Nat.le_of_lt hz0), HW0.out.trans (HB3.out.mono (Nat.le_of_lt hz0))⟩
end Go.Proofs.Ytfhmaincnlaapaa
namespace Go.Proofs.Ytfhmaincnlaapaa
open Go.ChangeShapes Go.WideShapes Go.ChangeAt Go.RowKit
set_option linter.unusedVariables false

set_option maxRecDepth 20000 in
set_option maxHeartbeats 1000000 in
theorem refNames_any (w : World) (B : Nat) (v : Value) (S : Sch) (h : SchAt w B v S) (hB : B ≤ w.heap.size) (h0 : S.dims.length ≤ 100) (h1 : S.ints.length ≤ 100) (h2 : S.nums.length ≤ 100) :
    Calls Try.prog 43 #[v] w fun y w' => ∃ v', y = .returned v' ∧ w'.ownsRow w.heap.size 9 1 v' (namesL S).length (strs (namesL S)) ∧ Below w.heap.size w w' := by
  obtain ⟨A0, c0, A1, c1, A2, c2, A3, c3, rfl, r0, r1, r2, r3, _, _, _, _⟩ := h
  have hw0 := belA (belR w) (.cells #[.slice A0 S.dims.length c0, .slice A1 S.ints.length c1, .slice A2 S.nums.length c2, .slice A3 S.views.length c3] 26)
  have hblk := Blk.new w 26 #[.slice A0 S.dims.length c0, .slice A1 S.ints.length c1, .slice A2 S.nums.length c2, .slice A3 S.views.length c3]
  have R0 := Lib.hid (r0.below (hw0.mono hB)); have R1 := Lib.hid (r1.below (hw0.mono hB)); have R2 := Lib.hid (r2.below (hw0.mono hB)); have HW0 := Lib.hid hw0; have HBLK := Lib.hid hblk
  have hz0 : w.heap.size < (w.alloc (.cells #[.slice A0 S.dims.length c0, .slice A1 S.ints.length c1, .slice A2 S.nums.length c2, .slice A3 S.views.length c3] 26)).heap.size := by simp
  clear r0 r1 r2 r3 hw0 hblk
  go_enter Try.func43, Try.ntmps43
  go_wp2_with fail
  generalize w.alloc (.cells #[.slice A0 S.dims.length c0, .slice A1 S.ints.length c1, .slice A2 S.nums.length c2, .slice A3 S.views.length c3] 26) = W at *
  go_loopw [3, 4] (fun v3 v9 wx => AllRel W wx S v3 v9) (fun _ v9 _ => S.dims.length - (intOf v9).toNat)
  case atStart => exact ⟨0, by omega, rfl, World.ownsRow_nil W W.heap.size 9 1, belR W⟩
  case round =>
    obtain ⟨k, hk, rfl, ho, hb⟩ := hrel
    have HO := Lib.hid ho; have HB := Lib.hid hb; clear ho hb
    have hz := HB.out.size
    have k1 := HBLK.out.below HB.out hz0
    have z0 := k1.cell 0
    simp at z0
    by_cases hlt : k < S.dims.length
    · obtain ⟨a, rfl, hab, x0, x1⟩ := ((R0.out.more (show B ≤ W.heap.size by omega)).below HB.out).dim hlt
      have q1 : (0 : Int) ≤ (k : Int) := by omega
      have q2 : (k : Int) < (S.dims.length : Int) := by omega
      have hsn := dims_snoc S.dims k hlt
      generalize S.dims[k] = x at *
      obtain ⟨nm, sz⟩ := x
      simp only at x0 x1 hsn
      have HSN := Lib.hid hsn; clear hsn k1
      go_wp2_with (at_builtin; refine wpList_app1 wr (.string nm) rfl rfl (.tmp 12) (.tmp 19) 23 rfl W.heap.size 9 (.string ⟨#[]⟩) 16 info_str rfl Try.underlying23 _ k (strs ((S.dims.take k).map Prod.fst)) HO.out rfl rfl ?_ ?_ ?_ ?_; omega; omega; exact hz; intro v2 w2 ho2 hb2; have HO3 := Lib.hid ho2; have HB3 := Lib.hid (hb2.below (B := W.heap.size) hz HO.out); clear ho2 hb2)
      go_roundw
      case rel => exact ⟨k + 1, by omega, by go_num, by rw [HSN.out, ← strs_snoc]; exact HO3.out, HB.out.trans HB3.out⟩
      case measure => simp [intOf]; omega
    · obtain rfl : k = S.dims.length := by omega
      rw [List.take_length] at HO
      have hs1 : wr.drew.cell? ⟨w.heap.size, 1, none⟩ = some (.slice A1 S.ints.length c1) ∧ wr.drew.cell? ⟨w.heap.size, 2, none⟩ = some (.slice A2 S.nums.length c2) := ⟨k1.drew.cell 1, k1.drew.cell 2⟩
      have HR1 := Lib.hid ((R1.out.below (HB.out.mono (show B ≤ W.heap.size by omega))).drewN 1)
      have HS1 := Lib.hid hs1; clear hs1 k1
      have HOD : Hid (wr.drew.ownsRow W.heap.size 9 1 _ S.dims.length (strs (S.dims.map Prod.fst))) := Lib.hid HO.out
      have HBD : Hid (Below W.heap.size W wr.drew) := Lib.hid HB.out.drew
      have hzd : W.heap.size ≤ wr.drew.heap.size := hz
      go_upto_region 6 with (fail)
      go_region_held3 (fun W' => W'.cell? ⟨w.heap.size, 1, none⟩ = some (.slice A1 S.ints.length c1) ∧ W'.cell? ⟨w.heap.size, 2, none⟩ = some (.slice A2 S.nums.length c2)) (first | (with_reducible exact HS1.out) | (exact HS2.out) | (exact HS3.out))
        (first
         | (refine step_appSD (some 24) (by rfl) (by rfl) (.tmp 21) (.tmp 23) 23 (by rfl) W.heap.size 9 (.string ⟨#[]⟩) 1 16 info_str rfl (by decide) Try.underlying23 _ S.dims.length (strs (S.dims.map Prod.fst)) HOD.out _ A1 S.ints.length c1 (strs S.ints) HR1.out (by rfl) (by rfl) (strs_one _) (by omega) (by omega) hzd ?_; intro v2 w2 ho2 hap2; have HO2 := Lib.hid ho2; have HB2 := Lib.hid (HBD.out.trans (hap2.below hzd HOD.out)); have hz2 : W.heap.size ≤ w2.heap.size := HB2.out.size; have k2 := HBLK.out.below HB2.out hz0; have HS2 : Hid (w2.cell? ⟨w.heap.size, 1, none⟩ = some (.slice A1 S.ints.length c1) ∧ w2.cell? ⟨w.heap.size, 2, none⟩ = some (.slice A2 S.nums.length c2)) := Lib.hid ⟨k2.cell 1, k2.cell 2⟩; have HR3 := Lib.hid (R2.out.below (HB2.out.mono (show B ≤ W.heap.size by omega))); clear ho2 hap2 k2)
         | (refine step_appSD (some 27) (by rfl) (by rfl) (.tmp 24) (.tmp 26) 23 (by rfl) W.heap.size 9 (.string ⟨#[]⟩) 1 16 info_str rfl (by decide) Try.underlying23 _ (S.dims.length + S.ints.length) (strs (S.dims.map Prod.fst) ++ strs S.ints) HO2.out _ A2 S.nums.length c2 (strs S.nums) HR3.out (by rfl) (by rfl) (strs_one _) (by omega) (by omega) hz2 ?_; intro v3 w3 ho3 hap3; have HO3 := Lib.hid ho3; have HB3 := Lib.hid (HB2.out.trans (hap3.below hz2 HO2.out)); have k3 := HBLK.out.below HB3.out hz0; have HS3 : Hid (w3.cell? ⟨w.heap.size, 1, none⟩ = some (.slice A1 S.ints.length c1) ∧ w3.cell? ⟨w.heap.size, 2, none⟩ = some (.slice A2 S.nums.length c2)) := Lib.hid ⟨k3.cell 1, k3.cell 2⟩; clear ho3 hap3 k3))
      go_wp2
      go_ret
      have hl : (namesL S).length = S.dims.length + S.ints.length + S.nums.length := by unfold namesL; rw [List.length_append, List.length_append, List.length_map]
      have hs : strs (namesL S) = strs (S.dims.map Prod.fst) ++ strs S.ints ++ strs S.nums := by unfold namesL strs; rw [List.map_append, List.map_append]
      exact ⟨_, rfl, by rw [hl, hs]; exact own_mono HO3.out (Nat.le_of_lt hz0), HW0.out.trans (HB3.out.mono (Nat.le_of_lt hz0))⟩
end Go.Proofs.Ytfhmaincnlaapaa
namespace Go.Proofs.Ytfhmaincnlaapaa
open Go.ChangeShapes Go.WideShapes Go.ChangeAt Go.RowKit
set_option linter.unusedVariables false

/-- is a schema small? -/
def lightB (S : Sch) : Bool := decide (S.dims.length ≤ 100) && decide (S.ints.length ≤ 100) && decide (S.nums.length ≤ 100) && decide (S.views.length ≤ 100) && (namesL S).all fun x => decide (x.size ≤ 100)
theorem lightB_no (S : Sch) (h : ¬ (S.dims.length ≤ 100 ∧ S.ints.length ≤ 100 ∧ S.nums.length ≤ 100 ∧ S.views.length ≤ 100)) : lightB S = false := by
  cases hl : lightB S with
  | false => rfl
  | true =>
    unfold lightB at hl
    simp only [Bool.and_eq_true, decide_eq_true_iff] at hl
    exact absurd ⟨hl.1.1.1.1, hl.1.1.1.2, hl.1.1.2, hl.1.2⟩ h
set_option maxRecDepth 20000 in
set_option maxHeartbeats 1000000 in
theorem light_any (w : World) (B : Nat) (v : Value) (S : Sch) (h : SchAt w B v S) (hB : B ≤ w.heap.size) :
    Calls Try.prog 9 #[v] w fun y w' => y = .returned (.bool (lightB S)) ∧ Below w.heap.size w w' := by
  have hh := h
  obtain ⟨A0, c0, A1, c1, A2, c2, A3, c3, rfl, r0, r1, r2, r3, b0, b1, b2, b3⟩ := h
  have hw0 := belA (belR w) (.cells #[.slice A0 S.dims.length c0, .slice A1 S.ints.length c1, .slice A2 S.nums.length c2, .slice A3 S.views.length c3] 26)
  have hs0 : SchAt (w.alloc (.cells #[.slice A0 S.dims.length c0, .slice A1 S.ints.length c1, .slice A2 S.nums.length c2, .slice A3 S.views.length c3] 26)) B (.agg #[.slice A0 S.dims.length c0, .slice A1 S.ints.length c1, .slice A2 S.nums.length c2, .slice A3 S.views.length c3]) S :=
    ⟨A0, c0, A1, c1, A2, c2, A3, c3, rfl, r0.below (hw0.mono hB), r1.below (hw0.mono hB), r2.below (hw0.mono hB), r3.below (hw0.mono hB), b0, b1, b2, b3⟩
  clear r0 r1 r2 r3 hh b0 b1 b2 b3
  have HS := Lib.hid hs0; have HW0 := Lib.hid hw0; clear hs0 hw0
  have hno := lightB_no S
  by_cases h0 : S.dims.length ≤ 100
  · by_cases h1 : S.ints.length ≤ 100
    · by_cases h2 : S.nums.length ≤ 100
      · by_cases h3 : S.views.length ≤ 100
        · have hl : lightB S = (namesL S).all fun x => decide (x.size ≤ 100) := by unfold lightB; rw [decide_eq_true h0, decide_eq_true h1, decide_eq_true h2, decide_eq_true h3]; rfl
          have hnl : (namesL S).length ≤ 300 := by unfold namesL; rw [List.length_append, List.length_append, List.length_map]; omega
          have hn := refNames_any _ B _ S HS.out (Nat.le_trans hB (by simp)) h0 h1 h2
          have HL := Lib.hid hl; have HN := Lib.hid hn; clear hl hn hno
          generalize namesL S = L at *
          go_enter Try.func9, Try.ntmps9
          go_wp2_with (go_at_call 43; (with_reducible refine HN.out.mono ?_); rintro y w1 ⟨v1, rfl, ho1, hb1⟩; obtain ⟨A5, c5, rfl, _, _, _⟩ := own_form ho1; have HR1 := Lib.hid (Rd.own ho1); have HB1 := Lib.hid (belT HW0.out hb1); clear ho1 hb1)
          go_loop [4] (fun i => ∃ k : Nat, k ≤ L.length ∧ i = .int .i64 (k : Int) ∧ Hid (∀ j (hj : j < L.length), j < k → L[j].size ≤ 100)) (fun i => L.length - (intOf i).toNat)
          case atStart => exact ⟨0, by omega, rfl, fun j _ hj => by omega⟩
          case round =>
            obtain ⟨k, hk, rfl, HA⟩ := hrel
            by_cases hlt : k < L.length
            · obtain ⟨a, rfl, hab, x0⟩ := HR1.out.str hlt
              have q1 : (0 : Int) ≤ (k : Int) := by omega
              have q2 : (k : Int) < (L.length : Int) := by omega
              have hst := fun (h : L[k].size ≤ 100) => (show ∀ j (hj : j < L.length), j < k + 1 → L[j].size ≤ 100 from fun j hj hjk => by
                by_cases e : j = k
                · subst e; exact h
                · exact HA.out j hj (by omega))
              have hbad : ¬ L[k].size ≤ 100 → (L.all fun x => decide (x.size ≤ 100)) = false := fun h => by
                rw [List.all_eq_false]; exact ⟨_, List.getElem_mem hlt, by rw [decide_eq_false h]; decide⟩
              generalize L[k] = x at *
              have HST := Lib.hid hst; have HBAD := Lib.hid hbad; clear hst hbad
              by_cases hx : x.size ≤ 100
              · have hy := HST.out hx
                have HY := Lib.hid hy; clear hy
                go_wp2
                go_round
                case rel => exact ⟨k + 1, by omega, by go_num, HY⟩
                case measure => simp [intOf]; omega
              · have hn := HBAD.out hx
                have HNO := Lib.hid hn; clear hn
                go_wp2
                go_ret
                exact ⟨by rw [HL.out, HNO.out]; rfl, HB1.out⟩
            · have hy : (L.all fun x => decide (x.size ≤ 100)) = true := by
                rw [List.all_eq_true]
                intro x hx
                obtain ⟨j, hj, rfl⟩ := List.getElem_of_mem hx
                exact decide_eq_true (HA.out j hj (by omega))
              have HY := Lib.hid hy; clear hy
              go_wp2
              go_ret
              exact ⟨by rw [HL.out, HY.out]; rfl, HB1.out⟩
        · have HNO := Lib.hid (hno (fun h => h3 h.2.2.2)); clear hno
          go_enter Try.func9, Try.ntmps9
          go_wp2
          go_ret
          exact ⟨by rw [HNO.out]; rfl, HW0.out⟩
      · have HNO := Lib.hid (hno (fun h => h2 h.2.2.1)); clear hno
        go_enter Try.func9, Try.ntmps9
        go_wp2
        go_ret
        exact ⟨by rw [HNO.out]; rfl, HW0.out⟩
    · have HNO := Lib.hid (hno (fun h => h1 h.2.1)); clear hno
      go_enter Try.func9, Try.ntmps9
      go_wp2
      go_ret
      exact ⟨by rw [HNO.out]; rfl, HW0.out⟩
  · have HNO := Lib.hid (hno (fun h => h0 h.1)); clear hno
    go_enter Try.func9, Try.ntmps9
    go_wp2
    go_ret
    exact ⟨by rw [HNO.out]; rfl, HW0.out⟩
end Go.Proofs.Ytfhmaincnlaapaa
