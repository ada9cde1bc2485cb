/-
  exact.Read: what it answers.
  schema.Full, schema.Keys; nat.size, nat.Trim; flo.Less.
  exact.head.
  CELLS, without the program: their bytes; whether one is right.
  LEAVES, without the program: what two lists share.
  fact.Same, bushelref12.Same.
  fact.Same, bushelref12.Same (slices.Equal, slices.EqualFunc with flo.Same).
  fact.Check, fact.Batch, bushelref12.Batch.
  fact.fits, bushelref12.Fits.
  schema.Check.
  names.Twice: a map from each text to where it stands.
  Layer 11: which schema is right (plain).
  bushelref11: Two, In, Sub.
-/
import Derived.IntWalk
import Derived.Deep.RegionHeldLaw
import Derived.Deep.LoopGhost
import Derived.Deep.DeepCutAuto
import Derived.Deep.RegionHeld3
import Derived.Maps.OwnSet
import Derived.Maps.OwnOps
import Derived.StringKeys
import Derived.StillTailTactics
import Derived.Laws.BitsAllLaws
import Derived.Laws.OwnMore
import Derived.Test.YtfhmaincnlaapaaAoSy3
import Derived.Test.YtfhmaincnlaapaaAoWordMath
import Derived.Test.YtfhmaincnlaapaaAoRefRead
import Derived.Test.YtfhmaincnlaapaaAoBufOutKeep
namespace Go.Proofs.Ytfhmaincnlaapaa
open Go.ChangeShapes Go.WideShapes Go.ChangeAt Go.RowKit
set_option linter.unusedVariables false

/-- two to the n, kept shut -/
def p2 (n : Nat) : Nat := 2 ^ n
/-- is dimension i in a set? -/
def inB (m i : Nat) : Bool := decide (m / p2 i % 2 = 1)
end Go.Proofs.Ytfhmaincnlaapaa
namespace Go.Proofs.Ytfhmaincnlaapaa
open Go.ChangeShapes Go.WideShapes Go.ChangeAt Go.RowKit
set_option linter.unusedVariables false

/-- dimension k's size -/
def szAt (S : Sch) (k : Nat) : Int := (S.dims.getD k (⟨#[]⟩, 0)).2
def manyOk (S : Sch) : Prop := 1 ≤ S.dims.length ∧ S.dims.length ≤ 6 ∧ S.ints.length ≤ 3 ∧ S.nums.length ≤ 2 ∧ S.views.length ≤ 15
instance (S : Sch) : Decidable (manyOk S) := by unfold manyOk; infer_instance
end Go.Proofs.Ytfhmaincnlaapaa
namespace Go.Proofs.Ytfhmaincnlaapaa
open Go.ChangeShapes Go.WideShapes Go.ChangeAt Go.RowKit Go.Maps Go.WideMaps
set_option linter.unusedVariables false

theorem run_makeMap_h {P : Program} (t k e : TypeId) (kd : IntKind) (n : Int) (ht : P.underlying t = some (.map k e)) (w : World) :
    (Instr.makeMap t (some (.int kd n))).run P w = .ok (.map (some w.heap.size)) (w.alloc (.map #[] 0)) := by
  simp [Instr.makeMap, run_underlying ht]; rfl
theorem wf_of_i64 {z : Int} (h1 : -9223372036854775808 ≤ z) (h2 : z ≤ 9223372036854775807) : (Lit.int .i64 z).wf = true := by
  simp [Lit.wf, IntKind.min, IntKind.max, IntKind.signed, IntKind.bits]; omega
theorem law_str : Keyed Try.prog 9 := string_keyed Try.underlying9
theorem zero_i64 (w : World) : (zeroValue 3).run Try.prog w = .ok (.int .i64 0) w := by kernel_rfl
/-- the map's keys are the texts of a list -/
def MetIs (l : List ByteArray) (D : DataW Unit) : Prop := IsMap D ∧ ∀ s : ByteArray, has D (.string s.data.toList) = memB l s
theorem MetIs.nil : MetIs [] (.map []) := ⟨isMap_empty, fun s => rfl⟩
theorem MetIs.snoc {l : List ByteArray} {D : DataW Unit} (h : MetIs l D) (x : ByteArray) (d : DataW Unit) : MetIs (l ++ [x]) (D.put (.string x.data.toList) d) := by
  refine ⟨h.1.put _ _, fun s => ?_⟩
  have e : memB (l ++ [x]) s = (memB l s || (x.toList == s.toList)) := by unfold memB; rw [List.any_append]; simp
  rw [e]
  by_cases hs : s.data.toList = x.data.toList
  · rw [hs, has_put_same h.1 (by simp [WideAt.IsKeyLit]) d]
    have : (x.toList == s.toList) = true := by rw [ByteArray.toList_eq, ByteArray.toList_eq, hs]; simp
    rw [this, Bool.or_true]
  · rw [has_put_other (by intro e; injection e with e; exact hs e) d, h.2 s]
    have : (x.toList == s.toList) = false := by rw [ByteArray.toList_eq, ByteArray.toList_eq, beq_eq_false_iff_ne]; exact fun e => hs e.symm
    rw [this, Bool.or_false]
set_option maxRecDepth 20000 in
set_option maxHeartbeats 1000000 in
theorem twice_any (w : World) (A : Option Addr) (n c B : Nat) (l : List ByteArray) (h : Rd w B 1 A n (strs l)) (hB : B ≤ w.heap.size) (hn : n ≤ 1000000) (hl : ∀ x ∈ l, x.size ≤ maxLen) :
    Calls Try.prog 102 #[.slice A n c] w fun y w' => ∃ z, y = .returned (.int .i64 z) ∧ TwIs l z ∧ Below w.heap.size w w' := by
  obtain rfl : n = l.length := h.str_len
  have hmm := fun k W => @run_makeMap_h Try.prog 207 9 3 .i64 k Try.underlying207 W
  have H := Lib.hid h; have HL := Lib.hid hl; clear h hl
  go_enter Try.func102, Try.ntmps102
  go_wp2
  go_loopw [13] (fun i wr => ∃ k : Nat, k ≤ l.length ∧ i = .int .i64 (k : Int) ∧ Hid (dupTo l k = false) ∧ (∃ D : DataW Unit, wr.ownsMap Try.prog 9 (plainElem Try.prog 3) w.heap.size k D ∧ Hid (MetIs (l.take k) D)) ∧ Below w.heap.size w wr) (fun i _ => l.length - (intOf i).toNat)
  case atStart => exact ⟨0, by omega, rfl, rfl, ⟨.map [], World.ownsMap_made _ _ _ _, MetIs.nil⟩, belA (belR w) _⟩
  case round =>
    obtain ⟨k, hk, rfl, HA, ⟨D, hown, HM⟩, hb⟩ := hrel
    have hz := hb.size
    by_cases hlt : k < l.length
    · obtain ⟨a, rfl, hab, x0⟩ := (H.out.below (hb.mono hB)).str hlt
      have q1 : (0 : Int) ≤ (k : Int) := by omega
      have q2 : (k : Int) < (l.length : Int) := by omega
      have hst := dupTo_succ l k hlt
      rw [HA.out, Bool.false_or] at hst
      have hmo := dupTo_mono l k hlt
      have hsn : l.take (k + 1) = l.take k ++ [l[k]] := List.take_succ_eq_append_getElem hlt
      have hxs := HL.out l[k] (List.getElem_mem hlt)
      generalize l[k] = x at *
      have hkey : keyOf Try.prog 9 (.string x) = some (.string x.data.toList) := keyOf_string_mk Try.underlying9 hxs
      have hhas := HM.out.2 x
      have hwf : (Lit.int .i64 (k : Int)).wf = true := wf_of_i64 (by omega) (by omega)
      have HWF := Lib.hid hwf; clear hwf
      have HST := Lib.hid hst; have HMO := Lib.hid hmo; have HSN := Lib.hid hsn; have HK := Lib.hid hkey; have HX := Lib.hid hxs; have HO := Lib.hid hown; have HB := Lib.hid hb
      clear hst hmo hsn hkey hxs hown hb
      cases hm : memB (l.take k) x with
      | true =>
        rw [hm] at hhas
        have hy := HMO.out hm
        have HY := Lib.hid hy; have HH := Lib.hid hhas; clear hy hm hhas
        go_wp2_with (at_lookup; refine wpList_lookup_own_ok_int _ rfl _ _ 207 rfl 9 3 .i64 law_str Try.underlying207 Try.underlying3 (zero_i64 _) w.heap.size k D rfl HO.out _ _ rfl HK.out ?_; intro c0 hat hwc; rw [HH.out]; clear hat hwc)
        go_ret
        exact ⟨_, rfl, .inr ⟨q1, HY.out⟩, HB.out⟩
      | false =>
        rw [hm] at hhas HST
        have HH := Lib.hid hhas; clear hm hhas
        go_wp2_with (first
          | (at_lookup; refine wpList_lookup_own_ok_int _ rfl _ _ 207 rfl 9 3 .i64 law_str Try.underlying207 Try.underlying3 (zero_i64 _) w.heap.size k D rfl HO.out _ _ rfl HK.out ?_; intro c0 hat hwc; rw [HH.out]; clear hat hwc)
          | (at_mapUpdate; refine wpList_mapUpdate_own _ rfl _ _ _ 207 rfl 9 3 law_str Try.underlying207 _ w.heap.size k D rfl HO.out (by unfold maxLen; omega) _ _ _ rfl rfl HK.out _ [] (plainElem_int Try.underlying3 HWF.out) ?_; intro w1 hown1 hgrow1; have HO1 := Lib.hid hown1; have HG1 := Lib.hid hgrow1; clear hown1 hgrow1))
        go_roundw
        case rel => exact ⟨k + 1, by omega, by go_num, HST, ⟨_, HO1.out, by rw [HSN.out]; exact HM.out.snoc x _⟩, HB.out.grown HG1.out HB.out.size (fun j hj => by cases hj; exact Nat.le_refl _)⟩
        case measure => simp [intOf]; omega
    · obtain rfl : k = l.length := by omega
      have HA2 : Hid (dupB l = false) := HA
      have HB := Lib.hid hb; have HO := Lib.hid hown; clear hb hown
      go_wp2
      go_ret
      exact ⟨_, rfl, .inl ⟨rfl, HA2.out⟩, HB.out⟩
end Go.Proofs.Ytfhmaincnlaapaa
namespace Go.Proofs.Ytfhmaincnlaapaa
open Go.ChangeShapes Go.WideShapes Go.ChangeAt Go.RowKit
set_option linter.unusedVariables false

def namesTo (L : List ByteArray) (k : Nat) : Prop := ∀ j (hj : j < L.length), j < k → isB L[j] = true
theorem namesTo.snoc {L : List ByteArray} {k : Nat} (h : namesTo L k) (hk : k < L.length) (hx : isB L[k] = true) : namesTo L (k + 1) := fun j hj hjk => by
  by_cases e : j = k
  · subst e; exact hx
  · exact h j hj (by omega)
end Go.Proofs.Ytfhmaincnlaapaa
namespace Go.Proofs.Ytfhmaincnlaapaa
open Go.ChangeShapes Go.WideShapes Go.ChangeAt Go.RowKit
set_option linter.unusedVariables false

def FactAt (w : World) (B : Nat) (v : Value) (F : FactS) : Prop := ∃ v0 v1 v2, v = .agg #[v0, v1, v2] ∧ FactV w B F v0 v1 v2
theorem FactV.keep {w w' : World} {B B' : Nat} {F : FactS} {v0 v1 v2 : Value} (h : FactV w B F v0 v1 v2) (hb : Below B w w') (hB : B ≤ B') : FactV w' B' F v0 v1 v2 := by
  obtain ⟨A0, c0, A1, c1, A2, c2, e0, e1, e2, r0, r1, r2, b⟩ := h
  exact ⟨A0, c0, A1, c1, A2, c2, e0, e1, e2, (r0.below hb).more hB, (r1.below hb).more hB, (r2.below hb).more hB, b⟩
theorem SchAt.keep {w w' : World} {B B' : Nat} {v : Value} {S : Sch} (h : SchAt w B v S) (hb : Below B w w') (hB : B ≤ B') : SchAt w' B' v S := by
  obtain ⟨A0, c0, A1, c1, A2, c2, A3, c3, e, r0, r1, r2, r3, b⟩ := h
  exact ⟨A0, c0, A1, c1, A2, c2, A3, c3, e, (r0.below hb).more hB, (r1.below hb).more hB, (r2.below hb).more hB, (r3.below hb).more hB, b⟩
theorem FactAt.keep {w w' : World} {B : Nat} {v : Value} {F : FactS} (h : FactAt w B v F) (hb : Below B w w') : FactAt w' B v F := by
  obtain ⟨v0, v1, v2, e, hv⟩ := h
  exact ⟨v0, v1, v2, e, hv.keep hb (Nat.le_refl _)⟩
def codeAt (F : FactS) (k : Nat) : Int := F.codes.getD k 0
theorem Rd.i64 {w : World} {B : Nat} {A : Option Addr} {l : List Int} (h : Rd w B 1 A l.length (i64s l)) {k : Nat} (hk : k < l.length) : ∃ a, A = some a ∧ a.block < B ∧ w.cell? (a.add k) = some (.int .i64 (l.getD k 0)) := by
  obtain ⟨a, u, rfl, hb, hx, hc⟩ := h.at1 hk
  refine ⟨a, rfl, hb, ?_⟩
  rw [show (i64s l)[k]? = some (.int .i64 (l.getD k 0)) from by simp [i64s, List.getD, hk]] at hx
  rw [hc]; exact hx.symm
def codeOk (S : Sch) (F : FactS) (k : Nat) : Bool := decide (0 ≤ codeAt F k) && decide (codeAt F k < szAt S k)
def codesTo (S : Sch) (F : FactS) (k : Nat) : Bool := (List.range k).all (codeOk S F)
def lensOk (S : Sch) (F : FactS) : Prop := F.codes.length = S.dims.length ∧ F.ints.length = S.ints.length ∧ F.nums.length = S.nums.length
instance (S : Sch) (F : FactS) : Decidable (lensOk S F) := by unfold lensOk; infer_instance
/-- why a fact is none of a schema; 0: it is -/
def fitsN (S : Sch) (F : FactS) : Nat := if lensOk S F then (if codesTo S F F.codes.length = true then 0 else 2) else 3
end Go.Proofs.Ytfhmaincnlaapaa
namespace Go.Proofs.Ytfhmaincnlaapaa
open Go.ChangeShapes Go.WideShapes Go.ChangeAt Go.RowKit
set_option linter.unusedVariables false

def fitsAt (S : Sch) (l : List FactS) (k : Nat) : Nat := fitsN S (l.getD k ⟨[], [], []⟩)
theorem i64_ne0 {n : Nat} (h : n ≠ 0) : ((n : Int) != 0) = true := by rw [bne_iff_ne]; omega
def okTo (S : Sch) (l : List FactS) (k : Nat) : Prop := ∀ j, j < k → fitsAt S l j = 0
theorem okTo.snoc {S : Sch} {l : List FactS} {k : Nat} (h : okTo S l k) (hk : fitsAt S l k = 0) : okTo S l (k + 1) := fun j hj => by
  by_cases e : j = k
  · subst e; exact hk
  · exact h j (by omega)
end Go.Proofs.Ytfhmaincnlaapaa
namespace Go.Proofs.Ytfhmaincnlaapaa
open Go.ChangeShapes Go.WideShapes Go.ChangeAt Go.RowKit
set_option linter.unusedVariables false

def eqTo {α : Type} (z : α) (l m : List α) (k : Nat) : Prop := ∀ j, j < k → l.getD j z = m.getD j z
theorem eqTo.snoc {α : Type} {z : α} {l m : List α} {k : Nat} (h : eqTo z l m k) (hk : l.getD k z = m.getD k z) : eqTo z l m (k + 1) := fun j hj => by
  by_cases e : j = k
  · subst e; exact hk
  · exact h j (by omega)
theorem eqTo.all {α : Type} {z : α} {l m : List α} (hl : l.length = m.length) (h : eqTo z l m l.length) : l = m := by
  apply List.ext_getElem hl
  intro j h1 h2
  have := h j h1
  simpa [List.getD, h1, h2] using this
theorem Rd.f64 {w : World} {B : Nat} {A : Option Addr} {l : List Nat} (h : Rd w B 1 A l.length (f64s l)) {k : Nat} (hk : k < l.length) : ∃ a, A = some a ∧ a.block < B ∧ w.cell? (a.add k) = some (.float .f64 (l.getD k 0)) := by
  obtain ⟨a, u, rfl, hb, hx, hc⟩ := h.at1 hk
  refine ⟨a, rfl, hb, ?_⟩
  rw [show (f64s l)[k]? = some (.float .f64 (l.getD k 0)) from by simp [f64s, List.getD, hk]] at hx
  rw [hc]; exact hx.symm
end Go.Proofs.Ytfhmaincnlaapaa
namespace Go.Proofs.Ytfhmaincnlaapaa
open Go.ChangeShapes Go.WideShapes Go.ChangeAt Go.RowKit
set_option linter.unusedVariables false

end Go.Proofs.Ytfhmaincnlaapaa
namespace Go.Proofs.Ytfhmaincnlaapaa
open Go.ChangeShapes Go.WideShapes Go.ChangeAt Go.RowKit
set_option linter.unusedVariables false

def pk (kd : Int) (b : Nat) (st : Pst) (l : List (List UInt8 × Bool)) : Pst := l.foldl (fun st x => pput kd b st x.1 x.2) st
end Go.Proofs.Ytfhmaincnlaapaa
namespace Go.Proofs.Ytfhmaincnlaapaa
open Go.ChangeShapes Go.WideShapes Go.ChangeAt Go.RowKit
set_option linter.unusedVariables false

/-- a cell is small enough -/
def lightW (x : WholeS) : Bool := decide (x.sq.length ≤ 20)
def lightR (x : RealS) : Bool := decide (x.sum.length ≤ 300)
def lightC (C : CellS) : Bool := decide (C.ints.length ≤ 10) && decide (C.nums.length ≤ 10) && C.ints.all lightW && C.nums.all lightR
/-- what the first bytes of a sum tell -/
def hd (b : List UInt8) (i : Nat) : Nat := (b.getD i 0).toNat
def headE (b : List UInt8) : Nat :=
  if 0 < b.length ∧ (63 < hd b 0 ∨ (hd b 0 / 32 % 2 = 1 ∧ hd b 0 / 16 % 2 = 0)) then 6
  else if 1 < b.length ∧ (69 < hd b 1 ∨ (0 < hd b 1 ∧ hd b 0 / 16 % 2 = 0)) then 6
  else if 2 < b.length ∧ (70 < hd b 1 + hd b 2 ∨ (0 < hd b 2 ∧ hd b 0 / 16 % 2 = 0) ∨ (hd b 2 = 0 ∧ (0 < hd b 1 ∨ hd b 0 / 32 % 2 = 1))) then 6
  else 0
/-- word i of a sum's bytes -/
def wordB (b : List UInt8) (i : Nat) : Nat := bv ((b.drop (3 + 4 * i)).take 4)
/-- the words from number i on, n in all -/
def wordsE (b : List UInt8) (n : Nat) : Nat → Nat
  | 0 => if 3 + 4 * n < b.length then 7 else 0
  | k + 1 => if b.length < 3 + 4 * (n - (k + 1)) + 4 then 5 else if (n - (k + 1) = 0 ∨ k = 0) ∧ wordB b (n - (k + 1)) = 0 then 6 else wordsE b n k
def readE (b : List UInt8) : Nat := if headE b ≠ 0 then headE b else if b.length < 3 then 5 else wordsE b (hd b 2) (hd b 2)
theorem and32 : ∀ x : Fin 256, x.val &&& 32 = x.val / 32 % 2 * 32 := by decide +kernel
theorem and16 : ∀ x : Fin 256, x.val &&& 16 = x.val / 16 % 2 * 16 := by decide +kernel
theorem not32 : ∀ x : Fin 256, x.val &&& (255 - 32) = x.val - x.val / 32 % 2 * 32 := by decide +kernel
theorem or_byte32 (X b : Nat) (hb : b < 256) : X * 256 ||| b = X * 256 + b := by
  have := Nat.shiftLeft_add_eq_or_of_lt (show b < 2 ^ 8 from hb) X
  rw [Nat.shiftLeft_eq] at this
  exact this.symm
def magP (g : Nat → Nat) (m i : Nat) : List Nat := List.replicate (m - i) 0 ++ ((List.range i).map g).reverse
theorem magP_len (g : Nat → Nat) (m i : Nat) (h : i ≤ m) : (magP g m i).length = m := by unfold magP; simp; omega
theorem magP_succ (g : Nat → Nat) (m i : Nat) (h : i < m) : (magP g m i).set (m - 1 - i) (g i) = magP g m (i + 1) := by
  unfold magP
  obtain ⟨k, hk⟩ : ∃ k, m - i = k + 1 := ⟨m - i - 1, by omega⟩
  have h1 : m - 1 - i = k := by omega
  have h2 : m - (i + 1) = k := by omega
  rw [hk, h1, h2, List.range_succ, List.map_append, List.reverse_append]
  rw [List.replicate_succ', List.append_assoc, List.set_append_right _ _ (by simp)]
  simp
theorem magP_get (g : Nat → Nat) (m i p : Nat) (h : i < m) : ((magP g m i).set (m - 1 - i) p)[m - 1 - i]? = some p := by
  rw [List.getElem?_set_self (by rw [magP_len g m i (by omega)]; omega)]
theorem magP_cur (g : Nat → Nat) (m i : Nat) (h : i < m) : (magP g m i)[m - 1 - i]? = some 0 := by
  unfold magP
  rw [List.getElem?_append_left (by simp; omega), List.getElem?_replicate, if_pos (by omega)]
theorem magP_at (g : Nat → Nat) (m i j : Nat) (h : j < i) (hi : i ≤ m) : (magP g m i)[m - 1 - j]? = some (g j) := by
  unfold magP
  rw [List.getElem?_append_right (by simp; omega)]
  rw [List.length_replicate, show m - 1 - j - (m - i) = i - 1 - j from by omega, List.getElem?_reverse (by simp; omega)]
  simp only [List.length_map, List.length_range]
  rw [show i - 1 - (i - 1 - j) = j from by omega]
  simp [h]
theorem all_take_succ {α : Type} (p : α → Bool) (l : List α) (k : Nat) (h : k < l.length) : (l.take (k + 1)).all p = ((l.take k).all p && p l[k]) := by
  rw [List.take_succ_eq_append_getElem h, List.all_append]; simp
theorem all_no {α : Type} (p : α → Bool) (l : List α) (k : Nat) (h : k < l.length) (hp : p l[k] = false) : l.all p = false := by
  rw [List.all_eq_false]; exact ⟨l[k], List.getElem_mem h, by simp [hp]⟩
theorem headE_ok {b : List UInt8} (h0 : headE b = 0) (h3 : 3 ≤ b.length) : hd b 1 + hd b 2 ≤ 70 ∧ hd b 0 ≤ 63 ∧ (hd b 2 = 0 → hd b 1 = 0) := by
  unfold headE at h0
  (repeat' split at h0) <;> first | (cases h0; done) | (refine ⟨?_, ?_, ?_⟩ <;> omega)
theorem readE_head {b : List UInt8} (h : headE b ≠ 0) : readE b = headE b := if_pos h
theorem readE_short {b : List UInt8} (h : headE b = 0) (h3 : ¬ 3 ≤ b.length) : readE b = 5 := by unfold readE; rw [if_neg (by omega), if_pos (by omega)]
theorem readE_words {b : List UInt8} (h : headE b = 0) (h3 : 3 ≤ b.length) : readE b = wordsE b (hd b 2) (hd b 2) := by unfold readE; rw [if_neg (by omega), if_neg (by omega)]
end Go.Proofs.Ytfhmaincnlaapaa
namespace Go.Proofs.Ytfhmaincnlaapaa
open Go.ChangeShapes Go.WideShapes Go.ChangeAt Go.RowKit
set_option linter.unusedVariables false

def headN (n x0 x1 x2 : Nat) : Nat :=
  if 0 < n ∧ (63 < x0 ∨ (x0 / 32 % 2 = 1 ∧ x0 / 16 % 2 = 0)) then 6
  else if 1 < n ∧ (69 < x1 ∨ (0 < x1 ∧ x0 / 16 % 2 = 0)) then 6
  else if 2 < n ∧ (70 < x1 + x2 ∨ (0 < x2 ∧ x0 / 16 % 2 = 0) ∨ (x2 = 0 ∧ (0 < x1 ∨ x0 / 32 % 2 = 1))) then 6
  else 0
theorem headE_eq (b : List UInt8) : headE b = headN b.length (hd b 0) (hd b 1) (hd b 2) := rfl
theorem hd_get (b : List UInt8) (i : Nat) (h : i < b.length) : hd b i = (b[i]).toNat := by
  unfold hd; rw [List.getD_eq_getElem?_getD, List.getElem?_eq_getElem h]; rfl
set_option maxRecDepth 20000 in
theorem head_nil (w : World) (A : Option Addr) (c : Nat) : Calls Try.prog 153 #[.slice A 0 c] w fun y w' => y = .returned (.int .i64 0) ∧ Drw w w' := by
  go_enter Try.func153, Try.ntmps153
  go_wp2
  go_quiet (fail)
  go_wp2
  go_ret
  exact ⟨rfl, ⟨_, rfl⟩⟩
set_option maxRecDepth 20000 in
set_option maxHeartbeats 8000000 in
theorem head_some (w : World) (a : Addr) (n c x0 x1 x2 : Nat) (h1 : 1 ≤ n) (hx0 : x0 < 256) (hx1 : x1 < 256) (hx2 : x2 < 256) (k0 : w.cell? a = some (.int .u8 (x0 : Int)))
    (k1 : 2 ≤ n → w.cell? (a.add 1) = some (.int .u8 (x1 : Int)) ∧ w.cell? ⟨a.block, a.off + 1, none⟩ = some (.int .u8 (x1 : Int)))
    (k2 : 3 ≤ n → w.cell? (a.add 2) = some (.int .u8 (x2 : Int)) ∧ w.cell? ⟨a.block, a.off + 2, none⟩ = some (.int .u8 (x2 : Int))) :
    Calls Try.prog 153 #[.slice (some a) n c] w fun y w' => y = .returned (.int .i64 (headN n x0 x1 x2 : Int)) ∧ Drw w w' := by
  have a32 : bits .and .u8 (x0 : Int) 32 = ((x0 / 32 % 2 * 32 : Nat) : Int) := by
    have := u8_and_nat x0 32 hx0 (by decide)
    rw [show x0 &&& 32 = x0 / 32 % 2 * 32 from and32 ⟨x0, hx0⟩] at this
    exact this
  have a16 : bits .and .u8 (x0 : Int) 16 = ((x0 / 16 % 2 * 16 : Nat) : Int) := by
    have := u8_and_nat x0 16 hx0 (by decide)
    rw [show x0 &&& 16 = x0 / 16 % 2 * 16 from and16 ⟨x0, hx0⟩] at this
    exact this
  have p0 : x0 / 32 % 2 = 0 ∨ x0 / 32 % 2 = 1 := by omega
  have q0 : x0 / 16 % 2 = 0 ∨ x0 / 16 % 2 = 1 := by omega
  have g0 : decide ((0 : Int) < (n : Int)) = true := decide_eq_true (by omega)
  by_cases c0 : 63 < x0
  · have t0 : decide ((63 : Int) < (x0 : Int)) = true := decide_eq_true (by omega)
    have e : headN n x0 x1 x2 = 6 := by unfold headN; (repeat' split) <;> omega
    rw [e]
    clear e
    go_enter Try.func153, Try.ntmps153
    go_wp2
    go_ret
    exact ⟨rfl, Drw.refl _⟩
  have t0 : decide ((63 : Int) < (x0 : Int)) = false := decide_eq_false (by omega)
  rcases p0 with hp | hp
  · rcases q0 with hq | hq
    · have b32 : bits .and .u8 (x0 : Int) 32 = 0 := by rw [a32, hp]; rfl
      have b16 : bits .and .u8 (x0 : Int) 16 = 0 := by rw [a16, hq]; rfl
      clear a32 a16
      by_cases n2 : 2 ≤ n
      case neg =>
        obtain rfl : n = 1 := by omega
        have e : headN 1 x0 x1 x2 = 0 := by unfold headN; (repeat' split) <;> omega
        rw [e]
        clear e
        go_enter Try.func153, Try.ntmps153
        go_wp2
        go_quiet (fail)
        go_wp2
        go_ret
        exact ⟨rfl, ⟨_, rfl⟩⟩
      obtain ⟨k1a, k1b⟩ := k1 n2
      have g1 : decide ((1 : Int) < (n : Int)) = true := decide_eq_true (by omega)
      by_cases c1 : 69 < x1
      · have t1 : decide ((69 : Int) < (x1 : Int)) = true := decide_eq_true (by omega)
        have e : headN n x0 x1 x2 = 6 := by unfold headN; (repeat' split) <;> omega
        rw [e]
        clear e
        go_enter Try.func153, Try.ntmps153
        go_wp2
        go_ret
        exact ⟨rfl, Drw.refl _⟩
      have t1 : decide ((69 : Int) < (x1 : Int)) = false := decide_eq_false (by omega)
      have d1 : x1 = 0 ∨ 0 < x1 := by omega
      rcases d1 with rfl | d1
      · simp only [show ((0 : Nat) : Int) = 0 from rfl] at *
        by_cases n3 : 3 ≤ n
        case neg =>
          obtain rfl : n = 2 := by omega
          have e : headN 2 x0 0 x2 = 0 := by unfold headN; (repeat' split) <;> omega
          rw [e]
          clear e
          go_enter Try.func153, Try.ntmps153
          go_wp2
          go_quiet (fail)
          go_wp2
          go_ret
          exact ⟨rfl, ⟨_, rfl⟩⟩
        obtain ⟨k2a, k2b⟩ := k2 n3
        have g2 : decide ((2 : Int) < (n : Int)) = true := decide_eq_true (by omega)
        by_cases c2 : 70 < x2
        · have t2 : decide ((70 : Int) < (x2 : Int)) = true := decide_eq_true (by omega)
          have e : headN n x0 0 x2 = 6 := by unfold headN; (repeat' split) <;> omega
          rw [e]
          clear e
          go_enter Try.func153, Try.ntmps153
          go_wp2
          go_quiet (fail)
          go_wp2
          go_ret
          exact ⟨rfl, ⟨_, rfl⟩⟩
        have t2 : decide ((70 : Int) < (x2 : Int)) = false := decide_eq_false (by omega)
        have d2 : x2 = 0 ∨ 0 < x2 := by omega
        rcases d2 with rfl | d2
        · simp only [show ((0 : Nat) : Int) = 0 from rfl] at *
          have e : headN n x0 0 0 = 0 := by unfold headN; (repeat' split) <;> omega
          rw [e]
          clear e
          go_enter Try.func153, Try.ntmps153
          go_wp2
          go_quiet (fail)
          go_wp2
          go_ret
          exact ⟨rfl, ⟨_, rfl⟩⟩
        · have s2 : decide ((0 : Int) < (x2 : Int)) = true := decide_eq_true (by omega)
          have s3 : ((x2 : Int) == 0) = false := by rw [beq_eq_false_iff_ne]; omega
          have e : headN n x0 0 x2 = 6 := by unfold headN; (repeat' split) <;> omega
          rw [e]
          clear e
          go_enter Try.func153, Try.ntmps153
          go_wp2
          go_quiet (fail)
          go_wp2
          go_ret
          exact ⟨rfl, ⟨_, rfl⟩⟩
      · have s1 : decide ((0 : Int) < (x1 : Int)) = true := decide_eq_true (by omega)
        have e : headN n x0 x1 x2 = 6 := by unfold headN; (repeat' split) <;> omega
        rw [e]
        clear e
        go_enter Try.func153, Try.ntmps153
        go_wp2
        go_ret
        exact ⟨rfl, Drw.refl _⟩
    · have b32 : bits .and .u8 (x0 : Int) 32 = 0 := by rw [a32, hp]; rfl
      have b16 : bits .and .u8 (x0 : Int) 16 = 16 := by rw [a16, hq]; rfl
      clear a32 a16
      by_cases n2 : 2 ≤ n
      case neg =>
        obtain rfl : n = 1 := by omega
        have e : headN 1 x0 x1 x2 = 0 := by unfold headN; (repeat' split) <;> omega
        rw [e]
        clear e
        go_enter Try.func153, Try.ntmps153
        go_wp2
        go_quiet (fail)
        go_wp2
        go_ret
        exact ⟨rfl, ⟨_, rfl⟩⟩
      obtain ⟨k1a, k1b⟩ := k1 n2
      have g1 : decide ((1 : Int) < (n : Int)) = true := decide_eq_true (by omega)
      by_cases c1 : 69 < x1
      · have t1 : decide ((69 : Int) < (x1 : Int)) = true := decide_eq_true (by omega)
        have e : headN n x0 x1 x2 = 6 := by unfold headN; (repeat' split) <;> omega
        rw [e]
        clear e
        go_enter Try.func153, Try.ntmps153
        go_wp2
        go_ret
        exact ⟨rfl, Drw.refl _⟩
      have t1 : decide ((69 : Int) < (x1 : Int)) = false := decide_eq_false (by omega)
      have d1 : x1 = 0 ∨ 0 < x1 := by omega
      rcases d1 with rfl | d1
      · simp only [show ((0 : Nat) : Int) = 0 from rfl] at *
        by_cases n3 : 3 ≤ n
        case neg =>
          obtain rfl : n = 2 := by omega
          have e : headN 2 x0 0 x2 = 0 := by unfold headN; (repeat' split) <;> omega
          rw [e]
          clear e
          go_enter Try.func153, Try.ntmps153
          go_wp2
          go_quiet (fail)
          go_wp2
          go_ret
          exact ⟨rfl, ⟨_, rfl⟩⟩
        obtain ⟨k2a, k2b⟩ := k2 n3
        have g2 : decide ((2 : Int) < (n : Int)) = true := decide_eq_true (by omega)
        by_cases c2 : 70 < x2
        · have t2 : decide ((70 : Int) < (x2 : Int)) = true := decide_eq_true (by omega)
          have e : headN n x0 0 x2 = 6 := by unfold headN; (repeat' split) <;> omega
          rw [e]
          clear e
          go_enter Try.func153, Try.ntmps153
          go_wp2
          go_quiet (fail)
          go_wp2
          go_ret
          exact ⟨rfl, ⟨_, rfl⟩⟩
        have t2 : decide ((70 : Int) < (x2 : Int)) = false := decide_eq_false (by omega)
        have d2 : x2 = 0 ∨ 0 < x2 := by omega
        rcases d2 with rfl | d2
        · simp only [show ((0 : Nat) : Int) = 0 from rfl] at *
          have e : headN n x0 0 0 = 0 := by unfold headN; (repeat' split) <;> omega
          rw [e]
          clear e
          go_enter Try.func153, Try.ntmps153
          go_wp2
          go_quiet (fail)
          go_wp2
          go_ret
          exact ⟨rfl, ⟨_, rfl⟩⟩
        · have s2 : decide ((0 : Int) < (x2 : Int)) = true := decide_eq_true (by omega)
          have s3 : ((x2 : Int) == 0) = false := by rw [beq_eq_false_iff_ne]; omega
          have e : headN n x0 0 x2 = 0 := by unfold headN; (repeat' split) <;> omega
          rw [e]
          clear e
          go_enter Try.func153, Try.ntmps153
          go_wp2
          go_quiet (fail)
          go_wp2
          go_ret
          exact ⟨rfl, ⟨_, rfl⟩⟩
      · have s1 : decide ((0 : Int) < (x1 : Int)) = true := decide_eq_true (by omega)
        by_cases n3 : 3 ≤ n
        case neg =>
          obtain rfl : n = 2 := by omega
          have e : headN 2 x0 x1 x2 = 0 := by unfold headN; (repeat' split) <;> omega
          rw [e]
          clear e
          go_enter Try.func153, Try.ntmps153
          go_wp2
          go_quiet (fail)
          go_wp2
          go_ret
          exact ⟨rfl, ⟨_, rfl⟩⟩
        obtain ⟨k2a, k2b⟩ := k2 n3
        have g2 : decide ((2 : Int) < (n : Int)) = true := decide_eq_true (by omega)
        by_cases c2 : 70 < x1 + x2
        · have t2 : decide ((70 : Int) < (x1 : Int) + (x2 : Int)) = true := decide_eq_true (by omega)
          have e : headN n x0 x1 x2 = 6 := by unfold headN; (repeat' split) <;> omega
          rw [e]
          clear e
          go_enter Try.func153, Try.ntmps153
          go_wp2
          go_quiet (fail)
          go_wp2
          go_ret
          exact ⟨rfl, ⟨_, rfl⟩⟩
        have t2 : decide ((70 : Int) < (x1 : Int) + (x2 : Int)) = false := decide_eq_false (by omega)
        have d2 : x2 = 0 ∨ 0 < x2 := by omega
        rcases d2 with rfl | d2
        · simp only [show ((0 : Nat) : Int) = 0 from rfl] at *
          have t3 : decide ((70 : Int) < (x1 : Int)) = false := decide_eq_false (by omega)
          have e : headN n x0 x1 0 = 6 := by unfold headN; (repeat' split) <;> omega
          rw [e]
          clear e
          go_enter Try.func153, Try.ntmps153
          go_wp2
          go_quiet (fail)
          go_wp2
          go_ret
          exact ⟨rfl, ⟨_, rfl⟩⟩
        · have s2 : decide ((0 : Int) < (x2 : Int)) = true := decide_eq_true (by omega)
          have s3 : ((x2 : Int) == 0) = false := by rw [beq_eq_false_iff_ne]; omega
          have e : headN n x0 x1 x2 = 0 := by unfold headN; (repeat' split) <;> omega
          rw [e]
          clear e
          go_enter Try.func153, Try.ntmps153
          go_wp2
          go_quiet (fail)
          go_wp2
          go_ret
          exact ⟨rfl, ⟨_, rfl⟩⟩
  · rcases q0 with hq | hq
    · have b32 : bits .and .u8 (x0 : Int) 32 = 32 := by rw [a32, hp]; rfl
      have b16 : bits .and .u8 (x0 : Int) 16 = 0 := by rw [a16, hq]; rfl
      clear a32 a16
      have e : headN n x0 x1 x2 = 6 := by unfold headN; (repeat' split) <;> omega
      rw [e]
      clear e
      go_enter Try.func153, Try.ntmps153
      go_wp2
      go_ret
      exact ⟨rfl, Drw.refl _⟩
    · have b32 : bits .and .u8 (x0 : Int) 32 = 32 := by rw [a32, hp]; rfl
      have b16 : bits .and .u8 (x0 : Int) 16 = 16 := by rw [a16, hq]; rfl
      clear a32 a16
      by_cases n2 : 2 ≤ n
      case neg =>
        obtain rfl : n = 1 := by omega
        have e : headN 1 x0 x1 x2 = 0 := by unfold headN; (repeat' split) <;> omega
        rw [e]
        clear e
        go_enter Try.func153, Try.ntmps153
        go_wp2
        go_quiet (fail)
        go_wp2
        go_ret
        exact ⟨rfl, ⟨_, rfl⟩⟩
      obtain ⟨k1a, k1b⟩ := k1 n2
      have g1 : decide ((1 : Int) < (n : Int)) = true := decide_eq_true (by omega)
      by_cases c1 : 69 < x1
      · have t1 : decide ((69 : Int) < (x1 : Int)) = true := decide_eq_true (by omega)
        have e : headN n x0 x1 x2 = 6 := by unfold headN; (repeat' split) <;> omega
        rw [e]
        clear e
        go_enter Try.func153, Try.ntmps153
        go_wp2
        go_ret
        exact ⟨rfl, Drw.refl _⟩
      have t1 : decide ((69 : Int) < (x1 : Int)) = false := decide_eq_false (by omega)
      have d1 : x1 = 0 ∨ 0 < x1 := by omega
      rcases d1 with rfl | d1
      · simp only [show ((0 : Nat) : Int) = 0 from rfl] at *
        by_cases n3 : 3 ≤ n
        case neg =>
          obtain rfl : n = 2 := by omega
          have e : headN 2 x0 0 x2 = 0 := by unfold headN; (repeat' split) <;> omega
          rw [e]
          clear e
          go_enter Try.func153, Try.ntmps153
          go_wp2
          go_quiet (fail)
          go_wp2
          go_ret
          exact ⟨rfl, ⟨_, rfl⟩⟩
        obtain ⟨k2a, k2b⟩ := k2 n3
        have g2 : decide ((2 : Int) < (n : Int)) = true := decide_eq_true (by omega)
        by_cases c2 : 70 < x2
        · have t2 : decide ((70 : Int) < (x2 : Int)) = true := decide_eq_true (by omega)
          have e : headN n x0 0 x2 = 6 := by unfold headN; (repeat' split) <;> omega
          rw [e]
          clear e
          go_enter Try.func153, Try.ntmps153
          go_wp2
          go_quiet (fail)
          go_wp2
          go_ret
          exact ⟨rfl, ⟨_, rfl⟩⟩
        have t2 : decide ((70 : Int) < (x2 : Int)) = false := decide_eq_false (by omega)
        have d2 : x2 = 0 ∨ 0 < x2 := by omega
        rcases d2 with rfl | d2
        · simp only [show ((0 : Nat) : Int) = 0 from rfl] at *
          have e : headN n x0 0 0 = 6 := by unfold headN; (repeat' split) <;> omega
          rw [e]
          clear e
          go_enter Try.func153, Try.ntmps153
          go_wp2
          go_quiet (fail)
          go_wp2
          go_ret
          exact ⟨rfl, ⟨_, rfl⟩⟩
        · have s2 : decide ((0 : Int) < (x2 : Int)) = true := decide_eq_true (by omega)
          have s3 : ((x2 : Int) == 0) = false := by rw [beq_eq_false_iff_ne]; omega
          have e : headN n x0 0 x2 = 0 := by unfold headN; (repeat' split) <;> omega
          rw [e]
          clear e
          go_enter Try.func153, Try.ntmps153
          go_wp2
          go_quiet (fail)
          go_wp2
          go_ret
          exact ⟨rfl, ⟨_, rfl⟩⟩
      · have s1 : decide ((0 : Int) < (x1 : Int)) = true := decide_eq_true (by omega)
        by_cases n3 : 3 ≤ n
        case neg =>
          obtain rfl : n = 2 := by omega
          have e : headN 2 x0 x1 x2 = 0 := by unfold headN; (repeat' split) <;> omega
          rw [e]
          clear e
          go_enter Try.func153, Try.ntmps153
          go_wp2
          go_quiet (fail)
          go_wp2
          go_ret
          exact ⟨rfl, ⟨_, rfl⟩⟩
        obtain ⟨k2a, k2b⟩ := k2 n3
        have g2 : decide ((2 : Int) < (n : Int)) = true := decide_eq_true (by omega)
        by_cases c2 : 70 < x1 + x2
        · have t2 : decide ((70 : Int) < (x1 : Int) + (x2 : Int)) = true := decide_eq_true (by omega)
          have e : headN n x0 x1 x2 = 6 := by unfold headN; (repeat' split) <;> omega
          rw [e]
          clear e
          go_enter Try.func153, Try.ntmps153
          go_wp2
          go_quiet (fail)
          go_wp2
          go_ret
          exact ⟨rfl, ⟨_, rfl⟩⟩
        have t2 : decide ((70 : Int) < (x1 : Int) + (x2 : Int)) = false := decide_eq_false (by omega)
        have d2 : x2 = 0 ∨ 0 < x2 := by omega
        rcases d2 with rfl | d2
        · simp only [show ((0 : Nat) : Int) = 0 from rfl] at *
          have t3 : decide ((70 : Int) < (x1 : Int)) = false := decide_eq_false (by omega)
          have e : headN n x0 x1 0 = 6 := by unfold headN; (repeat' split) <;> omega
          rw [e]
          clear e
          go_enter Try.func153, Try.ntmps153
          go_wp2
          go_quiet (fail)
          go_wp2
          go_ret
          exact ⟨rfl, ⟨_, rfl⟩⟩
        · have s2 : decide ((0 : Int) < (x2 : Int)) = true := decide_eq_true (by omega)
          have s3 : ((x2 : Int) == 0) = false := by rw [beq_eq_false_iff_ne]; omega
          have e : headN n x0 x1 x2 = 0 := by unfold headN; (repeat' split) <;> omega
          rw [e]
          clear e
          go_enter Try.func153, Try.ntmps153
          go_wp2
          go_quiet (fail)
          go_wp2
          go_ret
          exact ⟨rfl, ⟨_, rfl⟩⟩
theorem head_any (w : World) (B : Nat) (A : Option Addr) (c : Nat) (b : List UInt8) (hR : Rd w B 1 A b.length (u8s b)) :
    Calls Try.prog 153 #[.slice A b.length c] w fun y w' => y = .returned (.int .i64 (headE b : Int)) ∧ Drw w w' := by
  rw [headE_eq]
  cases b with
  | nil => exact head_nil w A c
  | cons x t =>
    obtain ⟨a, rfl, hab, k0⟩ := hR.byte (k := 0) (by simp)
    rw [add_zero'] at k0
    have hl : ∀ i, hd (x :: t) i < 256 := fun i => UInt8.toNat_lt _
    have hc : ∀ i (h : i < (x :: t).length), w.cell? (a.add i) = some (.int .u8 ((hd (x :: t) i : Nat) : Int)) := fun i h => by
      obtain ⟨a', e, _, hx⟩ := hR.byte h
      injection e with e; subst e
      rw [hd_get _ _ h]; exact hx
    exact head_some w a _ c _ _ _ (by simp) (hl 0) (hl 1) (hl 2) (by have := hc 0 (by simp); rwa [add_zero'] at this)
      (fun h => ⟨hc 1 (by omega), by have := hc 1 (by omega); rw [show (1 : Nat) = 0 + 1 from rfl, add_succ] at this; exact this⟩)
      (fun h => ⟨hc 2 (by omega), by have := hc 2 (by omega); rw [show (2 : Nat) = 1 + 1 from rfl, add_succ] at this; exact this⟩)
end Go.Proofs.Ytfhmaincnlaapaa
namespace Go.Proofs.Ytfhmaincnlaapaa
open Go.ChangeShapes Go.WideShapes Go.ChangeAt Go.RowKit
set_option linter.unusedVariables false

theorem Rd.u32n {w : World} {B : Nat} {A : Option Addr} {l : List Nat} (h : Rd w B 1 A l.length (u32n l)) {k : Nat} (hk : k < l.length) : ∃ a, A = some a ∧ a.block < B ∧ w.cell? (a.add k) = some (.int .u32 ((l.getD k 0 : Nat) : Int)) := by
  obtain ⟨a, u, e, hb, hx, hc⟩ := h.at1 hk
  refine ⟨a, e, hb, ?_⟩
  rw [hc]
  simp [hk] at hx
  simp [List.getD, hk, ← hx]
theorem tsz_take (l : List Nat) (m : Nat) (h : m < l.length) : tsz (l.take (m + 1)) = if l.getD m 0 = 0 then tsz (l.take m) else m + 1 := by
  rw [List.take_succ_eq_append_getElem h, tsz_last, List.length_take, Nat.min_eq_left (by omega)]
  simp [List.getD, h]
theorem info_u32 : (Try.prog.info? 33).map (fun i => (i.zero, i.size, i.bytes)) = some (some (.int .u32 0), 1, 4) := by kernel_rfl
theorem less_flo (a b : Nat) (w : World) (ha : a < 18446744073709551616) (hb : b < 18446744073709551616) : Calls Try.prog 97 #[.float .f64 a, .float .f64 b] w fun y w' => y = .returned (.bool (decide (keyB a < keyB b))) ∧ w = w' := by
  have HA := Lib.hid (fun W => key_any a W ha); have HB := Lib.hid (fun W => key_any b W hb)
  go_enter Try.func97, Try.ntmps97
  go_wp2_with fail
  (with_reducible refine (HA.out _).mono ?_); rintro y w1 ⟨rfl, rfl⟩
  go_wp2_with fail
  (with_reducible refine (HB.out _).mono ?_); rintro y w1 ⟨rfl, rfl⟩
  go_wp2
  go_ret
  first
  | exact ⟨rfl, rfl⟩
  | (refine ⟨?_, rfl⟩; congr 2; rw [Bool.eq_iff_iff]; simp)
end Go.Proofs.Ytfhmaincnlaapaa
namespace Go.Proofs.Ytfhmaincnlaapaa
open Go.ChangeShapes Go.WideShapes Go.ChangeAt Go.RowKit
set_option linter.unusedVariables false

theorem made_u32 (n : Nat) : madeCells #[.int .u32 0] n = (u32n (List.replicate n 0)).toArray := by
  apply Array.ext'
  rw [toList_madeCells_one]
  simp [u32n]
theorem u32n_set (L : List Nat) (j x : Nat) : (u32n L).toArray.setIfInBounds j (.int .u32 (x : Int)) = (u32n (L.set j x)).toArray := by
  simp [u32n, List.map_set]
theorem words_end (b : List UInt8) (n : Nat) : wordsE b n 0 = if 3 + 4 * n < b.length then 7 else 0 := rfl
theorem words_step (b : List UInt8) (n i : Nat) (h : i < n) : wordsE b n (n - i) = if b.length < 3 + 4 * i + 4 then 5 else if (i = 0 ∨ i + 1 = n) ∧ wordB b i = 0 then 6 else wordsE b n (n - (i + 1)) := by
  obtain ⟨k, rfl⟩ : ∃ k, n = i + 1 + k := ⟨n - (i + 1), by omega⟩
  have e1 : i + 1 + k - i = k + 1 := by omega
  have e2 : i + 1 + k - (i + 1) = k := by omega
  rw [e1, e2]
  show (if b.length < 3 + 4 * (i + 1 + k - (k + 1)) + 4 then 5 else if (i + 1 + k - (k + 1) = 0 ∨ k = 0) ∧ wordB b (i + 1 + k - (k + 1)) = 0 then 6 else wordsE b (i + 1 + k) k) = _
  have e3 : i + 1 + k - (k + 1) = i := by omega
  have e4 : (k = 0) ↔ (i + 1 = i + 1 + k) := by omega
  rw [e3]
  simp only [e4]
/-- the first j bytes of word i -/
def partB (b : List UInt8) (i j : Nat) : Nat := bv ((b.drop (3 + 4 * i)).take j)
theorem partB_zero (b : List UInt8) (i : Nat) : partB b i 0 = 0 := rfl
theorem partB_four (b : List UInt8) (i : Nat) : partB b i 4 = wordB b i := rfl
theorem partB_succ (b : List UInt8) (i j : Nat) (h : 3 + 4 * i + j < b.length) : partB b i (j + 1) = partB b i j * 256 + hd b (3 + 4 * i + j) := by
  unfold partB
  rw [bv_take _ _ (by rw [List.length_drop]; omega)]
  congr 1
  rw [List.getElem_drop, hd_get b _ h]
theorem partB_lt (b : List UInt8) (i j : Nat) (h : j ≤ 4) : partB b i j < 256 ^ j := by
  unfold partB
  have h1 := bv_lt ((b.drop (3 + 4 * i)).take j)
  exact Nat.lt_of_lt_of_le h1 (Nat.pow_le_pow_right (by decide) (by rw [List.length_take]; omega))
theorem wordB_lt (b : List UInt8) (i : Nat) : wordB b i < 4294967296 := partB_lt b i 4 (Nat.le_refl _)
theorem or_next (x y : Nat) (hx : x < 16777216) (hy : y < 256) : bits .or .u32 (IntKind.u32.wrap ((x : Int) * 256)) (y : Int) = ((x * 256 + y : Nat) : Int) := by
  have e : IntKind.u32.wrap ((x : Int) * 256) = ((x * 256 : Nat) : Int) := by rw [IntKind.wrap_u32]; omega
  rw [e, u32_or_nat _ _ (by omega) (by omega), or_byte32 x y hy]
/-- the words that were read, and j bytes of the next -/
def midP (b : List UInt8) (m i j : Nat) : List Nat := (magP (wordB b) m i).set (m - 1 - i) (partB b i j)
theorem midP_zero (b : List UInt8) (m i : Nat) (h : i < m) : midP b m i 0 = magP (wordB b) m i := by
  unfold midP
  rw [partB_zero]
  have := magP_cur (wordB b) m i h
  apply List.ext_getElem?
  intro k
  rw [List.getElem?_set]
  split
  · rename_i e; subst e
    have := (List.getElem?_eq_some_iff.1 this).1
    rw [if_pos this, magP_cur _ _ _ h]
  · rfl
theorem midP_four (b : List UInt8) (m i : Nat) (h : i < m) : midP b m i 4 = magP (wordB b) m (i + 1) := by
  unfold midP; rw [partB_four]; exact magP_succ _ _ _ h
theorem midP_set (b : List UInt8) (m i j x : Nat) : (midP b m i j).set (m - 1 - i) x = (magP (wordB b) m i).set (m - 1 - i) x := by unfold midP; rw [List.set_set]
theorem midP_next (b : List UInt8) (m i j : Nat) : (midP b m i j).set (m - 1 - i) (partB b i (j + 1)) = midP b m i (j + 1) := by rw [midP_set]; rfl
theorem midP_at (b : List UInt8) (m i j : Nat) (h : i < m) : (midP b m i j)[m - 1 - i]? = some (partB b i j) := magP_get _ _ _ _ h
/-- the row of words in memory -/
def MagW (w wr : World) (g : Nat) (L : List Nat) : Prop := Blk wr g 33 (u32n L).toArray ∧ Below w.heap.size w wr
theorem MagW.put {w wr : World} {g : Nat} {L : List Nat} (h : MagW w wr g L) (hg : w.heap.size ≤ g) (j x : Nat) : MagW w (wr.setCell ⟨g, j, none⟩ (.int .u32 (x : Int))) g (L.set j x) := by
  obtain ⟨h3, h4⟩ := h
  refine ⟨?_, h4.setCell hg _⟩
  have := h3.set_ j (.int .u32 (x : Int))
  rw [u32n_set] at this
  exact this
theorem MagW.at {w wr : World} {g : Nat} {L : List Nat} (h : MagW w wr g L) {j x : Nat} (hj : L[j]? = some x) : wr.cell? ⟨g, j, none⟩ = some (.int .u32 (x : Int)) := by
  rw [h.1.cell]
  simp [u32n, hj]

theorem MagW.drew {w wr : World} {g : Nat} {L : List Nat} (h : MagW w wr g L) : MagW w wr.drew g L := ⟨h.1.drew, h.2.drew⟩
/-- the sum that stands at p -/
def SumAt (w : World) (base : Nat) (p : Value) (b : List UInt8) : Prop :=
  ∃ g gm : Nat, p = .pointer (some ⟨g, 0, none⟩) ∧ base ≤ g ∧ base ≤ gm ∧ g ≠ gm ∧
    Blk w g 196 #[.bool true, .int .u8 ((hd b 0 - hd b 0 / 32 % 2 * 32 : Nat) : Int), .bool (decide (hd b 0 / 32 % 2 = 1)), .slice (some ⟨gm, 0, none⟩) (hd b 1 + hd b 2) (hd b 1 + hd b 2)] ∧
    Blk w gm 33 (u32n (magP (wordB b) (hd b 1 + hd b 2) (hd b 2))).toArray
set_option maxRecDepth 20000 in
set_option maxHeartbeats 16000000 in
theorem read_any (w : World) (B : Nat) (A : Option Addr) (c : Nat) (b : List UInt8) (hR : Rd w B 1 A b.length (u8s b)) (hB : B ≤ w.heap.size) (hl : b.length ≤ 9223372036854775807) :
    Calls Try.prog 96 #[.slice A b.length c] w fun y w' => ∃ p : Value, y = .returned (.tuple #[p, .int .i64 (readE b : Int)]) ∧ (readE b = 0 → SumAt w' w.heap.size p b) ∧ Below w.heap.size w w' := by
  have hh := head_any w B A c b hR
  by_cases h0 : headE b = 0
  case neg =>
    have er := readE_head h0
    rw [er]
    have t0 := i64_ne0 h0
    have HH := Lib.hid hh; have H0 := Lib.hid h0
    clear h0 hh er
    generalize headE b = e at *
    go_enter Try.func96, Try.ntmps96
    go_wp2_with (go_at_call 153; (with_reducible refine HH.out.mono ?_); rintro y w1 ⟨rfl, hd1⟩)
    go_ret2
    exact ⟨_, rfl, fun h => absurd h H0.out, hd1.below (belR w)⟩
  rw [h0] at hh
  have HH := Lib.hid hh; have HH0 := Lib.hid h0
  clear hh h0
  by_cases h3 : 3 ≤ b.length
  case neg =>
    have er := readE_short HH0.out h3
    rw [er]
    have t1 : decide ((b.length : Int) < 3) = true := decide_eq_true (by omega)
    clear er
    go_enter Try.func96, Try.ntmps96
    go_wp2_with (go_at_call 153; (with_reducible refine HH.out.mono ?_); rintro y w1 ⟨rfl, hd1⟩)
    go_ret2
    exact ⟨_, rfl, fun h => absurd h (by decide), hd1.below (belR w)⟩
  have t1 : decide ((b.length : Int) < 3) = false := decide_eq_false (by omega)
  have er := readE_words HH0.out h3
  obtain ⟨o1, o2, o3⟩ := headE_ok HH0.out h3
  have HR := Lib.hid hR
  obtain ⟨a, rfl, hab, k0⟩ := hR.byte (k := 0) (by omega)
  have hc : ∀ W, Below w.heap.size w W → ∀ i (h : i < b.length), W.cell? (a.add i) = some (.int .u8 ((hd b i : Nat) : Int)) := fun W hb i h => by
    obtain ⟨a', e, _, hx⟩ := (HR.out.below (hb.mono hB)).byte h
    injection e with e; subst e
    rw [hd_get _ _ h]; exact hx
  clear k0
  have hlt : ∀ i, hd b i < 256 := fun i => UInt8.toNat_lt _
  have HC := Lib.hid hc; have HLT := Lib.hid hlt
  have x0 := hlt 0; have x1 := hlt 1; have x2 := hlt 2
  have HWS : Hid (∀ i, i < hd b 2 → wordsE b (hd b 2) (hd b 2 - i) = if b.length < 3 + 4 * i + 4 then 5 else if (i = 0 ∨ i + 1 = hd b 2) ∧ wordB b i = 0 then 6 else wordsE b (hd b 2) (hd b 2 - (i + 1))) := Lib.hid fun i hi => words_step b (hd b 2) i hi
  have HWE := Lib.hid (words_end b (hd b 2))
  have d1 := hc w (belR w) 1 (by omega)
  have d2 := hc w (belR w) 2 (by omega)
  have d1b := d1; have d2b := d2
  rw [show (1 : Nat) = 0 + 1 from rfl, add_succ] at d1b
  rw [show (2 : Nat) = 1 + 1 from rfl, add_succ] at d2b
  simp only [show (0 : Nat) + 1 = 1 from rfl, show (1 : Nat) + 1 = 2 from rfl] at d1b d2b
  have q1 : (1 : Int) < (b.length : Int) := by omega
  have q2 : (2 : Int) < (b.length : Int) := by omega
  unfold SumAt
  generalize hy1 : hd b 1 = y1 at *
  generalize hy2 : hd b 2 = n at *
  generalize hm : y1 + n = m at *
  have wadd : IntKind.i64.wrap ((y1 : Int) + (n : Int)) = (m : Int) := by rw [IntWalk.i64_in _ (by omega)]; omega
  have wy1 : IntKind.i64.wrap (y1 : Int) = (y1 : Int) := IntWalk.i64_in _ (by omega)
  have wn : IntKind.i64.wrap (n : Int) = (n : Int) := IntWalk.i64_in _ (by omega)
  have hmk := fun w => run_make_row' (P := Try.prog) 24 33 (.int .u32 0) 4 Try.underlying24 info_u32 rfl .i64 .i64 m (by omega) (by omega) w
  have HER := Lib.hid er; have HHY := Lib.hid (And.intro hy1 hy2)
  clear hc hlt hR er hy1 hy2
  go_enter Try.func96, Try.ntmps96
  go_wp2_with (go_at_call 153; (with_reducible refine HH.out.mono ?_); rintro y w1 ⟨rfl, j1, rfl⟩)
  go_quiet (fail)
  go_wp2
  clear d1 d2 d1b d2b
  have hM0 : ∀ q, MagW w ((w.drewN q).alloc (.cells (madeCells #[.int .u32 0] m) 33)) w.heap.size (magP (wordB b) m 0) := fun q => by
    refine ⟨?_, (belA (belD (belR w) q) _)⟩
    have e : (u32n (magP (wordB b) m 0)).toArray = madeCells #[.int .u32 0] m := by rw [made_u32]; simp [magP]
    rw [e]
    exact Blk.new (w.drewN q) _ _
  have HM0 := Lib.hid hM0
  clear hM0 hmk
  go_loopw [32] (fun i wr => ∃ k : Nat, k ≤ n ∧ i = .int .i64 (k : Int) ∧ Hid (MagW w wr w.heap.size (magP (wordB b) m k)) ∧ Hid (wordsE b n (n - k) = readE b)) (fun i _ => n - (intOf i).toNat)
  case atStart => exact ⟨0, by omega, rfl, HM0.out _, by rw [Nat.sub_zero]; exact HER.out.symm⟩
  case round =>
    obtain ⟨i, hi, rfl, HM, HE⟩ := hrel
    by_cases hlt : i < n
    · have hws := HWS.out i hlt
      rw [HE.out] at hws
      have q3 : (i : Int) < (n : Int) := by omega
      obtain ⟨m1, hm1⟩ : ∃ m1, m1 + 1 = m := ⟨m - 1, by omega⟩
      obtain ⟨p, hp⟩ : ∃ p, p + i = m1 := ⟨m1 - i, by omega⟩
      obtain ⟨n1, hn1⟩ : ∃ n1, n1 + 1 = n := ⟨n - 1, by omega⟩
      obtain ⟨i4, hi4⟩ : ∃ i4, 4 * i = i4 := ⟨_, rfl⟩
      obtain ⟨i43, hi43⟩ : ∃ i43, 3 + i4 = i43 := ⟨_, rfl⟩
      have w51 : IntKind.i64.wrap ((m : Int) - 1) = (m1 : Int) := by rw [IntWalk.i64_in _ (by omega)]; omega
      have w53 : IntKind.i64.wrap ((m1 : Int) - (i : Int)) = (p : Int) := by rw [IntWalk.i64_in _ (by omega)]; omega
      have w39 : IntKind.i64.wrap (4 * (i : Int)) = (i4 : Int) := by rw [IntWalk.i64_in _ (by omega)]; omega
      have w40 : IntKind.i64.wrap (3 + (i4 : Int)) = (i43 : Int) := by rw [IntWalk.i64_in _ (by omega)]; omega
      have w87 : IntKind.i64.wrap ((n : Int) - 1) = (n1 : Int) := by rw [IntWalk.i64_in _ (by omega)]; omega
      have hpi : m - 1 - i = p := by omega
      have c1 : (0 : Int) ≤ (p : Int) := by omega
      have c2 : (p : Int) < (m : Int) := by omega
      have hM1 : MagW w wr w.heap.size (midP b m i 0) := by rw [midP_zero b m i (by omega)]; exact HM.out
      have HM1 := Lib.hid hM1; have HWS1 := Lib.hid hws
      clear hM1 hws HM HM0
      go_wp2
      go_loopw [35] (fun kv ws => ∃ k : Nat, k ≤ 4 ∧ kv = .int .i64 (k : Int) ∧ Hid (MagW w ws w.heap.size (midP b m i k)) ∧ (k = 0 ∨ 3 + 4 * i + k ≤ b.length)) (fun kv _ => 4 - (intOf kv).toNat)
      case atStart => exact ⟨0, by omega, rfl, HM1.out, .inl rfl⟩
      case round =>
        obtain ⟨k, hk, rfl, HM, hkl⟩ := hrel
        obtain ⟨at', hat⟩ : ∃ at', i43 + k = at' := ⟨_, rfl⟩
        have w42 : IntKind.i64.wrap ((i43 : Int) + (k : Int)) = (at' : Int) := by rw [IntWalk.i64_in _ (by omega)]; omega
        by_cases hk4 : k < 4
        · have g1 : decide ((k : Int) < 4) = true := decide_eq_true (by omega)
          by_cases hal : at' < b.length
          · have g2 : decide ((b.length : Int) ≤ (at' : Int)) = false := decide_eq_false (by omega)
            have c3 : (0 : Int) ≤ (at' : Int) := by omega
            have c4 : (at' : Int) < (b.length : Int) := by omega
            have y0 := HM.out.at (midP_at b m i k (by omega))
            rw [hpi] at y0
            have z0 := HC.out wr HM.out.2 at' hal
            have hpx := partB_lt b i k (by omega)
            have hpy := HLT.out at'
            have hps := partB_succ b i k (by omega)
            rw [show 3 + 4 * i + k = at' from by omega] at hps
            have hpz : partB b i k < 16777216 := Nat.lt_of_lt_of_le hpx (by have := Nat.pow_le_pow_right (show 0 < 256 by decide) (show k ≤ 3 by omega); simpa using this)
            have hor := or_next (partB b i k) (hd b at') hpz hpy
            rw [← hps] at hor
            have wy : IntKind.u32.wrap ((hd b at' : Nat) : Int) = ((hd b at' : Nat) : Int) := by rw [IntKind.wrap_u32]; omega
            have hfz := HM.out.drew.1.frozen p
            have hcz : wr.drew.cell? ⟨w.heap.size, p, none⟩ = some (.int .u32 (partB b i k : Int)) := y0
            have HMN : Hid (MagW w (wr.drew.setCell ⟨w.heap.size, p, none⟩ (.int .u32 (partB b i (k + 1) : Int))) w.heap.size (midP b m i (k + 1))) := Lib.hid (by
              have := HM.out.drew.put (by omega) p (partB b i (k + 1))
              rw [← hpi, midP_next, hpi] at this
              exact this)
            clear hpx hps hpz hpy
            generalize partB b i (k + 1) = pz at *
            generalize partB b i k = px at *
            generalize hd b at' = py at *
            go_upto_region 17 with (fail)
            go_still_tail 24, (by kernel_rfl)
            go_wp2
            go_roundw
            case rel => exact ⟨k + 1, by omega, by go_num, HMN.out, .inr (by omega)⟩
            case measure => simp [intOf]; omega
          · have g2 : decide ((b.length : Int) ≤ (at' : Int)) = true := decide_eq_true (by omega)
            have hws := HWS1.out
            rw [if_pos (by omega)] at hws
            have HB5 := Lib.hid HM.out.2
            have HW5 := Lib.hid hws
            clear hws HM
            go_wp2
            go_ret2
            exact ⟨_, by rw [HW5.out]; rfl, fun h => absurd (HW5.out.symm.trans h) (by decide), HB5.out⟩
        · obtain rfl : k = 4 := by omega
          have hk5 : 3 + 4 * i + 4 ≤ b.length := by omega
          have hws := HWS1.out
          rw [if_neg (by omega)] at hws
          rw [midP_four b m i (by omega)] at HM
          have z0 := HM.out.at (magP_at (wordB b) m (i + 1) i (by omega) (by omega))
          rw [hpi] at z0
          have HMF := HM
          have hwl := wordB_lt b i
          have g1 : decide (((4 : Nat) : Int) < 4) = false := by decide
          have HB5 := Lib.hid HM.out.2
          by_cases hi0 : i = 0
          · have g3 : ((i : Int) == 0) = true := by rw [beq_iff_eq]; omega
            obtain rfl : p = m1 := by omega
            by_cases hw0 : wordB b i = 0
            · have g4 : ((wordB b i : Int) == 0) = true := by rw [beq_iff_eq]; omega
              rw [if_pos ⟨.inl hi0, hw0⟩] at hws
              have HW5 := Lib.hid hws
              clear hws HM hw0 HMF
              generalize wordB b i = wd at *
              go_wp2
              go_ret2
              exact ⟨_, by rw [HW5.out]; rfl, fun h => absurd (HW5.out.symm.trans h) (by decide), HB5.out⟩
            · have g4 : ((wordB b i : Int) == 0) = false := by rw [beq_eq_false_iff_ne]; omega
              rw [if_neg fun hh => hw0 hh.2] at hws
              have HW5 := Lib.hid hws
              by_cases hin : i = n1
              · have g5 : ((i : Int) == (n1 : Int)) = true := by rw [beq_iff_eq]; omega
                have hyp : y1 = p := by omega
                have c5 : (0 : Int) ≤ (y1 : Int) := by omega
                have c6 : (y1 : Int) < (m : Int) := by omega
                have z1 := z0
                rw [← hyp] at z1
                clear hws HM hw0 hyp hi0 hin
                generalize wordB b i = wd at *
                go_wp2
                go_roundw
                case rel => exact ⟨i + 1, by omega, by go_num, HMF.out, HW5.out.symm⟩
                case measure => simp [intOf]; omega
              · have g5 : ((i : Int) == (n1 : Int)) = false := by rw [beq_eq_false_iff_ne]; omega
                clear hws HM hw0
                generalize wordB b i = wd at *
                go_wp2
                go_roundw
                case rel => exact ⟨i + 1, by omega, by go_num, HMF.out, HW5.out.symm⟩
                case measure => simp [intOf]; omega
          · have g3 : ((i : Int) == 0) = false := by rw [beq_eq_false_iff_ne]; omega
            by_cases hin : i = n1
            · have g5 : ((i : Int) == (n1 : Int)) = true := by rw [beq_iff_eq]; omega
              have hyp : y1 = p := by omega
              have c5 : (0 : Int) ≤ (y1 : Int) := by omega
              have c6 : (y1 : Int) < (m : Int) := by omega
              rw [← hyp] at z0
              clear hyp
              by_cases hw0 : wordB b i = 0
              · have g4 : ((wordB b i : Int) == 0) = true := by rw [beq_iff_eq]; omega
                rw [if_pos ⟨.inr (by omega), hw0⟩] at hws
                have HW5 := Lib.hid hws
                clear hws HM hw0 HMF
                generalize wordB b i = wd at *
                go_wp2
                go_ret2
                exact ⟨_, by rw [HW5.out]; rfl, fun h => absurd (HW5.out.symm.trans h) (by decide), HB5.out⟩
              · have g4 : ((wordB b i : Int) == 0) = false := by rw [beq_eq_false_iff_ne]; omega
                rw [if_neg fun hh => hw0 hh.2] at hws
                have HW5 := Lib.hid hws
                clear hws HM hw0
                generalize wordB b i = wd at *
                go_wp2
                go_roundw
                case rel => exact ⟨i + 1, by omega, by go_num, HMF.out, HW5.out.symm⟩
                case measure => simp [intOf]; omega
            · have g5 : ((i : Int) == (n1 : Int)) = false := by rw [beq_eq_false_iff_ne]; omega
              rw [if_neg fun hh => by omega] at hws
              have HW5 := Lib.hid hws
              clear hws HM
              generalize wordB b i = wd at *
              go_wp2
              go_roundw
              case rel => exact ⟨i + 1, by omega, by go_num, HMF.out, HW5.out.symm⟩
              case measure => simp [intOf]; omega
    · obtain rfl : i = n := by omega
      have he := HE.out
      rw [Nat.sub_self, HWE.out] at he
      obtain ⟨n4, hn4⟩ : ∃ n4, 4 * i = n4 := ⟨_, rfl⟩
      obtain ⟨n43, hn43⟩ : ∃ n43, 3 + n4 = n43 := ⟨_, rfl⟩
      have w101 : IntKind.i64.wrap (4 * (i : Int)) = (n4 : Int) := by rw [IntWalk.i64_in _ (by omega)]; omega
      have w102 : IntKind.i64.wrap (3 + (n4 : Int)) = (n43 : Int) := by rw [IntWalk.i64_in _ (by omega)]; omega
      by_cases hmo : 3 + 4 * i < b.length
      · have g1 : decide ((n43 : Int) < (b.length : Int)) = true := decide_eq_true (by omega)
        rw [if_pos hmo] at he
        have HW5 := Lib.hid he; have HB5 := Lib.hid HM.out.2
        clear he HM HM0 HE
        go_wp2
        go_ret2
        exact ⟨_, by rw [← HW5.out]; rfl, fun h => absurd (HW5.out.trans h) (by decide), HB5.out⟩
      · have g1 : decide ((n43 : Int) < (b.length : Int)) = false := decide_eq_false (by omega)
        rw [if_neg hmo] at he
        have HW5 := Lib.hid he
        have z0 := HC.out wr HM.out.2 0 (by omega)
        rw [add_zero'] at z0
        have hn32 : bits .andNot .u8 ((hd b 0 : Nat) : Int) 32 = ((hd b 0 - hd b 0 / 32 % 2 * 32 : Nat) : Int) := by
          have := u8_andNot_nat (hd b 0) 32 x0 (by decide)
          rw [show hd b 0 &&& (255 - 32) = hd b 0 - hd b 0 / 32 % 2 * 32 from not32 ⟨hd b 0, x0⟩] at this
          exact this
        have c3 : (0 : Int) < (b.length : Int) := by omega
        have p0 : hd b 0 / 32 % 2 = 0 ∨ hd b 0 / 32 % 2 = 1 := by omega
        have a32 : bits .and .u8 ((hd b 0 : Nat) : Int) 32 = ((hd b 0 / 32 % 2 * 32 : Nat) : Int) := by
          have := u8_and_nat (hd b 0) 32 x0 (by decide)
          rw [show hd b 0 &&& 32 = hd b 0 / 32 % 2 * 32 from and32 ⟨hd b 0, x0⟩] at this
          exact this
        obtain ⟨ct, hct⟩ : ∃ ct, hd b 0 - hd b 0 / 32 % 2 * 32 = ct := ⟨_, rfl⟩
        rw [hct] at hn32
        have HCT := Lib.hid hct
        clear he HM0 HE hct
        rcases p0 with hp | hp
        · rw [hp] at a32
          have a32' : bits .and .u8 ((hd b 0 : Nat) : Int) 32 = 0 := a32
          have HP := Lib.hid hp
          clear a32 hp
          go_upto_region 24 with (fail)
          go_region_with (fail)
          all_goals go_wp2
          all_goals go_ret2
          all_goals exact ⟨_, by rw [← HW5.out]; rfl, fun _ => ⟨_, w.heap.size, rfl, HM.out.2.size, Nat.le_refl _, (by have := HM.out.1.lt; omega), by rw [HCT.out, HP.out]; exact (Blk.new _ _ _).drew, (HM.out.1.alloc _).drew⟩, (belA HM.out.2 _).drew⟩
        · rw [hp] at a32
          have a32' : bits .and .u8 ((hd b 0 : Nat) : Int) 32 = 32 := a32
          have HP := Lib.hid hp
          clear a32 hp
          go_upto_region 24 with (fail)
          go_region_with (fail)
          all_goals go_wp2
          all_goals go_ret2
          all_goals exact ⟨_, by rw [← HW5.out]; rfl, fun _ => ⟨_, w.heap.size, rfl, HM.out.2.size, Nat.le_refl _, (by have := HM.out.1.lt; omega), by rw [HCT.out, HP.out]; exact (Blk.new _ _ _).drew, (HM.out.1.alloc _).drew⟩, (belA HM.out.2 _).drew⟩
end Go.Proofs.Ytfhmaincnlaapaa
