/-
  space.Pages.
  HOW MANY PAGES A TREE HAS, without the program.
-/
import Derived.Deep.DeepCutAuto
import Derived.Laws.OwnMore
import Derived.Deep.CutBlock
import Derived.Test.YtfhmaincnlaapaaSpLeavesW
import Derived.Test.YtfhmaincnlaapaaSpRefCells
namespace Go.Proofs.Ytfhmaincnlaapaa
open Go.ChangeShapes Go.WideShapes Go.ChangeAt Go.RowKit
set_option linter.unusedVariables false

/-- the first keys of the first i sheets -/
def fpre (ks : List Nat) (L : List Sht) (i : Nat) : List Nat := (List.range i).map fun j => ks.getD (sumA (L.take j)) 0
def firsts (ks : List Nat) (L : List Sht) : List Nat := fpre ks L L.length
theorem fpre_len (ks : List Nat) (L : List Sht) (i : Nat) : (fpre ks L i).length = i := by simp [fpre]
theorem fpre_succ (ks : List Nat) (L : List Sht) (i : Nat) : fpre ks L (i + 1) = fpre ks L i ++ [ks.getD (sumA (L.take i)) 0] := by simp [fpre, List.range_succ]
theorem firsts_len (ks : List Nat) (L : List Sht) : (firsts ks L).length = L.length := fpre_len _ _ _
theorem firsts_get (ks : List Nat) (L : List Sht) (i : Nat) (h : i < L.length) : (firsts ks L).getD i 0 = ks.getD (sumA (L.take i)) 0 := by
  simp [firsts, fpre, List.getD, h]
def entsOf (fs : List Nat) : List (Nat × Int) := fs.map fun f => (f, 8192)
theorem entsOf_len (fs : List Nat) : (entsOf fs).length = fs.length := by simp [entsOf]
theorem entsOf_get (fs : List Nat) (i : Nat) (h : i < (entsOf fs).length) : (entsOf fs)[i] = (fs.getD i 0, 8192) := by
  have h' : i < fs.length := by rw [entsOf_len] at h; exact h
  simp [entsOf, List.getD, h']
/-- keys that rise -/
def StrictL (fs : List Nat) : Prop := ∀ j, j + 1 < fs.length → fs.getD j 0 < fs.getD (j + 1) 0
theorem StrictL.lt {fs : List Nat} (h : StrictL fs) {i j : Nat} (hij : i < j) (hj : j < fs.length) : fs.getD i 0 < fs.getD j 0 := by
  induction j with
  | zero => omega
  | succ j ih =>
    by_cases e : i = j
    · subst e; exact h i hj
    · exact Nat.lt_trans (ih (by omega) (by omega)) (h j hj)
theorem rise_ents {fs : List Nat} (h : StrictL fs) : riseB (entsOf fs) = true := by
  rw [riseB_iff]
  intro k hk
  cases k with
  | zero => rw [okAt_zero _ hk, entsOf_get]; rfl
  | succ k =>
    rw [okAt_succ _ _ hk, entsOf_get, entsOf_get]
    have hk' : k + 1 < fs.length := by rw [entsOf_len] at hk; exact hk
    have h9 := h k hk'
    simp only [List.getD_eq_getElem?_getD] at h9 ⊢
    simp [h9]
/-- what leaves and nodes are of a list of things: how many they hold together -/
structure Cover (L : List Sht) (n : Nat) : Prop where
  sum : sumA L = n
  pos : ∀ s ∈ L, 1 ≤ s.a
theorem sumA_take_le (L : List Sht) (i : Nat) : sumA (L.take i) ≤ sumA L := by
  have h := sumA_app (L.take i) (L.drop i)
  rw [List.take_append_drop] at h
  omega
theorem Cover.lt {L : List Sht} {n : Nat} (h : Cover L n) {i : Nat} (hi : i < L.length) : sumA (L.take i) < n := by
  have h1 := sumA_take L i L[i] (List.getElem?_eq_getElem hi)
  have h2 := sumA_take_le L (i + 1)
  have h3 := h.pos L[i] (List.getElem_mem hi)
  rw [h.sum] at h2
  omega
theorem Cover.mono {L : List Sht} {n : Nat} (h : Cover L n) {i : Nat} (hi : i + 1 ≤ L.length) : sumA (L.take i) < sumA (L.take (i + 1)) := by
  have h1 := sumA_take L i L[i] (List.getElem?_eq_getElem hi)
  have h3 := h.pos L[i] (List.getElem_mem hi)
  omega
theorem Cover.strict {L : List Sht} {ks : List Nat} (h : Cover L ks.length) (hs : StrictL ks) : StrictL (firsts ks L) := by
  intro j hj
  rw [firsts_len] at hj
  rw [firsts_get _ _ _ (by omega), firsts_get _ _ _ hj]
  exact hs.lt (h.mono (by omega)) (h.lt hj)
theorem Cover.len {L : List Sht} {n : Nat} (h : Cover L n) : L.length ≤ n := by
  have h1 := h.sum
  have h2 := h.pos
  clear h
  induction L generalizing n with
  | nil => simp
  | cons x L ih =>
    have h3 := h2 x (by simp)
    rw [sumA_cons] at h1
    have := ih (n := n - x.a) (by omega) fun s hs => h2 s (by simp [hs])
    rw [List.length_cons]; omega
theorem leaves_cover (b : Nat) (l : List CellS) : Cover (leaves b l) l.length := by
  refine ⟨leaves_sum b l, ?_⟩
  have h := pk_pos 3 b (l.map itemC) [] 0 [] (fun s hs => by cases hs)
  unfold leaves
  generalize pk 3 b ([], 0, []) (l.map itemC) = r at *
  obtain ⟨ss, n, d⟩ := r
  intro s hs
  unfold pend at hs
  split at hs
  · rename_i hn
    rcases List.mem_append.1 hs with hs | hs
    · exact h.1 s hs
    · obtain rfl := List.mem_singleton.1 hs; exact hn
  · exact h.1 s hs
theorem sumA_mkN (lv : Nat) (gs : List (List (Nat × Int))) : sumA (gs.map (mkN lv)) = gs.flatten.length := by
  induction gs with
  | nil => rfl
  | cons g gs ih =>
    rw [List.map_cons, sumA_cons, ih]
    simp [mkN]
theorem nodes_cover (lv : Nat) (es : List (Nat × Int)) : Cover (nodes lv es) es.length := by
  obtain ⟨gs, h1, h2, h3, _⟩ := nodes_groups lv es
  rw [h1]
  refine ⟨by rw [sumA_mkN, h2], fun s hs => ?_⟩
  obtain ⟨g, hg, rfl⟩ := List.mem_map.1 hs
  have := (h3 g hg).1
  show 1 ≤ g.length
  cases g
  · exact absurd rfl this
  · simp
theorem flatten_two (gs : List (List (Nat × Int))) (h : ∀ g ∈ gs, 2 ≤ g.length) : 2 * gs.length ≤ gs.flatten.length := by
  induction gs with
  | nil => simp
  | cons g gs ih =>
    have h1 := h g (by simp)
    have h2 := ih fun x hx => h x (by simp [hx])
    simp only [List.length_cons, List.flatten_cons, List.length_append] at *
    omega
theorem nodes_half (lv : Nat) (es : List (Nat × Int)) : 2 * (nodes lv es).length ≤ es.length + 1 := by
  obtain ⟨done, cur, h1, h2, h3, h4, h5⟩ := ninv lv es
  have hd := flatten_two done fun g hg => (h3 g hg).1
  have hl : done.flatten.length + cur.length = es.length := by rw [← h2, List.length_append]
  unfold nodes pend
  rw [h1]
  simp only
  split
  · rw [List.length_append, List.length_map, List.length_singleton]; omega
  · rw [List.length_map]; omega
/-- the pages above a level whose pages have these first keys -/
def levs (lv : Nat) (fs : List Nat) : Nat :=
  if h : fs.length ≤ 1 then 0 else (nodes lv (entsOf fs)).length + levs (lv + 1) (firsts fs (nodes lv (entsOf fs)))
termination_by fs.length
decreasing_by
  rw [firsts_len]
  have := nodes_half lv (entsOf fs)
  rw [entsOf_len] at this
  omega
theorem levs_one {lv : Nat} {fs : List Nat} (h : fs.length ≤ 1) : levs lv fs = 0 := by rw [levs]; simp [h]
theorem levs_more {lv : Nat} {fs : List Nat} (h : ¬ fs.length ≤ 1) : levs lv fs = (nodes lv (entsOf fs)).length + levs (lv + 1) (firsts fs (nodes lv (entsOf fs))) := by rw [levs]; simp [h]
theorem levs_le (n : Nat) : ∀ (lv : Nat) (fs : List Nat), fs.length = n → levs lv fs ≤ 2 * n - 2 := by
  induction n using Nat.strongRecOn with
  | ind n ih =>
    intro lv fs hf
    by_cases h : fs.length ≤ 1
    · rw [levs_one h]; omega
    · rw [levs_more h]
      have h1 := nodes_half lv (entsOf fs)
      rw [entsOf_len] at h1
      have h2 := ih (nodes lv (entsOf fs)).length (by omega) (lv + 1) (firsts fs (nodes lv (entsOf fs))) (firsts_len _ _)
      have h3 : 1 ≤ (nodes lv (entsOf fs)).length := by
        have hc := nodes_cover lv (entsOf fs)
        rcases Nat.eq_zero_or_pos (nodes lv (entsOf fs)).length with h0 | h0
        · have hn := List.eq_nil_of_length_eq_zero h0
          have := hc.sum
          rw [hn, entsOf_len] at this
          have e0 : sumA ([] : List Sht) = 0 := rfl
          omega
        · exact h0
      omega
/-- how many pages a list's tree has -/
def keysL (l : List CellS) : List Nat := l.map CellS.key
theorem keysL_len (l : List CellS) : (keysL l).length = l.length := by simp [keysL]
def pagesN (b : Nat) (l : List CellS) : Nat := (leaves b l).length + levs 1 (firsts (keysL l) (leaves b l))
theorem pagesN_le (b : Nat) (l : List CellS) : pagesN b l ≤ 3 * l.length := by
  unfold pagesN
  have h1 := leaves_len b l
  have h2 := levs_le _ 1 (firsts (keysL l) (leaves b l)) rfl
  rw [firsts_len] at h2
  omega
theorem rising_strict {l : List CellS} (h : risingC l = true) : StrictL (keysL l) := by
  rw [risingC_iff] at h
  intro j hj
  rw [keysL_len] at hj
  exact h j hj
theorem right_rising {S : Sch} {mask : Nat} {l : List CellS} (h : rightL S mask l = true) : risingC l = true := by
  unfold rightL at h
  simp only [Bool.and_eq_true] at h
  exact h.1.2
end Go.Proofs.Ytfhmaincnlaapaa
namespace Go.Proofs.Ytfhmaincnlaapaa
open Go.ChangeShapes Go.WideShapes Go.ChangeAt Go.RowKit
set_option linter.unusedVariables false

abbrev u64n (l : List Nat) : List Value := l.map (fun n : Nat => Value.int .u64 (n : Int))
theorem u64n_app (l m : List Nat) : u64n (l ++ m) = u64n l ++ u64n m := by simp [u64n]
theorem info_u64n : (Try.prog.info? 48).map (fun i => (i.zero, i.size, i.bytes)) = some (some (.int .u64 0), 1, 8) := by kernel_rfl
theorem info_entry : (Try.prog.info? 94).map (fun i => (i.zero, i.size, i.bytes)) = some (some (.agg #[.int .u64 0, .int .i64 0]), 2, 16) := by kernel_rfl
theorem run_make_rowS {P : Program} (t e : TypeId) (z : Value) (size bytes : Nat) (ht : P.underlying t = some (.slice e)) (hinfo : (P.info? e).map (fun i => (i.zero, i.size, i.bytes)) = some (some z, size, bytes))
    (kl kc : IntKind) (n : Nat) (hbytes : bytes * n ≤ 281474976710656) (h63 : n ≤ 9223372036854775807) (w : World) :
    (Instr.makeSlice t (.int kl (n : Int)) (.int kc (n : Int))).run P w = .ok (.slice (some ⟨w.heap.size, 0, none⟩) n n) (w.alloc (.cells (madeCells z.cells (n * size)) e)) := by
  obtain ⟨i, hi, hzz⟩ := Option.map_eq_some_iff.1 hinfo
  simp only [Prod.mk.injEq] at hzz
  obtain ⟨hz, hs, hb⟩ := hzz
  have hb' : (i.bytes : Int) * (n : Int) ≤ 281474976710656 := by
    have h : ((i.bytes * n : Nat) : Int) ≤ 281474976710656 := by rw [hb]; omega
    rwa [Int.natCast_mul] at h
  have hr := run_make (P := P) w t e i z ht hi hz kl kc n n (by omega) (Int.le_refl _) hb' (by omega)
  simp only [Int.toNat_natCast, hs] at hr
  exact hr
theorem Rd.u64n {w : World} {B n : Nat} {A : Option Addr} {l : List Nat} (h : Rd w B 1 A n (u64n l)) {k : Nat} (hk : k < n) : ∃ a, A = some a ∧ a.block < B ∧ w.cell? (a.add k) = some (.int .u64 ((l.getD k 0 : Nat) : Int)) := by
  obtain ⟨a, u, e, hb, hx, hc⟩ := h.at1 hk
  refine ⟨a, e, hb, ?_⟩
  rw [hc]
  have hl : k < l.length := by have := h.1; simp at this; omega
  simp [hl] at hx
  simp [List.getD, hl, ← hx]
/-- the entries of pages, as far as they are laid -/
def entRow (fs : List Nat) (i : Nat) : List Value := entC ((fs.take i).map fun f => (f, 8192)) ++ (List.replicate (fs.length - i) [.int .u64 0, .int .i64 0]).flatten
theorem entRow_all (fs : List Nat) : entRow fs fs.length = entC (entsOf fs) := by unfold entRow entsOf; simp
theorem entRow_set (fs : List Nat) (i : Nat) (h : i < fs.length) : ((entRow fs i).set (i * 2) (.int .u64 (fs.getD i 0 : Int))).set (i * 2 + 1) (.int .i64 8192) = entRow fs (i + 1) := by
  unfold entRow
  obtain ⟨k, hk⟩ : ∃ k, fs.length - i = k + 1 := ⟨fs.length - i - 1, by omega⟩
  have hk2 : fs.length - (i + 1) = k := by omega
  rw [hk, hk2, List.replicate_succ, List.flatten_cons]
  have hl : (entC ((fs.take i).map fun f => (f, (8192 : Int)))).length = i * 2 := by rw [entC_len, List.length_map, List.length_take]; omega
  rw [List.set_append_right _ _ (by omega), hl, Nat.sub_self]
  rw [List.set_append_right _ _ (by omega), hl, show i * 2 + 1 - i * 2 = 1 from by omega]
  have ht : (fs.take (i + 1)).map (fun f => (f, (8192 : Int))) = (fs.take i).map (fun f => (f, (8192 : Int))) ++ [(fs.getD i 0, 8192)] := by
    rw [List.take_succ_eq_append_getElem h, List.map_append]; simp [List.getD, h]
  rw [ht, ← entC_snoc]
  simp
theorem u64_firsts_lt (ks : List Nat) (L : List Sht) (h : ∀ k ∈ ks, k < 18446744073709551616) (j : Nat) : (firsts ks L).getD j 0 < 18446744073709551616 := by
  rcases Nat.lt_or_ge j L.length with hj | hj
  · rw [firsts_get _ _ _ hj]
    rcases Nat.lt_or_ge (sumA (L.take j)) ks.length with h1 | h1
    · have : ks.getD (sumA (L.take j)) 0 = ks[sumA (L.take j)] := by simp [List.getD, h1]
      rw [this]; exact h _ (List.getElem_mem h1)
    · have : ks.getD (sumA (L.take j)) 0 = 0 := by simp [List.getD, h1]
      rw [this]; decide
  · have : (firsts ks L).getD j 0 = 0 := by simp [List.getD, firsts_len, hj]
    rw [this]; decide
theorem entRow_zero (fs : List Nat) : entRow fs 0 = (List.replicate fs.length [Value.int .u64 0, .int .i64 0]).flatten := by unfold entRow entC; simp
theorem entRow_get (fs : List Nat) (i : Nat) (h : i < fs.length) : (entRow fs i).toArray[i * 2]? = some (.int .u64 0) ∧ (entRow fs i).toArray[i * 2 + 1]? = some (.int .i64 0) := by
  unfold entRow
  obtain ⟨k, hk⟩ : ∃ k, fs.length - i = k + 1 := ⟨fs.length - i - 1, by omega⟩
  rw [hk, List.replicate_succ, List.flatten_cons]
  have hl : (entC ((fs.take i).map fun f => (f, (8192 : Int)))).length = i * 2 := by rw [entC_len, List.length_map, List.length_take]; omega
  simp only [List.getElem?_toArray]
  constructor
  · rw [List.getElem?_append_right (by omega), hl, Nat.sub_self]; rfl
  · rw [List.getElem?_append_right (by omega), hl, show i * 2 + 1 - i * 2 = 1 from by omega]; rfl
theorem entRow_put {w : World} {g : Nat} {fs : List Nat} {i : Nat} (h : Blk w g 94 (entRow fs i).toArray) (hi : i < fs.length) : Blk ((w.setCell ⟨g, i * 2, none⟩ (.int .u64 (fs.getD i 0 : Int))).setCell ⟨g, i * 2 + 1, none⟩ (.int .i64 8192)) g 94 (entRow fs (i + 1)).toArray := by
  have h2 := (h.set_ (i * 2) (.int .u64 (fs.getD i 0 : Int))).set_ (i * 2 + 1) (.int .i64 8192)
  rw [← entRow_set fs i hi]
  simpa using h2
theorem blk_rd2 {w : World} {g : Nat} {t : TypeId} {es : List (Nat × Int)} (h : Blk w g t (entC es).toArray) : Rd w w.heap.size 2 (some ⟨g, 0, none⟩) es.length (entC es) := by
  refine ⟨entC_len es, fun hn => ⟨_, rfl, h.lt, fun j u hu => ?_⟩⟩
  have hj : (⟨g, 0, none⟩ : Addr).add j = ⟨g, j, none⟩ := by unfold Addr.add; split <;> simp_all
  rw [hj, h.cell]
  simpa using hu
theorem add_at0 (g j : Nat) : (⟨g, 0, none⟩ : Addr).add j = ⟨g, j, none⟩ := by unfold Addr.add; split <;> simp_all
theorem firsts_mem_lt {ks : List Nat} {L : List Sht} (h : ∀ k ∈ ks, k < 18446744073709551616) : ∀ f ∈ firsts ks L, f < 18446744073709551616 := by
  intro f hf
  obtain ⟨j, hj, rfl⟩ := List.getElem_of_mem hf
  have := u64_firsts_lt ks L h j
  simpa [List.getD, hj] using this
theorem made_ent (n : Nat) : madeCells (Value.agg #[.int .u64 0, .int .i64 0]).cells (n * 2) = ((List.replicate n [Value.int .u64 0, .int .i64 0]).flatten).toArray := by
  have hz : (Value.agg #[.int .u64 0, .int .i64 0]).cells = #[.int .u64 0, .int .i64 0] := by simp [Value.cells]
  rw [hz]
  apply Array.ext'
  have key : (madeCells #[Value.int .u64 0, .int .i64 0] (n * 2)).toList = (List.range (n * 2)).map fun j => if j % 2 = 0 then Value.int .u64 0 else .int .i64 0 := by
    simp only [madeCells, Array.toList_map, Array.toList_range]
    apply List.map_congr_left
    intro j _
    rcases (show j % 2 = 0 ∨ j % 2 = 1 by omega) with e | e <;> simp [e]
  rw [key]
  clear key hz
  induction n with
  | zero => rfl
  | succ n ih =>
    rw [show (n + 1) * 2 = n * 2 + 1 + 1 from by omega, List.range_succ, List.range_succ, List.map_append, List.map_append, ih, List.replicate_succ', List.flatten_append]
    have e1 : n * 2 % 2 = 0 := by omega
    have e2 : (n * 2 + 1) % 2 = 1 := by omega
    simp [e1, e2]
set_option maxRecDepth 20000 in
theorem pages_arg (w : World) (B : Nat) (v : Value) (S : Sch) (A : Option Addr) (c : Nat) (l : List CellS) (mask : Nat) (h : SchAt w B v S) (ho : SchOk S) (g : SlR cellR w B l A c) (hB : B ≤ w.heap.size) (hm : mask < 4294967296) (hr : rightL S mask l = false) :
    Calls Try.prog 14 #[v, .int .u32 (mask : Int), .slice A l.length c] w fun y w' => y = .returned (.tuple #[.int .i64 0, .int .i64 1]) ∧ Below w.heap.size w w' := by
  have hh := h
  obtain ⟨A0, c0, A1, c1, A2, c2, A3, c3, rfl, r0, r1, r2, r3, b0, b1, b2, b3⟩ := hh
  clear r0 r1 r2 r3 b0 b1 b2 b3
  have hw0 := belA (belR w) (.cells #[.slice A0 S.dims.length c0, .slice A1 S.ints.length c1, .slice A2 S.nums.length c2, .slice A3 S.views.length c3] 26)
  have hc := leaves_arg (w.alloc (.cells #[.slice A0 S.dims.length c0, .slice A1 S.ints.length c1, .slice A2 S.nums.length c2, .slice A3 S.views.length c3] 26)) B _ S A c l mask (h.keep (hw0.mono hB) (Nat.le_refl _)) ho (g.keep (hw0.mono hB) (Nat.le_refl _)) (by simp; omega) hm hr
  have HC := Lib.hid hc; have HW0 := Lib.hid hw0
  clear hc hr hw0 h g
  go_enter Try.func14, Try.ntmps14
  go_wp2_with (go_at_call 21; (with_reducible refine HC.out.mono ?_); rintro y w1 ⟨rfl, hb1⟩; have HB1 := Lib.hid (HW0.out.trans (hb1.mono (show w.heap.size ≤ _ by simp))); clear hb1)
  go_ret2
  exact ⟨rfl, HB1.out⟩
theorem rowsR {w w' : World} {base n c D : Nat} {A : Option Addr} {L : List Sht} {xs : List Value} (h : w.ownsRow base 55 4 (.slice A n c) n xs) (hs : ShR w w.heap.size L xs) (hb : Below w.heap.size w w') (hD : w.heap.size ≤ D) : Rd w' D 4 A n xs ∧ ShR w' D L xs :=
  ⟨((Rd.own h).below hb).more hD, hs.keep hb hD⟩
/-- a sheet's cells -/
abbrev shA (s : Sht) (Ad : Option Addr) (cd : Nat) : Array Value := #[.int .i64 s.k, .int .u64 (s.a : Int), .int .u64 (s.b : Int), .slice Ad s.d.length cd]
set_option maxRecDepth 20000 in
set_option maxHeartbeats 16000000 in
theorem pages_ok (w : World) (B : Nat) (v : Value) (S : Sch) (A : Option Addr) (c : Nat) (l : List CellS) (mask : Nat) (h : SchAt w B v S) (ho : SchOk S) (g : SlR cellR w B l A c) (hB : B ≤ w.heap.size) (hm : mask < 4294967296) (hr : rightL S mask l = true)
    (hl : ∀ C ∈ l, lightC C = true) (hn : l.length ≤ 60) :
    Calls Try.prog 14 #[v, .int .u32 (mask : Int), .slice A l.length c] w fun y w' => y = .returned (.tuple #[.int .i64 (pagesN mask l : Int), .int .i64 0]) ∧ Below w.heap.size w w' := by
  have hh := h
  obtain ⟨A0, c0, A1, c1, A2, c2, A3, c3, rfl, r0, r1, r2, r3, b0, b1, b2, b3⟩ := hh
  clear r0 r1 r2 r3 b0 b1 b2 b3
  have hw0 := belA (belR w) (.cells #[.slice A0 S.dims.length c0, .slice A1 S.ints.length c1, .slice A2 S.nums.length c2, .slice A3 S.views.length c3] 26)
  have hc := leaves_ok (w.alloc (.cells #[.slice A0 S.dims.length c0, .slice A1 S.ints.length c1, .slice A2 S.nums.length c2, .slice A3 S.views.length c3] 26)) B _ S A c l mask (h.keep (hw0.mono hB) (Nat.le_refl _)) ho (g.keep (hw0.mono hB) (Nat.le_refl _)) (by simp; omega) hm hr hl (by omega)
  have HC := Lib.hid hc; have HW0 := Lib.hid hw0; have G := Lib.hid g
  have HCOV := Lib.hid (leaves_cover mask l); have HSTR := Lib.hid (rising_strict (right_rising hr))
  have hpn : pagesN mask l = (leaves mask l).length + levs 1 (firsts (keysL l) (leaves mask l)) := rfl
  have HKY : Hid (∀ k ∈ keysL l, k < 18446744073709551616) := Lib.hid fun k hk => by
    obtain ⟨C, hC, rfl⟩ := List.mem_map.1 hk
    obtain ⟨j, hj, rfl⟩ := List.getElem_of_mem hC
    obtain ⟨_, _, _, _, _, _, _, _, _, _, _, hv⟩ := g.cellAt hj
    exact hv.key
  obtain ⟨L, hL⟩ : ∃ L, leaves mask l = L := ⟨_, rfl⟩
  rw [hL] at HC HCOV hpn
  have HPN := Lib.hid hpn
  obtain ⟨tot, htot⟩ : ∃ tot, pagesN mask l = tot := ⟨_, rfl⟩
  have HTOT : Hid (tot ≤ 180) := Lib.hid (by have := pagesN_le mask l; omega)
  rw [htot] at HPN ⊢
  clear hc hr hw0 h g hl hpn hL htot
  go_enter Try.func14, Try.ntmps14
  go_upto_block 0 with (go_at_call 21; (with_reducible refine HC.out.mono ?_); rintro y w1 ⟨v1, xs, rfl, ho1, hs1, hb1⟩; obtain ⟨A8, c8, rfl, _, _, _⟩ := own_form ho1; have HB1 := Lib.hid (HW0.out.trans (hb1.mono (show w.heap.size ≤ _ by simp))); have HRA := Lib.hid (rowsR ho1 hs1 (belR w1) (Nat.le_refl _)).1; have HSA := Lib.hid (rowsR ho1 hs1 (belR w1) (Nat.le_refl _)).2; clear hb1 ho1 hs1)
  have HF0 := Lib.hid (World.ownsRow_nil w1 w1.heap.size 48 1)
  have h60 : L.length ≤ 60 := by have := HCOV.out.len; omega
  go_cut [10] (fun v10 wx => Hid (wx.ownsRow w1.heap.size 48 1 v10 L.length (u64n (firsts (keysL l) L))) ∧ Hid (Below w1.heap.size w1 wx))
  case first =>
    go_wp2_with fail
    go_loopw [10, 11, 32] (fun vf vat vi wr => ∃ i at_ : Nat, i ≤ L.length ∧ vi = .int .i64 (i : Int) ∧ vat = .int .i64 (at_ : Int) ∧ Hid (sumA (L.take i) = at_) ∧ Hid (wr.ownsRow w1.heap.size 48 1 vf i (u64n (fpre (keysL l) L i))) ∧ Hid (Below w1.heap.size w1 wr)) (fun _ _ vi _ => L.length - (intOf vi).toNat)
    case atStart => exact ⟨0, 0, by omega, rfl, rfl, Lib.hid rfl, HF0.out, belR w1⟩
    case round =>
      obtain ⟨i, at_, hi, rfl, rfl, HAT, HO, HBl⟩ := hrel
      have hz := HBl.out.size
      have hbw : Below w.heap.size w wr := HB1.out.trans (HBl.out.mono HB1.out.size)
      by_cases hlt : i < L.length
      · obtain ⟨a, Ad, cd, ea, hab, x0, x1, x2, x3, hR, hd1, hd2⟩ := (HRA.out.below HBl.out).sht (HSA.out.keep HBl.out (Nat.le_refl _)) i hlt
        have hlt2 := HCOV.out.lt hlt
        rw [HAT.out] at hlt2
        obtain ⟨a', D2, d2, D3, d3, ea', hab', y0, _, _, _, _⟩ := (G.out.keep (hbw.mono hB) (Nat.le_refl _)).cellAt hlt2
        have hst := sumA_take L i L[i] (List.getElem?_eq_getElem hlt)
        have hsn := fpre_succ (keysL l) L i
        rw [HAT.out] at hst hsn
        have hkey : (keysL l).getD at_ 0 = l[at_].key := by simp [keysL, List.getD, hlt2]
        rw [hkey] at hsn
        have hle := sumA_take_le L (i + 1)
        rw [HCOV.out.sum] at hle
        obtain ⟨ky, hky⟩ : ∃ ky, l[at_].key = ky := ⟨_, rfl⟩
        rw [hky] at hsn y0
        subst ea'
        generalize L[i] = s at *
        obtain ⟨z, hzz⟩ : ∃ z, sumA (L.take (i + 1)) = z := ⟨_, rfl⟩
        rw [hzz] at hst hle
        have q1 : (0 : Int) ≤ (i : Int) := by omega
        have q2 : (i : Int) < (L.length : Int) := by omega
        have q3 : (0 : Int) ≤ (at_ : Int) := by omega
        have q4 : (at_ : Int) < (l.length : Int) := by omega
        have wsa : IntKind.i64.wrap (s.a : Int) = (s.a : Int) := IntWalk.i64_in _ (by omega)
        have wz : (at_ : Int) + (s.a : Int) = (z : Int) := by omega
        have HBK := Lib.hid (Blk.new wr 55 (shA s Ad cd))
        have HOW := Lib.hid (HO.out.alloc (.cells (shA s Ad cd) 55))
        have y0' : (wr.alloc (.cells (shA s Ad cd) 55)).cell? (a'.add (at_ * 4)) = some (.int .u64 (ky : Int)) := by
          rw [World.cell?_alloc_lt _ _ _ (by rw [block_add]; have := hbw.size; omega)]; exact y0
        have hbx : Below w1.heap.size w1 (wr.alloc (.cells (shA s Ad cd) 55)) := HBl.out.alloc hz _
        have HXX : Hid (Value.slice (some ⟨(wr.alloc (.cells (shA s Ad cd) 55)).heap.size, 0, none⟩) 1 1 = .slice (some ⟨wr.heap.size + 1, 0, none⟩) 1 1) := Lib.hid (by simp)
        have HBX := Lib.hid hbx; have HSN := Lib.hid hsn; have HZZ := Lib.hid hzz; have HKY2 := Lib.hid hky
        obtain ⟨A5, c5, rfl, _, _, _⟩ := own_form HO.out
        clear hR hst hsn hzz hky hkey hbx y0
        subst ea
        go_wp2_with (at_builtin; (refine wpList_app1 (wr.alloc (.cells (shA s Ad cd) 55)) (.int .u64 (ky : Int)) rfl rfl _ _ 91 rfl w1.heap.size 48 _ 8 info_u64n rfl Try.underlying91 (.slice A5 i c5) i (u64n (fpre (keysL l) L i)) HOW.out (by rfl) (by rw [HXX.out]; rfl) ?_ ?_ ?_ ?_); omega; omega; exact HBX.out.size; intro v6 w6 ho6 hap6; have HO6 := Lib.hid ho6; have HB6 := Lib.hid (HBX.out.trans (hap6.below HBX.out.size HOW.out)); have hk6 := hap6.blk HBK.out (own_blk_ne HOW.out HBK.out (by decide)); have z1 := hk6.cell 1; simp at z1; clear ho6 hap6 hk6)
        go_roundw
        case rel => exact ⟨i + 1, z, by omega, by go_num, rfl, HZZ, Lib.hid (by have h := HO6.out; rw [HSN.out, u64n_app]; exact h), HB6⟩
        case measure => simp [intOf]; omega
      · obtain rfl : i = L.length := by omega
        have q2 : ¬ (L.length : Int) < (L.length : Int) := by omega
        go_wp2
        go_meet
        case rel => exact ⟨HO, HBl⟩
  case rest =>
    obtain ⟨HF1, HB2⟩ := hcut
    go_wp2_with fail
    go_loopw [8, 10, 14, 15] (fun v8 v10 v14 v15 wr => ∃ (lv m : Nat) (fs : List Nat) (done : Nat) (A8 : Option Addr) (c8 : Nat), Hid (fs.length = m) ∧ v14 = .int .i64 (done : Int) ∧ v15 = .int .i64 (lv : Int) ∧ 1 ≤ lv ∧ lv + m ≤ 62 ∧ Hid (done + levs lv fs = tot) ∧ v8 = .slice A8 m c8 ∧ Hid (StrictL fs) ∧ Hid (∀ f ∈ fs, f < 18446744073709551616) ∧ Hid (wr.ownsRow w1.heap.size 48 1 v10 m (u64n fs)) ∧ Hid (Below w1.heap.size w1 wr)) (fun v8 _ _ _ _ => lenOf v8)
    case atStart => exact ⟨1, L.length, firsts (keysL l) L, L.length, _, _, Lib.hid (firsts_len _ _), rfl, rfl, by omega, by omega, Lib.hid HPN.out.symm, rfl, Lib.hid ((show Cover L (keysL l).length by rw [keysL_len]; exact HCOV.out).strict HSTR.out), Lib.hid (firsts_mem_lt HKY.out), HF1, HB2⟩
    case round =>
      obtain ⟨wo, hwo⟩ : ∃ wo, wo = wr := ⟨_, rfl⟩
      subst hwo
      obtain ⟨lv, m, fs, done, A8', c8', HM, rfl, rfl, hlv, hlm, HT, rfl, HS, HK, HO, HB⟩ := hrel
      have htb : done ≤ 180 := by have h1 := HT.out; have h2 := HTOT.out; omega
      by_cases hgt : 1 < m
      · have t1 : decide ((1 : Int) < (m : Int)) = true := decide_eq_true (by omega)
        have t1n : decide (1 < m) = true := decide_eq_true hgt
        have hmk := (fun w => run_make_rowS (P := Try.prog) 92 94 (.agg #[.int .u64 0, .int .i64 0]) 2 16 Try.underlying92 info_entry .i64 .i64 m (by omega) (by omega) w)
        obtain ⟨A10, c10, rfl, _, _, _⟩ := own_form HO.out
        clear HF0 HF1
        go_wp2
        have HK0 : Hid (Blk (wo.alloc (.cells (madeCells (Value.agg #[.int .u64 0, .int .i64 0]).cells (m * 2)) 94)) wo.heap.size 94 (entRow fs 0).toArray) := Lib.hid (by
          rw [entRow_zero, HM.out, ← made_ent]; exact Blk.new wo _ _)
        have HB30 := Lib.hid (belA (belR wo) (.cells (madeCells (Value.agg #[.int .u64 0, .int .i64 0]).cells (m * 2)) 94))
        go_loopw [62] (fun vi w3 => ∃ i : Nat, i ≤ m ∧ vi = .int .i64 (i : Int) ∧ Hid (Blk w3 wo.heap.size 94 (entRow fs i).toArray) ∧ Hid (Below wo.heap.size wo w3)) (fun vi _ => m - (intOf vi).toNat)
        case atStart => exact ⟨0, by omega, rfl, HK0, HB30⟩
        case round =>
          obtain ⟨i, hi, rfl, HKE, HB3⟩ := hrel
          have hzo := HB3.out.size
          have hz1 := HB.out.size
          by_cases hlt : i < m
          · have hlt' : i < fs.length := by have := HM.out; omega
            obtain ⟨a10, rfl, hab, x0⟩ := ((Rd.own HO.out).below HB3.out).u64n hlt
            obtain ⟨e0, e1⟩ := entRow_get fs i hlt'
            have z0 : wr.cell? ⟨wo.heap.size, i * 2, none⟩ = some (.int .u64 0) := (HKE.out.cell _).trans e0
            have z1 : wr.cell? ⟨wo.heap.size, i * 2 + 1, none⟩ = some (.int .i64 0) := (HKE.out.cell _).trans e1
            have z2 := HKE.out.frozen (i * 2)
            have z3 := HKE.out.frozen (i * 2 + 1)
            have HPUT := Lib.hid (entRow_put HKE.out hlt')
            have q1 : (0 : Int) ≤ (i : Int) := by omega
            have q2 : (i : Int) < (m : Int) := by omega
            generalize fs.getD i 0 = f at *
            clear e0 e1 hlt'
            go_wp2
            go_roundw
            case rel => exact ⟨i + 1, by omega, by go_num, HPUT, Lib.hid ((HB3.out.setCell (Nat.le_refl _) _).setCell (Nat.le_refl _) _)⟩
            case measure => simp [intOf]; omega
          · obtain rfl : i = m := by omega
            have q2 : ¬ (i : Int) < (i : Int) := by omega
            have hke := HKE.out
            have hgl : wo.heap.size < wr.heap.size := hke.lt
            have hra : entRow fs i = entC (entsOf fs) := by rw [← HM.out]; exact entRow_all fs
            rw [hra] at hke
            have hrd := blk_rd2 hke
            have hel : (entsOf fs).length = i := by rw [entsOf_len]; exact HM.out
            rw [hel] at hrd
            have HND := Lib.hid (nodes_ok wr lv (some ⟨wo.heap.size, 0, none⟩) i i wr.heap.size (entsOf fs) hlv (by omega) hrd (by omega) (Nat.le_refl _) (rise_ents HS.out) (fun k hk => by
              rw [entsOf_get fs k hk]
              refine ⟨?_, by show (1 : Int) ≤ 8192; decide, by show (8192 : Int) ≤ 8192; decide⟩
              have hk' : k < fs.length := by rw [entsOf_len] at hk; exact hk
              have : fs.getD k 0 = fs[k] := by simp [List.getD, hk']
              show fs.getD k 0 < _
              rw [this]; exact HK.out _ (List.getElem_mem hk')))
            have HCV := Lib.hid (nodes_cover lv (entsOf fs)); have HHF := Lib.hid (nodes_half lv (entsOf fs)); have HLM := Lib.hid (levs_more (lv := lv) (fs := fs) (by have := HM.out; omega))
            have HEL := Lib.hid hel; have HRE := Lib.hid hrd
            generalize nodes lv (entsOf fs) = L2 at *
            have HBW3 := Lib.hid (HB.out.trans (HB3.out.mono hz1))
            clear hke hra hrd hel HKE HB3
            go_wp2_with fail
            (with_reducible refine HND.out.mono ?_)
            rintro y w4 ⟨v4, xs4, rfl, ho4, hs4, hb4⟩
            obtain ⟨A4, c4, rfl, _, _, _⟩ := own_form ho4
            have HB4 := Lib.hid (belT HBW3.out hb4)
            have HRA4 := Lib.hid (rowsR ho4 hs4 (belR w4) (Nat.le_refl _)).1
            have HSA4 := Lib.hid (rowsR ho4 hs4 (belR w4) (Nat.le_refl _)).2
            have HRE4 := Lib.hid (HRE.out.below hb4)
            have hz4 := hb4.size
            clear hb4 ho4 hs4
            go_wp2
            have HF4 := Lib.hid (World.ownsRow_nil w4 w4.heap.size 48 1)
            have hl2 : L2.length ≤ i := by have h1 := HCV.out.len; have h2 := HEL.out; omega
            have hz41 : w1.heap.size ≤ w4.heap.size := by omega
            go_loopw [10, 11, 85] (fun vf vat vi w5 => ∃ j at_ : Nat, j ≤ L2.length ∧ vi = .int .i64 (j : Int) ∧ vat = .int .i64 (at_ : Int) ∧ Hid (sumA (L2.take j) = at_) ∧ Hid (w5.ownsRow w4.heap.size 48 1 vf j (u64n (fpre fs L2 j))) ∧ Hid (Below w4.heap.size w4 w5)) (fun _ _ vi _ => L2.length - (intOf vi).toNat)
            case atStart => exact ⟨0, 0, by omega, rfl, rfl, Lib.hid rfl, HF4.out, belR w4⟩
            case round =>
              obtain ⟨j, at_, hj, rfl, rfl, HAT, HOf, HBl⟩ := hrel
              have hz5 := HBl.out.size
              by_cases hlj : j < L2.length
              · obtain ⟨a, Ad, cd, ea, hab, x0, x1, x2, x3, hR, hd1, hd2⟩ := (HRA4.out.below HBl.out).sht (HSA4.out.keep HBl.out (Nat.le_refl _)) j hlj
                have hlt2 := HCV.out.lt hlj
                rw [HAT.out] at hlt2
                obtain ⟨a', ea', hab', y0, _⟩ := (HRE4.out.below (HBl.out.mono hz4)).ent hlt2
                injection ea' with ea'
                rw [← ea', add_at0, entsOf_get] at y0
                have hst := sumA_take L2 j L2[j] (List.getElem?_eq_getElem hlj)
                have hsn := fpre_succ fs L2 j
                rw [HAT.out] at hst hsn
                have hle := sumA_take_le L2 (j + 1)
                rw [HCV.out.sum, HEL.out] at hle
                rw [HEL.out] at hlt2
                obtain ⟨ky, hky⟩ : ∃ ky, fs.getD at_ 0 = ky := ⟨_, rfl⟩
                rw [hky] at hsn
                have y0' : wr.cell? ⟨wo.heap.size, at_ * 2, none⟩ = some (.int .u64 (ky : Int)) := by rw [← hky]; exact y0
                subst ea
                generalize L2[j] = s at *
                obtain ⟨z, hzz⟩ : ∃ z, sumA (L2.take (j + 1)) = z := ⟨_, rfl⟩
                rw [hzz] at hst hle
                have q1 : (0 : Int) ≤ (j : Int) := by omega
                have q2 : (j : Int) < (L2.length : Int) := by omega
                have q3 : (0 : Int) ≤ (at_ : Int) := by omega
                have q4 : (at_ : Int) < (i : Int) := by omega
                have wsa : IntKind.i64.wrap (s.a : Int) = (s.a : Int) := IntWalk.i64_in _ (by omega)
                have wz : (at_ : Int) + (s.a : Int) = (z : Int) := by omega
                have HBK := Lib.hid (Blk.new wr 55 (shA s Ad cd))
                have HOW := Lib.hid (HOf.out.alloc (.cells (shA s Ad cd) 55))
                have y1 : (wr.alloc (.cells (shA s Ad cd) 55)).cell? ⟨wo.heap.size, at_ * 2, none⟩ = some (.int .u64 (ky : Int)) := by
                  rw [World.cell?_alloc_lt _ _ _ (by show wo.heap.size < wr.heap.size; omega)]; exact y0'
                have hbx : Below w4.heap.size w4 (wr.alloc (.cells (shA s Ad cd) 55)) := HBl.out.alloc hz5 _
                have HXX : Hid (Value.slice (some ⟨(wr.alloc (.cells (shA s Ad cd) 55)).heap.size, 0, none⟩) 1 1 = .slice (some ⟨wr.heap.size + 1, 0, none⟩) 1 1) := Lib.hid (by simp)
                have HBX := Lib.hid hbx; have HSN := Lib.hid hsn; have HZZ := Lib.hid hzz; have HKY2 := Lib.hid hky
                have HBXz := Lib.hid (show w4.heap.size ≤ (wr.alloc (.cells (shA s Ad cd) 55)).heap.size by have := hbx.size; omega)
                obtain ⟨A5, c5, rfl, _, _, _⟩ := own_form HOf.out
                clear hR hst hsn hzz hky hbx y0 y0' hab' ea'
                go_wp2_with (at_builtin; refine wpList_app1 (wr.alloc (.cells (shA s Ad cd) 55)) (.int .u64 (ky : Int)) rfl rfl _ _ 91 rfl w4.heap.size 48 _ 8 info_u64n rfl Try.underlying91 (.slice A5 j c5) j (u64n (fpre fs L2 j)) HOW.out (by rfl) (by rw [HXX.out]; rfl) ?_ ?_ ?_ ?_; omega; omega; exact HBXz.out; intro v6 w6 ho6 hap6; have HO6 := Lib.hid ho6; have HB6 := Lib.hid (HBX.out.trans (hap6.below HBXz.out HOW.out)); have hk6 := hap6.blk HBK.out (own_blk_ne HOW.out HBK.out (by decide)); have z1 := hk6.cell 1; simp at z1; clear ho6 hap6 hk6)
                go_roundw
                case rel => exact ⟨j + 1, z, by omega, by go_num, rfl, HZZ, Lib.hid (by have h := HO6.out; rw [HSN.out, u64n_app]; exact h), HB6⟩
                case measure => simp [intOf]; omega
              · obtain rfl : j = L2.length := by omega
                have q2 : ¬ (L2.length : Int) < (L2.length : Int) := by omega
                have hlm := HLM.out
                have hhf := HHF.out
                rw [HEL.out] at hhf
                have hdl : done + L2.length + levs (lv + 1) (firsts fs L2) = tot := by have := HT.out; omega
                have hdb : done + L2.length ≤ 180 := by have := HTOT.out; omega
                have HDL := Lib.hid hdl
                have HST2 := Lib.hid ((show Cover L2 fs.length by have h := HCV.out; rw [entsOf_len] at h; exact h).strict HS.out)
                have hll : L2.length < i := by omega
                clear hlm hhf hdl
                go_wp2
                go_roundw
                case rel => exact ⟨lv + 1, L2.length, firsts fs L2, done + L2.length, _, _, Lib.hid (firsts_len _ _), by go_num, by go_num, by omega, by omega, HDL, rfl, HST2, Lib.hid (firsts_mem_lt HK.out), Lib.hid (own_mono HOf.out hz41), Lib.hid (HB4.out.trans (HBl.out.mono hz41))⟩
                case measure => simp [lenOf]; omega
      · have hm1 : fs.length ≤ 1 := by have := HM.out; omega
        have hl0 := levs_one (lv := lv) hm1
        have hdone : done = tot := by have := HT.out; omega
        have t1 : decide ((1 : Int) < (m : Int)) = false := decide_eq_false (by omega)
        have t1n : decide (1 < m) = false := decide_eq_false hgt
        have HDN := Lib.hid hdone
        have HBW := Lib.hid (HB1.out.trans (HB.out.mono HB1.out.size))
        clear hm1 hl0 hdone
        go_wp2
        go_ret2
        rw [HDN.out]
        exact ⟨rfl, HBW.out⟩
end Go.Proofs.Ytfhmaincnlaapaa
