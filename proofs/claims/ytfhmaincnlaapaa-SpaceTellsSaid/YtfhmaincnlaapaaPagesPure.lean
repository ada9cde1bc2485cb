/-
  HOW MANY PAGES A TREE HAS, without the program.
-/
import Derived.Test.YtfhmaincnlaapaaLeavesW
import Derived.Test.YtfhmaincnlaapaaNodesLaw
namespace Go.Proofs.Ytfhmaincnlaapaa
open Go.ChangeShapes Go.WideShapes Go.ChangeAt Go.RowKit
set_option linter.unusedVariables false

/-- the first keys of the first i sheets -/
def fpre (ks : List Nat) (L : List Sht) (i : Nat) : List Nat := (List.range i).map fun j => ks.getD (sumA (L.take j)) 0
def firsts (ks : List Nat) (L : List Sht) : List Nat := fpre ks L L.length
theorem fpre_len (ks : List Nat) (L : List Sht) (i : Nat) : (fpre ks L i).length = i := by simp [fpre]
theorem fpre_succ (ks : List Nat) (L : List Sht) (i : Nat) : fpre ks L (i + 1) = fpre ks L i ++ [ks.getD (sumA (L.take i)) 0] := by simp [fpre, List.range_succ]
theorem firsts_len (ks : List Nat) (L : List Sht) : (firsts ks L).length = L.length := fpre_len _ _ _
theorem firsts_get (ks : List Nat) (L : List Sht) (i : Nat) (h : i < L.length) : (firsts ks L).getD i 0 = ks.getD (sumA (L.take i)) 0 := by
  simp [firsts, fpre, List.getD, h]
def entsOf (fs : List Nat) : List (Nat × Int) := fs.map fun f => (f, 8192)
theorem entsOf_len (fs : List Nat) : (entsOf fs).length = fs.length := by simp [entsOf]
theorem entsOf_get (fs : List Nat) (i : Nat) (h : i < (entsOf fs).length) : (entsOf fs)[i] = (fs.getD i 0, 8192) := by
  have h' : i < fs.length := by rw [entsOf_len] at h; exact h
  simp [entsOf, List.getD, h']
/-- keys that rise -/
def StrictL (fs : List Nat) : Prop := ∀ j, j + 1 < fs.length → fs.getD j 0 < fs.getD (j + 1) 0
theorem StrictL.lt {fs : List Nat} (h : StrictL fs) {i j : Nat} (hij : i < j) (hj : j < fs.length) : fs.getD i 0 < fs.getD j 0 := by
  induction j with
  | zero => omega
  | succ j ih =>
    by_cases e : i = j
    · subst e; exact h i hj
    · exact Nat.lt_trans (ih (by omega) (by omega)) (h j hj)
theorem rise_ents {fs : List Nat} (h : StrictL fs) : riseB (entsOf fs) = true := by
  rw [riseB_iff]
  intro k hk
  cases k with
  | zero => rw [okAt_zero _ hk, entsOf_get]; rfl
  | succ k =>
    rw [okAt_succ _ _ hk, entsOf_get, entsOf_get]
    have hk' : k + 1 < fs.length := by rw [entsOf_len] at hk; exact hk
    have h9 := h k hk'
    simp only [List.getD_eq_getElem?_getD] at h9 ⊢
    simp [h9]
/-- what leaves and nodes are of a list of things: how many they hold together -/
structure Cover (L : List Sht) (n : Nat) : Prop where
  sum : sumA L = n
  pos : ∀ s ∈ L, 1 ≤ s.a
theorem sumA_take_le (L : List Sht) (i : Nat) : sumA (L.take i) ≤ sumA L := by
  have h := sumA_app (L.take i) (L.drop i)
  rw [List.take_append_drop] at h
  omega
theorem Cover.lt {L : List Sht} {n : Nat} (h : Cover L n) {i : Nat} (hi : i < L.length) : sumA (L.take i) < n := by
  have h1 := sumA_take L i L[i] (List.getElem?_eq_getElem hi)
  have h2 := sumA_take_le L (i + 1)
  have h3 := h.pos L[i] (List.getElem_mem hi)
  rw [h.sum] at h2
  omega
theorem Cover.mono {L : List Sht} {n : Nat} (h : Cover L n) {i : Nat} (hi : i + 1 ≤ L.length) : sumA (L.take i) < sumA (L.take (i + 1)) := by
  have h1 := sumA_take L i L[i] (List.getElem?_eq_getElem hi)
  have h3 := h.pos L[i] (List.getElem_mem hi)
  omega
theorem Cover.strict {L : List Sht} {ks : List Nat} (h : Cover L ks.length) (hs : StrictL ks) : StrictL (firsts ks L) := by
  intro j hj
  rw [firsts_len] at hj
  rw [firsts_get _ _ _ (by omega), firsts_get _ _ _ hj]
  exact hs.lt (h.mono (by omega)) (h.lt hj)
theorem Cover.len {L : List Sht} {n : Nat} (h : Cover L n) : L.length ≤ n := by
  have h1 := h.sum
  have h2 := h.pos
  clear h
  induction L generalizing n with
  | nil => simp
  | cons x L ih =>
    have h3 := h2 x (by simp)
    rw [sumA_cons] at h1
    have := ih (n := n - x.a) (by omega) fun s hs => h2 s (by simp [hs])
    rw [List.length_cons]; omega
theorem leaves_cover (b : Nat) (l : List CellS) : Cover (leaves b l) l.length := by
  refine ⟨leaves_sum b l, ?_⟩
  have h := pk_pos 3 b (l.map itemC) [] 0 [] (fun s hs => by cases hs)
  unfold leaves
  generalize pk 3 b ([], 0, []) (l.map itemC) = r at *
  obtain ⟨ss, n, d⟩ := r
  intro s hs
  unfold pend at hs
  split at hs
  · rename_i hn
    rcases List.mem_append.1 hs with hs | hs
    · exact h.1 s hs
    · obtain rfl := List.mem_singleton.1 hs; exact hn
  · exact h.1 s hs
theorem sumA_mkN (lv : Nat) (gs : List (List (Nat × Int))) : sumA (gs.map (mkN lv)) = gs.flatten.length := by
  induction gs with
  | nil => rfl
  | cons g gs ih =>
    rw [List.map_cons, sumA_cons, ih]
    simp [mkN]
theorem nodes_cover (lv : Nat) (es : List (Nat × Int)) : Cover (nodes lv es) es.length := by
  obtain ⟨gs, h1, h2, h3, _⟩ := nodes_groups lv es
  rw [h1]
  refine ⟨by rw [sumA_mkN, h2], fun s hs => ?_⟩
  obtain ⟨g, hg, rfl⟩ := List.mem_map.1 hs
  have := (h3 g hg).1
  show 1 ≤ g.length
  cases g
  · exact absurd rfl this
  · simp
theorem flatten_two (gs : List (List (Nat × Int))) (h : ∀ g ∈ gs, 2 ≤ g.length) : 2 * gs.length ≤ gs.flatten.length := by
  induction gs with
  | nil => simp
  | cons g gs ih =>
    have h1 := h g (by simp)
    have h2 := ih fun x hx => h x (by simp [hx])
    simp only [List.length_cons, List.flatten_cons, List.length_append] at *
    omega
theorem nodes_half (lv : Nat) (es : List (Nat × Int)) : 2 * (nodes lv es).length ≤ es.length + 1 := by
  obtain ⟨done, cur, h1, h2, h3, h4, h5⟩ := ninv lv es
  have hd := flatten_two done fun g hg => (h3 g hg).1
  have hl : done.flatten.length + cur.length = es.length := by rw [← h2, List.length_append]
  unfold nodes pend
  rw [h1]
  simp only
  split
  · rw [List.length_append, List.length_map, List.length_singleton]; omega
  · rw [List.length_map]; omega
/-- the pages above a level whose pages have these first keys -/
def levs (lv : Nat) (fs : List Nat) : Nat :=
  if h : fs.length ≤ 1 then 0 else (nodes lv (entsOf fs)).length + levs (lv + 1) (firsts fs (nodes lv (entsOf fs)))
termination_by fs.length
decreasing_by
  rw [firsts_len]
  have := nodes_half lv (entsOf fs)
  rw [entsOf_len] at this
  omega
theorem levs_one {lv : Nat} {fs : List Nat} (h : fs.length ≤ 1) : levs lv fs = 0 := by rw [levs]; simp [h]
theorem levs_more {lv : Nat} {fs : List Nat} (h : ¬ fs.length ≤ 1) : levs lv fs = (nodes lv (entsOf fs)).length + levs (lv + 1) (firsts fs (nodes lv (entsOf fs))) := by rw [levs]; simp [h]
theorem levs_le (n : Nat) : ∀ (lv : Nat) (fs : List Nat), fs.length = n → levs lv fs ≤ 2 * n - 2 := by
  induction n using Nat.strongRecOn with
  | ind n ih =>
    intro lv fs hf
    by_cases h : fs.length ≤ 1
    · rw [levs_one h]; omega
    · rw [levs_more h]
      have h1 := nodes_half lv (entsOf fs)
      rw [entsOf_len] at h1
      have h2 := ih (nodes lv (entsOf fs)).length (by omega) (lv + 1) (firsts fs (nodes lv (entsOf fs))) (firsts_len _ _)
      have h3 : 1 ≤ (nodes lv (entsOf fs)).length := by
        have hc := nodes_cover lv (entsOf fs)
        rcases Nat.eq_zero_or_pos (nodes lv (entsOf fs)).length with h0 | h0
        · have hn := List.eq_nil_of_length_eq_zero h0
          have := hc.sum
          rw [hn, entsOf_len] at this
          have e0 : sumA ([] : List Sht) = 0 := rfl
          omega
        · exact h0
      omega
/-- how many pages a list's tree has -/
def keysL (l : List CellS) : List Nat := l.map CellS.key
theorem keysL_len (l : List CellS) : (keysL l).length = l.length := by simp [keysL]
def pagesN (b : Nat) (l : List CellS) : Nat := (leaves b l).length + levs 1 (firsts (keysL l) (leaves b l))
theorem pagesN_le (b : Nat) (l : List CellS) : pagesN b l ≤ 3 * l.length := by
  unfold pagesN
  have h1 := leaves_len b l
  have h2 := levs_le _ 1 (firsts (keysL l) (leaves b l)) rfl
  rw [firsts_len] at h2
  omega
theorem rising_strict {l : List CellS} (h : risingC l = true) : StrictL (keysL l) := by
  rw [risingC_iff] at h
  intro j hj
  rw [keysL_len] at hj
  exact h j hj
theorem right_rising {S : Sch} {mask : Nat} {l : List CellS} (h : rightL S mask l = true) : risingC l = true := by
  unfold rightL at h
  simp only [Bool.and_eq_true] at h
  exact h.1.2
end Go.Proofs.Ytfhmaincnlaapaa
