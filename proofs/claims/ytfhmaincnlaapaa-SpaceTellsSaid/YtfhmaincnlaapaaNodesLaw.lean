/-
  THE NODES READ BACK: each node reads as its entries; the nodes' entries are all entries; there are fewer nodes than entries.
-/
import Derived.Test.YtfhmaincnlaapaaNodesPure
import Derived.Test.YtfhmaincnlaapaaReadPure
import Derived.Test.YtfhmaincnlaapaaTreeAwake
namespace Go.Proofs.Ytfhmaincnlaapaa
open Go.ChangeShapes Go.WideShapes Go.ChangeAt Go.RowKit
set_option linter.unusedVariables false

/-- some entries' node -/
def mkN (lv : Nat) (g : List (Nat × Int)) : Sht := ⟨4, g.length, lv, g.flatMap encE⟩
theorem encE_two (x : Nat × Int) : 2 ≤ (encE x).length := by unfold encE; rw [List.length_append, encU_length, encU_length]; omega
theorem encG_len (g : List (Nat × Int)) : 2 * g.length ≤ (g.flatMap encE).length ∧ (g.flatMap encE).length ≤ 18 * g.length := by
  induction g with
  | nil => simp
  | cons x g ih =>
    rw [List.flatMap_cons, List.length_append, List.length_cons]
    have := encE_two x; have := encE_len x
    omega
/-- what the pack's state says -/
def NInv (lv : Nat) (l : List (Nat × Int)) (done : List (List (Nat × Int))) (cur : List (Nat × Int)) : Prop :=
  nst lv l = (done.map (mkN lv), cur.length, cur.flatMap encE) ∧ done.flatten ++ cur = l ∧ (∀ g ∈ done, 2 ≤ g.length ∧ (g.flatMap encE).length ≤ 1001) ∧ (cur.flatMap encE).length ≤ 1001 ∧ (l ≠ [] → cur ≠ [])
theorem ninv (lv : Nat) (l : List (Nat × Int)) : ∃ done cur, NInv lv l done cur := by
  refine snoc_ind (p := fun l => ∃ done cur, NInv lv l done cur) ⟨[], [], rfl, rfl, by simp, by simp, fun h => absurd rfl h⟩ (fun l x ih => ?_) l
  obtain ⟨done, cur, h1, h2, h3, h4, h5⟩ := ih
  have hx := encE_len x
  have hg := encG_len cur
  have e0 : nst lv (l ++ [x]) = pput 4 lv (done.map (mkN lv), cur.length, cur.flatMap encE) (encE x) (decide (2 ≤ cur.length) && brkB x.1 lv) := by rw [nst_snoc, h1]; rfl
  by_cases hc : (decide (2 ≤ cur.length) && brkB x.1 lv) = true ∨ 1001 < (cur.flatMap encE).length + (encE x).length
  · have e1 : nst lv (l ++ [x]) = (if 0 < cur.length then done.map (mkN lv) ++ [mkN lv cur] else done.map (mkN lv), 1, encE x) := by rw [e0]; unfold pput; rw [if_pos hc]; rfl
    have h2c : 2 ≤ cur.length := by
      rcases hc with hc | hc
      · simp only [Bool.and_eq_true, decide_eq_true_eq] at hc; exact hc.1
      · omega
    rw [if_pos (by omega)] at e1
    refine ⟨done ++ [cur], [x], by rw [e1]; simp, by rw [List.flatten_append, ← h2]; simp, fun g hgm => ?_, by simp; omega, fun _ => by simp⟩
    rw [List.mem_append] at hgm
    rcases hgm with hgm | hgm
    · exact h3 g hgm
    · simp only [List.mem_singleton] at hgm; subst hgm; exact ⟨h2c, h4⟩
  · have e1 : nst lv (l ++ [x]) = (done.map (mkN lv), cur.length + 1, cur.flatMap encE ++ encE x) := by rw [e0]; unfold pput; rw [if_neg hc]
    refine ⟨done, cur ++ [x], by rw [e1]; simp, by rw [← List.append_assoc, h2], h3, ?_, fun _ => by simp⟩
    simp only [not_or, Nat.not_lt] at hc
    rw [List.flatMap_append, List.length_append]
    simp only [List.flatMap_cons, List.flatMap_nil, List.append_nil]
    omega
/-- the groups of entries that the nodes hold -/
theorem nodes_groups (lv : Nat) (l : List (Nat × Int)) : ∃ gs : List (List (Nat × Int)), nodes lv l = gs.map (mkN lv) ∧ gs.flatten = l ∧ (∀ g ∈ gs, g ≠ [] ∧ (g.flatMap encE).length ≤ 1001) ∧ (2 ≤ l.length → gs.length < l.length) := by
  obtain ⟨done, cur, h1, h2, h3, h4, h5⟩ := ninv lv l
  by_cases hl : l = []
  · subst hl
    have hc : cur = [] := by cases cur; rfl; simp at h2
    have hd : done.flatten = [] := by rw [hc] at h2; simpa using h2
    have hd2 : done = [] := by
      cases done with
      | nil => rfl
      | cons g t => have := (h3 g (by simp)).1; simp at hd; rw [hd.1] at this; simp at this
    subst hc hd2
    exact ⟨[], by unfold nodes; rw [h1]; rfl, rfl, by simp, by simp⟩
  · have hc := h5 hl
    have hcl : 0 < cur.length := by cases cur; exact absurd rfl hc; simp
    refine ⟨done ++ [cur], by unfold nodes pend; rw [h1]; simp only; rw [if_pos hcl]; simp [mkN], by rw [List.flatten_append, ← h2]; simp, fun g hg => ?_, fun h => ?_⟩
    · rw [List.mem_append] at hg
      rcases hg with hg | hg
      · have := h3 g hg; exact ⟨by intro e; rw [e] at this; simp at this, this.2⟩
      · simp only [List.mem_singleton] at hg; subst hg; exact ⟨hc, h4⟩
    · have hlen : 2 * done.length ≤ done.flatten.length := by
        clear h1 h2
        induction done with
        | nil => simp
        | cons g t ih =>
          have := (h3 g (by simp)).1
          have := ih (fun g' hg' => h3 g' (by simp [hg']))
          simp only [List.flatten_cons, List.length_append, List.length_cons]; omega
      have : l.length = done.flatten.length + cur.length := by rw [← h2, List.length_append]
      rw [List.length_append, List.length_singleton]; omega

def okE (x : Nat × Int) : Prop := x.1 < 18446744073709551616 ∧ 1 ≤ x.2 ∧ x.2 ≤ 8192
theorem inU_enc (t : List UInt8) (p x most : Nat) (m : List UInt8) (hx : x < 18446744073709551616) (hm : x ≤ most) (h : t.drop p = encU x ++ m) : inU t p 0 most = (x, p + (encU x).length, 0) := by
  have hg := getU_enc x hx m
  have hk : stepE 0 (getU (t.drop p)).2.2 (overE (getU (t.drop p)).1 most) = 0 := by
    rw [h, hg]
    show (if (0 : Nat) ≠ 0 then 0 else if (0 : Nat) ≠ 0 then 0 else if most < x then 2 else 0) = 0
    rw [if_neg (by omega), if_neg (by omega), if_neg (by omega)]
  unfold inU; rw [hk, h, hg, encU_length]; unfold stepV stepP; rw [if_pos rfl, if_pos rfl]
theorem rstep_enc (t : List UInt8) (p : Nat) (acc : List (Nat × Int)) (x : Nat × Int) (m : List UInt8) (hx : okE x) (h : t.drop p = encE x ++ m) : rstep t (p, 0, acc) = (p + (encE x).length, 0, acc ++ [x]) := by
  obtain ⟨f, q⟩ := x
  obtain ⟨h1, h2, h3⟩ := hx
  obtain ⟨n, rfl⟩ := Int.eq_ofNat_of_zero_le (show 0 ≤ q by simp only at h2; omega)
  simp only at h1 h2 h3
  unfold encE at h ⊢
  simp only [Int.toNat_natCast] at h ⊢
  rw [List.append_assoc] at h
  have e1 : rx t (p, 0, acc) = (f, p + (encU f).length, 0) := inU_enc t p f umax _ h1 (by unfold umax; omega) h
  have h' : t.drop (p + (encU f).length) = encU n ++ m := by rw [← List.drop_drop, h, List.drop_left]
  have e2 : ry t (p, 0, acc) = (n, p + (encU f).length + (encU n).length, 0) := by unfold ry; rw [e1]; exact inU_enc t _ n 8192 m (by omega) (by omega) h'
  unfold rstep
  rw [e1, e2]
  simp only [List.length_append]
  rw [Nat.add_assoc]
theorem rst_enc (g : List (Nat × Int)) (hg : ∀ x ∈ g, okE x) (k : Nat) (hk : k ≤ g.length) : rst (g.flatMap encE) k = (((g.take k).flatMap encE).length, 0, g.take k) := by
  induction k with
  | zero => rfl
  | succ k ih =>
    have hlt : k < g.length := by omega
    rw [rst_succ, ih (by omega)]
    have hd : (g.flatMap encE).drop ((g.take k).flatMap encE).length = encE g[k] ++ (g.drop (k + 1)).flatMap encE := by
      have : g.flatMap encE = (g.take k).flatMap encE ++ (encE g[k] ++ (g.drop (k + 1)).flatMap encE) := by
        rw [← List.flatMap_cons, ← List.drop_eq_getElem_cons hlt, ← List.flatMap_append, List.take_append_drop]
      rw [this, List.drop_left]
    rw [rstep_enc _ _ _ g[k] _ (hg _ (List.getElem_mem hlt)) hd, List.take_succ_eq_append_getElem hlt, List.flatMap_append, List.length_append]
    simp
theorem rise_infix (a g b : List (Nat × Int)) (h : riseB (a ++ g ++ b) = true) : riseB g = true := by
  rw [riseB_iff] at h ⊢
  intro k hk
  have hat : ∀ j (hj : j < g.length), (a ++ g ++ b)[a.length + j]? = some g[j] := fun j hj => by
    rw [List.append_assoc, List.getElem?_append_right (by omega), Nat.add_sub_cancel_left, List.getElem?_append_left hj, List.getElem?_eq_getElem hj]
  have hl : a.length + k < (a ++ g ++ b).length := by simp; omega
  have := h (a.length + k) hl
  cases k with
  | zero =>
    rw [okAt_zero g hk]
    have e := hat 0 hk
    unfold okAt at this
    rw [e] at this
    simp only [Bool.and_eq_true] at this ⊢
    exact this.1
  | succ k =>
    rw [okAt_succ g k hk]
    have e1 := hat (k + 1) hk
    have e0 := hat k (by omega)
    rw [← Nat.add_assoc] at this e1
    rw [okAt_succ _ _ (by rw [← Nat.add_assoc] at hl; exact hl)] at this
    rw [List.getElem?_eq_getElem (by rw [← Nat.add_assoc] at hl; exact hl)] at e1
    rw [List.getElem?_eq_getElem (by omega)] at e0
    injection e1 with e1
    injection e0 with e0
    rw [e1, e0] at this
    exact this
theorem rnode_mkN (lv : Nat) (g : List (Nat × Int)) (h1 : 1 ≤ lv) (h2 : lv ≤ 60) (hne : g ≠ []) (hl : (g.flatMap encE).length ≤ 1001) (hg : ∀ x ∈ g, okE x) (hr : riseB g = true) : rnode (mkN lv g) = ((lv : Int), g, 0) := by
  have hlen := encG_len g
  have h0 : 0 < g.length := by cases g; exact absurd rfl hne; simp
  have hh : headB 4 g.length lv = true := by unfold headB; simp; omega
  have hrst := rst_enc g hg g.length (Nat.le_refl _)
  rw [List.take_length] at hrst
  have hend : endE (g.flatMap encE) (g.flatMap encE).length 0 = 0 := by unfold endE; simp
  unfold rnode mkN
  simp only
  rw [if_neg (by rw [hh]; simp), hrst]
  simp only
  rw [if_neg (by rw [hend]; simp), if_neg (by rw [hr]; simp)]
end Go.Proofs.Ytfhmaincnlaapaa
