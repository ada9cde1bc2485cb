/-
  A REGION THAT DRAWS ITS ORDER: whatever order, one outcome.
-/
import Derived.Test.YtfhmaincnlaapaaAoSy10
namespace Go.Proofs.Ytfhmaincnlaapaa.Sy
open Go.ChangeShapes Go.WideShapes Go.ChangeAt Go.RowKit
set_option linter.unusedVariables false

/-- of the feet only those that D names, from number i on -/
def appD (D : Nat → Bool) : Nat → List Foot → AS → AS
  | _, [], σ => σ
  | i, f :: fs, σ => appD D (i + 1) fs (bif D i then f.app σ else σ)
theorem app_lk (f : Foot) (σ : AS) (t : Nat) : lk (f.app σ).S t = if f.dst = some t then f.val else lk σ.S t := by
  unfold Foot.app AS.app
  cases hd : f.dst with
  | none => simp
  | some d =>
    simp only [Option.some.injEq]
    conv => lhs; unfold lk
theorem app_lo (f : Foot) (σ : AS) (q : Nat) : lo (f.app σ).O q = match lo f.wo q with | some x => some x | none => lo σ.O q := lo_append _ _ _
theorem app_nt (f : Foot) (σ : AS) : (f.app σ).nt = σ.nt := rfl
theorem appD_nt (D : Nat → Bool) : ∀ (fs : List Foot) (i : Nat) (σ : AS), (appD D i fs σ).nt = σ.nt
  | [], _, _ => rfl
  | f :: fs, i, σ => by unfold appD; rw [appD_nt D fs]; cases D i <;> rfl
theorem appD_pk (D : Nat → Bool) : ∀ (fs : List Foot) (i : Nat) (σ : AS), (appD D i fs σ).pk = σ.pk
  | [], _, _ => rfl
  | f :: fs, i, σ => by unfold appD; rw [appD_pk D fs]; cases D i <;> rfl
theorem app_pk (f : Foot) (σ : AS) : (f.app σ).pk = σ.pk := rfl
theorem appD_lk (D D' : Nat → Bool) (t : Nat) : ∀ (fs : List Foot) (i : Nat) (σ σ' : AS), lk σ.S t = lk σ'.S t → (∀ k f, fs[k]? = some f → f.dst = some t → D (i + k) = D' (i + k)) → lk (appD D i fs σ).S t = lk (appD D' i fs σ').S t
  | [], _, _, _, h, _ => h
  | f :: fs, i, σ, σ', h, hD => by
    unfold appD
    refine appD_lk D D' t fs (i + 1) _ _ ?_ fun k g hk hg => by have := hD (k + 1) g hk hg; rwa [show i + (k + 1) = i + 1 + k by omega] at this
    by_cases hf : f.dst = some t
    · have h0 := hD 0 f rfl hf
      simp only [Nat.add_zero] at h0
      rw [h0]
      cases D' i
      · exact h
      · show lk (f.app σ).S t = lk (f.app σ').S t; rw [app_lk, app_lk, if_pos hf, if_pos hf]
    · have e : ∀ τ : AS, lk (f.app τ).S t = lk τ.S t := fun τ => by rw [app_lk, if_neg hf]
      cases D i <;> cases D' i <;> simp only [cond_true, cond_false, e] <;> exact h
theorem appD_lo (D D' : Nat → Bool) (q : Nat) : ∀ (fs : List Foot) (i : Nat) (σ σ' : AS), lo σ.O q = lo σ'.O q → (∀ k f, fs[k]? = some f → lo f.wo q ≠ none → D (i + k) = D' (i + k)) → lo (appD D i fs σ).O q = lo (appD D' i fs σ').O q
  | [], _, _, _, h, _ => h
  | f :: fs, i, σ, σ', h, hD => by
    unfold appD
    refine appD_lo D D' q fs (i + 1) _ _ ?_ fun k g hk hg => by have := hD (k + 1) g hk hg; rwa [show i + (k + 1) = i + 1 + k by omega] at this
    by_cases hf : lo f.wo q = none
    · have e : ∀ τ : AS, lo (f.app τ).O q = lo τ.O q := fun τ => by rw [app_lo, hf]
      cases D i <;> cases D' i <;> simp only [cond_true, cond_false, e] <;> exact h
    · have h0 := hD 0 f rfl hf
      simp only [Nat.add_zero] at h0
      rw [h0]
      obtain ⟨x, hx⟩ := Option.ne_none_iff_exists'.1 hf
      cases D' i
      · exact h
      · show lo (f.app σ).O q = lo (f.app σ').O q; rw [app_lo, app_lo, hx]
/-- one more -/
theorem appD_add_lk (D : Nat → Bool) (j t : Nat) (g : Foot) : ∀ (fs : List Foot) (i : Nat) (σ : AS), D j = false → fs[j - i]? = some g → i ≤ j → (∀ k f, fs[k]? = some f → j < i + k → D (i + k) = true → ¬ (f.dst = some t ∧ g.dst = some t)) →
    lk (appD (fun x => D x || x == j) i fs σ).S t = if g.dst = some t then g.val else lk (appD D i fs σ).S t := by
  intro fs
  induction fs with
  | nil => intro i σ _ h; simp at h
  | cons f fs ih =>
    intro i σ hj hg hij hno
    unfold appD
    by_cases hi : i = j
    · subst hi
      simp only [Nat.sub_self, List.getElem?_cons_zero, Option.some.injEq] at hg
      subst hg
      simp only [hj, beq_self_eq_true, Bool.or_true, cond_true, cond_false]
      by_cases hf : f.dst = some t
      · rw [if_pos hf]
        have h1 := appD_lk (fun x => D x || x == i) (fun _ => false) t fs (i + 1) (f.app σ) (f.app σ) rfl (fun k e hk he => by
          have h2 := hno (k + 1) e hk (by omega)
          rw [show i + (k + 1) = i + 1 + k by omega] at h2
          have h3 : (i + 1 + k == i) = false := by rw [beq_eq_false_iff_ne]; omega
          cases h4 : D (i + 1 + k)
          · simp only [h3, Bool.or_false]
          · exact absurd ⟨he, hf⟩ (h2 h4))
        rw [h1]
        have h5 : ∀ (l : List Foot) (n : Nat) (τ : AS), appD (fun _ => false) n l τ = τ := by
          intro l; induction l with
          | nil => intro n τ; rfl
          | cons e l ih2 => intro n τ; unfold appD; exact ih2 _ _
        rw [h5, app_lk, if_pos hf]
      · rw [if_neg hf]
        refine appD_lk _ _ t fs (i + 1) _ _ (by rw [app_lk, if_neg hf]) fun k e hk he => ?_
        have h3 : (i + 1 + k == i) = false := by rw [beq_eq_false_iff_ne]; omega
        simp only [h3, Bool.or_false]
    · have h3 : (i == j) = false := by rw [beq_eq_false_iff_ne]; exact hi
      simp only [h3, Bool.or_false]
      refine ih (i + 1) _ hj (by rw [← hg]; rw [show j - i = (j - (i + 1)) + 1 by omega]; rfl) (by omega) fun k e hk hlt hD => ?_
      exact hno (k + 1) e hk (by omega) (by rwa [show i + (k + 1) = i + 1 + k by omega])
theorem appD_add_lo (D : Nat → Bool) (j q : Nat) (g : Foot) : ∀ (fs : List Foot) (i : Nat) (σ : AS), D j = false → fs[j - i]? = some g → i ≤ j → (∀ k f, fs[k]? = some f → j < i + k → D (i + k) = true → ¬ (lo f.wo q ≠ none ∧ lo g.wo q ≠ none)) →
    lo (appD (fun x => D x || x == j) i fs σ).O q = match lo g.wo q with | some x => some x | none => lo (appD D i fs σ).O q := by
  intro fs
  induction fs with
  | nil => intro i σ _ h; simp at h
  | cons f fs ih =>
    intro i σ hj hg hij hno
    unfold appD
    by_cases hi : i = j
    · subst hi
      simp only [Nat.sub_self, List.getElem?_cons_zero, Option.some.injEq] at hg
      subst hg
      simp only [hj, beq_self_eq_true, Bool.or_true, cond_true, cond_false]
      cases hf : lo f.wo q with
      | some x =>
        simp only
        have h1 := appD_lo (fun x => D x || x == i) (fun _ => false) q fs (i + 1) (f.app σ) (f.app σ) rfl (fun k e hk he => by
          have h2 := hno (k + 1) e hk (by omega)
          rw [show i + (k + 1) = i + 1 + k by omega] at h2
          have h3 : (i + 1 + k == i) = false := by rw [beq_eq_false_iff_ne]; omega
          cases h4 : D (i + 1 + k)
          · simp only [h3, Bool.or_false]
          · exact absurd ⟨he, by rw [hf]; simp⟩ (h2 h4))
        rw [h1]
        have h5 : ∀ (l : List Foot) (n : Nat) (τ : AS), appD (fun _ => false) n l τ = τ := by
          intro l; induction l with
          | nil => intro n τ; rfl
          | cons e l ih2 => intro n τ; unfold appD; exact ih2 _ _
        rw [h5, app_lo, hf]
      | none =>
        simp only
        refine appD_lo _ _ q fs (i + 1) _ _ (by rw [app_lo, hf]) fun k e hk he => ?_
        have h3 : (i + 1 + k == i) = false := by rw [beq_eq_false_iff_ne]; omega
        simp only [h3, Bool.or_false]
    · have h3 : (i == j) = false := by rw [beq_eq_false_iff_ne]; exact hi
      simp only [h3, Bool.or_false]
      refine ih (i + 1) _ hj (by rw [← hg]; rw [show j - i = (j - (i + 1)) + 1 by omega]; rfl) (by omega) fun k e hk hlt hD => ?_
      exact hno (k + 1) e hk (by omega) (by rwa [show i + (k + 1) = i + 1 + k by omega])
theorem St.congr {M : Cx} {w0 : World} {σ σ' : AS} {a : Act} {w : World} (h : St M w0 σ a w) (hn : σ'.nt = σ.nt ∧ σ'.pk = σ.pk) (hS : ∀ t, lk σ'.S t = lk σ.S t) (hO : ∀ q, lo σ'.O q = lo σ.O q) : St M w0 σ' a w := by
  obtain ⟨E, rfl, hN⟩ := h
  exact ⟨E, rfl, hN.df, by rw [hn.1]; exact hN.sz, by rw [hN.ob]; exact (funext hO).symm, hN.mem, hN.aft, by rw [hn.2]; exact hN.pkk, fun t => by rw [hS]; exact hN.sl t⟩
theorem St.drew {M : Cx} {w0 : World} {σ : AS} {a : Act} {w : World} (h : St M w0 σ a w) : St M w0 σ a w.drew := by
  obtain ⟨E, rfl, hN⟩ := h
  have hb : Below E.w.heap.size E.w E.w.drew := (belR E.w).drew
  obtain ⟨hm, ha⟩ := hN.mem.grow hb E.F (fun b hb => .inl hb) (fun b hb => hb)
  exact ⟨⟨E.w.drew, E.F, E.β, E.ν, E.ob⟩, rfl, hN.df, hN.sz, hN.ob, hm, hN.aft.trans ha, hN.pkk, fun t => (hN.sl t).after ha⟩
/-! ### what is checked of a region -/
def predsB (o : Oper) : List Nat := o.after.toList.filterMap fun e => if Region.binds .any e then some e.on else none
def apartB (f g : Foot) : Bool :=
  (match f.dst with | some d => !g.temps.contains d && !(g.dst == some d) | none => true) && (match g.dst with | some d => !f.temps.contains d | none => true) &&
  (f.wo.all fun p => !g.ids.contains p.1) && (g.wo.all fun p => !f.ids.contains p.1)
/-- j waits for i: by the masks -/
def maskB (bm : Array Nat) (i j : Nat) : Bool := (bm.getD j 0).testBit i
def maskOk (ops : List Oper) (bm : Array Nat) (n : Nat) : Bool :=
  (List.range n).all fun j => match ops[j]? with
    | some o => (predsB o).all (fun p => Nat.blt p j) && (List.range n).all fun i => !maskB bm i j || (predsB o).contains i || (predsB o).any fun p => maskB bm i p
    | none => true
def pairsOk (fs : List Foot) (bm : Array Nat) (n : Nat) : Bool :=
  (List.range n).all fun j => (List.range j).all fun i => match fs[i]?, fs[j]? with
    | some f, some g => apartB f g || maskB bm i j
    | _, _ => true
def ownIds (fs : List Foot) : Bool := fs.all fun f => f.wo.all fun p => f.ids.contains p.1
def drawOk (ops : List Oper) (fs : List Foot) (bm : Array Nat) : Bool := ownIds fs && (maskOk ops bm ops.length && pairsOk fs bm ops.length)
theorem mask_in {ops : List Oper} {bm : Array Nat} {D : Nat → Bool} (hm : maskOk ops bm ops.length = true) (hD : ∀ j o, ops[j]? = some o → D j = true → ∀ p ∈ predsB o, D p = true) (i : Nat) (hi : i < ops.length) : ∀ n j o, j < n → ops[j]? = some o → (∀ p ∈ predsB o, D p = true) → maskB bm i j = true → D i = true := by
  intro n
  induction n with
  | zero => intro j o h; omega
  | succ n ih =>
    intro j o hjn ho hp hb
    have hj : j < ops.length := lt_of_some ho
    have h1 := List.all_eq_true.1 hm j (List.mem_range.2 hj)
    simp only [ho, Bool.and_eq_true] at h1
    obtain ⟨h2, h3⟩ := h1
    have h4 := List.all_eq_true.1 h3 i (List.mem_range.2 hi)
    simp only [hb, Bool.not_true, Bool.false_or, Bool.or_eq_true] at h4
    rcases h4 with h4 | h4
    · exact hp i (List.contains_iff_mem.1 h4)
    · obtain ⟨p, hpm, hpb⟩ := List.any_eq_true.1 h4
      have hlt := List.all_eq_true.1 h2 p hpm
      simp only [Nat.blt_eq] at hlt
      obtain ⟨op, hop⟩ := getElem?_of (l := ops) (j := p) (by omega)
      exact ih p op (by omega) hop (hD p op hop (hp p hpm)) hpb
theorem apartB_spec {f g : Foot} (h : apartB f g = true) : (∀ d, f.dst = some d → d ∉ g.temps ∧ g.dst ≠ some d) ∧ (∀ d, g.dst = some d → d ∉ f.temps) ∧ (∀ q, lo f.wo q ≠ none → q ∉ g.ids) ∧ (∀ q, lo g.wo q ≠ none → q ∉ f.ids) := by
  unfold apartB at h
  simp only [Bool.and_eq_true] at h
  obtain ⟨⟨⟨h1, h2⟩, h3⟩, h4⟩ := h
  refine ⟨fun d hd => ?_, fun d hd => ?_, fun q hq => ?_, fun q hq => ?_⟩
  · rw [hd] at h1; simp only [Bool.and_eq_true, Bool.not_eq_true'] at h1
    exact ⟨fun hm => (by rw [List.contains_iff_mem.2 hm] at h1; cases h1.1), fun he => (by rw [he] at h1; simp at h1)⟩
  · rw [hd] at h2; simp only [Bool.not_eq_true'] at h2
    exact fun hm => by rw [List.contains_iff_mem.2 hm] at h2; cases h2
  · obtain ⟨x, hx⟩ := Option.ne_none_iff_exists'.1 hq
    have := List.all_eq_true.1 h3 _ (mem_of_lo hx)
    simp only [Bool.not_eq_true'] at this
    exact fun hm => by rw [List.contains_iff_mem.2 hm] at this; cases this
  · obtain ⟨x, hx⟩ := Option.ne_none_iff_exists'.1 hq
    have := List.all_eq_true.1 h4 _ (mem_of_lo hx)
    simp only [Bool.not_eq_true'] at this
    exact fun hm => by rw [List.contains_iff_mem.2 hm] at this; cases this
/-- the feet of a run: each is the step's from the state behind those before it -/
theorem runF_feet {P : Program} {H : List (Nat × Hint)} {ops : Array Oper} : ∀ {l : List Oper} {σ σ' : AS} {vc : List Prop} {fs : List Foot}, runF P H ops l σ = some (σ', vc, fs) → allP vc →
    fs.length = l.length ∧ (∀ i, σ' = appD (fun _ => true) i fs σ) ∧ ∀ (j : Nat) (o : Oper), l[j]? = some o → ∃ f v, fs[j]? = some f ∧ allP v ∧ ∀ i, stepF P H ops o (appD (fun k => Nat.blt k (i + j)) i fs σ) = some (f, v)
  | [], σ, σ', vc, fs, h, hv => by
    injection h with h; injection h with h1 h2; injection h2 with h2 h3; subst h1; subst h3
    exact ⟨rfl, fun _ => rfl, fun j o hj => by simp at hj⟩
  | o :: l, σ, σ', vc, fs, h, hv => by
    simp only [runF] at h
    split at h
    · rename_i f vc1 hf
      split at h
      · rename_i σ1 vc2 fs2 hr
        injection h with h; injection h with h1 h2; injection h2 with h2 h3; subst h1; subst h2; subst h3
        obtain ⟨v1, v2⟩ := allP_append.1 hv
        obtain ⟨i1, i2, i3⟩ := runF_feet hr v2
        refine ⟨by simp [i1], fun i => by unfold appD; simp only [cond_true]; exact i2 (i + 1), fun j o' hj => ?_⟩
        cases j with
        | zero =>
          simp only [List.getElem?_cons_zero, Option.some.injEq] at hj
          subst hj
          refine ⟨f, vc1, rfl, v1, fun i => ?_⟩
          have h5 : ∀ (l : List Foot) (n : Nat) (τ : AS), i < n → appD (fun k => Nat.blt k (i + 0)) n l τ = τ := by
            intro l; induction l with
            | nil => intro n τ _; rfl
            | cons e l ih2 =>
              intro n τ hn; unfold appD
              have : Nat.blt n (i + 0) = false := by rw [Bool.eq_false_iff, ne_eq, Nat.blt_eq]; omega
              rw [this]; exact ih2 _ _ (by omega)
          have h6 : Nat.blt i (i + 0) = false := by rw [Bool.eq_false_iff, ne_eq, Nat.blt_eq]; omega
          unfold appD
          rw [h6, cond_false, h5 _ _ _ (by omega)]; exact hf
        | succ j =>
          obtain ⟨g, v, g1, g2, g3⟩ := i3 j o' (by simpa using hj)
          refine ⟨g, v, by simpa using g1, g2, fun i => ?_⟩
          have h6 : Nat.blt i (i + (j + 1)) = true := by rw [Nat.blt_eq]; omega
          unfold appD
          rw [h6, cond_true, show i + (j + 1) = i + 1 + j by omega]; exact g3 (i + 1)
      · cases h
    · cases h
theorem cnt_set : ∀ (l : List Bool) (i : Nat), l[i]? = some false → ((l.set i true).filter (fun b => !b)).length + 1 = (l.filter (fun b => !b)).length
  | [], i, h => by simp at h
  | b :: l, 0, h => by simp at h; subst h; simp
  | b :: l, i + 1, h => by
    have := cnt_set l i (by simpa using h)
    cases b
    · simp only [List.set_cons_succ, List.filter_cons, Bool.not_false, if_true, List.length_cons]; omega
    · simp only [List.set_cons_succ, List.filter_cons, Bool.not_true, Bool.false_eq_true, if_false]; exact this
theorem cnt_zero {l : List Bool} (h : (l.filter (fun b => !b)).length = 0) (k : Nat) : l[k]? ≠ some false := by
  intro hk
  have h1 := List.eq_nil_of_length_eq_zero h
  have h2 : false ∈ l.filter (fun b => !b) := List.mem_filter.2 ⟨List.mem_of_getElem? hk, rfl⟩
  rw [h1] at h2; cases h2
theorem region_any {P : Program} {H : List (Nat × Hint)} {id : Nat} {ops : Array Oper} {M : Cx} {w0 : World} {Q : Exit → Act → World → Prop} {σ σ' : AS} {vc : List Prop} {fs : List Foot} (hmo : P.follows .mixedOrders = true) (h : runF P H ops ops.toList σ = some (σ', vc, fs)) (hc : drawOk ops.toList fs (Region.before ops) = true)
    (hv : allP vc) {a : Act} {w : World} (hs : St M w0 σ a w) (hQ : ∀ a' w', St M w0 σ' a' w' → Q .normal a' w') : (Code.region id ops true).wp P Q a w := by
  refine wp_region_any hmo ?_
  obtain ⟨hl, hend, hfeet⟩ := runF_feet h hv
  unfold drawOk at hc
  rw [Bool.and_eq_true, Bool.and_eq_true] at hc
  obtain ⟨hown, hmask, hpairs⟩ := hc
  generalize hbm : Region.before ops = bm at *
  have hlen : ops.toList.length = ops.size := Array.length_toList
  have hpair : ∀ i j f g, i < j → fs[i]? = some f → fs[j]? = some g → apartB f g = true ∨ maskB bm i j = true := fun i j f g hij hf hg => by
    have h1 := List.all_eq_true.1 hpairs j (List.mem_range.2 (by rw [← hl]; exact lt_of_some hg))
    have h2 := List.all_eq_true.1 h1 i (List.mem_range.2 hij)
    simp only [hf, hg, Bool.or_eq_true] at h2
    exact h2
  have hwoid : ∀ (j : Nat) (f : Foot) (q : Nat), fs[j]? = some f → lo f.wo q ≠ none → q ∈ f.ids := fun j f q hf hq => by
    obtain ⟨x, hx⟩ := Option.ne_none_iff_exists'.1 hq
    have h1 := List.all_eq_true.1 hown f (List.mem_of_getElem? hf)
    exact List.contains_iff_mem.1 (List.all_eq_true.1 h1 _ (mem_of_lo hx))
  -- whatever has been carried out
  have key : ∀ (fuel : Nat) (listed : Array Bool) (a : Act) (w : World), listed.size = ops.size → (listed.toList.filter (fun b => !b)).length ≤ fuel →
      (∀ j o, ops.toList[j]? = some o → listed.getD j false = true → ∀ p ∈ predsB o, listed.getD p false = true) → St M w0 (appD (fun k => listed.getD k false) 0 fs σ) a w → wpAny P .any ops Q fuel listed a w := by
    have hfin : ∀ (listed : Array Bool) (a : Act) (w : World), listed.size = ops.size → (∀ k, k < ops.size → listed.getD k false = true) → St M w0 (appD (fun k => listed.getD k false) 0 fs σ) a w → Q .normal a w := fun listed a w hsz hall hst => by
      refine hQ a w (hst.congr ?_ (fun t => ?_) fun q => ?_)
      · rw [hend 0, appD_nt, appD_nt, appD_pk, appD_pk]; exact ⟨rfl, rfl⟩
      · rw [hend 0]
        exact appD_lk _ _ t fs 0 σ σ rfl fun k f hf _ => by simp only [Nat.zero_add]; exact (hall k (by rw [← hlen, ← hl]; exact lt_of_some hf)).symm
      · rw [hend 0]
        exact appD_lo _ _ q fs 0 σ σ rfl fun k f hf _ => by simp only [Nat.zero_add]; exact (hall k (by rw [← hlen, ← hl]; exact lt_of_some hf)).symm
    intro fuel
    induction fuel with
    | zero =>
      intro listed a w hsz hcnt hcl hst
      have hall : ∀ k, k < ops.size → listed.getD k false = true := fun k hk => by
        have h1 := cnt_zero (Nat.le_zero.1 hcnt) k
        rw [Array.getElem?_toList] at h1
        rw [Array.getD_eq_getD_getElem?]
        cases h2 : listed[k]? with
        | none => rw [Array.getElem?_eq_none_iff] at h2; omega
        | some b => cases b
                    · exact absurd h2 h1
                    · rfl
      refine ⟨?_, hfin listed a w hsz hall hst⟩
      apply List.eq_nil_iff_forall_not_mem.2
      intro i hi
      obtain ⟨h1, o, ho, _⟩ := mem_ready.1 hi
      have hlt : i < ops.size := (Array.getElem?_eq_some_iff.1 ho).1
      have h2 := hall i hlt
      rw [Array.getD_eq_getD_getElem?] at h1 h2
      rw [Array.getElem?_eq_getElem (by omega)] at h1 h2
      simp only [Option.getD_some] at h1 h2
      rw [h2] at h1; cases h1
    | succ fuel ih =>
      intro listed a w hsz hcnt hcl hst
      refine ⟨fun hr => ?_, fun i hi => ?_⟩
      · refine hfin listed a w hsz (fun k hk => ?_) hst
        -- the first that is not listed would be ready
        have hind : ∀ n k, k < n → k < ops.size → listed.getD k false = true := by
          intro n
          induction n with
          | zero => intro k h; omega
          | succ n ihn =>
            intro k hkn hk
            apply Classical.byContradiction
            intro hne
            obtain ⟨o, ho⟩ := getElem?_of (l := ops.toList) (j := k) (by omega)
            have ho' : ops[k]? = some o := by rw [← Array.getElem?_toList]; exact ho
            have hmem : k ∈ Region.ready .any ops listed := by
              refine mem_ready.2 ⟨?_, o, ho', fun e he hb => ?_⟩
              · rw [Array.getD_eq_getD_getElem?] at hne ⊢
                rw [Array.getElem?_eq_getElem (by omega)] at hne ⊢
                simpa using hne
              · have hp : e.on ∈ predsB o := List.mem_filterMap.2 ⟨e, Array.mem_toList_iff.2 he, by rw [if_pos hb]⟩
                have h1 := List.all_eq_true.1 hmask k (List.mem_range.2 (by omega))
                simp only [ho, Bool.and_eq_true] at h1
                have h2 := List.all_eq_true.1 h1.1 _ hp
                simp only [Nat.blt_eq] at h2
                exact ihn e.on (by omega) (by omega)
            rw [hr] at hmem; cases hmem
        exact hind (k + 1) k (by omega) hk
      · obtain ⟨hun, o, ho, hpre⟩ := mem_ready.1 hi
        have hlt : i < ops.size := (Array.getElem?_eq_some_iff.1 ho).1
        have hoL : ops.toList[i]? = some o := by rw [Array.getElem?_toList]; exact ho
        have hDi : listed.getD i false = false := by
          rw [Array.getD_eq_getD_getElem?] at hun ⊢
          rw [Array.getElem?_eq_getElem (by omega)] at hun ⊢
          simpa using hun
        have hpi : ∀ p ∈ predsB o, listed.getD p false = true := fun p hp => by
          obtain ⟨e, he, heq⟩ := List.mem_filterMap.1 hp
          split at heq
          · rename_i hb; injection heq with heq; rw [← heq]; exact hpre e (Array.mem_toList_iff.1 he) hb
          · cases heq
        obtain ⟨f, v, hf, hvv, hstep⟩ := hfeet i o hoL
        have hstep := hstep 0
        have hmi : ∀ k, k < ops.size → maskB bm k i = true → listed.getD k false = true := fun k hk hb => mask_in (D := fun k => listed.getD k false) hmask hcl k (by omega) (i + 1) i o (by omega) hoL hpi hb
        have hmk : ∀ k g, fs[k]? = some g → listed.getD k false = true → maskB bm i k = true → False := fun k g hg hk hb => by
          have hkl : k < ops.toList.length := by rw [← hl]; exact lt_of_some hg
          obtain ⟨ok, hok⟩ := getElem?_of hkl
          have := mask_in (D := fun k => listed.getD k false) hmask hcl i (by omega) (k + 1) k ok (by omega) hok (hcl k ok hok hk) hb
          simp only [hDi] at this; cases this
        have hagree : ∀ (k : Nat) (g : Foot), fs[k]? = some g → (k < i → apartB g f = false) → (i < k → apartB f g = false) → listed.getD (0 + k) false = Nat.blt (0 + k) (0 + i) := fun k g hg h1 h2 => by
          simp only [Nat.zero_add]
          have hks : k < ops.size := by rw [← hlen, ← hl]; exact lt_of_some hg
          rcases Nat.lt_trichotomy k i with h3 | h3 | h3
          · have h4 := h1 h3
            rcases hpair k i g f h3 hg hf with h5 | h5
            · rw [h4] at h5; cases h5
            · rw [hmi k hks h5]; exact (show Nat.blt k i = true by rw [Nat.blt_eq]; exact h3).symm
          · subst h3; rw [hDi]; exact (Bool.eq_false_iff.2 (by rw [ne_eq, Nat.blt_eq]; omega)).symm
          · have h4 := h2 h3
            have h6 : Nat.blt k i = false := Bool.eq_false_iff.2 (by rw [ne_eq, Nat.blt_eq]; omega)
            rw [h6]
            rcases hpair i k f g h3 hf hg with h5 | h5
            · rw [h4] at h5; cases h5
            · cases h7 : listed.getD k false
              · rfl
              · exact (hmk k g hg h7 h5).elim
        unfold wpOp
        simp only [ho]
        refine stepF_ok hstep hvv (by rw [appD_nt, appD_nt]) (fun t ht => ?_) (fun q hq => ?_) hst fun a' w' hs' => ?_
        · refine appD_lk _ _ t fs 0 σ σ rfl fun k g hg hgt => hagree k g hg (fun _ => ?_) (fun _ => ?_)
          · exact Bool.eq_false_iff.2 fun hap => ((apartB_spec hap).1 t hgt).1 ht
          · exact Bool.eq_false_iff.2 fun hap => (apartB_spec hap).2.1 t hgt ht
        · refine appD_lo _ _ q fs 0 σ σ rfl fun k g hg hgq => hagree k g hg (fun _ => ?_) (fun _ => ?_)
          · exact Bool.eq_false_iff.2 fun hap => (apartB_spec hap).2.2.1 q hgq hq
          · exact Bool.eq_false_iff.2 fun hap => (apartB_spec hap).2.2.2 q hgq hq
        · have hset : ∀ k, (listed.setIfInBounds i true).getD k false = (listed.getD k false || k == i) := fun k => by
            by_cases hk : i = k
            · subst hk
              rw [Array.getD_eq_getD_getElem?, Array.getElem?_setIfInBounds_self_of_lt (by omega)]
              simp
            · rw [Array.getD_eq_getD_getElem?, Array.getElem?_setIfInBounds_ne hk, ← Array.getD_eq_getD_getElem?]
              have : (k == i) = false := by rw [beq_eq_false_iff_ne]; exact fun e => hk e.symm
              rw [this, Bool.or_false]
          refine ih _ a' w' (by simp [hsz]) ?_ (fun j oj hoj hj p hp => ?_) (hs'.congr ?_ (fun t => ?_) fun q => ?_)
          · have := cnt_set listed.toList i (by rw [Array.getElem?_toList, Array.getElem?_eq_getElem (by omega)]; rw [Array.getD_eq_getD_getElem?, Array.getElem?_eq_getElem (by omega)] at hDi; simpa using hDi)
            rw [Array.toList_setIfInBounds]; omega
          · rw [hset] at hj ⊢
            rw [Bool.or_eq_true] at hj ⊢
            rcases hj with hj | hj
            · exact .inl (hcl j oj hoj hj p hp)
            · have : j = i := by simpa using hj
              subst this
              rw [hoL] at hoj; injection hoj with hoj; subst hoj
              exact .inl (hpi p hp)
          · rw [appD_nt, app_nt, appD_nt, appD_pk, app_pk, appD_pk]; exact ⟨rfl, rfl⟩
          · rw [app_lk, show (fun k => (listed.setIfInBounds i true).getD k false) = (fun k => listed.getD k false || k == i) from funext hset]
            refine appD_add_lk (fun k => listed.getD k false) i t f fs 0 σ hDi (by simpa using hf) (Nat.zero_le _) fun k g hg hlt2 hDk hh => ?_
            simp only [Nat.zero_add] at hlt2 hDk
            rcases hpair i k f g hlt2 hf hg with h5 | h5
            · exact ((apartB_spec h5).1 t hh.2).2 hh.1
            · exact hmk k g hg hDk h5
          · rw [app_lo, show (fun k => (listed.setIfInBounds i true).getD k false) = (fun k => listed.getD k false || k == i) from funext hset]
            refine appD_add_lo (fun k => listed.getD k false) i q f fs 0 σ hDi (by simpa using hf) (Nat.zero_le _) fun k g hg hlt2 hDk hh => ?_
            simp only [Nat.zero_add] at hlt2 hDk
            rcases hpair i k f g hlt2 hf hg with h5 | h5
            · exact (apartB_spec h5).2.2.1 q hh.2 (hwoid k g q hg hh.1)
            · exact hmk k g hg hDk h5
  refine key _ _ _ _ (by simp) (Nat.le_trans (List.length_filter_le _ _) (by simp)) (fun j o _ hj => ?_) ?_
  · rw [Array.getD_eq_getD_getElem?] at hj
    cases h2 : (Array.replicate ops.size false)[j]? with
    | none => rw [h2] at hj; cases hj
    | some b =>
      have := (Array.getElem?_replicate (n := ops.size) (v := false) (i := j)).symm.trans h2
      rw [h2] at hj
      split at this
      · injection this with this; subst this; cases hj
      · cases this
  · refine hs.drew.congr ?_ (fun t => ?_) fun q => ?_
    · rw [appD_nt, appD_pk]; exact ⟨rfl, rfl⟩
    all_goals
      have hD0 : ∀ k, (Array.replicate ops.size false).getD k false = false := fun k => by
        rw [Array.getD_eq_getD_getElem?, Array.getElem?_replicate]; split <;> rfl
      have h5 : ∀ (l : List Foot) (n : Nat) (τ : AS), appD (fun k => (Array.replicate ops.size false).getD k false) n l τ = τ := by
        intro l; induction l with
        | nil => intro n τ; rfl
        | cons e l ih2 => intro n τ; unfold appD; rw [hD0, cond_false]; exact ih2 _ _
      rw [h5]
end Go.Proofs.Ytfhmaincnlaapaa.Sy
