/- Rows that are frozen; objects by other names. -/
import Derived.Test.YtfhmaincnlaapaaUnRefRead
import Derived.Test.YtfhmaincnlaapaaUnEncC
namespace Go.Proofs.Ytfhmaincnlaapaa.Sy
open Go.ChangeShapes Go.WideShapes Go.ChangeAt Go.RowKit
set_option linter.unusedVariables false
/-! ### a row that nobody writes any more -/
def sub1 (q k n : Nat) (cs : List AV) : AV → AV
  | .row o v => bif Nat.beq o q && Nat.beq v k then .lst n cs else .row o v
  | x => x
def subA (q k n : Nat) (cs : List AV) : AV → AV
  | .agg l => .agg (l.map (sub1 q k n cs))
  | x => sub1 q k n cs x
def subT (q k n : Nat) (cs : List AV) : AV → AV
  | .tup l => .tup (l.map (subA q k n cs))
  | x => subA q k n cs x
def subO (q k n : Nat) (cs : List AV) : AObj → AObj
  | .cells t l => .cells t (l.map (sub1 q k n cs))
  | x => x
def freeze (q : Nat) (σ : AS) : AS :=
  match lo σ.O q with
  | some (.row e s n k cs) => ⟨σ.S.map (fun p => (p.1, subT q k n cs p.2)), (q, .gone) :: σ.O.map (fun p => (p.1, subO q k n cs p.2)), σ.nt, σ.pk⟩
  | _ => σ
theorem lk_map (g : AV → AV) (hj : g .junk = .junk) (l : List (Nat × AV)) (t : Nat) : lk (l.map fun p => (p.1, g p.2)) t = g (lk l t) := by
  induction l with
  | nil => exact hj.symm
  | cons p l ih =>
    obtain ⟨k, x⟩ := p
    by_cases h : t = k
    · subst h; simp only [List.map_cons]; rw [lk_eq, lk_eq]
    · simp only [List.map_cons]; rw [lk_ne _ _ h, lk_ne _ _ h]; exact ih
theorem lo_map (g : AObj → AObj) (l : List (Nat × AObj)) (t : Nat) : lo (l.map fun p => (p.1, g p.2)) t = (lo l t).map g := by
  induction l with
  | nil => rfl
  | cons p l ih =>
    obtain ⟨k, x⟩ := p
    by_cases h : t = k
    · subst h; simp only [List.map_cons]; rw [lo_eq, lo_eq]; rfl
    · simp only [List.map_cons]; rw [lo_ne _ _ h, lo_ne _ _ h]; exact ih
theorem St.freeze {M : Cx} {w0 : World} {σ : AS} {a : Act} {w : World} (h : St M w0 σ a w) (q : Nat) : St M w0 (freeze q σ) a w := by
  unfold Sy.freeze
  split
  · rename_i e s n k cs hq
    obtain ⟨E, rfl, hN⟩ := h
    have hqE : E.ob q = some (.row e s n k cs) := by rw [hN.ob]; exact hq
    let E' : Env := ⟨E.w, fun b => E.F b ∨ (E.ν q).ownBlock = some b, E.β, E.ν, lo ((q, .gone) :: σ.O.map (fun p => (p.1, subO q k n cs p.2)))⟩
    have hbkq : ∀ b, (E.ν q).ownBlock = some b → bk E q = some b := fun b hb => by unfold bk; rw [hqE]; exact hb
    have hob1 : E'.ob q = some .gone := lo_eq _ _ _
    have hob2 : ∀ o, o ≠ q → E'.ob o = (E.ob o).map (subO q k n cs) := fun o ho => by
      show lo ((q, .gone) :: σ.O.map (fun p => (p.1, subO q k n cs p.2))) o = _
      rw [lo_ne _ _ ho, lo_map, hN.ob]
    have hrep := rep_row hN.mem hqE E'.F (fun b hb => .inl hb) (fun b hb => .inr hb)
    have hlat : ∀ o, Later E E' o := fun o h0 => by
      by_cases ho : o = q
      · subst ho; exact ⟨by rw [hob1]; simp, fun t l hh => (by rw [hob1] at hh; cases hh), fun e s n k l hh => (by rw [hob1] at hh; cases hh)⟩
      · rw [hob2 o ho]
        cases hx : E.ob o with
        | none => exact absurd hx h0
        | some x =>
          refine ⟨by simp, fun t l hh => ?_, fun e s n k l hh => ?_⟩
          · cases x with
            | cells t0 l0 => exact ⟨⟨t0, l0, rfl⟩, rfl⟩
            | row => cases hh
            | gone => cases hh
          · cases x with
            | cells t0 l0 => cases hh
            | row e0 s0 n0 k0 l0 => simp only [Option.map_some, subO] at hh; injection hh with hh; injection hh with h1 h2 h3 h4 h5; subst h1; subst h2; subst h3; subst h4; subst h5; exact ⟨_, _, _, _, _, rfl, Nat.le_refl _, fun _ => ⟨rfl, rfl⟩⟩
            | gone => cases hh
    have hleaf : ∀ (haft : After E E') (x : AV) (u : Value), Leaf E x u → Leaf E' (sub1 q k n cs x) u := fun haft x u hx => by
      cases x with
      | row o v =>
        show Leaf E' (bif Nat.beq o q && Nat.beq v k then .lst n cs else .row o v) u
        rw [Bool.cond_eq_ite]
        split
        · rename_i hh
          rw [Bool.and_eq_true, Nat.beq_eq, Nat.beq_eq] at hh
          obtain ⟨rfl, rfl⟩ := hh
          rw [(hx.2 _ _ _ _ _ hqE).2 rfl]
          exact hrep
        · exact Leaf.after haft hx
      | _ => exact Leaf.after haft hx
    have hsub : ∀ (haft : After E E') (x : AV) (u : Value), Sees E x u → Sees E' (subT q k n cs x) u := fun haft x u hx => by
      have hcells : ∀ (l : List AV) (us : List Value), Leafs E l us → Leafs E' (l.map (sub1 q k n cs)) us := fun l us hl => by
        refine ⟨by rw [hl.1]; simp, fun j y v hy hv => ?_⟩
        rw [List.getElem?_map] at hy
        cases hc : l[j]? with
        | none => rw [hc] at hy; cases hy
        | some z => rw [hc] at hy; injection hy with hy; subst hy; exact ⟨hleaf haft z v (hl.2 j z v hc hv).1, (hl.2 j z v hc hv).2⟩
      have hone : ∀ (x : AV) (u : Value), Sees1 E x u → Sees1 E' (subA q k n cs x) u := fun x u hx => by
        cases x with
        | agg l => obtain ⟨us, e, hl⟩ := hx; exact ⟨us, e, hcells l us hl⟩
        | v y => exact Sees1.leaf (hleaf haft (.v y) u hx)
        | lst m l => exact Sees1.leaf (hleaf haft (.lst m l) u hx)
        | tup l => exact Sees1.leaf (hleaf haft (.tup l) u hx)
        | opt b y => exact Sees1.leaf (hleaf haft (.opt b y) u hx)
        | fk k => exact Sees1.leaf (hleaf haft (.fk k) u hx)
        | row o v => exact Sees1.leaf (hleaf haft (.row o v) u hx)
        | ptr o v => exact Sees1.leaf (hleaf haft (.ptr o v) u hx)
        | fptr l v => exact Sees1.leaf (hleaf haft (.fptr l v) u hx)
        | rptr o v f => exact Sees1.leaf (hleaf haft (.rptr o v f) u hx)
        | junk => trivial
      cases x with
      | tup l =>
        obtain ⟨us, e, hl, hs⟩ := hx
        refine ⟨us, e, by rw [hl]; simp, fun j y v hy hv => ?_⟩
        rw [List.getElem?_map] at hy
        cases hc : l[j]? with
        | none => rw [hc] at hy; cases hy
        | some z => rw [hc] at hy; injection hy with hy; subst hy; exact hone z v (hs j z v hc hv)
      | opt b y => exact Sees.after haft hx
      | agg l => exact hone (.agg l) u hx
      | v y => exact Sees.sees1 (hone (.v y) u hx)
      | lst m l => exact Sees.sees1 (hone (.lst m l) u hx)
      | fk k => exact Sees.sees1 (hone (.fk k) u hx)
      | row o v => exact Sees.sees1 (hone (.row o v) u hx)
      | ptr o v => exact Sees.sees1 (hone (.ptr o v) u hx)
      | fptr l v => exact Sees.sees1 (hone (.fptr l v) u hx)
      | rptr o v f => exact Sees.sees1 (hone (.rptr o v f) u hx)
      | junk => trivial
    obtain ⟨hm, haft⟩ := hN.mem.step (E' := E') (fun _ => True) rfl rfl rfl (Nat.le_refl _) (fun _ _ _ => rfl) (fun b hb => .inl hb)
      (fun b hb => by
        rcases hb with hb | hb
        · exact .inl hb
        · exact .inr ⟨(hN.mem.live q b (hbkq b hb)).2.1, .inr ⟨q, trivial, hbkq b hb⟩⟩)
      (fun o ho => absurd trivial ho) (fun o _ => hlat o)
      (fun haft o x _ hx => by
        by_cases ho : o = q
        · subst ho; rw [hob1] at hx; injection hx with hx; subst hx; trivial
        · rw [hob2 o ho] at hx
          cases hy : E.ob o with
          | none => rw [hy] at hx; cases hx
          | some y =>
            rw [hy] at hx; injection hx with hx; subst hx
            have hok := hN.mem.ok o y hy
            cases y with
            | gone => trivial
            | cells t l =>
              obtain ⟨us, hb, hl⟩ := hok
              refine ⟨us, hb, by rw [hl.1]; simp, fun j y v hy hv => ?_⟩
              rw [List.getElem?_map] at hy
              cases hc : l[j]? with
              | none => rw [hc] at hy; cases hy
              | some z => rw [hc] at hy; injection hy with hy; subst hy; exact ⟨hleaf haft z v (hl.2 j z v hc hv).1, (hl.2 j z v hc hv).2⟩
            | row e0 s0 n0 k0 l0 =>
              obtain ⟨us, hb, hs0, hl, hr⟩ := hok
              exact ⟨us, hb, hs0, hl, fun j y u hy hu => (hr j y u hy hu).mono (fun b hb => Or.inl hb) fun _ _ => rfl⟩)
      (fun o b _ hb => by
        by_cases ho : o = q
        · subst ho; unfold bk at hb; rw [hob1] at hb; cases hb
        · have hb' : bk E o = some b := by
            unfold bk at hb ⊢
            rw [hob2 o ho] at hb
            cases hy : E.ob o with
            | none => rw [hy] at hb; cases hb
            | some y => rw [hy] at hb; cases y <;> first | exact hb | (cases hb; done)
          obtain ⟨l1, l2, l3⟩ := hN.mem.live o b hb'
          refine ⟨fun hf => ?_, l2, .inr ⟨o, trivial, hb'⟩⟩
          rcases hf with hf | hf
          · exact l1 hf
          · exact ho (hN.mem.inj o q b hb' (hbkq b hf)))
      (fun o o' b _ _ h1 h2 => by
        have key : ∀ o, bk E' o = some b → bk E o = some b := fun o hb => by
          by_cases ho : o = q
          · subst ho; unfold bk at hb; rw [hob1] at hb; cases hb
          · unfold bk at hb ⊢
            rw [hob2 o ho] at hb
            cases hy : E.ob o with
            | none => rw [hy] at hb; cases hb
            | some y => rw [hy] at hb; cases y <;> first | exact hb | (cases hb; done)
        exact hN.mem.inj o o' b (key o h1) (key o' h2))
    exact ⟨E', rfl, hN.df, hN.sz, rfl, hm, hN.aft.trans haft, hN.pkk, fun t => by
      rw [lk_map _ rfl]; exact hsub haft _ _ (hN.sl t)⟩
  · exact h
/-! ### names of objects -/
def ren1 (f : Nat → Nat) : AV → AV
  | .row o v => .row (f o) v
  | .ptr o k => .ptr (f o) k
  | .rptr o v k => .rptr (f o) v k
  | x => x
def ren (f : Nat → Nat) : AV → AV
  | .agg cs => .agg (cs.map (ren1 f))
  | x => ren1 f x
def renT (f : Nat → Nat) : AV → AV
  | .tup l => .tup (l.map (ren f))
  | .opt _ _ => .junk
  | x => ren f x
def renO (f : Nat → Nat) : AObj → AObj
  | .cells t cs => .cells t (cs.map (ren1 f))
  | x => x
def renL (f : Nat → Nat) (l : List (Nat × AObj)) : List (Nat × AObj) := l.map fun p => (f p.1, renO f p.2)
def nubN : List Nat → List Nat
  | [] => []
  | a :: l => bif l.any (fun b => Nat.beq b a) then nubN l else a :: nubN l
def objRefs (O : List (Nat × AObj)) (q : Nat) : List Nat := match lo O q with | some (.cells _ cs) => cs.flatMap refsOf1 | _ => []
def reach (O : List (Nat × AObj)) : Nat → List Nat → List Nat
  | 0, l => l
  | k + 1, l => bif Nat.beq (nubN (l ++ l.flatMap (objRefs O))).length l.length then l else reach O k (nubN (l ++ l.flatMap (objRefs O)))
def ptrsT : AV → List Nat
  | .tup l => l.flatMap ptrsOf
  | x => ptrsOf x
def pickO (O : List (Nat × AObj)) : List Nat → Option (List (Nat × AObj))
  | [] => some []
  | q :: l => match lo O q, pickO O l with
    | some x, some r => some ((q, x) :: r)
    | _, _ => none
def posOf (q : Nat) : List Nat → Nat
  | [] => 0
  | a :: l => bif Nat.beq a q then 0 else posOf q l + 1
def nth (l : List Nat) (k : Nat) : Nat := l.getD k 0
def toC (ids : List Nat) (q : Nat) : Nat := 1000 + posOf q ids
def ofC (ids new : List Nat) (d q : Nat) : Nat := bif Nat.ble 1000 q && Nat.blt (q - 1000) ids.length then nth ids (q - 1000) else 10000 + d * 100 + posOf q new
end Go.Proofs.Ytfhmaincnlaapaa.Sy
namespace Go.Proofs.Ytfhmaincnlaapaa.Sy
open Go.ChangeShapes Go.WideShapes Go.ChangeAt Go.RowKit
set_option linter.unusedVariables false
section
variable {ρ π : Nat → Nat}
/-- E' is E by other names, as far as o goes -/
def Nm (ρ : Nat → Nat) (E E' : Env) (o : Nat) : Prop := E'.ob (ρ o) = (E.ob o).map (renO ρ) ∧ E'.β (ρ o) = E.β o ∧ E'.ν (ρ o) = E.ν o
theorem Leaf.nm {E E' : Env} (hw : E'.w = E.w) (hF : E'.F = E.F) {x : AV} {u : Value} (ho : ∀ o ∈ refsOf1 x, Nm ρ E E' o) : Leaf E x u ↔ Leaf E' (ren1 ρ x) u := by
  cases x with
  | v y => exact Iff.rfl
  | lst n cs => unfold ren1 Leaf; rw [hw, hF]
  | agg => exact Iff.rfl
  | tup => exact Iff.rfl
  | opt => exact Iff.rfl
  | fk => exact Iff.rfl
  | junk => exact Iff.rfl
  | fptr cs off => unfold ren1 Leaf; rw [hw, hF]
  | ptr o off =>
    obtain ⟨h1, h2, h3⟩ := ho o (by simp [refsOf1])
    simp only [ren1, Leaf]
    rw [h1, h2]
    cases E.ob o with
    | none => simp
    | some y => cases y <;> simp [renO]
  | row o ver =>
    obtain ⟨h1, h2, h3⟩ := ho o (by simp [refsOf1])
    simp only [ren1, Leaf]
    rw [h1, h3]
    cases E.ob o with
    | none => simp
    | some y => cases y <;> simp [renO]
  | rptr o ver off =>
    obtain ⟨h1, h2, h3⟩ := ho o (by simp [refsOf1])
    simp only [ren1, Leaf]
    rw [h1, h3]
    cases E.ob o with
    | none => simp
    | some y => cases y <;> simp [renO]
theorem Leafs.nm {E E' : Env} (hw : E'.w = E.w) (hF : E'.F = E.F) {cs : List AV} {us : List Value} (ho : ∀ o ∈ cs.flatMap refsOf1, Nm ρ E E' o) : Leafs E cs us ↔ Leafs E' (cs.map (ren1 ρ)) us := by
  constructor
  · rintro ⟨hl, hs⟩
    refine ⟨by simpa using hl, fun j y v hy hv => ?_⟩
    rw [List.getElem?_map] at hy
    cases hc : cs[j]? with
    | none => rw [hc] at hy; cases hy
    | some z => rw [hc] at hy; injection hy with hy; subst hy; exact ⟨(Leaf.nm hw hF fun o h => ho o (List.mem_flatMap.2 ⟨z, List.mem_of_getElem? hc, h⟩)).1 (hs j z v hc hv).1, (hs j z v hc hv).2⟩
  · rintro ⟨hl, hs⟩
    refine ⟨by simpa using hl, fun j z v hc hv => ?_⟩
    obtain ⟨h1, h2⟩ := hs j (ren1 ρ z) v (by rw [List.getElem?_map, hc]; rfl) hv
    exact ⟨(Leaf.nm hw hF fun o h => ho o (List.mem_flatMap.2 ⟨z, List.mem_of_getElem? hc, h⟩)).2 h1, h2⟩
theorem Sees1.nm {E E' : Env} (hw : E'.w = E.w) (hF : E'.F = E.F) {x : AV} {u : Value} (ho : ∀ o ∈ refsL x, Nm ρ E E' o) : Sees1 E x u ↔ Sees1 E' (ren ρ x) u := by
  cases x with
  | agg cs =>
    constructor
    · rintro ⟨us, e, hl⟩; exact ⟨us, e, (Leafs.nm hw hF ho).1 hl⟩
    · rintro ⟨us, e, hl⟩; exact ⟨us, e, (Leafs.nm hw hF ho).2 hl⟩
  | v y => exact Leaf.nm (x := .v y) hw hF ho
  | lst m l => exact Leaf.nm (x := .lst m l) hw hF ho
  | tup l => exact Iff.rfl
  | opt => exact Iff.rfl
  | fk => exact Iff.rfl
  | row o v => exact Leaf.nm (x := .row o v) hw hF ho
  | ptr o v => exact Leaf.nm (x := .ptr o v) hw hF ho
  | fptr l v => exact Leaf.nm (x := .fptr l v) hw hF ho
  | rptr o v f => exact Leaf.nm (x := .rptr o v f) hw hF ho
  | junk => exact Iff.rfl
def refsT : AV → List Nat
  | .tup l => l.flatMap refsL
  | x => refsL x
theorem Sees.nm {E E' : Env} (hw : E'.w = E.w) (hF : E'.F = E.F) {x : AV} {u : Value} (ho : ∀ o ∈ refsT x, Nm ρ E E' o) (hx : Sees E x u) : Sees E' (renT ρ x) u := by
  cases x with
  | tup l =>
    obtain ⟨us, e, hl, hs⟩ := hx
    refine ⟨us, e, by simpa using hl, fun j y v hy hv => ?_⟩
    rw [List.getElem?_map] at hy
    cases hc : l[j]? with
    | none => rw [hc] at hy; cases hy
    | some z => rw [hc] at hy; injection hy with hy; subst hy; exact (Sees1.nm hw hF fun o h => ho o (List.mem_flatMap.2 ⟨z, List.mem_of_getElem? hc, h⟩)).1 (hs j z v hc hv)
  | opt => trivial
  | fk => exact hx
  | agg cs => exact (Sees1.nm (x := .agg cs) hw hF ho).1 hx
  | v y => exact hx
  | lst m l => exact (Sees1.nm (x := .lst m l) hw hF ho).1 hx
  | row o v => exact (Sees1.nm (x := .row o v) hw hF ho).1 hx
  | ptr o v => exact (Sees1.nm (x := .ptr o v) hw hF ho).1 hx
  | fptr l v => exact (Sees1.nm (x := .fptr l v) hw hF ho).1 hx
  | rptr o v f => exact (Sees1.nm (x := .rptr o v f) hw hF ho).1 hx
  | junk => trivial
theorem lo_ren {l : List (Nat × AObj)} (hl : ∀ p ∈ l, π (ρ p.1) = p.1) {q : Nat} (hq : π (ρ q) = q) : lo (renL ρ l) (ρ q) = (lo l q).map (renO ρ) := by
  induction l with
  | nil => rfl
  | cons p l ih =>
    obtain ⟨k, x⟩ := p
    have hk := hl (k, x) (by simp)
    by_cases h : q = k
    · subst h; show lo ((ρ q, renO ρ x) :: renL ρ l) (ρ q) = _; rw [lo_eq, lo_eq]; rfl
    · show lo ((ρ k, renO ρ x) :: renL ρ l) (ρ q) = _
      rw [lo_ne _ _ (fun e => h (by rw [← hq, e, hk])), lo_ne _ _ h]
      exact ih fun p hp => hl p (by simp [hp])
theorem lo_ren_inv {l : List (Nat × AObj)} (hl : ∀ p ∈ l, π (ρ p.1) = p.1) {q : Nat} {x : AObj} (h : lo (renL ρ l) q = some x) : ρ (π q) = q ∧ ∃ y, lo l (π q) = some y ∧ x = renO ρ y := by
  have hm := mem_of_lo h
  obtain ⟨⟨k, y⟩, hp, he⟩ := List.mem_map.1 hm
  injection he with h1 h2
  have hk := hl _ hp
  simp only at h1 hk
  subst h1
  rw [hk]
  refine ⟨rfl, ?_⟩
  rw [lo_ren hl hk] at h
  cases hy : lo l k with
  | none => rw [hy] at h; cases h
  | some z => rw [hy] at h; injection h with h; exact ⟨z, rfl, h.symm⟩
/-- one memory by two lists of names -/
theorem Mem.nm {M : Cx} {w0 : World} {E E' : Env} {l : List (Nat × AObj)} (hw : E'.w = E.w) (hF : E'.F = E.F) (hl : ∀ p ∈ l, π (ρ p.1) = p.1) (hcl : closedB l = true) (ho : E.ob = lo l) (hn : ∀ o, lo l o ≠ none → Nm ρ E E' o) (ho' : E'.ob = lo (renL ρ l)) : Mem M w0 E ↔ Mem M w0 E' := by
  have hr : ∀ o t cs, lo l o = some (.cells t cs) → ∀ q ∈ cs.flatMap refsOf1, Nm ρ E E' q := fun o t cs h q hq => by
    have h1 := List.all_eq_true.1 hcl _ (mem_of_lo h)
    obtain ⟨y, hy, hyq⟩ := List.mem_flatMap.1 hq
    have h2 := List.all_eq_true.1 (List.all_eq_true.1 h1 y hy) q hyq
    exact hn q (fun h0 => by rw [h0] at h2; cases h2)
  have hok : ∀ o x, lo l o = some x → (ObjOk E 0 o x ↔ ObjOk E' 0 (ρ o) (renO ρ x)) := fun o x hx => by
    obtain ⟨n1, n2, n3⟩ := hn o (by rw [hx]; simp)
    cases x with
    | gone => exact Iff.rfl
    | cells t cs =>
      unfold ObjOk renO
      simp only
      rw [n2, hw]
      constructor
      · rintro ⟨us, hb, hl⟩; exact ⟨us, hb, (Leafs.nm hw hF (hr o t cs hx)).1 hl⟩
      · rintro ⟨us, hb, hl⟩; exact ⟨us, hb, (Leafs.nm hw hF (hr o t cs hx)).2 hl⟩
    | row e s n k cs => unfold ObjOk renO; simp only; rw [n3, hw, hF]
  have hbk : ∀ o, lo l o ≠ none → bk E' (ρ o) = bk E o := fun o h0 => by
    obtain ⟨n1, n2, n3⟩ := hn o h0
    unfold bk
    rw [n1, n2, n3]
    cases E.ob o with
    | none => rfl
    | some y => cases y <;> rfl
  have hin : ∀ o b, bk E o = some b → lo l o ≠ none := fun o b h h0 => by unfold bk at h; rw [ho, h0] at h; cases h
  have hin' : ∀ o b, bk E' o = some b → ∃ q, lo l q ≠ none ∧ o = ρ q := fun o b h => by
    unfold bk at h
    cases hx : E'.ob o with
    | none => rw [hx] at h; cases h
    | some x =>
      rw [ho'] at hx
      obtain ⟨h1, y, hy, _⟩ := lo_ren_inv hl hx
      exact ⟨π o, by rw [hy]; simp, h1.symm⟩
  have hpi : ∀ o, lo l o ≠ none → π (ρ o) = o := fun o h0 => by
    obtain ⟨x, hx⟩ := Option.ne_none_iff_exists'.1 h0
    exact hl _ (mem_of_lo hx)
  constructor
  · intro h
    refine ⟨by rw [hw]; exact h.chg, by rw [hF]; exact h.org, by rw [hF, hw]; exact h.fz, fun o x hx => ?_, fun o b hb => ?_, fun o o' b h1 h2 => ?_⟩
    · rw [ho'] at hx
      obtain ⟨h1, y, hy, rfl⟩ := lo_ren_inv hl hx
      rw [← h1]
      exact (hok _ y hy).1 (h.ok _ y (by rw [ho]; exact hy))
    · obtain ⟨q, hq, rfl⟩ := hin' o b hb
      rw [hbk q hq] at hb
      rw [hF, hw]; exact h.live q b hb
    · obtain ⟨q, hq, rfl⟩ := hin' o b h1
      obtain ⟨q', hq', rfl⟩ := hin' o' b h2
      rw [hbk q hq] at h1; rw [hbk q' hq'] at h2
      rw [h.inj q q' b h1 h2]
  · intro h
    refine ⟨by rw [← hw]; exact h.chg, by rw [← hF]; exact h.org, by rw [← hF, ← hw]; exact h.fz, fun o x hx => ?_, fun o b hb => ?_, fun o o' b h1 h2 => ?_⟩
    · rw [ho] at hx
      refine (hok o x hx).2 (h.ok _ _ ?_)
      rw [(hn o (by rw [hx]; simp)).1, ho, hx]; rfl
    · have h0 := hin o b hb
      rw [← hbk o h0] at hb
      rw [← hF, ← hw]; exact h.live _ b hb
    · have h3 := hin o b h1
      have h4 := hin o' b h2
      rw [← hbk o h3] at h1; rw [← hbk o' h4] at h2
      have := congrArg π (h.inj _ _ b h1 h2)
      rw [hpi o h3, hpi o' h4] at this; exact this
/-- A CONTRACT BY OTHER NAMES -/
theorem FnOk.ren {P : Program} {f : FuncId} {I : Inst} (h : FnOk P f I) (h1 : ∀ p ∈ I.pre, π (ρ p.1) = p.1) (h2 : ∀ p ∈ I.post, π (ρ p.1) = p.1) (c1 : closedB I.pre = true) (c2 : closedB I.post = true)
    (ha : ∀ x ∈ I.args, ∀ o ∈ refsL x, lo I.pre o ≠ none) (hr : ∀ o ∈ refsT I.res, lo I.post o ≠ none) : FnOk P f ⟨I.args.map (Sy.ren ρ), renL ρ I.pre, renT ρ I.res, renL ρ I.post⟩ := by
  intro M w0 E vs hob hm hl hs
  let Ec : Env := ⟨E.w, E.F, fun o => E.β (ρ o), fun o => E.ν (ρ o), lo I.pre⟩
  have hpi : ∀ o, lo I.pre o ≠ none → π (ρ o) = o := fun o h0 => by
    obtain ⟨x, hx⟩ := Option.ne_none_iff_exists'.1 h0
    exact h1 _ (mem_of_lo hx)
  have hnm : ∀ o, lo I.pre o ≠ none → Nm ρ Ec E o := fun o h0 => ⟨by rw [hob]; exact lo_ren h1 (hpi o h0), rfl, rfl⟩
  have hmc : Mem M w0 Ec := (Mem.nm (E := Ec) (E' := E) rfl rfl h1 c1 rfl hnm hob).2 hm
  refine (h M w0 Ec vs rfl hmc (by simpa using hl) (fun j x u hx hu => ?_)).mono ?_
  · have := hs j (Sy.ren ρ x) u (by rw [List.getElem?_map, hx]; rfl) hu
    exact (Sees1.nm (E := Ec) (E' := E) rfl rfl fun o ho => hnm o (ha x (List.mem_of_getElem? hx) o ho)).2 this
  · rintro y w' ⟨E', v, rfl, rfl, hob', hm', haf, hres⟩
    let E2 : Env := ⟨E'.w, E'.F, fun q => E'.β (π q), fun q => E'.ν (π q), lo (renL ρ I.post)⟩
    have hpi2 : ∀ o, lo I.post o ≠ none → π (ρ o) = o := fun o h0 => by
      obtain ⟨x, hx⟩ := Option.ne_none_iff_exists'.1 h0
      exact h2 _ (mem_of_lo hx)
    have hnm2 : ∀ o, lo I.post o ≠ none → Nm ρ E' E2 o := fun o h0 => ⟨by rw [hob']; exact lo_ren h2 (hpi2 o h0), by show E'.β (π (ρ o)) = _; rw [hpi2 o h0], by show E'.ν (π (ρ o)) = _; rw [hpi2 o h0]⟩
    refine ⟨E2, v, rfl, rfl, rfl, (Mem.nm (E := E') (E' := E2) rfl rfl h2 c2 hob' hnm2 rfl).1 hm', ⟨haf.sub, haf.old, fun q h0 => ?_⟩, Sees.nm (E := E') (E' := E2) rfl rfl (fun o ho => hnm2 o (hr o ho)) hres⟩
    obtain ⟨x, hx⟩ := Option.ne_none_iff_exists'.1 h0
    rw [hob] at hx
    obtain ⟨e1, z, hz, rfl⟩ := lo_ren_inv h1 hx
    obtain ⟨o, ho⟩ : ∃ o, π q = o := ⟨_, rfl⟩
    rw [ho] at e1 hz
    subst e1
    have hne : lo I.pre o ≠ none := by rw [hz]; simp
    obtain ⟨a1, a2, a3⟩ := haf.obj o (by show lo I.pre o ≠ none; exact hne)
    rw [hob'] at a1
    obtain ⟨n1, n2, n3⟩ := hnm2 o a1
    obtain ⟨m1, m2, m3⟩ := hnm o hne
    refine ⟨by rw [n1, hob']; simpa using a1, fun t cs hh => ?_, fun e s n k cs hh => ?_⟩
    · rw [n1] at hh
      cases hy : E'.ob o with
      | none => rw [hy] at hh; cases hh
      | some y =>
        rw [hy] at hh; injection hh with hh
        cases y with
        | cells t0 c0 =>
          obtain ⟨⟨t1, c1', x1⟩, b1⟩ := a2 t0 c0 hy
          exact ⟨⟨t1, c1'.map (ren1 ρ), by rw [m1, x1]; rfl⟩, by rw [n2, b1]⟩
        | row => cases hh
        | gone => cases hh
    · rw [n1] at hh
      cases hy : E'.ob o with
      | none => rw [hy] at hh; cases hh
      | some y =>
        rw [hy] at hh; injection hh with hh
        cases y with
        | cells => cases hh
        | row e0 s0 n0 k0 c0 =>
          injection hh with g1 g2 g3 g4 g5; subst g1; subst g2; subst g3; subst g4; subst g5
          obtain ⟨b1, b2, b3, b4, b5, x1, x2, x3⟩ := a3 _ _ _ _ _ hy
          exact ⟨b1, b2, b3, b4, b5, by rw [m1, x1]; rfl, x2, fun hk => ⟨by rw [n3, (x3 hk).1], (x3 hk).2⟩⟩
        | gone => cases hh
end
end Go.Proofs.Ytfhmaincnlaapaa.Sy
