/-
  NUMBERS OF WORDS OF 32 BITS: the same laws as those of digits (printed by gen_wordmath.py).
  bushelref01 on trees: Cmp, Mul, Power, Two, Uint, Fits, Int.
  bushelref01 on trees: numbers of base 1000.
  NUMBERS OF DIGITS OF BASE 1000: sums, differences, products, quotients of digits, as far as they go.
  NUMBERS OF DIGITS OF BASE 1000 (bushelref01), without the program.
  Short names; conditions split.
  LOOPS AND FUNCTIONS ON TREES.
-/
import Derived.Deep.LoopGhost
import Derived.IntWalk
import Derived.Test.YtfhmaincnlaapaaAoSy3
import Derived.Test.YtfhmaincnlaapaaAoSy12
namespace Go.Proofs.Ytfhmaincnlaapaa.Sy
open Go.ChangeShapes Go.WideShapes Go.ChangeAt Go.RowKit
set_option linter.unusedVariables false

/-! ### loops -/
/-- one round from σ: on to one of the states, by a smaller measure, or out -/
structure Round (P : Program) (c : Code) {ι : Type} (inv : ι → AS) (μ : ι → Nat) (e : Exit) (σ' : AS) (i : ι) : Prop where
  run : ∃ H L e1 σ1 vc, runC P H L c (inv i) = some (e1, σ1, vc) ∧ allP vc ∧
    ((e1 = .normal ∧ ∃ j, μ j < μ i ∧ ((inv j).nt == σ1.nt && (inv j).pk == σ1.pk && wkB (inv j)) = true ∧ allP (wkVc (fitS (inv j) σ1) (inv j).S) ∧ allP (wkVcO (fitS (inv j) σ1) (inv j).O)) ∨
     (e1 = e ∧ e ≠ .normal ∧ (σ'.nt == σ1.nt && σ'.pk == σ1.pk && wkB σ') = true ∧ allP (wkVc (fitS σ' σ1) σ'.S) ∧ allP (wkVcO (fitS σ' σ1) σ'.O)))
theorem LoopOk.of {P : Program} (hmo : P.follows .mixedOrders = true) {c : Code} {ι : Type} (inv : ι → AS) (μ : ι → Nat) {e : Exit} {σ' : AS} (h : ∀ i, Round P c inv μ e σ' i) (i0 : ι) : LoopOk P c (inv i0) e σ' := by
  intro M w0 a w Q hs hQ
  refine wp_loop_ghost (fun n a w => ∃ i, μ i = n ∧ St M w0 (inv i) a w) (μ i0) ⟨i0, rfl, hs⟩ ?_
  rintro n a1 w1 ⟨i, rfl, hs1⟩
  obtain ⟨H, L, e1, σ1, vc, hr, hv, hcase⟩ := (h i).run
  refine runC_ok hmo hr hv hs1 fun a2 w2 hs2 => ?_
  rcases hcase with ⟨rfl, j, hj, hb, h1, h2⟩ | ⟨rfl, hne, hb, h1, h2⟩
  · simp only [Bool.and_eq_true] at hb
    exact ⟨μ j, hj, j, rfl, hs2.weakenF (by simpa using hb.1.1) (by simpa using hb.1.2) hb.2 h1 h2⟩
  · simp only [Bool.and_eq_true] at hb
    have hq := hQ a2 w2 (hs2.weakenF (by simpa using hb.1.1) (by simpa using hb.1.2) hb.2 h1 h2)
    cases e1 <;> first | exact hq | exact absurd rfl hne
/-! ### results -/
def resOne (P : Program) (σ : AS) : ResultVar → Option AV
  | .tmp t => some (lk σ.S t)
  | .cell a t => match tyB P t, viewOf (lo σ.O) (lk σ.S a) with
    | some (b, k), some (cs, off) => rd1 b k cs off
    | _, _ => none
def resL (P : Program) (σ : AS) : List ResultVar → Option (List AV)
  | [] => some []
  | r :: l => match resOne P σ r, resL P σ l with
    | some x, some xs => some (x :: xs)
    | _, _ => none
def notTup : AV → Bool
  | .tup _ => false
  | .opt _ _ => false
  | _ => true
def resA (P : Program) (σ : AS) (rs : List ResultVar) : Option AV :=
  match resL P σ rs with
  | some [x] => some x
  | some xs => bif xs.all notTup then some (.tup xs) else none
  | none => none
def resSem (tmps : Array Value) : ResultVar → Sem Value
  | .tmp t => pure (tmps.getD t undef)
  | .cell a t => do loadVar t (← asAddr (tmps.getD a undef))
theorem run_resOne {P : Program} {M : Cx} {w0 : World} {σ : AS} {a : Act} {E : Env} (h : Now M w0 σ a E) {r : ResultVar} {x : AV} (hr : resOne P σ r = some x) : ∃ v, (resSem a.tmps r).run P E.w = .ok v E.w ∧ Sees E x v := by
  cases r with
  | tmp t => injection hr with hr; subst hr; exact ⟨_, rfl, h.sl t⟩
  | cell q t =>
    simp only [resOne] at hr
    split at hr
    · rename_i b k cs off ht hv
      rw [← h.ob] at hv
      obtain ⟨A, us, e, hl, hc⟩ := viewOf_at h.mem hv (Sees.leaf_of hv (h.sl q))
      obtain ⟨h1, h2, h3⟩ := rd1_sees hl hr
      exact ⟨_, by simp only [resSem, e, asAddr, Sem.run_bind, Sem.run_pure, Result.andThen_ok, run_loadVar_at ht hc h2 h3], h1⟩
    · cases hr
theorem run_resL {P : Program} {M : Cx} {w0 : World} {σ : AS} {a : Act} {E : Env} (h : Now M w0 σ a E) : ∀ {rs : List ResultVar} {xs : List AV}, resL P σ rs = some xs → ∃ vs : List Value, (rs.mapM (resSem a.tmps)).run P E.w = .ok vs E.w ∧ vs.length = xs.length ∧
    ∀ (j : Nat) (x : AV) (u : Value), xs[j]? = some x → vs[j]? = some u → Sees E x u
  | [], xs, hr => by injection hr with hr; subst hr; exact ⟨[], by simp, rfl, fun j x u hx => by simp at hx⟩
  | r :: rs, xs, hr => by
    simp only [resL] at hr
    split at hr
    · rename_i x ys h1 h2
      injection hr with hr; subst hr
      obtain ⟨v, hv, hs⟩ := run_resOne h h1
      obtain ⟨vs, hvs, hl, hss⟩ := run_resL h h2
      refine ⟨v :: vs, by simp [List.mapM_cons, hv, hvs], by simp [hl], fun j y u hy hu => ?_⟩
      cases j with
      | zero => simp only [List.getElem?_cons_zero, Option.some.injEq] at hy hu; subst hy; subst hu; exact hs
      | succ j => exact hss j y u (by simpa using hy) (by simpa using hu)
    · cases hr
theorem Sees.not_tup {E : Env} {x : AV} {u : Value} (h : Sees E x u) (hn : notTup x = true) : Sees1 E x u := by
  cases x <;> first | (cases hn; done) | exact h
theorem run_res {P : Program} {fn : Func} {M : Cx} {w0 : World} {σ : AS} {a : Act} {E : Env} (h : Now M w0 σ a E) {x : AV} (hr : resA P σ fn.results.toList = some x) : ∃ v, (results fn a.tmps).run P E.w = .ok v E.w ∧ Sees E x v := by
  have hm : ∀ vs : List Value, (fn.results.toList.mapM (resSem a.tmps)).run P E.w = .ok vs E.w → (results fn a.tmps).run P E.w = .ok (if h : vs.toArray.size = 1 then vs.toArray[0] else .tuple vs.toArray) E.w := fun vs hvs => by
    have : (fn.results.mapM (resSem a.tmps)).run P E.w = .ok vs.toArray E.w := by rw [Array.mapM_eq_mapM_toList]; simp [hvs]
    have hres : results fn a.tmps = (do let vs ← fn.results.mapM (resSem a.tmps); pure (if h : vs.size = 1 then vs[0] else .tuple vs)) := by
      unfold results
      congr 1
    rw [hres, Sem.run_bind, this]
    simp
  unfold resA at hr
  split at hr
  · rename_i y hy
    injection hr with hr; subst hr
    obtain ⟨vs, h1, h2, h3⟩ := run_resL h hy
    obtain ⟨v, rfl⟩ : ∃ v, vs = [v] := List.length_eq_one_iff.1 h2
    exact ⟨v, by rw [hm _ h1]; simp, h3 0 _ v rfl rfl⟩
  · rename_i ys hne hy
    rw [Bool.cond_eq_ite] at hr
    split at hr
    · rename_i hall
      injection hr with hr; subst hr
      obtain ⟨vs, h1, h2, h3⟩ := run_resL h hy
      refine ⟨.tuple vs.toArray, ?_, vs, rfl, h2, fun j y u hy' hu => (h3 j y u hy' hu).not_tup (List.all_eq_true.1 hall y (List.mem_of_getElem? hy'))⟩
      rw [hm _ h1, dif_neg]
      intro h4
      obtain ⟨v, rfl⟩ : ∃ v, vs = [v] := List.length_eq_one_iff.1 (by simpa using h4)
      obtain ⟨y, rfl⟩ : ∃ y, ys = [y] := List.length_eq_one_iff.1 h2.symm
      exact hne y rfl
    · cases hr
  · cases hr
/-! ### functions -/
def initS : Nat → List AV → List (Nat × AV)
  | _, [] => []
  | i, x :: l => (i, x) :: initS (i + 1) l
theorem initS_lk : ∀ (l : List AV) (i t : Nat), lk (initS i l) t = if i ≤ t then (l[t - i]?).getD .junk else .junk
  | [], i, t => by simp [initS, lk]
  | x :: l, i, t => by
    by_cases h : t = i
    · subst h; show lk ((t, x) :: initS (t + 1) l) t = _; rw [lk_eq]; simp
    · show lk ((i, x) :: initS (i + 1) l) t = _
      rw [lk_ne _ _ h, initS_lk l (i + 1) t]
      by_cases h2 : i ≤ t
      · rw [if_pos (by omega), if_pos h2, show t - i = (t - (i + 1)) + 1 by omega]; rfl
      · rw [if_neg (by omega), if_neg h2]
/-- a result: a row that nobody else has reads as its elements -/
def leafR (post O : List (Nat × AObj)) : AV → AV
  | .row o ver => match lo post o with
    | some _ => .row o ver
    | none => match lo O o with | some (.row _ _ n k cs) => if k = ver then .lst n cs else .junk | _ => .junk
  | .v (.slice none 0 0) => .lst 0 []
  | x => x
def oneR (post O : List (Nat × AObj)) : AV → AV
  | .agg cs => .agg (cs.map (leafR post O))
  | x => leafR post O x
def resR (post O : List (Nat × AObj)) : AV → AV
  | .tup l => .tup (l.map (oneR post O))
  | x => oneR post O x
def reEq : AV → AV → Prop
  | .tup l, .tup m => lsEq l m
  | x, y => avEq x y
theorem reEq_eq {x y : AV} (h : reEq x y) : x = y := by
  unfold reEq at h
  split at h
  · rw [lsEq_eq h]
  · exact avEq_eq h
def fnVc (P : Program) (ntmps : Nat) (rs : List ResultVar) (c : Code) (H : List (Nat × Hint)) (L : List (Nat × LoopHint)) (I : Inst) : Option (List Prop) :=
  match runC P H L c ⟨initS 0 I.args, I.pre, I.args.length + (ntmps - I.args.length), I.pre.map (·.1)⟩ with
  | some (e, σ', vc) => match e with
    | .ret | .normal => match resA P σ' rs with
      | some x => bif closedB I.post && (refsInV I.post (resR I.post σ'.O x) && I.pre.all fun p => (lo I.post p.1).isSome) then some (reEq (resR I.post σ'.O x) I.res :: (wkVcO σ' I.post ++ vc)) else none
      | none => none
    | _ => none
  | none => none
theorem leafR_sees {M : Cx} {w0 : World} {E : Env} (hm : Mem M w0 E) {O post : List (Nat × AObj)} (hO : E.ob = lo O) (ho : ∀ o, lo post o ≠ none → lo post o = E.ob o) {x : AV} {u : Value} (hr : refsIn post (leafR post O x) = true) (hx : Leaf E x u) :
    Leaf ⟨E.w, fun b => E.F b ∨ ∃ o, lo post o = none ∧ bk E o = some b, E.β, E.ν, lo post⟩ (leafR post O x) u := by
  have hgo : ∀ y, refsIn post y = true → Leaf E y u → Leaf ⟨E.w, fun b => E.F b ∨ ∃ o, lo post o = none ∧ bk E o = some b, E.β, E.ν, lo post⟩ y u := fun y hy hl =>
    Leaf.restr (E := E) (E' := ⟨E.w, fun b => E.F b ∨ ∃ o, lo post o = none ∧ bk E o = some b, E.β, E.ν, lo post⟩) rfl (fun b hb => Or.inl hb) rfl rfl (fun o hoo => by
      have := List.all_eq_true.1 hy o hoo
      exact ho o (fun h0 => by rw [h0] at this; cases this)) hl
  cases x with
  | row o ver =>
    unfold leafR at hr ⊢
    simp only at hr ⊢
    cases hp : lo post o with
    | some y =>
      simp only [hp] at hr ⊢
      exact hgo _ hr hx
    | none =>
      simp only [hp] at hr ⊢
      split
      · rename_i z e s n k cs hq
        split
        · rename_i hk
          have hq' : E.ob o = some (.row e s n k cs) := by rw [hO]; exact hq
          rw [(hx.2 _ _ _ _ _ hq').2 hk.symm]
          exact rep_row hm hq' _ (fun b hb => .inl hb) fun b hb => .inr ⟨o, hp, by unfold bk; rw [hq']; exact hb⟩
        · trivial
      · trivial
  | v y =>
    unfold leafR at hr ⊢
    split
    · rename_i h; cases h
    · rename_i h; injection h with h
      obtain ⟨e, _⟩ := hx
      rw [e, h]
      exact .nil none 0 (Nat.zero_le _)
    · exact hx
  | agg => exact hx.elim
  | tup => exact hx.elim
  | opt => exact hx.elim
  | fk => exact hx
  | junk => trivial
  | lst n cs => exact hgo _ (by rfl) hx
  | fptr cs off => exact hgo _ (by rfl) hx
  | ptr o off => exact hgo _ hr hx
  | rptr o ver off => exact hgo _ hr hx
theorem oneR_sees {M : Cx} {w0 : World} {E : Env} (hm : Mem M w0 E) {O post : List (Nat × AObj)} (hO : E.ob = lo O) (ho : ∀ o, lo post o ≠ none → lo post o = E.ob o) {x : AV} {u : Value} (hr : (match oneR post O x with | .agg cs => cs.all (refsIn post) | y => refsIn post y) = true) (hx : Sees1 E x u) :
    Sees1 ⟨E.w, fun b => E.F b ∨ ∃ o, lo post o = none ∧ bk E o = some b, E.β, E.ν, lo post⟩ (oneR post O x) u := by
  cases x with
  | agg cs =>
    obtain ⟨us, rfl, hl, hs⟩ := hx
    refine ⟨us, rfl, by simp [hl], fun j y v hy hv => ?_⟩
    have h1 := List.all_eq_true.1 (show (cs.map (leafR post O)).all (refsIn post) = true from hr) y (List.mem_of_getElem? hy)
    rw [List.getElem?_map] at hy
    cases hc : cs[j]? with
    | none => rw [hc] at hy; cases hy
    | some z =>
      rw [hc] at hy; injection hy with hy; subst hy
      exact ⟨leafR_sees hm hO ho h1 (hs j z v hc hv).1, (hs j z v hc hv).2⟩
  | _ =>
    simp only [oneR] at hr ⊢
    refine Sees1.leaf (leafR_sees hm hO ho ?_ (by simpa only [Sees1] using hx))
    revert hr
    generalize leafR post O _ = z
    intro hr
    cases z <;> first | exact hr | rfl
theorem fn_wp {P : Program} {f : FuncId} {fn : Func} {c : Code} (hf : P.funcs[f]? = some fn) (hb : fn.body = some c) {I : Inst} {e : Exit} {σ' : AS} {x : AV}
    (hcode : ∀ (M : Cx) (w0 : World) (a : Act) (w : World) (Q : Exit → Act → World → Prop), St M w0 ⟨initS 0 I.args, I.pre, I.args.length + (fn.ntmps - I.args.length), I.pre.map (·.1)⟩ a w → (∀ a' w', St M w0 σ' a' w' → Q e a' w') → c.wp P Q a w)
    (he : e = .ret ∨ e = .normal) (hx : resA P σ' fn.results.toList = some x) (hcl : closedB I.post = true) (hrf : refsInV I.post (resR I.post σ'.O x) = true) (hpre : (I.pre.all fun p => (lo I.post p.1).isSome) = true) (v1 : reEq (resR I.post σ'.O x) I.res) (v2 : allP (wkVcO σ' I.post)) : FnOk P f I := by
  intro M0 w00 E0 vs hob hm0 hlen hargs
  refine calls_of_wp hf hb ?_
  have hm : Mem ⟨fun b => ∃ q, bk E0 q = some b, E0.F, E0⟩ E0.w E0 :=
    ⟨Chg.refl _ _, fun b hb => .inl hb, hm0.fz, hm0.ok, fun q b hb => ⟨(hm0.live q b hb).1, (hm0.live q b hb).2.1, .inr ⟨q, hb⟩⟩, hm0.inj⟩
  have hSt : St ⟨fun b => ∃ q, bk E0 q = some b, E0.F, E0⟩ E0.w ⟨initS 0 I.args, I.pre, I.args.length + (fn.ntmps - I.args.length), I.pre.map (·.1)⟩ { tmps := vs.toArray ++ Array.replicate (fn.ntmps - vs.toArray.size) undef, defers := [] } E0.w := by
    refine ⟨E0, rfl, rfl, by simp [hlen], hob, hm, After.refl E0, fun o ho => ?_, fun t => ?_⟩
    · rw [hob] at ho
      obtain ⟨x, hx⟩ := Option.ne_none_iff_exists'.1 ho
      exact List.mem_map.2 ⟨_, mem_of_lo hx, rfl⟩
    · rw [initS_lk, if_pos (Nat.zero_le _), Nat.sub_zero]
      cases hx : I.args[t]? with
      | none => trivial
      | some x =>
        have hlt := lt_of_some hx
        rw [← hlen] at hlt
        have : (vs.toArray ++ Array.replicate (fn.ntmps - vs.toArray.size) undef).getD t undef = vs[t] := by
          rw [Array.getD_eq_getD_getElem?, Array.getElem?_append_left (by simpa using hlt)]
          simp [hlt]
        rw [this]
        exact Sees.sees1 (hargs t x _ hx (List.getElem?_eq_getElem hlt))
  refine hcode _ _ _ _ _ hSt ?_
  rcases he with rfl | rfl
  all_goals
    rintro a' w' ⟨E, rfl, hN⟩
    obtain ⟨v, hrun, hsee⟩ := run_res (fn := fn) hN hx
    refine ⟨hN.df, v, hrun, ?_⟩
    have ho : ∀ o, lo I.post o ≠ none → lo I.post o = E.ob o := fun o hq => by rw [hN.ob]; exact wkVcO_spec v2 o hq
    refine ⟨⟨E.w, fun b => E.F b ∨ ∃ o, lo I.post o = none ∧ bk E o = some b, E.β, E.ν, lo I.post⟩, v, rfl, rfl, rfl, ?_, ?_, ?_⟩
    · have hm1 := hN.mem
      have hbk : ∀ q b, bk ⟨E.w, fun b => E.F b ∨ ∃ o, lo I.post o = none ∧ bk E o = some b, E.β, E.ν, lo I.post⟩ q = some b → lo I.post q ≠ none ∧ bk E q = some b := fun q b hb => by
        have hq : lo I.post q ≠ none := fun h0 => by unfold bk at hb; simp only [h0] at hb; cases hb
        refine ⟨hq, ?_⟩
        unfold bk at hb ⊢; rw [← ho q hq]; exact hb
      have hlv : ∀ q b, bk E0 q = some b → w00.heap.size ≤ b ∨ M0.m b := fun q b hb => (hm0.live q b hb).2.2
      refine ⟨⟨hm1.chg.os.trans hm0.chg.os, hm1.chg.tape.trans hm0.chg.tape, hm1.chg.output.trans hm0.chg.output, Nat.le_trans hm0.chg.size hm1.chg.size, fun b hb hM => ?_⟩, fun b hb => ?_, fun b hb => ?_, fun q y hy => ?_, fun q b hb => ?_, fun q q' b h1 h2 => hm1.inj q q' b (hbk q b h1).2 (hbk q' b h2).2⟩
      · rw [hm1.chg.block b (Nat.lt_of_lt_of_le hb hm0.chg.size) (fun ⟨q, hq⟩ => by
          rcases hlv q b hq with h3 | h3
          · omega
          · exact hM h3)]
        exact hm0.chg.block b hb hM
      · have hcase : ∀ b, (E0.F b ∨ E0.w.heap.size ≤ b ∨ ∃ q, bk E0 q = some b) → M0.f b ∨ w00.heap.size ≤ b ∨ M0.m b := fun b hb => by
          rcases hb with hb | hb | ⟨q, hb⟩
          · exact hm0.org b hb
          · exact .inr (.inl (Nat.le_trans hm0.chg.size hb))
          · exact .inr (hlv q b hb)
        rcases hb with hb | ⟨o, _, hb⟩
        · exact hcase b (hm1.org b hb)
        · exact hcase b (.inr (hm1.live o b hb).2.2)
      · rcases hb with hb | ⟨o, _, hb⟩
        · exact hm1.fz b hb
        · exact (hm1.live o b hb).2.1
      · have hy' : lo I.post q = some y := hy
        have hq : E.ob q = some y := by rw [← ho q (by rw [hy']; simp)]; exact hy'
        have hok := hm1.ok q y hq
        have hc2 := List.all_eq_true.1 hcl _ (mem_of_lo hy')
        cases y with
        | gone => trivial
        | cells t cs =>
          obtain ⟨us, hb, hl, hs⟩ := hok
          refine ⟨us, hb, hl, fun j z u hz hu => ⟨Leaf.restr (E := E) (E' := ⟨E.w, fun b => E.F b ∨ ∃ o, lo I.post o = none ∧ bk E o = some b, E.β, E.ν, lo I.post⟩) rfl (fun b hb => Or.inl hb) rfl rfl (fun o hoo => ?_) (hs j z u hz hu).1, (hs j z u hz hu).2⟩⟩
          have h1 := List.all_eq_true.1 (List.all_eq_true.1 hc2 z (List.mem_of_getElem? hz)) o hoo
          exact ho o (fun h0 => by rw [h0] at h1; cases h1)
        | row e s n k cs =>
          obtain ⟨us, hb, hs0, hl, hrr⟩ := hok
          exact ⟨us, hb, hs0, hl, fun j z u hz hu => (hrr j z u hz hu).mono (fun b hb => Or.inl hb) fun _ _ => rfl⟩
      · obtain ⟨hq, hb'⟩ := hbk q b hb
        obtain ⟨l1, l2, l3⟩ := hm1.live q b hb'
        refine ⟨fun hf => ?_, l2, ?_⟩
        · rcases hf with hf | ⟨o, ho1, ho2⟩
          · exact l1 hf
          · have := hm1.inj q o b hb' ho2; subst this; exact hq ho1
        · rcases l3 with l3 | ⟨p, l3⟩
          · exact .inl (Nat.le_trans hm0.chg.size l3)
          · exact hlv p b l3
    · refine ⟨fun b hb => Or.inl (hN.aft.sub b hb), hN.aft.old, fun o h0 => ?_⟩
      obtain ⟨a1, a2, a3⟩ := hN.aft.obj o h0
      have h1 : lo I.post o ≠ none := fun h2 => by
        rw [hob] at h0
        obtain ⟨y, hy⟩ := Option.ne_none_iff_exists'.1 h0
        have := List.all_eq_true.1 hpre _ (mem_of_lo hy)
        simp only [h2] at this; cases this
      have h2 : lo I.post o = E.ob o := ho o h1
      exact ⟨h1, fun t cs hh => a2 t cs (by rw [← h2]; exact hh), fun e s n k cs hh => a3 e s n k cs (by rw [← h2]; exact hh)⟩
    · rw [← reEq_eq v1]
      have hgo := fun (y : AV) (u : Value) hr hx => oneR_sees (O := σ'.O) (post := I.post) hN.mem hN.ob ho (x := y) (u := u) hr hx
      cases x with
      | tup l =>
        obtain ⟨us, e1, e2, e3⟩ := hsee
        refine ⟨us, e1, by simp [e2], fun j y u hy hu => ?_⟩
        have h1 := List.all_eq_true.1 (show (l.map (oneR I.post σ'.O)).all _ = true from hrf) y (List.mem_of_getElem? hy)
        rw [List.getElem?_map] at hy
        cases hc : l[j]? with
        | none => rw [hc] at hy; cases hy
        | some z =>
          rw [hc] at hy; injection hy with hy; subst hy
          exact hgo z u h1 (e3 j z u hc hu)
      | opt b y => cases hrf
      | agg cs => exact hgo (.agg cs) v hrf hsee
      | _ =>
        simp only [resR] at hrf ⊢
        refine Sees.sees1 (hgo _ v ?_ (by simpa only [Sees] using hsee))
        revert hrf
        generalize oneR I.post σ'.O _ = z
        intro hrf
        cases z <;> first | exact hrf | rfl
theorem fn_run {P : Program} (hmo : P.follows .mixedOrders = true) {f : FuncId} {fn : Func} {c : Code} (hf : P.funcs[f]? = some fn) (hb : fn.body = some c) {H : List (Nat × Hint)} {L : List (Nat × LoopHint)} {I : Inst} {vcs : List Prop} (h : fnVc P fn.ntmps fn.results.toList c H L I = some vcs) (hv : allP vcs) : FnOk P f I := by
  unfold fnVc at h
  split at h
  · rename_i e σ' vc hr
    split at h
    all_goals first
      | (cases h; done)
      | (split at h
         · rename_i x hx
           rw [Bool.cond_eq_ite] at h
           split at h
           · rename_i hbb
             injection h with h; subst h
             obtain ⟨v1, v2⟩ := hv
             obtain ⟨v2, v3⟩ := allP_append.1 v2
             rw [Bool.and_eq_true, Bool.and_eq_true] at hbb
             obtain ⟨hcl, hrf, hpre⟩ := hbb
             exact fn_wp hf hb (fun M w0 a w Q hs hQ => runC_ok hmo hr v3 hs hQ) (by simp) hx hcl hrf hpre v1 v2
           · cases h
         · cases h)
  · cases h
/-- THE RULE FOR A FUNCTION: what is left, written out -/
theorem fn_go {P : Program} (hmo : P.follows .mixedOrders = true) {f : FuncId} {fn : Func} (hf : P.funcs[f]? = some fn) (hb : fn.body.isSome = true) {I : Inst} (H : List (Nat × Hint)) (L : List (Nat × LoopHint)) (vcs : List Prop) (h : fnVc P fn.ntmps fn.results.toList (fn.body.getD .skip) H L I = some vcs) (hv : allP vcs) : FnOk P f I := by
  obtain ⟨c, hc⟩ := Option.isSome_iff_exists.1 hb
  rw [hc] at h
  exact fn_run hmo hf hc h hv
/-- a round of a loop, written out: on -/
theorem Round.on {P : Program} {c : Code} {ι : Type} {inv : ι → AS} {μ : ι → Nat} {e : Exit} {σ' : AS} {i : ι} (H : List (Nat × Hint)) (L : List (Nat × LoopHint)) (j : ι) (vcs : List Prop) (hr : ((runC P H L c (inv i)).bind fun r => match r.1 with
    | .normal => (bif (inv j).nt == r.2.1.nt && (inv j).pk == r.2.1.pk && wkB (inv j) then some (wkVc (fitS (inv j) r.2.1) (inv j).S ++ (wkVcO (fitS (inv j) r.2.1) (inv j).O ++ r.2.2)) else none)
    | _ => none) = some vcs) (hj : μ j < μ i) (hv : allP vcs) : Round P c inv μ e σ' i := by
  cases hrun : runC P H L c (inv i) with
  | none => rw [hrun] at hr; cases hr
  | some r =>
    obtain ⟨e1, σ1, vc⟩ := r
    rw [hrun] at hr
    simp only [Option.bind_some] at hr
    cases e1 <;> first | (cases hr; done) | skip
    simp only [Bool.cond_eq_ite] at hr
    split at hr
    · rename_i hb
      injection hr with hr; subst hr
      obtain ⟨h1, h2⟩ := allP_append.1 hv
      obtain ⟨h2, h3⟩ := allP_append.1 h2
      exact ⟨H, L, .normal, σ1, vc, hrun, h3, .inl ⟨rfl, j, hj, hb, h1, h2⟩⟩
    · cases hr
def exitIs : Exit → Exit → Bool
  | .ret, .ret => true
  | .exit a, .exit b => a == b
  | _, _ => false
/-- out -/
theorem Round.out {P : Program} {c : Code} {ι : Type} {inv : ι → AS} {μ : ι → Nat} {e : Exit} {σ' : AS} {i : ι} (H : List (Nat × Hint)) (L : List (Nat × LoopHint)) (vcs : List Prop) (hr : ((runC P H L c (inv i)).bind fun r =>
    bif exitIs r.1 e && (σ'.nt == r.2.1.nt && σ'.pk == r.2.1.pk && wkB σ') then some (wkVc (fitS σ' r.2.1) σ'.S ++ (wkVcO (fitS σ' r.2.1) σ'.O ++ r.2.2)) else none) = some vcs) (hv : allP vcs) : Round P c inv μ e σ' i := by
  cases hrun : runC P H L c (inv i) with
  | none => rw [hrun] at hr; cases hr
  | some r =>
    obtain ⟨e1, σ1, vc⟩ := r
    rw [hrun] at hr
    simp only [Option.bind_some, Bool.cond_eq_ite] at hr
    split at hr
    · rename_i hb
      rw [Bool.and_eq_true] at hb
      injection hr with hr; subst hr
      obtain ⟨h1, h2⟩ := allP_append.1 hv
      obtain ⟨h2, h3⟩ := allP_append.1 h2
      have he : e1 = e ∧ e ≠ .normal := by
        have h0 := hb.1
        cases e1 <;> cases e <;> first | (cases h0; done) | exact ⟨rfl, by simp⟩ | exact ⟨by simpa [exitIs] using h0, by simp⟩
      exact ⟨H, L, e1, σ1, vc, hrun, h3, .inr ⟨he.1, he.2, hb.2, h1, h2⟩⟩
    · cases hr
end Go.Proofs.Ytfhmaincnlaapaa.Sy
namespace Go.Proofs.Ytfhmaincnlaapaa.Sy
open Go.ChangeShapes Go.WideShapes Go.ChangeAt Go.RowKit
set_option linter.unusedVariables false
theorem hmo : Try.prog.follows .mixedOrders = true := by kernel_rfl
theorem fdivN (n m : Nat) (p : Int) (h : p = (m : Int)) : (n : Int).fdiv p = ((n / m : Nat) : Int) := by
  subst h; rw [Int.fdiv_eq_ediv_of_nonneg _ (by omega)]; omega
theorem tdivN (n m : Nat) : (n : Int).tdiv (m : Int) = ((n / m : Nat) : Int) := rfl
theorem tmodN (n m : Nat) : (n : Int).tmod (m : Int) = ((n % m : Nat) : Int) := rfl
theorem tdivI (n m : Nat) (p : Int) (hp : p = (m : Int)) (h : n / m < 9223372036854775808) : IntKind.i64.wrap ((n : Int).tdiv p) = ((n / m : Nat) : Int) := by
  subst hp
  rw [tdivN]; generalize n / m = q at *; exact IntWalk.i64_in _ (by omega)
theorem someB {e b : Bool} (h : e = b) : some (AV.v (.bool e)) = some (AV.v (.bool b)) := by rw [h]
theorem Dt {p : Prop} [Decidable p] (h : p) : decide p = true := decide_eq_true h
theorem Df {p : Prop} [Decidable p] (h : ¬p) : decide p = false := decide_eq_false h
theorem Be {x y : Int} (h : x = y) : (x == y) = true := beq_iff_eq.2 h
theorem Bn {x y : Int} (h : x ≠ y) : (x == y) = false := beq_eq_false_iff_ne.2 h
theorem Ne {x y : Int} (h : x ≠ y) : (x != y) = true := bne_iff_ne.2 h
theorem Nq {x y : Int} (h : x = y) : (x != y) = false := bne_eq_false_iff_eq.2 h
theorem Wi (z : Int) (h : -9223372036854775808 ≤ z ∧ z ≤ 9223372036854775807) : IntKind.i64.wrap z = z := IntWalk.i64_in _ h
def iz (n : Int) : AV := .v (.int .i64 n)
def uz (n : Int) : AV := .v (.int .u64 n)
def u3 (n : Nat) : AV := .v (.int .u32 (n : Int))
def bz (b : Bool) : AV := .v (.bool b)
end Go.Proofs.Ytfhmaincnlaapaa.Sy
namespace Go.Proofs.Ytfhmaincnlaapaa
open Go.ChangeShapes Go.WideShapes Go.ChangeAt Go.RowKit
set_option linter.unusedVariables false

/-- the number of a list of digits, the lowest one first -/
def vd : List Nat → Nat
  | [] => 0
  | d :: l => d + 1000 * vd l
theorem vd_cons (d : Nat) (l : List Nat) : vd (d :: l) = d + 1000 * vd l := rfl
theorem vd_app (l m : List Nat) : vd (l ++ m) = vd l + 1000 ^ l.length * vd m := by
  induction l with
  | nil => simp [vd]
  | cons d l ih =>
    rw [List.cons_append, vd_cons, vd_cons, ih, List.length_cons, Nat.pow_succ, Nat.mul_add, ← Nat.mul_assoc, Nat.mul_comm 1000 (1000 ^ l.length)]
    omega
theorem vd_lt (l : List Nat) (h : ∀ d ∈ l, d < 1000) : vd l < 1000 ^ l.length := by
  induction l with
  | nil => simp [vd]
  | cons d l ih =>
    unfold vd
    have h1 := h d (by simp)
    have h2 := ih (fun x hx => h x (by simp [hx]))
    rw [List.length_cons, Nat.pow_succ]
    omega
/-- the length without noughts at the end -/
def tsz : List Nat → Nat
  | [] => 0
  | d :: l => if tsz l = 0 then (if d = 0 then 0 else 1) else tsz l + 1
theorem tsz_le (l : List Nat) : tsz l ≤ l.length := by
  induction l with
  | nil => simp [tsz]
  | cons d l ih => unfold tsz; rw [List.length_cons]; split <;> (try split) <;> omega
theorem tsz_last (l : List Nat) (d : Nat) : tsz (l ++ [d]) = if d = 0 then tsz l else l.length + 1 := by
  induction l with
  | nil => simp [tsz]
  | cons x l ih =>
    rw [List.cons_append]
    unfold tsz
    rw [ih]
    by_cases hd : d = 0
    · rw [if_pos hd, if_pos hd]
    · rw [if_neg hd, if_neg hd, if_neg (by omega), List.length_cons]
theorem vd_pow (l : List Nat) (k : Nat) : vd (List.replicate k 0 ++ l) = 1000 ^ k * vd l := by
  rw [vd_app, List.length_replicate]
  have : vd (List.replicate k 0) = 0 := by
    induction k with
    | zero => rfl
    | succ k ih => rw [List.replicate_succ]; unfold vd; rw [ih]
  omega
end Go.Proofs.Ytfhmaincnlaapaa
namespace Go.Proofs.Ytfhmaincnlaapaa
open Go.ChangeShapes Go.WideShapes Go.ChangeAt Go.RowKit
set_option linter.unusedVariables false

/-- digit j, nought beyond the end -/
def dg (l : List Nat) (j : Nat) : Nat := l.getD j 0
theorem dg_get (l : List Nat) (j : Nat) (h : j < l.length) : l[j] = dg l j := by simp [dg, List.getD, h]
theorem dg_far (l : List Nat) (j : Nat) (h : l.length ≤ j) : dg l j = 0 := by simp [dg, List.getD, h]
theorem dg_lt (l : List Nat) (j : Nat) (h : ∀ d ∈ l, d < 1000) : dg l j < 1000 := by
  rcases Nat.lt_or_ge j l.length with hj | hj
  · rw [← dg_get l j hj]; exact h _ (List.getElem_mem hj)
  · rw [dg_far l j hj]; decide
theorem vd_nil : vd [] = 0 := rfl
/-- the number from digit i on -/
theorem vd_drop (l : List Nat) (i : Nat) : vd (l.drop i) = dg l i + 1000 * vd (l.drop (i + 1)) := by
  rcases Nat.lt_or_ge i l.length with hi | hi
  · rw [List.drop_eq_getElem_cons hi, vd_cons, dg_get l i hi]
  · rw [List.drop_eq_nil_of_le hi, List.drop_eq_nil_of_le (by omega), dg_far l i hi]; rfl
theorem vd_drop_far (l : List Nat) (i : Nat) (h : l.length ≤ i) : vd (l.drop i) = 0 := by rw [List.drop_eq_nil_of_le h]; rfl
theorem vd_snoc (l : List Nat) (d : Nat) : vd (l ++ [d]) = vd l + 1000 ^ l.length * d := by rw [vd_app, vd_cons, vd_nil]; simp
/-- the sum of digits, as far as it goes -/
def SumR (a b out : List Nat) (i carry : Nat) : Prop := out.length = i ∧ carry ≤ 1 ∧ (∀ d ∈ out, d < 1000) ∧ vd out + 1000 ^ i * (carry + vd (a.drop i) + vd (b.drop i)) = vd a + vd b
theorem SumR.zero (a b : List Nat) : SumR a b [] 0 0 := ⟨rfl, by decide, fun d hd => (by cases hd), by simp [vd_nil]⟩
theorem SumR.succ {a b out : List Nat} {i carry : Nat} (ha : ∀ d ∈ a, d < 1000) (hb : ∀ d ∈ b, d < 1000) (h : SumR a b out i carry) : SumR a b (out ++ [(dg a i + dg b i + carry) % 1000]) (i + 1) ((dg a i + dg b i + carry) / 1000) := by
  obtain ⟨h1, h2, h3, h4⟩ := h
  have x1 := dg_lt a i ha
  have x2 := dg_lt b i hb
  refine ⟨by simp [h1], by omega, fun d hd => ?_, ?_⟩
  · rcases List.mem_append.1 hd with hd | hd
    · exact h3 d hd
    · obtain rfl := List.mem_singleton.1 hd; exact Nat.mod_lt _ (by decide)
  · rw [vd_snoc, h1, ← h4, vd_drop a i, vd_drop b i, Nat.pow_succ]
    generalize 1000 ^ i = P
    generalize vd (a.drop (i + 1)) = x
    generalize vd (b.drop (i + 1)) = y
    obtain ⟨s, hs⟩ : ∃ s, dg a i + dg b i + carry = s := ⟨_, rfl⟩
    have e1 : carry + (dg a i + 1000 * x) + (dg b i + 1000 * y) = s % 1000 + 1000 * (s / 1000 + x + y) := by omega
    rw [hs, e1, Nat.mul_add P (s % 1000), Nat.mul_assoc P 1000, Nat.add_assoc]
theorem SumR.end_ {a b out : List Nat} {i carry : Nat} (h : SumR a b out i carry) (h1 : a.length ≤ i) (h2 : b.length ≤ i) : vd (out ++ [carry]) = vd a + vd b ∧ ∀ d ∈ out ++ [carry], d < 1000 := by
  obtain ⟨g1, g2, g3, g4⟩ := h
  rw [vd_drop_far a i h1, vd_drop_far b i h2] at g4
  refine ⟨by rw [vd_snoc, g1, ← g4]; simp, fun d hd => ?_⟩
  rcases List.mem_append.1 hd with hd | hd
  · exact g3 d hd
  · obtain rfl := List.mem_singleton.1 hd; omega
/-- the difference of digits, as far as it goes -/
def RestR (a b out : List Nat) (i borrow : Nat) : Prop := out.length = i ∧ borrow ≤ 1 ∧ (∀ d ∈ out, d < 1000) ∧ (vd out : Int) + (1000 ^ i : Nat) * ((vd (a.drop i) : Int) - vd (b.drop i) - borrow) = (vd a : Int) - vd b
theorem RestR.zero (a b : List Nat) : RestR a b [] 0 0 := ⟨rfl, by decide, fun d hd => (by cases hd), by simp [vd_nil]⟩
theorem RestR.step {a b out : List Nat} {i borrow d borrow' : Nat} (hd : d < 1000) (hb' : borrow' ≤ 1) (h : RestR a b out i borrow) (he : (dg a i : Int) - dg b i - borrow = (d : Int) - 1000 * borrow') : RestR a b (out ++ [d]) (i + 1) borrow' := by
  obtain ⟨h1, h2, h3, h4⟩ := h
  refine ⟨by simp [h1], hb', fun x hx => ?_, ?_⟩
  · rcases List.mem_append.1 hx with hx | hx
    · exact h3 x hx
    · obtain rfl := List.mem_singleton.1 hx; exact hd
  · rw [vd_snoc, h1, ← h4, vd_drop a i, vd_drop b i, Nat.pow_succ]
    generalize 1000 ^ i = P
    generalize vd (a.drop (i + 1)) = x
    generalize vd (b.drop (i + 1)) = y
    have e1 : ((dg a i + 1000 * x : Nat) : Int) - ((dg b i + 1000 * y : Nat) : Int) - borrow = d + 1000 * ((x : Int) - y - borrow') := by omega
    rw [e1, Int.mul_add]
    simp only [Int.natCast_add, Int.natCast_mul]
    rw [Int.mul_assoc (P : Int), Int.add_assoc]
    rfl
theorem RestR.end_ {a b out : List Nat} (h : ∃ borrow, RestR a b out a.length borrow) (hle : vd b ≤ vd a) : vd out = vd a - vd b ∧ ∀ d ∈ out, d < 1000 := by
  obtain ⟨borrow, g1, g2, g3, g4⟩ := h
  refine ⟨?_, g3⟩
  rw [vd_drop_far a _ (Nat.le_refl _)] at g4
  have hlt := vd_lt out g3
  rw [g1] at hlt
  generalize 1000 ^ a.length = P at *
  generalize hx : vd (b.drop a.length) = x at *
  have hz : x + borrow = 0 := by
    rcases Nat.eq_zero_or_pos (x + borrow) with h0 | h0
    · exact h0
    · exfalso
      have e : (P : Int) * ((0 : Nat) - (x : Int) - borrow) = -((P * (x + borrow) : Nat) : Int) := by push_cast; rw [show ((0 : Int) - x - borrow) = -((x : Int) + borrow) from by omega, Int.mul_neg]
      rw [e] at g4
      have : P * 1 ≤ P * (x + borrow) := Nat.mul_le_mul_left _ h0
      omega
  obtain ⟨rfl, rfl⟩ : x = 0 ∧ borrow = 0 := by omega
  simp at g4
  omega
/-- one digit turned -/
theorem vd_set (l : List Nat) (j x : Nat) (h : j < l.length) : vd (l.set j x) + 1000 ^ j * dg l j = vd l + 1000 ^ j * x := by
  induction l generalizing j with
  | nil => simp at h
  | cons d l ih =>
    cases j with
    | zero => simp [vd_cons, dg]; omega
    | succ j =>
      have := ih j (by simpa using h)
      rw [List.set_cons_succ, vd_cons, vd_cons, Nat.pow_succ]
      have e : dg (d :: l) (j + 1) = dg l j := by simp [dg]
      rw [e, Nat.mul_comm (1000 ^ j) 1000, Nat.mul_assoc, Nat.mul_assoc]
      omega
theorem dg_set_self (l : List Nat) (j x : Nat) (h : j < l.length) : dg (l.set j x) j = x := by simp [dg, List.getD, h]
theorem dg_set_ne (l : List Nat) (j k x : Nat) (h : j ≠ k) : dg (l.set j x) k = dg l k := by simp [dg, List.getD, List.getElem?_set_ne h]
theorem vd_repl (k : Nat) : vd (List.replicate k 0) = 0 := by have := vd_pow [] k; simpa [vd_nil] using this
/-- the product of digits, as far as it goes: rounds i; in round i, k digits of b -/
def MulR (a b out : List Nat) (i : Nat) : Prop := out.length = a.length + b.length + 1 ∧ (∀ d ∈ out, d < 1000) ∧ (∀ j, i + b.length ≤ j → dg out j = 0) ∧ vd out = vd (a.take i) * vd b
def MulI (a b out : List Nat) (i k carry : Nat) : Prop := out.length = a.length + b.length + 1 ∧ (∀ d ∈ out, d < 1000) ∧ (∀ j, i + b.length ≤ j → dg out j = 0) ∧ carry < 1000 ∧ vd out + 1000 ^ (i + k) * carry = vd (a.take i) * vd b + 1000 ^ i * (dg a i * vd (b.take k))
theorem mem_set_lt {l : List Nat} {j x : Nat} (h : ∀ d ∈ l, d < 1000) (hx : x < 1000) : ∀ d ∈ l.set j x, d < 1000 := fun d hd => by
  rcases List.mem_or_eq_of_mem_set hd with hd | rfl
  · exact h d hd
  · exact hx
theorem vd_take_succ (l : List Nat) (k : Nat) (h : k < l.length) : vd (l.take (k + 1)) = vd (l.take k) + 1000 ^ k * dg l k := by
  rw [List.take_succ_eq_append_getElem h, vd_snoc, List.length_take, dg_get l k h, Nat.min_eq_left (by omega)]
theorem MulR.zero (a b : List Nat) : MulR a b (List.replicate (a.length + b.length + 1) 0) 0 := by
  refine ⟨by simp, fun d hd => ?_, fun j _ => ?_, ?_⟩
  · have := List.eq_of_mem_replicate hd; omega
  · unfold dg List.getD; rw [List.getElem?_replicate]; split <;> rfl
  · rw [vd_repl]; simp [vd_nil]
theorem prod_bd {x y z c : Nat} (hx : x < 1000) (hy : y < 1000) (hz : z < 1000) (hc : c < 1000) : z + x * y + c < 1000000 := by
  have : x * y ≤ 999 * 999 := Nat.mul_le_mul (by omega) (by omega)
  omega
theorem MulI.succ {a b out : List Nat} {i k carry : Nat} (ha : ∀ d ∈ a, d < 1000) (hb : ∀ d ∈ b, d < 1000) (h : MulI a b out i k carry) (hi : i < a.length) (hk : k < b.length) :
    MulI a b (out.set (i + k) ((dg out (i + k) + dg a i * dg b k + carry) % 1000)) i (k + 1) ((dg out (i + k) + dg a i * dg b k + carry) / 1000) := by
  obtain ⟨h1, h2, h3, h4, h5⟩ := h
  have x1 := dg_lt a i ha
  have x2 := dg_lt b k hb
  have x3 := dg_lt out (i + k) h2
  have hbd := prod_bd x1 x2 x3 h4
  have hs := vd_set out (i + k) ((dg out (i + k) + dg a i * dg b k + carry) % 1000) (by omega)
  refine ⟨by simp [h1], mem_set_lt h2 (Nat.mod_lt _ (by decide)), fun j hj => by rw [dg_set_ne _ _ _ _ (by omega)]; exact h3 j hj, by omega, ?_⟩
  rw [vd_take_succ b k hk, Nat.mul_add, Nat.mul_add, ← Nat.add_assoc (vd (a.take i) * vd b), ← h5, ← Nat.add_assoc i k 1, Nat.pow_succ]
  generalize dg out (i + k) = o at *
  generalize dg a i = p at *
  generalize dg b k = q at *
  have e1 : 1000 ^ i * (p * (1000 ^ k * q)) = 1000 ^ (i + k) * (p * q) := by rw [Nat.pow_add, ← Nat.mul_assoc p, Nat.mul_comm p, Nat.mul_assoc (1000 ^ k), ← Nat.mul_assoc (1000 ^ i)]
  rw [e1]
  generalize vd (out.set (i + k) ((o + p * q + carry) % 1000)) = V' at *
  generalize vd out = V at *
  generalize 1000 ^ (i + k) = P at *
  obtain ⟨s, hss⟩ : ∃ s, o + p * q + carry = s := ⟨_, rfl⟩
  rw [hss] at hs ⊢
  have e2 : P * s = P * o + P * (p * q) + P * carry := by rw [← hss, Nat.mul_add, Nat.mul_add]
  have e3 : P * s = P * (s % 1000) + P * 1000 * (s / 1000) := by
    rw [Nat.mul_assoc, ← Nat.mul_add, Nat.mod_add_div]
  omega
theorem MulI.end_ {a b out : List Nat} {i carry : Nat} (h : MulI a b out i b.length carry) (hi : i < a.length) : MulR a b (out.set (i + b.length) carry) (i + 1) := by
  obtain ⟨h1, h2, h3, h4, h5⟩ := h
  have hs := vd_set out (i + b.length) carry (by omega)
  have h0 := h3 (i + b.length) (Nat.le_refl _)
  refine ⟨by simp [h1], mem_set_lt h2 h4, fun j hj => by rw [dg_set_ne _ _ _ _ (by omega)]; exact h3 j (by omega), ?_⟩
  rw [h0, Nat.mul_zero, Nat.add_zero] at hs
  rw [hs, h5, vd_take_succ a i hi, List.take_length, Nat.add_mul, Nat.mul_assoc]
theorem MulR.all {a b out : List Nat} (h : MulR a b out a.length) : vd out = vd a * vd b ∧ ∀ d ∈ out, d < 1000 := by
  obtain ⟨_, h2, _, h4⟩ := h
  rw [List.take_length] at h4
  exact ⟨h4, h2⟩
/-- long division: what is left, and a digit more -/
theorem ldiv_step {b r d : Nat} (hb : 0 < b) (hr : r < b) (hd : d < 1000) : (d + 1000 * r) / b < 1000 := by
  rw [Nat.div_lt_iff_lt_mul hb]
  have : 1000 * r + 1000 ≤ 1000 * b := by omega
  rw [Nat.mul_comm]; omega
/-- long division, as far as it goes: digits from i on are done -/
def DivR (a q : List Nat) (b i r : Nat) : Prop := q.length = a.length ∧ (∀ d ∈ q, d < 1000) ∧ (∀ j, j < i → dg q j = 0) ∧ r < b ∧ vd (q.drop i) * b + r = vd (a.drop i)
theorem drop_set_le (l : List Nat) (i x : Nat) : (l.set i x).drop (i + 1) = l.drop (i + 1) := by rw [List.drop_set_of_lt (by omega)]
theorem DivR.step {a q : List Nat} {b i r : Nat} (ha : ∀ d ∈ a, d < 1000) (h : DivR a q b (i + 1) r) (hi : i < a.length) : DivR a (q.set i ((dg a i + 1000 * r) / b)) b i ((dg a i + 1000 * r) % b) := by
  obtain ⟨h1, h2, h3, h4, h5⟩ := h
  have hb : 0 < b := by omega
  have hd := ldiv_step hb h4 (dg_lt a i ha)
  refine ⟨by simp [h1], mem_set_lt h2 hd, fun j hj => by rw [dg_set_ne _ _ _ _ (by omega)]; exact h3 j (by omega), Nat.mod_lt _ hb, ?_⟩
  rw [vd_drop (q.set i _) i, vd_drop a i, dg_set_self _ _ _ (by omega), drop_set_le, ← h5, Nat.add_mul]
  have e := Nat.div_add_mod (dg a i + 1000 * r) b
  rw [Nat.mul_comm b] at e
  rw [Nat.mul_add, ← Nat.mul_assoc]
  generalize (dg a i + 1000 * r) / b * b = x at *
  generalize (dg a i + 1000 * r) % b = y at *
  generalize 1000 * vd (List.drop (i + 1) q) * b = z
  omega
theorem DivR.all {a q : List Nat} {b r : Nat} (h : DivR a q b 0 r) : vd q = vd a / b ∧ (∀ d ∈ q, d < 1000) := by
  obtain ⟨_, h2, _, h4, h5⟩ := h
  refine ⟨?_, h2⟩
  rw [List.drop_zero, List.drop_zero] at h5
  rw [← h5, Nat.add_comm, Nat.add_mul_div_right _ _ (by omega), Nat.div_eq_of_lt h4]; omega
end Go.Proofs.Ytfhmaincnlaapaa
namespace Go.Proofs.Ytfhmaincnlaapaa.Sy
open Go.ChangeShapes Go.WideShapes Go.ChangeAt Go.RowKit
set_option linter.unusedVariables false
set_option linter.unusedSimpArgs false
def Td (l : List Nat) : Prop := ∀ d ∈ l, d < 1000
theorem i64n (n : Nat) (h : n < 9223372036854775808) : IntKind.i64.wrap (n : Int) = (n : Int) := IntWalk.i64_in _ (by omega)
/-! ### digit -/
/-! ### made -/
/-! ### Nat -/
/-! ### less -/
section
variable {a b : List Nat} (ha : Td a) (hb : Td b) (hal : a.length ≤ 1000000000) (hbl : b.length ≤ 1000000000)
include ha hb hal hbl
end
/-! ### sum -/
/-! ### rest -/
/-! ### Neg, Add, Of, Cmp -/
end Go.Proofs.Ytfhmaincnlaapaa.Sy
namespace Go.Proofs.Ytfhmaincnlaapaa.Sy
open Go.ChangeShapes Go.WideShapes Go.ChangeAt Go.RowKit
set_option linter.unusedVariables false
set_option linter.unusedSimpArgs false
/-! ### Mul -/
def mlX (a b o : List Nat) (i k c : Nat) : Nat := dg o (i + k) + dg a i * dg b k + c
def mlK (a b : List Nat) (i : Nat) (o : List Nat) : Nat → List Nat × Nat
  | 0 => (o, 0)
  | k + 1 => ((mlK a b i o k).1.set (i + k) (mlX a b (mlK a b i o k).1 i k (mlK a b i o k).2 % 1000), mlX a b (mlK a b i o k).1 i k (mlK a b i o k).2 / 1000)
def mlR (a b : List Nat) : Nat → List Nat
  | 0 => List.replicate (a.length + b.length + 1) 0
  | i + 1 => (mlK a b i (mlR a b i) b.length).1.set (i + b.length) (mlK a b i (mlR a b i) b.length).2
def mk (d e : List Nat) (i k : Nat) : List Nat × Nat := mlK d e i (mlR d e i) k
/-! ### Power, Two -/
def p2 (n : Nat) : Nat := 2 ^ n
/-! ### Uint, Fits, Int -/
end Go.Proofs.Ytfhmaincnlaapaa.Sy
namespace Go.Proofs.Ytfhmaincnlaapaa
open Go.ChangeShapes Go.WideShapes Go.ChangeAt Go.RowKit
set_option linter.unusedVariables false
/-- the number of a list of digits, the lowest one first -/
def vw : List Nat → Nat
  | [] => 0
  | d :: l => d + 4294967296 * vw l
theorem vd_consW (d : Nat) (l : List Nat) : vw (d :: l) = d + 4294967296 * vw l := rfl
/-- a number's digits, no noughts at the end -/
def dgw (n : Nat) : List Nat := if h : n = 0 then [] else n % 4294967296 :: dgw (n / 4294967296)
termination_by n
decreasing_by exact Nat.div_lt_self (by omega) (by decide)
theorem dig_zeroW : dgw 0 = [] := by rw [dgw]; simp
theorem dig_posW {n : Nat} (h : n ≠ 0) : dgw n = n % 4294967296 :: dgw (n / 4294967296) := by rw [dgw]; simp [h]
theorem vd_digW (n : Nat) : vw (dgw n) = n := by
  induction n using Nat.strongRecOn with
  | ind n ih =>
    by_cases h : n = 0
    · subst h; rw [dig_zeroW]; rfl
    · rw [dig_posW h]
      unfold vw
      rw [ih (n / 4294967296) (by omega)]
      omega
theorem dig_ltW (n : Nat) : ∀ d ∈ dgw n, d < 4294967296 := by
  induction n using Nat.strongRecOn with
  | ind n ih =>
    by_cases h : n = 0
    · subst h; rw [dig_zeroW]; intro d hd; cases hd
    · rw [dig_posW h]
      intro d hd
      rcases List.mem_cons.1 hd with rfl | hd
      · omega
      · exact ih (n / 4294967296) (by omega) d hd
theorem vd_appW (l m : List Nat) : vw (l ++ m) = vw l + 4294967296 ^ l.length * vw m := by
  induction l with
  | nil => simp [vw]
  | cons d l ih =>
    rw [List.cons_append, vd_consW, vd_consW, ih, List.length_cons, Nat.pow_succ, Nat.mul_add, ← Nat.mul_assoc, Nat.mul_comm 4294967296 (4294967296 ^ l.length)]
    omega
theorem vd_ltW (l : List Nat) (h : ∀ d ∈ l, d < 4294967296) : vw l < 4294967296 ^ l.length := by
  induction l with
  | nil => simp [vw]
  | cons d l ih =>
    unfold vw
    have h1 := h d (by simp)
    have h2 := ih (fun x hx => h x (by simp [hx]))
    rw [List.length_cons, Nat.pow_succ]
    omega
theorem tsz_zeroW (l : List Nat) : tsz l = 0 ↔ vw l = 0 := by
  induction l with
  | nil => simp [tsz, vw]
  | cons d l ih =>
    unfold tsz vw
    split
    · rename_i h
      have := ih.1 h
      split <;> omega
    · rename_i h
      have : vw l ≠ 0 := fun e => h (ih.2 e)
      omega
theorem take_tszW (l : List Nat) (h : ∀ d ∈ l, d < 4294967296) : l.take (tsz l) = dgw (vw l) := by
  induction l with
  | nil => simp [tsz, vw, dig_zeroW]
  | cons d l ih =>
    have hd := h d (by simp)
    have hl := ih (fun x hx => h x (by simp [hx]))
    unfold tsz vw
    split
    · rename_i h0
      have hz := (tsz_zeroW l).1 h0
      split
      · rename_i hd0; subst hd0; rw [hz]; simp [dig_zeroW]
      · rename_i hd0
        rw [hz, Nat.mul_zero, Nat.add_zero, dig_posW hd0, Nat.mod_eq_of_lt hd, Nat.div_eq_of_lt hd, dig_zeroW]; simp
    · rename_i h0
      have hz : vw l ≠ 0 := fun e => h0 ((tsz_zeroW l).2 e)
      have e1 : (d + 4294967296 * vw l) % 4294967296 = d := by omega
      have e2 : (d + 4294967296 * vw l) / 4294967296 = vw l := by omega
      rw [List.take_succ_cons, hl, dig_posW (n := d + 4294967296 * vw l) (by omega), e1, e2]
theorem vd_powW (l : List Nat) (k : Nat) : vw (List.replicate k 0 ++ l) = 4294967296 ^ k * vw l := by
  rw [vd_appW, List.length_replicate]
  have : vw (List.replicate k 0) = 0 := by
    induction k with
    | zero => rfl
    | succ k ih => rw [List.replicate_succ]; unfold vw; rw [ih]
  omega
theorem dig_lenW {n k : Nat} (h : n < 4294967296 ^ k) : (dgw n).length ≤ k := by
  induction k generalizing n with
  | zero => have : n = 0 := by simpa using h
            subst this; rw [dig_zeroW]; simp
  | succ k ih =>
    by_cases h0 : n = 0
    · subst h0; rw [dig_zeroW]; simp
    · rw [dig_posW h0, List.length_cons]
      have := ih (n := n / 4294967296) (by rw [Nat.pow_succ] at h; omega)
      omega

theorem dg_ltW (l : List Nat) (j : Nat) (h : ∀ d ∈ l, d < 4294967296) : dg l j < 4294967296 := by
  rcases Nat.lt_or_ge j l.length with hj | hj
  · rw [← dg_get l j hj]; exact h _ (List.getElem_mem hj)
  · rw [dg_far l j hj]; decide
theorem vd_nilW : vw [] = 0 := rfl
/-- the number from digit i on -/
theorem vd_dropW (l : List Nat) (i : Nat) : vw (l.drop i) = dg l i + 4294967296 * vw (l.drop (i + 1)) := by
  rcases Nat.lt_or_ge i l.length with hi | hi
  · rw [List.drop_eq_getElem_cons hi, vd_consW, dg_get l i hi]
  · rw [List.drop_eq_nil_of_le hi, List.drop_eq_nil_of_le (by omega), dg_far l i hi]; rfl
theorem vd_partsW (l : List Nat) (i : Nat) : vw l = vw (l.take i) + 4294967296 ^ (min i l.length) * vw (l.drop i) := by
  have h := vd_appW (l.take i) (l.drop i)
  rw [List.take_append_drop, List.length_take] at h
  exact h
theorem vd_drop_farW (l : List Nat) (i : Nat) (h : l.length ≤ i) : vw (l.drop i) = 0 := by rw [List.drop_eq_nil_of_le h]; rfl
theorem vd_snocW (l : List Nat) (d : Nat) : vw (l ++ [d]) = vw l + 4294967296 ^ l.length * d := by rw [vd_appW, vd_consW, vd_nilW]; simp
theorem p_posW (k : Nat) : 0 < 4294967296 ^ k := Nat.pow_pos (by decide)
/-- the same from digit i on, less at digit i: less -/
theorem vd_lessW {a b : List Nat} (ha : ∀ d ∈ a, d < 4294967296) (hb : ∀ d ∈ b, d < 4294967296) {i : Nat} (h : vw (a.drop (i + 1)) = vw (b.drop (i + 1))) (hl : dg a i < dg b i) : vw a < vw b := by
  have e1 := vd_dropW a i
  have e2 := vd_dropW b i
  have hlt : vw (a.drop i) < vw (b.drop i) := by omega
  clear e1 e2 h hl
  induction i with
  | zero => simpa using hlt
  | succ i ih =>
    apply ih
    have e1 := vd_dropW a i
    have e2 := vd_dropW b i
    have h1 := dg_ltW a i ha
    have h2 := dg_ltW b i hb
    omega
/-- the sum of digits, as far as it goes -/
def SumRW (a b out : List Nat) (i carry : Nat) : Prop := out.length = i ∧ carry ≤ 1 ∧ (∀ d ∈ out, d < 4294967296) ∧ vw out + 4294967296 ^ i * (carry + vw (a.drop i) + vw (b.drop i)) = vw a + vw b
theorem SumRW.zero (a b : List Nat) : SumRW a b [] 0 0 := ⟨rfl, by decide, fun d hd => (by cases hd), by simp [vd_nilW]⟩
theorem SumRW.succ {a b out : List Nat} {i carry : Nat} (ha : ∀ d ∈ a, d < 4294967296) (hb : ∀ d ∈ b, d < 4294967296) (h : SumRW a b out i carry) : SumRW a b (out ++ [(dg a i + dg b i + carry) % 4294967296]) (i + 1) ((dg a i + dg b i + carry) / 4294967296) := by
  obtain ⟨h1, h2, h3, h4⟩ := h
  have x1 := dg_ltW a i ha
  have x2 := dg_ltW b i hb
  refine ⟨by simp [h1], by omega, fun d hd => ?_, ?_⟩
  · rcases List.mem_append.1 hd with hd | hd
    · exact h3 d hd
    · obtain rfl := List.mem_singleton.1 hd; exact Nat.mod_lt _ (by decide)
  · rw [vd_snocW, h1, ← h4, vd_dropW a i, vd_dropW b i, Nat.pow_succ]
    generalize 4294967296 ^ i = P
    generalize vw (a.drop (i + 1)) = x
    generalize vw (b.drop (i + 1)) = y
    obtain ⟨s, hs⟩ : ∃ s, dg a i + dg b i + carry = s := ⟨_, rfl⟩
    have e1 : carry + (dg a i + 4294967296 * x) + (dg b i + 4294967296 * y) = s % 4294967296 + 4294967296 * (s / 4294967296 + x + y) := by omega
    rw [hs, e1, Nat.mul_add P (s % 4294967296), Nat.mul_assoc P 4294967296, Nat.add_assoc]
theorem SumRW.end_ {a b out : List Nat} {i carry : Nat} (h : SumRW a b out i carry) (h1 : a.length ≤ i) (h2 : b.length ≤ i) : vw (out ++ [carry]) = vw a + vw b ∧ ∀ d ∈ out ++ [carry], d < 4294967296 := by
  obtain ⟨g1, g2, g3, g4⟩ := h
  rw [vd_drop_farW a i h1, vd_drop_farW b i h2] at g4
  refine ⟨by rw [vd_snocW, g1, ← g4]; simp, fun d hd => ?_⟩
  rcases List.mem_append.1 hd with hd | hd
  · exact g3 d hd
  · obtain rfl := List.mem_singleton.1 hd; omega
/-- the difference of digits, as far as it goes -/
def RestRW (a b out : List Nat) (i borrow : Nat) : Prop := out.length = i ∧ borrow ≤ 1 ∧ (∀ d ∈ out, d < 4294967296) ∧ (vw out : Int) + (4294967296 ^ i : Nat) * ((vw (a.drop i) : Int) - vw (b.drop i) - borrow) = (vw a : Int) - vw b
theorem RestRW.zero (a b : List Nat) : RestRW a b [] 0 0 := ⟨rfl, by decide, fun d hd => (by cases hd), by simp [vd_nilW]⟩
theorem RestRW.step {a b out : List Nat} {i borrow d borrow' : Nat} (hd : d < 4294967296) (hb' : borrow' ≤ 1) (h : RestRW a b out i borrow) (he : (dg a i : Int) - dg b i - borrow = (d : Int) - 4294967296 * borrow') : RestRW a b (out ++ [d]) (i + 1) borrow' := by
  obtain ⟨h1, h2, h3, h4⟩ := h
  refine ⟨by simp [h1], hb', fun x hx => ?_, ?_⟩
  · rcases List.mem_append.1 hx with hx | hx
    · exact h3 x hx
    · obtain rfl := List.mem_singleton.1 hx; exact hd
  · rw [vd_snocW, h1, ← h4, vd_dropW a i, vd_dropW b i, Nat.pow_succ]
    generalize 4294967296 ^ i = P
    generalize vw (a.drop (i + 1)) = x
    generalize vw (b.drop (i + 1)) = y
    have e1 : ((dg a i + 4294967296 * x : Nat) : Int) - ((dg b i + 4294967296 * y : Nat) : Int) - borrow = d + 4294967296 * ((x : Int) - y - borrow') := by omega
    rw [e1, Int.mul_add]
    simp only [Int.natCast_add, Int.natCast_mul]
    rw [Int.mul_assoc (P : Int), Int.add_assoc]
    rfl
theorem RestRW.end_ {a b out : List Nat} (h : ∃ borrow, RestRW a b out a.length borrow) (hle : vw b ≤ vw a) : vw out = vw a - vw b ∧ ∀ d ∈ out, d < 4294967296 := by
  obtain ⟨borrow, g1, g2, g3, g4⟩ := h
  refine ⟨?_, g3⟩
  rw [vd_drop_farW a _ (Nat.le_refl _)] at g4
  have hlt := vd_ltW out g3
  rw [g1] at hlt
  generalize 4294967296 ^ a.length = P at *
  generalize hx : vw (b.drop a.length) = x at *
  have hz : x + borrow = 0 := by
    rcases Nat.eq_zero_or_pos (x + borrow) with h0 | h0
    · exact h0
    · exfalso
      have e : (P : Int) * ((0 : Nat) - (x : Int) - borrow) = -((P * (x + borrow) : Nat) : Int) := by push_cast; rw [show ((0 : Int) - x - borrow) = -((x : Int) + borrow) from by omega, Int.mul_neg]
      rw [e] at g4
      have : P * 1 ≤ P * (x + borrow) := Nat.mul_le_mul_left _ h0
      omega
  obtain ⟨rfl, rfl⟩ : x = 0 ∧ borrow = 0 := by omega
  simp at g4
  omega
/-- one digit turned -/
theorem vd_setW (l : List Nat) (j x : Nat) (h : j < l.length) : vw (l.set j x) + 4294967296 ^ j * dg l j = vw l + 4294967296 ^ j * x := by
  induction l generalizing j with
  | nil => simp at h
  | cons d l ih =>
    cases j with
    | zero => simp [vd_consW, dg]; omega
    | succ j =>
      have := ih j (by simpa using h)
      rw [List.set_cons_succ, vd_consW, vd_consW, Nat.pow_succ]
      have e : dg (d :: l) (j + 1) = dg l j := by simp [dg]
      rw [e, Nat.mul_comm (4294967296 ^ j) 4294967296, Nat.mul_assoc, Nat.mul_assoc]
      omega
theorem vd_replW (k : Nat) : vw (List.replicate k 0) = 0 := by have := vd_powW [] k; simpa [vd_nilW] using this
/-- the product of digits, as far as it goes: rounds i; in round i, k digits of b -/
def MulRW (a b out : List Nat) (i : Nat) : Prop := out.length = a.length + b.length + 1 ∧ (∀ d ∈ out, d < 4294967296) ∧ (∀ j, i + b.length ≤ j → dg out j = 0) ∧ vw out = vw (a.take i) * vw b
def MulIW (a b out : List Nat) (i k carry : Nat) : Prop := out.length = a.length + b.length + 1 ∧ (∀ d ∈ out, d < 4294967296) ∧ (∀ j, i + b.length ≤ j → dg out j = 0) ∧ carry < 4294967296 ∧ vw out + 4294967296 ^ (i + k) * carry = vw (a.take i) * vw b + 4294967296 ^ i * (dg a i * vw (b.take k))
theorem mem_set_ltW {l : List Nat} {j x : Nat} (h : ∀ d ∈ l, d < 4294967296) (hx : x < 4294967296) : ∀ d ∈ l.set j x, d < 4294967296 := fun d hd => by
  rcases List.mem_or_eq_of_mem_set hd with hd | rfl
  · exact h d hd
  · exact hx
theorem vd_take_succW (l : List Nat) (k : Nat) (h : k < l.length) : vw (l.take (k + 1)) = vw (l.take k) + 4294967296 ^ k * dg l k := by
  rw [List.take_succ_eq_append_getElem h, vd_snocW, List.length_take, dg_get l k h, Nat.min_eq_left (by omega)]
theorem MulRW.zero (a b : List Nat) : MulRW a b (List.replicate (a.length + b.length + 1) 0) 0 := by
  refine ⟨by simp, fun d hd => ?_, fun j _ => ?_, ?_⟩
  · have := List.eq_of_mem_replicate hd; omega
  · unfold dg List.getD; rw [List.getElem?_replicate]; split <;> rfl
  · rw [vd_replW]; simp [vd_nilW]
theorem prod_bdW {x y z c : Nat} (hx : x < 4294967296) (hy : y < 4294967296) (hz : z < 4294967296) (hc : c < 4294967296) : z + x * y + c < 18446744073709551616 := by
  have : x * y ≤ 4294967295 * 4294967295 := Nat.mul_le_mul (by omega) (by omega)
  omega
theorem MulIW.succ {a b out : List Nat} {i k carry : Nat} (ha : ∀ d ∈ a, d < 4294967296) (hb : ∀ d ∈ b, d < 4294967296) (h : MulIW a b out i k carry) (hi : i < a.length) (hk : k < b.length) :
    MulIW a b (out.set (i + k) ((dg out (i + k) + dg a i * dg b k + carry) % 4294967296)) i (k + 1) ((dg out (i + k) + dg a i * dg b k + carry) / 4294967296) := by
  obtain ⟨h1, h2, h3, h4, h5⟩ := h
  have x1 := dg_ltW a i ha
  have x2 := dg_ltW b k hb
  have x3 := dg_ltW out (i + k) h2
  have hbd := prod_bdW x1 x2 x3 h4
  have hs := vd_setW out (i + k) ((dg out (i + k) + dg a i * dg b k + carry) % 4294967296) (by omega)
  refine ⟨by simp [h1], mem_set_ltW h2 (Nat.mod_lt _ (by decide)), fun j hj => by rw [dg_set_ne _ _ _ _ (by omega)]; exact h3 j hj, by omega, ?_⟩
  rw [vd_take_succW b k hk, Nat.mul_add, Nat.mul_add, ← Nat.add_assoc (vw (a.take i) * vw b), ← h5, ← Nat.add_assoc i k 1, Nat.pow_succ]
  generalize dg out (i + k) = o at *
  generalize dg a i = p at *
  generalize dg b k = q at *
  have e1 : 4294967296 ^ i * (p * (4294967296 ^ k * q)) = 4294967296 ^ (i + k) * (p * q) := by rw [Nat.pow_add, ← Nat.mul_assoc p, Nat.mul_comm p, Nat.mul_assoc (4294967296 ^ k), ← Nat.mul_assoc (4294967296 ^ i)]
  rw [e1]
  generalize vw (out.set (i + k) ((o + p * q + carry) % 4294967296)) = V' at *
  generalize vw out = V at *
  generalize 4294967296 ^ (i + k) = P at *
  obtain ⟨s, hss⟩ : ∃ s, o + p * q + carry = s := ⟨_, rfl⟩
  rw [hss] at hs ⊢
  have e2 : P * s = P * o + P * (p * q) + P * carry := by rw [← hss, Nat.mul_add, Nat.mul_add]
  have e3 : P * s = P * (s % 4294967296) + P * 4294967296 * (s / 4294967296) := by
    rw [Nat.mul_assoc, ← Nat.mul_add, Nat.mod_add_div]
  omega
theorem MulIW.end_ {a b out : List Nat} {i carry : Nat} (h : MulIW a b out i b.length carry) (hi : i < a.length) : MulRW a b (out.set (i + b.length) carry) (i + 1) := by
  obtain ⟨h1, h2, h3, h4, h5⟩ := h
  have hs := vd_setW out (i + b.length) carry (by omega)
  have h0 := h3 (i + b.length) (Nat.le_refl _)
  refine ⟨by simp [h1], mem_set_ltW h2 h4, fun j hj => by rw [dg_set_ne _ _ _ _ (by omega)]; exact h3 j (by omega), ?_⟩
  rw [h0, Nat.mul_zero, Nat.add_zero] at hs
  rw [hs, h5, vd_take_succW a i hi, List.take_length, Nat.add_mul, Nat.mul_assoc]
theorem MulRW.all {a b out : List Nat} (h : MulRW a b out a.length) : vw out = vw a * vw b ∧ ∀ d ∈ out, d < 4294967296 := by
  obtain ⟨_, h2, _, h4⟩ := h
  rw [List.take_length] at h4
  exact ⟨h4, h2⟩
theorem dig_monoW {m n : Nat} (h : m ≤ n) : (dgw m).length ≤ (dgw n).length := by
  apply dig_lenW
  have := vd_ltW (dgw n) (dig_ltW n)
  rw [vd_digW] at this
  omega
/-- long division: what is left, and a digit more -/
theorem ldiv_stepW {b r d : Nat} (hb : 0 < b) (hr : r < b) (hd : d < 4294967296) : (d + 4294967296 * r) / b < 4294967296 := by
  rw [Nat.div_lt_iff_lt_mul hb]
  have : 4294967296 * r + 4294967296 ≤ 4294967296 * b := by omega
  rw [Nat.mul_comm]; omega
/-- long division, as far as it goes: digits from i on are done -/
def DivRW (a q : List Nat) (b i r : Nat) : Prop := q.length = a.length ∧ (∀ d ∈ q, d < 4294967296) ∧ (∀ j, j < i → dg q j = 0) ∧ r < b ∧ vw (q.drop i) * b + r = vw (a.drop i)
theorem DivRW.step {a q : List Nat} {b i r : Nat} (ha : ∀ d ∈ a, d < 4294967296) (h : DivRW a q b (i + 1) r) (hi : i < a.length) : DivRW a (q.set i ((dg a i + 4294967296 * r) / b)) b i ((dg a i + 4294967296 * r) % b) := by
  obtain ⟨h1, h2, h3, h4, h5⟩ := h
  have hb : 0 < b := by omega
  have hd := ldiv_stepW hb h4 (dg_ltW a i ha)
  refine ⟨by simp [h1], mem_set_ltW h2 hd, fun j hj => by rw [dg_set_ne _ _ _ _ (by omega)]; exact h3 j (by omega), Nat.mod_lt _ hb, ?_⟩
  rw [vd_dropW (q.set i _) i, vd_dropW a i, dg_set_self _ _ _ (by omega), drop_set_le, ← h5, Nat.add_mul]
  have e := Nat.div_add_mod (dg a i + 4294967296 * r) b
  rw [Nat.mul_comm b] at e
  rw [Nat.mul_add, ← Nat.mul_assoc]
  generalize (dg a i + 4294967296 * r) / b * b = x at *
  generalize (dg a i + 4294967296 * r) % b = y at *
  generalize 4294967296 * vw (List.drop (i + 1) q) * b = z
  omega
theorem DivRW.all {a q : List Nat} {b r : Nat} (h : DivRW a q b 0 r) : vw q = vw a / b ∧ (∀ d ∈ q, d < 4294967296) := by
  obtain ⟨_, h2, _, h4, h5⟩ := h
  refine ⟨?_, h2⟩
  rw [List.drop_zero, List.drop_zero] at h5
  rw [← h5, Nat.add_comm, Nat.add_mul_div_right _ _ (by omega), Nat.div_eq_of_lt h4]; omega
end Go.Proofs.Ytfhmaincnlaapaa
namespace Go.Proofs.Ytfhmaincnlaapaa
open Go.ChangeShapes Go.WideShapes Go.ChangeAt Go.RowKit
set_option linter.unusedVariables false

end Go.Proofs.Ytfhmaincnlaapaa
