/-
  bushelref08.Read (U), bushelref11.Reader: Ask, U, End.
  THE READER's U, I, T.
  buf.read at its four types: what it does to the reader.
  buf.NewIn; the reader's U.
  THE READER buf.In: its memory; fine, rest, fail, Fault, Left, End, NewIn.
  code.number, GetU, GetI, GetT: what they read of any bytes.
  PLAIN LEAN: what is read of bytes (layer 7): numbers, numbers with a sign, texts; what was put is got.
  WHAT code.wide, bytes, U, I, T GIVE: the codes of layer 7, in a slice of the call's own.
  PLAIN LEAN: numbers and texts as bytes (layer 7's codes), with no program in sight.
  bushelref10.Twice.
  Layer 10: names.Is, bushelref10.Is.
  Layer 10: names.Word, names.Is, bushelref10.Is.
  Layer 10, names: the words, names.Word, bushelref10.Place.
  Short names; conditions split.
  LOOPS AND FUNCTIONS ON TREES.
-/
import Derived.Deep.LoopGhost
import Derived.IntWalk
import Derived.StillTailTactics
import Derived.Deep.DeepCutAuto
import Derived.Test.YtfhmaincnlaapaaUnSy2
import Derived.Test.YtfhmaincnlaapaaUnSy12
namespace Go.Proofs.Ytfhmaincnlaapaa.Sy
open Go.ChangeShapes Go.WideShapes Go.ChangeAt Go.RowKit
set_option linter.unusedVariables false

/-! ### loops -/
/-- one round from σ: on to one of the states, by a smaller measure, or out -/
structure Round (P : Program) (c : Code) {ι : Type} (inv : ι → AS) (μ : ι → Nat) (e : Exit) (σ' : AS) (i : ι) : Prop where
  run : ∃ H L e1 σ1 vc, runC P H L c (inv i) = some (e1, σ1, vc) ∧ allP vc ∧
    ((e1 = .normal ∧ ∃ j, μ j < μ i ∧ ((inv j).nt == σ1.nt && (inv j).pk == σ1.pk && wkB (inv j)) = true ∧ allP (wkVc (fitS (inv j) σ1) (inv j).S) ∧ allP (wkVcO (fitS (inv j) σ1) (inv j).O)) ∨
     (e1 = e ∧ e ≠ .normal ∧ (σ'.nt == σ1.nt && σ'.pk == σ1.pk && wkB σ') = true ∧ allP (wkVc (fitS σ' σ1) σ'.S) ∧ allP (wkVcO (fitS σ' σ1) σ'.O)))
theorem LoopOk.of {P : Program} (hmo : P.follows .mixedOrders = true) {c : Code} {ι : Type} (inv : ι → AS) (μ : ι → Nat) {e : Exit} {σ' : AS} (h : ∀ i, Round P c inv μ e σ' i) (i0 : ι) : LoopOk P c (inv i0) e σ' := by
  intro M w0 a w Q hs hQ
  refine wp_loop_ghost (fun n a w => ∃ i, μ i = n ∧ St M w0 (inv i) a w) (μ i0) ⟨i0, rfl, hs⟩ ?_
  rintro n a1 w1 ⟨i, rfl, hs1⟩
  obtain ⟨H, L, e1, σ1, vc, hr, hv, hcase⟩ := (h i).run
  refine runC_ok hmo hr hv hs1 fun a2 w2 hs2 => ?_
  rcases hcase with ⟨rfl, j, hj, hb, h1, h2⟩ | ⟨rfl, hne, hb, h1, h2⟩
  · simp only [Bool.and_eq_true] at hb
    exact ⟨μ j, hj, j, rfl, hs2.weakenF (by simpa using hb.1.1) (by simpa using hb.1.2) hb.2 h1 h2⟩
  · simp only [Bool.and_eq_true] at hb
    have hq := hQ a2 w2 (hs2.weakenF (by simpa using hb.1.1) (by simpa using hb.1.2) hb.2 h1 h2)
    cases e1 <;> first | exact hq | exact absurd rfl hne
/-! ### results -/
def resOne (P : Program) (σ : AS) : ResultVar → Option AV
  | .tmp t => some (lk σ.S t)
  | .cell a t => match tyB P t, viewOf (lo σ.O) (lk σ.S a) with
    | some (b, k), some (cs, off) => rd1 b k cs off
    | _, _ => none
def resL (P : Program) (σ : AS) : List ResultVar → Option (List AV)
  | [] => some []
  | r :: l => match resOne P σ r, resL P σ l with
    | some x, some xs => some (x :: xs)
    | _, _ => none
def notTup : AV → Bool
  | .tup _ => false
  | .opt _ _ => false
  | _ => true
def resA (P : Program) (σ : AS) (rs : List ResultVar) : Option AV :=
  match resL P σ rs with
  | some [x] => some x
  | some xs => bif xs.all notTup then some (.tup xs) else none
  | none => none
def resSem (tmps : Array Value) : ResultVar → Sem Value
  | .tmp t => pure (tmps.getD t undef)
  | .cell a t => do loadVar t (← asAddr (tmps.getD a undef))
theorem run_resOne {P : Program} {M : Cx} {w0 : World} {σ : AS} {a : Act} {E : Env} (h : Now M w0 σ a E) {r : ResultVar} {x : AV} (hr : resOne P σ r = some x) : ∃ v, (resSem a.tmps r).run P E.w = .ok v E.w ∧ Sees E x v := by
  cases r with
  | tmp t => injection hr with hr; subst hr; exact ⟨_, rfl, h.sl t⟩
  | cell q t =>
    simp only [resOne] at hr
    split at hr
    · rename_i b k cs off ht hv
      rw [← h.ob] at hv
      obtain ⟨A, us, e, hl, hc⟩ := viewOf_at h.mem hv (Sees.leaf_of hv (h.sl q))
      obtain ⟨h1, h2, h3⟩ := rd1_sees hl hr
      exact ⟨_, by simp only [resSem, e, asAddr, Sem.run_bind, Sem.run_pure, Result.andThen_ok, run_loadVar_at ht hc h2 h3], h1⟩
    · cases hr
theorem run_resL {P : Program} {M : Cx} {w0 : World} {σ : AS} {a : Act} {E : Env} (h : Now M w0 σ a E) : ∀ {rs : List ResultVar} {xs : List AV}, resL P σ rs = some xs → ∃ vs : List Value, (rs.mapM (resSem a.tmps)).run P E.w = .ok vs E.w ∧ vs.length = xs.length ∧
    ∀ (j : Nat) (x : AV) (u : Value), xs[j]? = some x → vs[j]? = some u → Sees E x u
  | [], xs, hr => by injection hr with hr; subst hr; exact ⟨[], by simp, rfl, fun j x u hx => by simp at hx⟩
  | r :: rs, xs, hr => by
    simp only [resL] at hr
    split at hr
    · rename_i x ys h1 h2
      injection hr with hr; subst hr
      obtain ⟨v, hv, hs⟩ := run_resOne h h1
      obtain ⟨vs, hvs, hl, hss⟩ := run_resL h h2
      refine ⟨v :: vs, by simp [List.mapM_cons, hv, hvs], by simp [hl], fun j y u hy hu => ?_⟩
      cases j with
      | zero => simp only [List.getElem?_cons_zero, Option.some.injEq] at hy hu; subst hy; subst hu; exact hs
      | succ j => exact hss j y u (by simpa using hy) (by simpa using hu)
    · cases hr
theorem Sees.not_tup {E : Env} {x : AV} {u : Value} (h : Sees E x u) (hn : notTup x = true) : Sees1 E x u := by
  cases x <;> first | (cases hn; done) | exact h
theorem run_res {P : Program} {fn : Func} {M : Cx} {w0 : World} {σ : AS} {a : Act} {E : Env} (h : Now M w0 σ a E) {x : AV} (hr : resA P σ fn.results.toList = some x) : ∃ v, (results fn a.tmps).run P E.w = .ok v E.w ∧ Sees E x v := by
  have hm : ∀ vs : List Value, (fn.results.toList.mapM (resSem a.tmps)).run P E.w = .ok vs E.w → (results fn a.tmps).run P E.w = .ok (if h : vs.toArray.size = 1 then vs.toArray[0] else .tuple vs.toArray) E.w := fun vs hvs => by
    have : (fn.results.mapM (resSem a.tmps)).run P E.w = .ok vs.toArray E.w := by rw [Array.mapM_eq_mapM_toList]; simp [hvs]
    have hres : results fn a.tmps = (do let vs ← fn.results.mapM (resSem a.tmps); pure (if h : vs.size = 1 then vs[0] else .tuple vs)) := by
      unfold results
      congr 1
    rw [hres, Sem.run_bind, this]
    simp
  unfold resA at hr
  split at hr
  · rename_i y hy
    injection hr with hr; subst hr
    obtain ⟨vs, h1, h2, h3⟩ := run_resL h hy
    obtain ⟨v, rfl⟩ : ∃ v, vs = [v] := List.length_eq_one_iff.1 h2
    exact ⟨v, by rw [hm _ h1]; simp, h3 0 _ v rfl rfl⟩
  · rename_i ys hne hy
    rw [Bool.cond_eq_ite] at hr
    split at hr
    · rename_i hall
      injection hr with hr; subst hr
      obtain ⟨vs, h1, h2, h3⟩ := run_resL h hy
      refine ⟨.tuple vs.toArray, ?_, vs, rfl, h2, fun j y u hy' hu => (h3 j y u hy' hu).not_tup (List.all_eq_true.1 hall y (List.mem_of_getElem? hy'))⟩
      rw [hm _ h1, dif_neg]
      intro h4
      obtain ⟨v, rfl⟩ : ∃ v, vs = [v] := List.length_eq_one_iff.1 (by simpa using h4)
      obtain ⟨y, rfl⟩ : ∃ y, ys = [y] := List.length_eq_one_iff.1 h2.symm
      exact hne y rfl
    · cases hr
  · cases hr
/-! ### functions -/
def initS : Nat → List AV → List (Nat × AV)
  | _, [] => []
  | i, x :: l => (i, x) :: initS (i + 1) l
theorem initS_lk : ∀ (l : List AV) (i t : Nat), lk (initS i l) t = if i ≤ t then (l[t - i]?).getD .junk else .junk
  | [], i, t => by simp [initS, lk]
  | x :: l, i, t => by
    by_cases h : t = i
    · subst h; show lk ((t, x) :: initS (t + 1) l) t = _; rw [lk_eq]; simp
    · show lk ((i, x) :: initS (i + 1) l) t = _
      rw [lk_ne _ _ h, initS_lk l (i + 1) t]
      by_cases h2 : i ≤ t
      · rw [if_pos (by omega), if_pos h2, show t - i = (t - (i + 1)) + 1 by omega]; rfl
      · rw [if_neg (by omega), if_neg h2]
/-- a result: a row that nobody else has reads as its elements -/
def leafR (post O : List (Nat × AObj)) : AV → AV
  | .row o ver => match lo post o with
    | some _ => .row o ver
    | none => match lo O o with | some (.row _ _ n k cs) => if k = ver then .lst n cs else .junk | _ => .junk
  | .v (.slice none 0 0) => .lst 0 []
  | x => x
def oneR (post O : List (Nat × AObj)) : AV → AV
  | .agg cs => .agg (cs.map (leafR post O))
  | x => leafR post O x
def resR (post O : List (Nat × AObj)) : AV → AV
  | .tup l => .tup (l.map (oneR post O))
  | x => oneR post O x
def reEq : AV → AV → Prop
  | .tup l, .tup m => lsEq l m
  | x, y => avEq x y
theorem reEq_eq {x y : AV} (h : reEq x y) : x = y := by
  unfold reEq at h
  split at h
  · rw [lsEq_eq h]
  · exact avEq_eq h
def fnVc (P : Program) (ntmps : Nat) (rs : List ResultVar) (c : Code) (H : List (Nat × Hint)) (L : List (Nat × LoopHint)) (I : Inst) : Option (List Prop) :=
  match runC P H L c ⟨initS 0 I.args, I.pre, I.args.length + (ntmps - I.args.length), I.pre.map (·.1)⟩ with
  | some (e, σ', vc) => match e with
    | .ret | .normal => match resA P σ' rs with
      | some x => bif closedB I.post && (refsInV I.post (resR I.post σ'.O x) && I.pre.all fun p => (lo I.post p.1).isSome) then some (reEq (resR I.post σ'.O x) I.res :: (wkVcO σ' I.post ++ vc)) else none
      | none => none
    | _ => none
  | none => none
theorem leafR_sees {M : Cx} {w0 : World} {E : Env} (hm : Mem M w0 E) {O post : List (Nat × AObj)} (hO : E.ob = lo O) (ho : ∀ o, lo post o ≠ none → lo post o = E.ob o) {x : AV} {u : Value} (hr : refsIn post (leafR post O x) = true) (hx : Leaf E x u) :
    Leaf ⟨E.w, fun b => E.F b ∨ ∃ o, lo post o = none ∧ bk E o = some b, E.β, E.ν, lo post⟩ (leafR post O x) u := by
  have hgo : ∀ y, refsIn post y = true → Leaf E y u → Leaf ⟨E.w, fun b => E.F b ∨ ∃ o, lo post o = none ∧ bk E o = some b, E.β, E.ν, lo post⟩ y u := fun y hy hl =>
    Leaf.restr (E := E) (E' := ⟨E.w, fun b => E.F b ∨ ∃ o, lo post o = none ∧ bk E o = some b, E.β, E.ν, lo post⟩) rfl (fun b hb => Or.inl hb) rfl rfl (fun o hoo => by
      have := List.all_eq_true.1 hy o hoo
      exact ho o (fun h0 => by rw [h0] at this; cases this)) hl
  cases x with
  | row o ver =>
    unfold leafR at hr ⊢
    simp only at hr ⊢
    cases hp : lo post o with
    | some y =>
      simp only [hp] at hr ⊢
      exact hgo _ hr hx
    | none =>
      simp only [hp] at hr ⊢
      split
      · rename_i z e s n k cs hq
        split
        · rename_i hk
          have hq' : E.ob o = some (.row e s n k cs) := by rw [hO]; exact hq
          rw [(hx.2 _ _ _ _ _ hq').2 hk.symm]
          exact rep_row hm hq' _ (fun b hb => .inl hb) fun b hb => .inr ⟨o, hp, by unfold bk; rw [hq']; exact hb⟩
        · trivial
      · trivial
  | v y =>
    unfold leafR at hr ⊢
    split
    · rename_i h; cases h
    · rename_i h; injection h with h
      obtain ⟨e, _⟩ := hx
      rw [e, h]
      exact .nil none 0 (Nat.zero_le _)
    · exact hx
  | agg => exact hx.elim
  | tup => exact hx.elim
  | opt => exact hx.elim
  | fk => exact hx
  | junk => trivial
  | lst n cs => exact hgo _ (by rfl) hx
  | fptr cs off => exact hgo _ (by rfl) hx
  | ptr o off => exact hgo _ hr hx
  | rptr o ver off => exact hgo _ hr hx
theorem oneR_sees {M : Cx} {w0 : World} {E : Env} (hm : Mem M w0 E) {O post : List (Nat × AObj)} (hO : E.ob = lo O) (ho : ∀ o, lo post o ≠ none → lo post o = E.ob o) {x : AV} {u : Value} (hr : (match oneR post O x with | .agg cs => cs.all (refsIn post) | y => refsIn post y) = true) (hx : Sees1 E x u) :
    Sees1 ⟨E.w, fun b => E.F b ∨ ∃ o, lo post o = none ∧ bk E o = some b, E.β, E.ν, lo post⟩ (oneR post O x) u := by
  cases x with
  | agg cs =>
    obtain ⟨us, rfl, hl, hs⟩ := hx
    refine ⟨us, rfl, by simp [hl], fun j y v hy hv => ?_⟩
    have h1 := List.all_eq_true.1 (show (cs.map (leafR post O)).all (refsIn post) = true from hr) y (List.mem_of_getElem? hy)
    rw [List.getElem?_map] at hy
    cases hc : cs[j]? with
    | none => rw [hc] at hy; cases hy
    | some z =>
      rw [hc] at hy; injection hy with hy; subst hy
      exact ⟨leafR_sees hm hO ho h1 (hs j z v hc hv).1, (hs j z v hc hv).2⟩
  | _ =>
    simp only [oneR] at hr ⊢
    refine Sees1.leaf (leafR_sees hm hO ho ?_ (by simpa only [Sees1] using hx))
    revert hr
    generalize leafR post O _ = z
    intro hr
    cases z <;> first | exact hr | rfl
theorem fn_wp {P : Program} {f : FuncId} {fn : Func} {c : Code} (hf : P.funcs[f]? = some fn) (hb : fn.body = some c) {I : Inst} {e : Exit} {σ' : AS} {x : AV}
    (hcode : ∀ (M : Cx) (w0 : World) (a : Act) (w : World) (Q : Exit → Act → World → Prop), St M w0 ⟨initS 0 I.args, I.pre, I.args.length + (fn.ntmps - I.args.length), I.pre.map (·.1)⟩ a w → (∀ a' w', St M w0 σ' a' w' → Q e a' w') → c.wp P Q a w)
    (he : e = .ret ∨ e = .normal) (hx : resA P σ' fn.results.toList = some x) (hcl : closedB I.post = true) (hrf : refsInV I.post (resR I.post σ'.O x) = true) (hpre : (I.pre.all fun p => (lo I.post p.1).isSome) = true) (v1 : reEq (resR I.post σ'.O x) I.res) (v2 : allP (wkVcO σ' I.post)) : FnOk P f I := by
  intro M0 w00 E0 vs hob hm0 hlen hargs
  refine calls_of_wp hf hb ?_
  have hm : Mem ⟨fun b => ∃ q, bk E0 q = some b, E0.F, E0⟩ E0.w E0 :=
    ⟨Chg.refl _ _, fun b hb => .inl hb, hm0.fz, hm0.ok, fun q b hb => ⟨(hm0.live q b hb).1, (hm0.live q b hb).2.1, .inr ⟨q, hb⟩⟩, hm0.inj⟩
  have hSt : St ⟨fun b => ∃ q, bk E0 q = some b, E0.F, E0⟩ E0.w ⟨initS 0 I.args, I.pre, I.args.length + (fn.ntmps - I.args.length), I.pre.map (·.1)⟩ { tmps := vs.toArray ++ Array.replicate (fn.ntmps - vs.toArray.size) undef, defers := [] } E0.w := by
    refine ⟨E0, rfl, rfl, by simp [hlen], hob, hm, After.refl E0, fun o ho => ?_, fun t => ?_⟩
    · rw [hob] at ho
      obtain ⟨x, hx⟩ := Option.ne_none_iff_exists'.1 ho
      exact List.mem_map.2 ⟨_, mem_of_lo hx, rfl⟩
    · rw [initS_lk, if_pos (Nat.zero_le _), Nat.sub_zero]
      cases hx : I.args[t]? with
      | none => trivial
      | some x =>
        have hlt := lt_of_some hx
        rw [← hlen] at hlt
        have : (vs.toArray ++ Array.replicate (fn.ntmps - vs.toArray.size) undef).getD t undef = vs[t] := by
          rw [Array.getD_eq_getD_getElem?, Array.getElem?_append_left (by simpa using hlt)]
          simp [hlt]
        rw [this]
        exact Sees.sees1 (hargs t x _ hx (List.getElem?_eq_getElem hlt))
  refine hcode _ _ _ _ _ hSt ?_
  rcases he with rfl | rfl
  all_goals
    rintro a' w' ⟨E, rfl, hN⟩
    obtain ⟨v, hrun, hsee⟩ := run_res (fn := fn) hN hx
    refine ⟨hN.df, v, hrun, ?_⟩
    have ho : ∀ o, lo I.post o ≠ none → lo I.post o = E.ob o := fun o hq => by rw [hN.ob]; exact wkVcO_spec v2 o hq
    refine ⟨⟨E.w, fun b => E.F b ∨ ∃ o, lo I.post o = none ∧ bk E o = some b, E.β, E.ν, lo I.post⟩, v, rfl, rfl, rfl, ?_, ?_, ?_⟩
    · have hm1 := hN.mem
      have hbk : ∀ q b, bk ⟨E.w, fun b => E.F b ∨ ∃ o, lo I.post o = none ∧ bk E o = some b, E.β, E.ν, lo I.post⟩ q = some b → lo I.post q ≠ none ∧ bk E q = some b := fun q b hb => by
        have hq : lo I.post q ≠ none := fun h0 => by unfold bk at hb; simp only [h0] at hb; cases hb
        refine ⟨hq, ?_⟩
        unfold bk at hb ⊢; rw [← ho q hq]; exact hb
      have hlv : ∀ q b, bk E0 q = some b → w00.heap.size ≤ b ∨ M0.m b := fun q b hb => (hm0.live q b hb).2.2
      refine ⟨⟨hm1.chg.os.trans hm0.chg.os, hm1.chg.tape.trans hm0.chg.tape, hm1.chg.output.trans hm0.chg.output, Nat.le_trans hm0.chg.size hm1.chg.size, fun b hb hM => ?_⟩, fun b hb => ?_, fun b hb => ?_, fun q y hy => ?_, fun q b hb => ?_, fun q q' b h1 h2 => hm1.inj q q' b (hbk q b h1).2 (hbk q' b h2).2⟩
      · rw [hm1.chg.block b (Nat.lt_of_lt_of_le hb hm0.chg.size) (fun ⟨q, hq⟩ => by
          rcases hlv q b hq with h3 | h3
          · omega
          · exact hM h3)]
        exact hm0.chg.block b hb hM
      · have hcase : ∀ b, (E0.F b ∨ E0.w.heap.size ≤ b ∨ ∃ q, bk E0 q = some b) → M0.f b ∨ w00.heap.size ≤ b ∨ M0.m b := fun b hb => by
          rcases hb with hb | hb | ⟨q, hb⟩
          · exact hm0.org b hb
          · exact .inr (.inl (Nat.le_trans hm0.chg.size hb))
          · exact .inr (hlv q b hb)
        rcases hb with hb | ⟨o, _, hb⟩
        · exact hcase b (hm1.org b hb)
        · exact hcase b (.inr (hm1.live o b hb).2.2)
      · rcases hb with hb | ⟨o, _, hb⟩
        · exact hm1.fz b hb
        · exact (hm1.live o b hb).2.1
      · have hy' : lo I.post q = some y := hy
        have hq : E.ob q = some y := by rw [← ho q (by rw [hy']; simp)]; exact hy'
        have hok := hm1.ok q y hq
        have hc2 := List.all_eq_true.1 hcl _ (mem_of_lo hy')
        cases y with
        | gone => trivial
        | cells t cs =>
          obtain ⟨us, hb, hl, hs⟩ := hok
          refine ⟨us, hb, hl, fun j z u hz hu => ⟨Leaf.restr (E := E) (E' := ⟨E.w, fun b => E.F b ∨ ∃ o, lo I.post o = none ∧ bk E o = some b, E.β, E.ν, lo I.post⟩) rfl (fun b hb => Or.inl hb) rfl rfl (fun o hoo => ?_) (hs j z u hz hu).1, (hs j z u hz hu).2⟩⟩
          have h1 := List.all_eq_true.1 (List.all_eq_true.1 hc2 z (List.mem_of_getElem? hz)) o hoo
          exact ho o (fun h0 => by rw [h0] at h1; cases h1)
        | row e s n k cs =>
          obtain ⟨us, hb, hs0, hl, hrr⟩ := hok
          exact ⟨us, hb, hs0, hl, fun j z u hz hu => (hrr j z u hz hu).mono (fun b hb => Or.inl hb) fun _ _ => rfl⟩
      · obtain ⟨hq, hb'⟩ := hbk q b hb
        obtain ⟨l1, l2, l3⟩ := hm1.live q b hb'
        refine ⟨fun hf => ?_, l2, ?_⟩
        · rcases hf with hf | ⟨o, ho1, ho2⟩
          · exact l1 hf
          · have := hm1.inj q o b hb' ho2; subst this; exact hq ho1
        · rcases l3 with l3 | ⟨p, l3⟩
          · exact .inl (Nat.le_trans hm0.chg.size l3)
          · exact hlv p b l3
    · refine ⟨fun b hb => Or.inl (hN.aft.sub b hb), hN.aft.old, fun o h0 => ?_⟩
      obtain ⟨a1, a2, a3⟩ := hN.aft.obj o h0
      have h1 : lo I.post o ≠ none := fun h2 => by
        rw [hob] at h0
        obtain ⟨y, hy⟩ := Option.ne_none_iff_exists'.1 h0
        have := List.all_eq_true.1 hpre _ (mem_of_lo hy)
        simp only [h2] at this; cases this
      have h2 : lo I.post o = E.ob o := ho o h1
      exact ⟨h1, fun t cs hh => a2 t cs (by rw [← h2]; exact hh), fun e s n k cs hh => a3 e s n k cs (by rw [← h2]; exact hh)⟩
    · rw [← reEq_eq v1]
      have hgo := fun (y : AV) (u : Value) hr hx => oneR_sees (O := σ'.O) (post := I.post) hN.mem hN.ob ho (x := y) (u := u) hr hx
      cases x with
      | tup l =>
        obtain ⟨us, e1, e2, e3⟩ := hsee
        refine ⟨us, e1, by simp [e2], fun j y u hy hu => ?_⟩
        have h1 := List.all_eq_true.1 (show (l.map (oneR I.post σ'.O)).all _ = true from hrf) y (List.mem_of_getElem? hy)
        rw [List.getElem?_map] at hy
        cases hc : l[j]? with
        | none => rw [hc] at hy; cases hy
        | some z =>
          rw [hc] at hy; injection hy with hy; subst hy
          exact hgo z u h1 (e3 j z u hc hu)
      | opt b y => cases hrf
      | agg cs => exact hgo (.agg cs) v hrf hsee
      | _ =>
        simp only [resR] at hrf ⊢
        refine Sees.sees1 (hgo _ v ?_ (by simpa only [Sees] using hsee))
        revert hrf
        generalize oneR I.post σ'.O _ = z
        intro hrf
        cases z <;> first | exact hrf | rfl
theorem fn_run {P : Program} (hmo : P.follows .mixedOrders = true) {f : FuncId} {fn : Func} {c : Code} (hf : P.funcs[f]? = some fn) (hb : fn.body = some c) {H : List (Nat × Hint)} {L : List (Nat × LoopHint)} {I : Inst} {vcs : List Prop} (h : fnVc P fn.ntmps fn.results.toList c H L I = some vcs) (hv : allP vcs) : FnOk P f I := by
  unfold fnVc at h
  split at h
  · rename_i e σ' vc hr
    split at h
    all_goals first
      | (cases h; done)
      | (split at h
         · rename_i x hx
           rw [Bool.cond_eq_ite] at h
           split at h
           · rename_i hbb
             injection h with h; subst h
             obtain ⟨v1, v2⟩ := hv
             obtain ⟨v2, v3⟩ := allP_append.1 v2
             rw [Bool.and_eq_true, Bool.and_eq_true] at hbb
             obtain ⟨hcl, hrf, hpre⟩ := hbb
             exact fn_wp hf hb (fun M w0 a w Q hs hQ => runC_ok hmo hr v3 hs hQ) (by simp) hx hcl hrf hpre v1 v2
           · cases h
         · cases h)
  · cases h
/-- THE RULE FOR A FUNCTION: what is left, written out -/
theorem fn_go {P : Program} (hmo : P.follows .mixedOrders = true) {f : FuncId} {fn : Func} (hf : P.funcs[f]? = some fn) (hb : fn.body.isSome = true) {I : Inst} (H : List (Nat × Hint)) (L : List (Nat × LoopHint)) (vcs : List Prop) (h : fnVc P fn.ntmps fn.results.toList (fn.body.getD .skip) H L I = some vcs) (hv : allP vcs) : FnOk P f I := by
  obtain ⟨c, hc⟩ := Option.isSome_iff_exists.1 hb
  rw [hc] at h
  exact fn_run hmo hf hc h hv
/-- a round of a loop, written out: on -/
theorem Round.on {P : Program} {c : Code} {ι : Type} {inv : ι → AS} {μ : ι → Nat} {e : Exit} {σ' : AS} {i : ι} (H : List (Nat × Hint)) (L : List (Nat × LoopHint)) (j : ι) (vcs : List Prop) (hr : ((runC P H L c (inv i)).bind fun r => match r.1 with
    | .normal => (bif (inv j).nt == r.2.1.nt && (inv j).pk == r.2.1.pk && wkB (inv j) then some (wkVc (fitS (inv j) r.2.1) (inv j).S ++ (wkVcO (fitS (inv j) r.2.1) (inv j).O ++ r.2.2)) else none)
    | _ => none) = some vcs) (hj : μ j < μ i) (hv : allP vcs) : Round P c inv μ e σ' i := by
  cases hrun : runC P H L c (inv i) with
  | none => rw [hrun] at hr; cases hr
  | some r =>
    obtain ⟨e1, σ1, vc⟩ := r
    rw [hrun] at hr
    simp only [Option.bind_some] at hr
    cases e1 <;> first | (cases hr; done) | skip
    simp only [Bool.cond_eq_ite] at hr
    split at hr
    · rename_i hb
      injection hr with hr; subst hr
      obtain ⟨h1, h2⟩ := allP_append.1 hv
      obtain ⟨h2, h3⟩ := allP_append.1 h2
      exact ⟨H, L, .normal, σ1, vc, hrun, h3, .inl ⟨rfl, j, hj, hb, h1, h2⟩⟩
    · cases hr
def exitIs : Exit → Exit → Bool
  | .ret, .ret => true
  | .exit a, .exit b => a == b
  | _, _ => false
/-- out -/
theorem Round.out {P : Program} {c : Code} {ι : Type} {inv : ι → AS} {μ : ι → Nat} {e : Exit} {σ' : AS} {i : ι} (H : List (Nat × Hint)) (L : List (Nat × LoopHint)) (vcs : List Prop) (hr : ((runC P H L c (inv i)).bind fun r =>
    bif exitIs r.1 e && (σ'.nt == r.2.1.nt && σ'.pk == r.2.1.pk && wkB σ') then some (wkVc (fitS σ' r.2.1) σ'.S ++ (wkVcO (fitS σ' r.2.1) σ'.O ++ r.2.2)) else none) = some vcs) (hv : allP vcs) : Round P c inv μ e σ' i := by
  cases hrun : runC P H L c (inv i) with
  | none => rw [hrun] at hr; cases hr
  | some r =>
    obtain ⟨e1, σ1, vc⟩ := r
    rw [hrun] at hr
    simp only [Option.bind_some, Bool.cond_eq_ite] at hr
    split at hr
    · rename_i hb
      rw [Bool.and_eq_true] at hb
      injection hr with hr; subst hr
      obtain ⟨h1, h2⟩ := allP_append.1 hv
      obtain ⟨h2, h3⟩ := allP_append.1 h2
      have he : e1 = e ∧ e ≠ .normal := by
        have h0 := hb.1
        cases e1 <;> cases e <;> first | (cases h0; done) | exact ⟨rfl, by simp⟩ | exact ⟨by simpa [exitIs] using h0, by simp⟩
      exact ⟨H, L, e1, σ1, vc, hrun, h3, .inr ⟨he.1, he.2, hb.2, h1, h2⟩⟩
    · cases hr
end Go.Proofs.Ytfhmaincnlaapaa.Sy
namespace Go.Proofs.Ytfhmaincnlaapaa.Sy
open Go.ChangeShapes Go.WideShapes Go.ChangeAt Go.RowKit
set_option linter.unusedVariables false
theorem hmo : Try.prog.follows .mixedOrders = true := by kernel_rfl
theorem fdivN (n m : Nat) (p : Int) (h : p = (m : Int)) : (n : Int).fdiv p = ((n / m : Nat) : Int) := by
  subst h; rw [Int.fdiv_eq_ediv_of_nonneg _ (by omega)]; omega
theorem tdivN (n m : Nat) : (n : Int).tdiv (m : Int) = ((n / m : Nat) : Int) := rfl
theorem tmodN (n m : Nat) : (n : Int).tmod (m : Int) = ((n % m : Nat) : Int) := rfl
theorem tdivU (n m : Nat) (p : Int) (hp : p = (m : Int)) (h : n / m < 18446744073709551616) : IntKind.u64.wrap ((n : Int).tdiv p) = ((n / m : Nat) : Int) := by
  subst hp
  rw [tdivN]; generalize n / m = q at *; rw [IntKind.wrap_u64]; omega
theorem tdivI (n m : Nat) (p : Int) (hp : p = (m : Int)) (h : n / m < 9223372036854775808) : IntKind.i64.wrap ((n : Int).tdiv p) = ((n / m : Nat) : Int) := by
  subst hp
  rw [tdivN]; generalize n / m = q at *; exact IntWalk.i64_in _ (by omega)
theorem someB {e b : Bool} (h : e = b) : some (AV.v (.bool e)) = some (AV.v (.bool b)) := by rw [h]
theorem Dt {p : Prop} [Decidable p] (h : p) : decide p = true := decide_eq_true h
theorem Df {p : Prop} [Decidable p] (h : ¬p) : decide p = false := decide_eq_false h
theorem Be {x y : Int} (h : x = y) : (x == y) = true := beq_iff_eq.2 h
theorem Bn {x y : Int} (h : x ≠ y) : (x == y) = false := beq_eq_false_iff_ne.2 h
theorem Ne {x y : Int} (h : x ≠ y) : (x != y) = true := bne_iff_ne.2 h
theorem Nq {x y : Int} (h : x = y) : (x != y) = false := bne_eq_false_iff_eq.2 h
theorem Wi (z : Int) (h : -9223372036854775808 ≤ z ∧ z ≤ 9223372036854775807) : IntKind.i64.wrap z = z := IntWalk.i64_in _ h
def iz (n : Int) : AV := .v (.int .i64 n)
def uz (n : Int) : AV := .v (.int .u64 n)
def u3 (n : Nat) : AV := .v (.int .u32 (n : Int))
def bz (b : Bool) : AV := .v (.bool b)
end Go.Proofs.Ytfhmaincnlaapaa.Sy
namespace Go.Proofs.Ytfhmaincnlaapaa
open Go.ChangeShapes Go.WideShapes Go.ChangeAt Go.RowKit
set_option linter.unusedVariables false

theorem bl_trans : ∀ {a b c : List UInt8}, Op.bytesLess a b = true → Op.bytesLess b c = true → Op.bytesLess a c = true
  | _, [], _, h, _ => by cases ‹List UInt8› <;> simp [Op.bytesLess] at h
  | _, _ :: _, [], _, h => by simp [Op.bytesLess] at h
  | [], _ :: _, _ :: _, _, _ => by simp [Op.bytesLess]
  | a :: x, b :: y, c :: z, h1, h2 => by
    simp only [Op.bytesLess, Bool.or_eq_true, Bool.and_eq_true, decide_eq_true_iff, beq_iff_eq] at h1 h2 ⊢
    rcases h1 with h1 | ⟨rfl, h1⟩
    · rcases h2 with h2 | ⟨rfl, h2⟩
      · exact .inl (UInt8.lt_trans h1 h2)
      · exact .inl h1
    · rcases h2 with h2 | ⟨rfl, h2⟩
      · exact .inl h2
      · exact .inr ⟨rfl, bl_trans h1 h2⟩
theorem bl_irr : ∀ a : List UInt8, Op.bytesLess a a = false
  | [] => rfl
  | a :: x => by simp [Op.bytesLess, bl_irr x]
theorem bl_tri : ∀ {a b : List UInt8}, Op.bytesLess a b = false → a ≠ b → Op.bytesLess b a = true
  | [], [], _, h => absurd rfl h
  | [], _ :: _, h, _ => by simp [Op.bytesLess] at h
  | _ :: _, [], _, _ => by simp [Op.bytesLess]
  | a :: x, b :: y, h1, h2 => by
    simp only [Op.bytesLess, Bool.or_eq_false_iff, decide_eq_false_iff_not, Bool.and_eq_false_iff, beq_eq_false_iff_ne, ne_eq] at h1
    simp only [Op.bytesLess, Bool.or_eq_true, Bool.and_eq_true, decide_eq_true_iff, beq_iff_eq]
    obtain ⟨h3, h4⟩ := h1
    by_cases e : a = b
    · subst e
      rcases h4 with h4 | h4
      · exact absurd rfl h4
      · exact .inr ⟨rfl, bl_tri h4 (fun e => h2 (by rw [e]))⟩
    · exact .inl (by
        have h5 : ¬ a.toNat < b.toNat := fun h => h3 (UInt8.lt_iff_toNat_lt.2 h)
        have h6 : a.toNat ≠ b.toNat := fun h => e (UInt8.toNat_inj.1 h)
        exact UInt8.lt_iff_toNat_lt.2 (by omega))
/-- the words -/
def wordsL : List ByteArray := [⟨#[97, 110, 100]⟩, ⟨#[97, 115, 99]⟩, ⟨#[98, 121]⟩, ⟨#[99, 111, 117, 110, 116]⟩, ⟨#[100, 101, 115, 99]⟩, ⟨#[100, 101, 118]⟩, ⟨#[105, 110]⟩, ⟨#[108, 105, 109, 105, 116]⟩, ⟨#[109, 97, 120]⟩, ⟨#[109, 101, 97, 110]⟩, ⟨#[109, 105, 110]⟩, ⟨#[111, 114, 100, 101, 114]⟩, ⟨#[115, 101, 108, 101, 99, 116]⟩, ⟨#[115, 104, 97, 114, 101]⟩, ⟨#[115, 117, 109]⟩, ⟨#[119, 104, 101, 114, 101]⟩]
abbrev strs (l : List ByteArray) : List Value := l.map Value.string
theorem wordsL_len : wordsL.length = 16 := rfl
/-- is a text among those? -/
def memB (l : List ByteArray) (s : ByteArray) : Bool := l.any fun x => x.toList == s.toList
theorem Rd.str_len {w : World} {B n : Nat} {A : Option Addr} {l : List ByteArray} (h : Rd w B 1 A n (strs l)) : n = l.length := by have := h.1; simp at this; omega
theorem Rd.str {w : World} {B n : Nat} {A : Option Addr} {l : List ByteArray} (h : Rd w B 1 A n (strs l)) {k : Nat} (hk : k < l.length) : ∃ a, A = some a ∧ a.block < B ∧ w.cell? (a.add k) = some (.string l[k]) := by
  obtain ⟨a, rfl, hb, hc⟩ := h.2 (by rw [h.str_len]; omega)
  exact ⟨a, rfl, hb, hc k _ (by simp [strs, hk])⟩
theorem words_lit (w : World) : Rd (w.alloc (.cells (strs wordsL).toArray 9)) (w.heap.size + 1) 1 (some ⟨w.heap.size, 0, none⟩) 16 (strs wordsL) :=
  ⟨rfl, fun _ => ⟨_, rfl, Nat.lt_succ_self _, fun j u hu => by
    have hadd : (⟨w.heap.size, 0, none⟩ : Addr).add j = ⟨w.heap.size, j, none⟩ := by unfold Addr.add; split <;> simp_all
    rw [hadd, (Blk.new w 9 (strs wordsL).toArray).cell j]
    simpa using hu⟩⟩
set_option maxRecDepth 20000 in
theorem words_any (w : World) : Calls Try.prog 175 #[] w fun y w' => y = .returned (.slice (some ⟨w.heap.size, 0, none⟩) 16 16) ∧ w.alloc (.cells (strs wordsL).toArray 9) = w' := by
  go_enter Try.func175, Try.ntmps175
  go_wp2
  go_ret
  exact ⟨rfl, rfl⟩
set_option maxRecDepth 20000 in
theorem rwords_any (w : World) : Calls Try.prog 151 #[] w fun y w' => y = .returned (.slice (some ⟨w.heap.size, 0, none⟩) 16 16) ∧ w.alloc (.cells (strs wordsL).toArray 9) = w' := by
  go_enter Try.func151, Try.ntmps151
  go_wp2
  go_ret
  exact ⟨rfl, rfl⟩
/-- where a text stands first, or -1 -/
def PlaceIs (l : List ByteArray) (s : ByteArray) (z : Int) : Prop := (z = -1 ∧ memB l s = false) ∨ (0 ≤ z ∧ z < (l.length : Int) ∧ memB l s = true)
theorem memB_take_succ (l : List ByteArray) (s : ByteArray) (k : Nat) (hk : k < l.length) : memB (l.take (k + 1)) s = (memB (l.take k) s || (l[k].toList == s.toList)) := by
  unfold memB
  rw [List.take_succ_eq_append_getElem hk, List.any_append]
  simp
set_option maxRecDepth 20000 in
theorem place_any (w : World) (A : Option Addr) (n c B : Nat) (l : List ByteArray) (s : ByteArray) (h : Rd w B 1 A n (strs l)) (hn : n ≤ maxLen) :
    Calls Try.prog 150 #[.slice A n c, .string s] w fun y w' => ∃ z, y = .returned (.int .i64 z) ∧ PlaceIs l s z ∧ w = w' := by
  obtain rfl : n = l.length := h.str_len
  unfold maxLen at hn
  have H := Lib.hid h; clear h
  go_enter Try.func150, Try.ntmps150
  go_wp2
  go_loop [5] (fun i => ∃ k : Nat, k ≤ l.length ∧ i = .int .i64 (k : Int) ∧ Hid (memB (l.take k) s = false)) (fun i => l.length - (intOf i).toNat)
  case atStart => exact ⟨0, by omega, rfl, rfl⟩
  case round =>
    obtain ⟨k, hk, rfl, HA⟩ := hrel
    by_cases hlt : k < l.length
    · obtain ⟨a, rfl, hab, x0⟩ := H.out.str hlt
      have q1 : (0 : Int) ≤ (k : Int) := by omega
      have q2 : (k : Int) < (l.length : Int) := by omega
      have hst := memB_take_succ l s k hlt
      rw [HA.out, Bool.false_or] at hst
      have hmem : (l[k].toList == s.toList) = true → memB l s = true := fun e => List.any_eq_true.2 ⟨_, List.getElem_mem hlt, e⟩
      generalize l[k] = x at *
      have HST := Lib.hid hst; have HM := Lib.hid hmem; clear hst hmem
      cases he : (x.toList == s.toList) with
      | true =>
        have hm := HM.out he
        have HMM := Lib.hid hm; clear hm
        go_wp2
        go_ret
        exact ⟨_, rfl, .inr ⟨q1, q2, HMM.out⟩, rfl⟩
      | false =>
        have HE := Lib.hid he
        go_wp2
        go_round
        case rel => exact ⟨k + 1, by omega, by go_num, by show memB (l.take (k + 1)) s = false; rw [HST.out]; exact HE.out⟩
        case measure => simp [intOf]; omega
    · obtain rfl : k = l.length := by omega
      have hA := HA.out
      rw [List.take_length] at hA
      have HA2 := Lib.hid hA; clear hA
      go_wp2
      go_ret
      exact ⟨_, rfl, .inl ⟨rfl, HA2.out⟩, rfl⟩
end Go.Proofs.Ytfhmaincnlaapaa
namespace Go.Proofs.Ytfhmaincnlaapaa
open Go.ChangeShapes Go.WideShapes Go.ChangeAt Go.RowKit
set_option linter.unusedVariables false

theorem words_sorted : ∀ i j : Fin 16, i.1 < j.1 → Op.bytesLess (wordsL[i.1]'(by have := i.2; have := wordsL_len; omega)).toList (wordsL[j.1]'(by have := j.2; have := wordsL_len; omega)).toList = true := by decide +kernel
theorem words_lt (i j : Nat) (hij : i < j) (hj : j < wordsL.length) : Op.bytesLess (wordsL[i]'(by omega)).toList wordsL[j].toList = true :=
  words_sorted ⟨i, by have := wordsL_len; omega⟩ ⟨j, by have := wordsL_len; omega⟩ hij
theorem add_lit0 (g k : Nat) : (⟨g, 0, none⟩ : Addr).add k = ⟨g, k, none⟩ := by unfold Addr.add; split <;> simp_all
/-- what a search by halves knows -/
def Half (s : ByteArray) (lo hi : Nat) : Prop := (∀ j (hj : j < wordsL.length), j < lo → Op.bytesLess wordsL[j].toList s.toList = true) ∧ (∀ j (hj : j < wordsL.length), hi ≤ j → Op.bytesLess s.toList wordsL[j].toList = true)
theorem Half.no {s : ByteArray} {lo hi : Nat} (h : Half s lo hi) (he : hi ≤ lo) : memB wordsL s = false := by
  unfold memB
  rw [List.any_eq_false]
  intro x hx
  obtain ⟨j, hj, rfl⟩ := List.getElem_of_mem hx
  rw [beq_iff_eq]
  intro e
  rcases Nat.lt_or_ge j lo with h1 | h1
  · have := h.1 j hj h1
    rw [e, bl_irr] at this; cases this
  · have := h.2 j hj (by omega)
    rw [e, bl_irr] at this; cases this
theorem Half.up {s : ByteArray} {lo hi mid : Nat} (h : Half s lo hi) (hm : mid < wordsL.length) (hl : Op.bytesLess wordsL[mid].toList s.toList = true) : Half s (mid + 1) hi :=
  ⟨fun j hj hjm => by
    rcases Nat.lt_or_ge j mid with h1 | h1
    · exact bl_trans (words_lt j mid h1 hm) hl
    · obtain rfl : j = mid := by omega
      exact hl, h.2⟩
theorem Half.down {s : ByteArray} {lo hi mid : Nat} (h : Half s lo hi) (hm : mid < wordsL.length) (hl : Op.bytesLess wordsL[mid].toList s.toList = false) (hne : (wordsL[mid].toList == s.toList) = false) : Half s lo mid :=
  ⟨h.1, fun j hj hjm => by
    have h2 := bl_tri hl (by rw [beq_eq_false_iff_ne] at hne; exact hne)
    rcases Nat.eq_or_lt_of_le hjm with h1 | h1
    · subst h1; exact h2
    · exact bl_trans h2 (words_lt mid j h1 hj)⟩
set_option maxRecDepth 20000 in
set_option maxHeartbeats 1000000 in
theorem word_any (w : World) (s : ByteArray) : Calls Try.prog 155 #[.string s] w fun y w' => y = .returned (.bool (memB wordsL s)) ∧ w.alloc (.cells (strs wordsL).toArray 9) = w' := by
  have hr := words_lit w
  have hhd : Half s 0 16 := ⟨fun j _ h => by omega, fun j hj h => by have := wordsL_len; omega⟩
  have HR := Lib.hid hr; have HHD := Lib.hid hhd; clear hr hhd
  go_enter Try.func155, Try.ntmps155
  go_wp2_with (go_at_call 175; (with_reducible refine (words_any _).mono ?_); rintro y w1 ⟨rfl, hw1⟩)
  rw [hw1] at HR
  have HW1 := Lib.hid hw1; clear hw1
  go_loop [4, 5] (fun v4 v5 => ∃ lo hi : Nat, lo ≤ hi ∧ hi ≤ 16 ∧ v4 = .int .i64 (lo : Int) ∧ v5 = .int .i64 (hi : Int) ∧ Hid (Half s lo hi)) (fun v4 v5 => (intOf v5).toNat - (intOf v4).toNat)
  case atStart => exact ⟨0, 16, by omega, by omega, rfl, rfl, HHD⟩
  case round =>
    obtain ⟨lo, hi, hlh, h16, rfl, rfl, HA⟩ := hrel
    by_cases hlt : lo < hi
    · obtain ⟨mid, hmid⟩ : ∃ mid, (lo + hi) / 2 = mid := ⟨_, rfl⟩
      have hm1 : lo ≤ mid := by omega
      have hm2 : mid < hi := by omega
      have hq : ((lo : Int) + (hi : Int)).tdiv 2 = (mid : Int) := by
        rw [Int.tdiv_eq_ediv_of_nonneg (by omega)]; omega
      have q0 : (lo : Int) < (hi : Int) := by omega
      have q1 : (0 : Int) ≤ (mid : Int) := by omega
      have q2 : (mid : Int) < 16 := by omega
      have hml : mid < wordsL.length := by have := wordsL_len; omega
      obtain ⟨a, ha, hab, x0⟩ := HR.out.str hml
      injection ha with ha
      subst ha
      rw [add_lit0] at x0
      have hup := HA.out.up hml
      have hdn := HA.out.down hml
      have hmem : (wordsL[mid].toList == s.toList) = true → memB wordsL s = true := fun e => List.any_eq_true.2 ⟨_, List.getElem_mem hml, e⟩
      have HMID := Lib.hid hmid; clear hmid
      generalize wordsL[mid] = x at *
      have HUP := Lib.hid hup; have HDN := Lib.hid hdn; have HM := Lib.hid hmem; clear hup hdn hmem
      cases he : (x.toList == s.toList) with
      | true =>
        have hm := HM.out he
        have HMM := Lib.hid hm; clear hm
        go_wp2
        go_ret
        exact ⟨by rw [HMM.out]; rfl, HW1.out⟩
      | false =>
        cases hl : Op.bytesLess x.toList s.toList with
        | true =>
          have hu := HUP.out hl
          have HU := Lib.hid hu; clear hu
          go_wp2
          go_round
          case rel => exact ⟨mid + 1, hi, by omega, by omega, by go_num, rfl, HU⟩
          case measure => simp [intOf]; omega
        | false =>
          have hd := HDN.out hl he
          have HD := Lib.hid hd; clear hd
          go_wp2
          go_round
          case rel => exact ⟨lo, mid, by omega, by omega, rfl, rfl, HD⟩
          case measure => simp [intOf]; omega
    · have hno := HA.out.no (by omega)
      have HNO := Lib.hid hno; clear hno
      go_wp2
      go_ret
      exact ⟨by rw [HNO.out]; rfl, HW1.out⟩
end Go.Proofs.Ytfhmaincnlaapaa
namespace Go.Proofs.Ytfhmaincnlaapaa
open Go.ChangeShapes Go.WideShapes Go.ChangeAt Go.RowKit
set_option linter.unusedVariables false

def smallC (c : UInt8) : Bool := decide (97 ≤ c.toNat) && decide (c.toNat ≤ 122)
def otherC (c : UInt8) : Bool := (decide (48 ≤ c.toNat) && decide (c.toNat ≤ 57)) || decide (c.toNat = 95)
def okC (c : UInt8) : Bool := smallC c || otherC c
/-- is a text a name? -/
def isB (s : ByteArray) : Bool := decide (1 ≤ s.size) && decide (s.size ≤ 16) && smallC (s.data.toList.headD 0) && s.data.toList.all okC && !memB wordsL s
theorem isB_long (s : ByteArray) (h : ¬ s.size ≤ 16) : isB s = false := by unfold isB; rw [decide_eq_false h]; simp
theorem isB_first (s : ByteArray) (h : smallC (s.data.toList.headD 0) = false) : isB s = false := by unfold isB; rw [h]; simp
theorem isB_bad (s : ByteArray) (k : Nat) (hk : k < s.size) (h : okC s[k] = false) : isB s = false := by
  have : s.data.toList.all okC = false := by
    rw [List.all_eq_false]
    exact ⟨s[k], by
      have hk2 : k < s.data.toList.length := by simpa using hk
      have : s[k] = s.data.toList[k] := rfl
      rw [this]; exact List.getElem_mem hk2, by rw [h]; decide⟩
  unfold isB
  rw [this]; simp
theorem isB_word (s : ByteArray) (h : memB wordsL s = true) : isB s = false := by unfold isB; rw [h]; simp
theorem headD_getT (L : List UInt8) (hL : 0 < L.length) : L.headD 0 = L[0] := by
  cases L with
  | nil => simp at hL
  | cons a l => rfl
theorem head_get (s : ByteArray) (h1 : 1 ≤ s.size) : s.data.toList.headD 0 = s[0]'(by omega) := by
  have hl : s.data.toList.length = s.size := rfl
  rw [headD_getT _ (by omega)]; rfl
theorem isB_yes (s : ByteArray) (h1 : 1 ≤ s.size) (h2 : s.size ≤ 16) (h3 : smallC (s[0]'(by omega)) = true) (h4 : ∀ k (hk : k < s.size), okC s[k] = true) : isB s = !memB wordsL s := by
  have h5 : s.data.toList.all okC = true := by
    rw [List.all_eq_true]
    intro x hx
    obtain ⟨j, hj, rfl⟩ := List.getElem_of_mem hx
    exact h4 j hj
  unfold isB
  rw [decide_eq_true h1, decide_eq_true h2, h5, head_get s h1, h3]; simp
theorem toList_ne (s : ByteArray) (h : 1 ≤ s.size) : s.toList.isEmpty = false := by
  have hl : s.data.toList.length = s.size := rfl
  rw [ByteArray.toList_eq]
  cases hs : s.data.toList with
  | nil => rw [hs] at hl; simp at hl; omega
  | cons a l => rfl
theorem nat_cases (n : Nat) : n < 48 ∨ (48 ≤ n ∧ n ≤ 57) ∨ (57 < n ∧ n < 95) ∨ n = 95 ∨ n = 96 ∨ (97 ≤ n ∧ n ≤ 122) ∨ 122 < n := by omega
set_option maxRecDepth 20000 in
set_option maxHeartbeats 2000000 in
theorem is_any (w : World) (s : ByteArray) : Calls Try.prog 101 #[.string s] w fun y w' => y = .returned (.bool (isB s)) ∧ Below w.heap.size w w' := by
  by_cases h0 : s.size = 0
  · obtain rfl : s = ⟨#[]⟩ := by
      apply ByteArray.ext
      exact Array.eq_empty_of_size_eq_zero h0
    go_enter Try.func101, Try.ntmps101
    go_wp2
    go_ret
    exact ⟨rfl, belR w⟩
  · have h1 : 1 ≤ s.size := by omega
    have hne := toList_ne s h1
    clear h0
    by_cases h16 : s.size ≤ 16
    · have hh := head_get s h1
      by_cases hf1 : (s[0]'(by omega)).toNat < 97
      · have hno := isB_first s (by rw [hh]; unfold smallC; rw [decide_eq_false (by omega)]; rfl)
        have HNO := Lib.hid hno; clear hno hh
        go_enter Try.func101, Try.ntmps101
        go_wp2
        go_ret
        exact ⟨by rw [HNO.out]; rfl, belR w⟩
      · by_cases hf2 : 122 < (s[0]'(by omega)).toNat
        · have hno := isB_first s (by rw [hh]; unfold smallC; rw [decide_eq_false (show ¬ (s[0]'(by omega)).toNat ≤ 122 by omega)]; simp)
          have HNO := Lib.hid hno; clear hno hh
          go_enter Try.func101, Try.ntmps101
          go_wp2
          go_ret
          exact ⟨by rw [HNO.out]; rfl, belR w⟩
        · have hsm : smallC (s[0]'(by omega)) = true := by unfold smallC; rw [decide_eq_true (by omega), decide_eq_true (by omega)]; rfl
          have HSM := Lib.hid hsm; clear hsm hh
          have HW := Lib.hid (fun W => word_any W s)
          go_enter Try.func101, Try.ntmps101
          go_wp2
          clear hne hf1 hf2
          go_loop [24] (fun i => ∃ k : Nat, k ≤ s.size ∧ i = .int .i64 (k : Int) ∧ Hid (∀ j (hj : j < s.size), j < k → okC s[j] = true)) (fun i => s.size - (intOf i).toNat)
          case atStart => exact ⟨0, by omega, rfl, fun j _ hj => by omega⟩
          case round =>
            obtain ⟨k, hk, rfl, HA⟩ := hrel
            by_cases hlt : k < s.size
            · have hbad := isB_bad s k hlt
              have hst := fun (h : okC s[k] = true) => (show ∀ j (hj : j < s.size), j < k + 1 → okC s[j] = true from fun j hj hjk => by
                by_cases e : j = k
                · subst e; exact h
                · exact HA.out j hj (by omega))
              have q1 : (0 : Int) ≤ (k : Int) := by omega
              have q2 : (k : Int) < (s.size : Int) := by omega
              have HST := Lib.hid hst; have HBAD := Lib.hid hbad; clear hst hbad
              rcases nat_cases s[k].toNat with hc | hc | hc | hc | hc | hc | hc
              case inl | inr.inr.inl | inr.inr.inr.inr.inl | inr.inr.inr.inr.inr.inr =>
                have hno := HBAD.out (by unfold okC smallC otherC; simp; omega)
                have HNO := Lib.hid hno; clear hno
                have t95 : ((s[k].toNat : Int) != 95) = true := by rw [bne_iff_ne]; omega
                go_wp2
                go_ret
                exact ⟨by rw [HNO.out]; rfl, belR w⟩
              all_goals
                have hy := HST.out (by unfold okC smallC otherC; simp; omega)
                have HY := Lib.hid hy; clear hy
                go_wp2
                go_round
                case rel => exact ⟨k + 1, by omega, by go_num, HY⟩
                case measure => simp [intOf]; omega
            · have hyes := isB_yes s h1 h16 HSM.out (fun j hj => HA.out j hj (by omega))
              have HYES := Lib.hid hyes; clear hyes
              go_wp2_with (go_at_call 155; (with_reducible refine (HW.out _).mono ?_); rintro y w1 ⟨rfl, hw1⟩)
              go_ret
              exact ⟨by rw [HYES.out]; rfl, by rw [← hw1]; exact belA (belR w) _⟩
    · have hno := isB_long s h16
      have HNO := Lib.hid hno; clear hno
      go_enter Try.func101, Try.ntmps101
      go_wp2
      go_ret
      exact ⟨by rw [HNO.out]; rfl, belR w⟩
set_option maxRecDepth 20000 in
set_option maxHeartbeats 2000000 in
theorem refIs_any (w : World) (s : ByteArray) : Calls Try.prog 87 #[.string s] w fun y w' => y = .returned (.bool (isB s)) ∧ Below w.heap.size w w' := by
  by_cases h0 : s.size < 1
  · have hno : isB s = false := by unfold isB; rw [decide_eq_false (by omega)]; rfl
    have HNO := Lib.hid hno; clear hno
    go_enter Try.func87, Try.ntmps87
    go_wp2
    go_ret
    exact ⟨by rw [HNO.out]; rfl, belR w⟩
  · have h1 : 1 ≤ s.size := by omega
    by_cases h16 : s.size ≤ 16
    · have HP := Lib.hid (place_any (w.alloc (.cells (strs wordsL).toArray 9)) _ 16 16 _ wordsL s (words_lit w) (by unfold maxLen; omega))
      have hb1 := belA (belR w) (.cells (strs wordsL).toArray 9)
      have HB1 := Lib.hid hb1; clear hb1
      cases hm : memB wordsL s with
      | true =>
        have hno := isB_word s hm
        have HNO := Lib.hid hno; have HM := Lib.hid hm; clear hno hm
        go_enter Try.func87, Try.ntmps87
        go_wp2_with (first
          | (go_at_call 151; (with_reducible refine (rwords_any _).mono ?_); rintro y w1 ⟨rfl, rfl⟩)
          | (go_at_call 150; (with_reducible refine HP.out.mono ?_); rintro y w2 ⟨z, rfl, hz, rfl⟩; have hz0 : 0 ≤ z := by rcases hz with ⟨_, hz⟩ | ⟨hz, _⟩; (rw [HM.out] at hz; cases hz); exact hz))
        go_ret
        exact ⟨by rw [HNO.out]; rfl, HB1.out⟩
      | false =>
        have hh := head_get s h1
        have HM := Lib.hid hm; clear hm
        have HH := Lib.hid hh; clear hh
        go_enter Try.func87, Try.ntmps87
        go_wp2_with (first
          | (go_at_call 151; (with_reducible refine (rwords_any _).mono ?_); rintro y w1 ⟨rfl, rfl⟩)
          | (go_at_call 150; (with_reducible refine HP.out.mono ?_); rintro y w2 ⟨z, rfl, hz, rfl⟩; have hz0 : ¬ 0 ≤ z := by rcases hz with ⟨hz, _⟩ | ⟨_, _, hz⟩; omega; (rw [HM.out] at hz; cases hz)))
        go_loop [3] (fun i => ∃ k : Nat, k ≤ s.size ∧ i = .int .i64 (k : Int) ∧ Hid ((∀ j (hj : j < s.size), j < k → okC s[j] = true) ∧ (0 < k → smallC (s[0]'(by omega)) = true))) (fun i => s.size - (intOf i).toNat)
        case atStart => exact ⟨0, by omega, rfl, ⟨fun j _ hj => by omega, fun h => by omega⟩⟩
        case round =>
          obtain ⟨k, hk, rfl, HA⟩ := hrel
          by_cases hlt : k < s.size
          · have hbad := isB_bad s k hlt
            have hbad0 := isB_first s
            rw [HH.out] at hbad0
            have hst := fun (h : okC s[k] = true) (h0 : k = 0 → smallC (s[0]'(by omega)) = true) => (show (∀ j (hj : j < s.size), j < k + 1 → okC s[j] = true) ∧ (0 < k + 1 → smallC (s[0]'(by omega)) = true) from ⟨fun j hj hjk => by
              by_cases e : j = k
              · subst e; exact h
              · exact HA.out.1 j hj (by omega), fun _ => by
              by_cases e : k = 0
              · exact h0 e
              · exact HA.out.2 (by omega)⟩)
            have q1 : (0 : Int) ≤ (k : Int) := by omega
            have q2 : (k : Int) < (s.size : Int) := by omega
            have HST := Lib.hid hst; have HBAD := Lib.hid hbad; have HBAD0 := Lib.hid hbad0; clear hst hbad hbad0
            rcases nat_cases s[k].toNat with hc | hc | hc | hc | hc | hc | hc
            case inl | inr.inr.inl | inr.inr.inr.inr.inl | inr.inr.inr.inr.inr.inr =>
              have hno := HBAD.out (by unfold okC smallC otherC; simp; omega)
              have HNO := Lib.hid hno; clear hno
              have t95 : ((s[k].toNat : Int) == 95) = false := by rw [beq_eq_false_iff_ne]; omega
              try have t122 : decide ((s[k].toNat : Int) ≤ 122) = false := decide_eq_false (by omega)
              go_wp2
              go_ret
              exact ⟨by rw [HNO.out]; rfl, HB1.out⟩
            case inr.inr.inr.inr.inr.inl =>
              have hy := HST.out (by unfold okC smallC otherC; simp; omega) (fun e => by subst e; unfold smallC; simp; omega)
              have HY := Lib.hid hy; clear hy
              go_wp2
              go_round
              case rel => exact ⟨k + 1, by omega, by go_num, HY⟩
              case measure => simp [intOf]; omega
            all_goals
              by_cases hk0 : k = 0
              · subst hk0
                have hno := HBAD0.out (by unfold smallC; simp; omega)
                have HNO := Lib.hid hno; clear hno
                go_wp2
                go_ret
                exact ⟨by rw [HNO.out]; rfl, HB1.out⟩
              · have tk : ((k : Int) == 0) = false := by rw [beq_eq_false_iff_ne]; omega
                have hy := HST.out (by unfold okC smallC otherC; simp; omega) (fun e => absurd e hk0)
                have HY := Lib.hid hy; clear hy hk0
                go_wp2
                go_round
                case rel => exact ⟨k + 1, by omega, by go_num, HY⟩
                case measure => simp [intOf]; omega
          · have hyes := isB_yes s h1 h16 (HA.out.2 (by omega)) (fun j hj => HA.out.1 j hj (by omega))
            rw [HM.out] at hyes
            have HYES := Lib.hid hyes; clear hyes
            go_wp2
            go_ret
            exact ⟨by rw [HYES.out]; rfl, HB1.out⟩
    · have hno := isB_long s h16
      have HNO := Lib.hid hno; clear hno
      go_enter Try.func87, Try.ntmps87
      go_wp2
      go_ret
      exact ⟨by rw [HNO.out]; rfl, belR w⟩
end Go.Proofs.Ytfhmaincnlaapaa
namespace Go.Proofs.Ytfhmaincnlaapaa
open Go.ChangeShapes Go.WideShapes Go.ChangeAt Go.RowKit
set_option linter.unusedVariables false

theorem Rd.takeN {w : World} {B n k : Nat} {A : Option Addr} {xs : List Value} (h : Rd w B 1 A n xs) (hk : k ≤ n) : Rd w B 1 A k (xs.take k) :=
  ⟨by rw [List.length_take, h.1]; omega, fun h0 => by
    obtain ⟨a, e, hb, hc⟩ := h.2 (by omega)
    refine ⟨a, e, hb, fun j u hu => hc j u ?_⟩
    rw [List.getElem?_take] at hu
    split at hu
    · exact hu
    · cases hu⟩
theorem PlaceIs.two {l : List ByteArray} {s : ByteArray} {z : Int} (h : PlaceIs l s z) : (z < 0 ∧ memB l s = false) ∨ (0 ≤ z ∧ memB l s = true) := by
  rcases h with ⟨h1, h2⟩ | ⟨h1, _, h2⟩
  · exact .inl ⟨by omega, h2⟩
  · exact .inr ⟨h1, h2⟩
/-- does a text stand twice? -/
def dupTo (l : List ByteArray) (k : Nat) : Bool := (List.range k).any fun i => memB (l.take i) (l.getD i ⟨#[]⟩)
def dupB (l : List ByteArray) : Bool := dupTo l l.length
theorem dupTo_succ (l : List ByteArray) (k : Nat) (hk : k < l.length) : dupTo l (k + 1) = (dupTo l k || memB (l.take k) l[k]) := by
  unfold dupTo
  rw [List.range_succ, List.any_append]
  simp [List.getD, hk]
theorem dupTo_mono (l : List ByteArray) (k : Nat) (hk : k < l.length) (h : memB (l.take k) l[k] = true) : dupB l = true := by
  unfold dupB dupTo
  rw [List.any_eq_true]
  exact ⟨k, List.mem_range.2 hk, by rw [← h]; simp [List.getD, hk]⟩
/-- what a Twice tells -/
def TwIs (l : List ByteArray) (z : Int) : Prop := (z = -1 ∧ dupB l = false) ∨ (0 ≤ z ∧ dupB l = true)
set_option maxRecDepth 20000 in
set_option maxHeartbeats 1000000 in
theorem refTwice_any (w : World) (A : Option Addr) (n c B : Nat) (l : List ByteArray) (h : Rd w B 1 A n (strs l)) (hnc : n ≤ c) (hc : c ≤ maxLen) :
    Calls Try.prog 88 #[.slice A n c] w fun y w' => ∃ z, y = .returned (.int .i64 z) ∧ TwIs l z ∧ Drw w w' := by
  obtain rfl : n = l.length := h.str_len
  have hcc := hc
  unfold maxLen at hcc
  have H := Lib.hid h; have HC := Lib.hid hc; clear h hc
  go_enter Try.func88, Try.ntmps88
  go_wp2
  go_loopw [3] (fun i wr => ∃ k : Nat, k ≤ l.length ∧ i = .int .i64 (k : Int) ∧ Hid (dupTo l k = false) ∧ Drw w wr) (fun i _ => l.length - (intOf i).toNat)
  case atStart => exact ⟨0, by omega, rfl, rfl, Drw.refl w⟩
  case round =>
    obtain ⟨k, hk, rfl, HA, hd⟩ := hrel
    have HD := Lib.hid hd; clear hd
    by_cases hlt : k < l.length
    · have HR : Hid (Rd wr B 1 A l.length (strs l)) := by obtain ⟨j, hj⟩ := HD.out; exact Lib.hid (by rw [hj]; exact H.out.drewN j)
      obtain ⟨a, rfl, hab, x0⟩ := HR.out.str hlt
      have q1 : (0 : Int) ≤ (k : Int) := by omega
      have q2 : (k : Int) < (l.length : Int) := by omega
      have q3 : (k : Int) ≤ (c : Int) := by omega
      have hst := dupTo_succ l k hlt
      rw [HA.out, Bool.false_or] at hst
      have hmo := dupTo_mono l k hlt
      have htk : Rd wr.drew B 1 (some a) k (strs (l.take k)) := by
        have := HR.out.takeN (k := k) (by omega)
        rw [show strs (l.take k) = (strs l).take k from List.map_take]
        exact this
      have hpl := place_any wr.drew (some a) k c B (l.take k) l[k] htk (by have := HC.out; omega)
      generalize l[k] = x at *
      have HST := Lib.hid hst; have HM := Lib.hid hmo; have HPL := Lib.hid hpl; clear hst hmo hpl htk
      go_upto_region 4 with (fail)
      go_still_tail 7, (by kernel_rfl)
      have hpl2 : Calls Try.prog 150 #[.slice (some a) k c, .string x] wr.drew fun y w' => ∃ z, y = .returned (.int .i64 z) ∧ (z < 0 ∧ memB (l.take k) x = false) ∧ wr.drew = w' ∨ y = .returned (.int .i64 z) ∧ (0 ≤ z ∧ memB (l.take k) x = true) ∧ wr.drew = w' :=
        HPL.out.mono fun y w' ⟨z, h1, h2, h3⟩ => ⟨z, by rcases h2.two with h2 | h2; exact .inl ⟨h1, h2, h3⟩; exact .inr ⟨h1, h2, h3⟩⟩
      have HPL2 := Lib.hid hpl2; clear hpl2
      have HD1 : Hid (Drw w wr.drew) := Lib.hid HD.out.drew
      go_wp2_with fail
      (with_reducible refine HPL2.out.mono ?_)
      rintro y w2 ⟨z, ⟨rfl, ⟨hz, hm⟩, rfl⟩ | ⟨rfl, ⟨hz, hm⟩, rfl⟩⟩
      · rw [hm] at HST
        clear hm
        go_wp2
        go_roundw
        case rel => exact ⟨k + 1, by omega, by go_num, HST, HD1.out⟩
        case measure => simp [intOf]; omega
      · have hy := HM.out hm
        have HY := Lib.hid hy; clear hm hy
        go_wp2
        go_ret
        exact ⟨_, rfl, .inr ⟨q1, HY.out⟩, HD1.out⟩
    · obtain rfl : k = l.length := by omega
      have HA2 : Hid (dupB l = false) := HA
      go_wp2
      go_ret
      exact ⟨_, rfl, .inl ⟨rfl, HA2.out⟩, HD.out⟩
end Go.Proofs.Ytfhmaincnlaapaa
namespace Go.Proofs.Ytfhmaincnlaapaa
set_option linter.unusedVariables false

/-- how many bytes a number below 2^64 has (none: 0) -/
def wdF : Nat → Nat → Nat
  | 0, _ => 0
  | f + 1, x => if x = 0 then 0 else wdF f (x / 256) + 1
def wd (x : Nat) : Nat := wdF 8 x
/-- the lowest k bytes of a number, the highest first -/
def be : Nat → Nat → List UInt8
  | 0, _ => []
  | k + 1, x => UInt8.ofNat (x / 256 ^ k) :: be k x
/-- the codes -/
def encU (x : Nat) : List UInt8 := UInt8.ofNat (wd x) :: be (wd x) x
def encI (z : Int) : List UInt8 :=
  if 0 ≤ z then UInt8.ofNat (9 + wd z.toNat) :: be (wd z.toNat) z.toNat
  else UInt8.ofNat (8 - wd (-(z + 1)).toNat) :: be (wd (-(z + 1)).toNat) (18446744073709551615 - (-(z + 1)).toNat)
end Go.Proofs.Ytfhmaincnlaapaa
namespace Go.Proofs.Ytfhmaincnlaapaa
open Go.ChangeShapes Go.WideShapes Go.ChangeAt Go.RowKit
set_option linter.unusedVariables false

end Go.Proofs.Ytfhmaincnlaapaa
namespace Go.Proofs.Ytfhmaincnlaapaa
set_option linter.unusedVariables false

theorem snoc_ind {α : Type} {p : List α → Prop} (h0 : p []) (h1 : ∀ l b, p l → p (l ++ [b])) (l : List α) : p l := by
  have h : ∀ r : List α, p r.reverse := by
    intro r
    induction r with
    | nil => exact h0
    | cons b r ih => rw [List.reverse_cons]; exact h1 _ _ ih
  have := h l.reverse
  rwa [List.reverse_reverse] at this
/-- the number that bytes are, the highest first -/
def bv (l : List UInt8) : Nat := l.foldl (fun x b => x * 256 + b.toNat) 0
theorem bv_snoc (l : List UInt8) (b : UInt8) : bv (l ++ [b]) = bv l * 256 + b.toNat := by simp [bv]
theorem bv_lt (l : List UInt8) : bv l < 256 ^ l.length := by
  refine snoc_ind (p := fun l => bv l < 256 ^ l.length) (by simp [bv]) (fun l b ih => ?_) l
  rw [bv_snoc, List.length_append, List.length_singleton, Nat.pow_succ]
  have := b.toNat_lt
  omega
theorem bv_take (l : List UInt8) (i : Nat) (h : i < l.length) : bv (l.take (i + 1)) = bv (l.take i) * 256 + l[i].toNat := by
  rw [List.take_succ_eq_append_getElem h, bv_snoc]
end Go.Proofs.Ytfhmaincnlaapaa
namespace Go.Proofs.Ytfhmaincnlaapaa
open Go.ChangeShapes Go.WideShapes Go.ChangeAt Go.RowKit
set_option linter.unusedVariables false

end Go.Proofs.Ytfhmaincnlaapaa
namespace Go.Proofs.Ytfhmaincnlaapaa
open Go.ChangeShapes Go.WideShapes Go.ChangeAt Go.RowKit
set_option linter.unusedVariables false

/-- THE READER AT BLOCK g: its bytes, its place, its fault -/
def InS (w : World) (g : Nat) (t : List UInt8) (p e : Nat) : Prop :=
  ∃ A c, Blk w g 211 #[.bool true, .slice A t.length c, .int .i64 (p : Int), .int .i64 (e : Int)] ∧ Rd w g 1 A t.length (u8s t) ∧ t.length ≤ c ∧ c ≤ maxLen ∧ p ≤ t.length
section
variable {w w' : World} {g p e : Nat} {t : List UInt8}
theorem InS.lt (h : InS w g t p e) : g < w.heap.size := by obtain ⟨A, c, hb, _⟩ := h; exact hb.lt
theorem InS.drw (h : InS w g t p e) (k : Drw w w') : InS w' g t p e := by
  obtain ⟨n, rfl⟩ := k; exact h
theorem InS.below {B : Nat} (h : InS w g t p e) (hb : Below B w w') (hg : g < B) : InS w' g t p e := by
  obtain ⟨A, c, h1, h2, h3⟩ := h
  exact ⟨A, c, h1.below hb hg, h2.keep fun q hq => hb.cell (by omega), h3⟩
end

theorem InS.move {w : World} {g : Nat} {t : List UInt8} {p e : Nat} (h : InS w g t p e) (p' : Nat) (hp : p' ≤ t.length) : InS (w.setCell ⟨g, 2, none⟩ (.int .i64 (p' : Int))) g t p' e := by
  obtain ⟨A, c, hb, hR, h1, h2, h3⟩ := h
  have := hb.set_ 2 (.int .i64 (p' : Int))
  exact ⟨A, c, by simpa using this, hR.keep fun q hq => World.cell?_setCell_other w _ q _ (fun e => by subst e; simp at hq), h1, h2, hp⟩
theorem Only.set1 (w : World) (g i : Nat) (u : Value) : Only g w (w.setCell ⟨g, i, none⟩ u) := (Only.refl g w).set_ (p := ⟨g, i, none⟩) (.inl rfl) u

end Go.Proofs.Ytfhmaincnlaapaa
namespace Go.Proofs.Ytfhmaincnlaapaa
open Go.ChangeShapes Go.WideShapes Go.ChangeAt Go.RowKit
set_option linter.unusedVariables false

end Go.Proofs.Ytfhmaincnlaapaa
namespace Go.Proofs.Ytfhmaincnlaapaa
open Go.ChangeShapes Go.WideShapes Go.ChangeAt Go.RowKit
set_option linter.unusedVariables false

/-- the fault behind a read: the one that there was, the getter's, the bound's -/
def stepE (e er er2 : Nat) : Nat := if e ≠ 0 then e else if er ≠ 0 then er else er2
end Go.Proofs.Ytfhmaincnlaapaa
namespace Go.Proofs.Ytfhmaincnlaapaa
open Go.ChangeShapes Go.WideShapes Go.ChangeAt Go.RowKit
set_option linter.unusedVariables false

end Go.Proofs.Ytfhmaincnlaapaa
namespace Go.Proofs.Ytfhmaincnlaapaa
open Go.ChangeShapes Go.WideShapes Go.ChangeAt Go.RowKit
set_option linter.unusedVariables false

section
variable {w w' : World} {g p e : Nat} {t : List UInt8}
end

/-- three new blocks, and some draws -/
def Lit3 (w w' : World) : Prop := ∃ c1 t1 c2 t2 c3 t3 k, w' = (((w.alloc (.cells c1 t1)).alloc (.cells c2 t2)).alloc (.cells c3 t3)).drewN k
theorem Lit3.below {w w' : World} (h : Lit3 w w') : Below w.heap.size w w' := by
  obtain ⟨_, _, _, _, _, _, k, rfl⟩ := h; exact belD (belA (belA (belA (belR w) _) _) _) k
end Go.Proofs.Ytfhmaincnlaapaa
