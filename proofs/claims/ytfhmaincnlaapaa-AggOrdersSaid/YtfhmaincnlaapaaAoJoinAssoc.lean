/-
  Three cells together: the order of the joins is of no matter, where both come to something.
  The law AggJoins.
  bushellaw14.awake, run.
  RUNNING ON GIVEN VALUES: code and functions.
  RUNNING ON GIVEN VALUES: regions, code, functions.
-/
import Derived.Test.YtfhmaincnlaapaaAoWordMath
import Derived.Test.YtfhmaincnlaapaaAoExactRead
import Derived.Test.YtfhmaincnlaapaaAoRefSame
import Derived.Test.YtfhmaincnlaapaaAoTJoin2
import Derived.Test.YtfhmaincnlaapaaAoSy17
namespace Go.Proofs.Ytfhmaincnlaapaa.Sy
open Go.ChangeShapes Go.WideShapes Go.ChangeAt Go.RowKit
set_option linter.unusedVariables false
theorem adapt1_v (f g : Nat → Option AObj) (y : Value) : adapt1 f (.v y) = adapt1 g (.v y) := by
  by_cases hy : y = .slice none 0 0
  · subst hy; rfl
  · have : ∀ f : Nat → Option AObj, adapt1 f (.v y) = .v y := fun f => by
      unfold adapt1
      split
      · rename_i h; cases h
      · rename_i h; injection h with h; exact absurd h hy
      · rfl
    rw [this, this]
theorem adapt_restr {ids : List Nat} {f : Nat → Option AObj} {x : AV} (h : ∀ o ∈ refsL x, o ∈ ids) : adapt (restr ids f) x = adapt f x := by
  have h1 : ∀ y, (∀ o ∈ refsOf1 y, o ∈ ids) → adapt1 (restr ids f) y = adapt1 f y := fun y hy => by
    cases y with
    | row o ver =>
      have := hy o (by simp [refsOf1])
      simp only [adapt1, restr]
      rw [if_pos (List.contains_iff_mem.2 this)]
    | v y => exact adapt1_v _ _ y
    | _ => rfl
  cases x with
  | agg cs =>
    show AV.agg (cs.map (adapt1 (restr ids f))) = AV.agg (cs.map (adapt1 f))
    congr 1
    exact List.map_congr_left fun y hy => h1 y fun o ho => h o (List.mem_flatMap.2 ⟨y, hy, ho⟩)
  | row o v => exact h1 (.row o v) h
  | v y => exact h1 (.v y) h
  | _ => rfl
theorem pickO_at {O : List (Nat × AObj)} : ∀ {l : List Nat} {r : List (Nat × AObj)}, pickO O l = some r → ∀ p ∈ r, lo O p.1 = some p.2
  | [], r, h => by injection h with h; subst h; intro p hp; cases hp
  | q :: l, r, h => by
    unfold pickO at h
    split at h
    · rename_i x s hx hs
      injection h with h; subst h
      intro p hp
      rcases List.mem_cons.1 hp with rfl | hp
      · exact hx
      · exact pickO_at hs p hp
    · cases h
theorem preVc_of {ob : Nat → Option AObj} : ∀ {l : List (Nat × AObj)}, (∀ p ∈ l, ob p.1 = some p.2) → allP (preVc ob l)
  | [], _ => trivial
  | p :: l, h => ⟨by rw [h p (by simp)]; exact obEq_refl _, preVc_of fun q hq => h q (by simp [hq])⟩
theorem wkVcO_of {σ : AS} : ∀ {l : List (Nat × AObj)}, (∀ p ∈ l, lo σ.O p.1 = some p.2) → allP (wkVcO σ l)
  | [], _ => trivial
  | p :: l, h => ⟨by rw [h p (by simp)]; exact obEq_refl _, wkVcO_of fun q hq => h q (by simp [hq])⟩
theorem wkVc_of {σ : AS} : ∀ {l : List (Nat × AV)}, (∀ p ∈ l, lk σ.S p.1 = p.2) → allP (wkVc σ l)
  | [], _ => trivial
  | p :: l, h => ⟨by rw [h p (by simp)]; exact avEq_refl _, wkVc_of fun q hq => h q (by simp [hq])⟩
section
variable {P : Program} {call : CallF}
theorem hOf_hintL {o : Oper} {σ : AS} : hOf (hintL P call o σ) o.dst = match o.dst with | some d => hintX P call o (gAt σ.S (opTemps o)) σ.O d | none => none := by
  unfold hintL
  cases o.dst with
  | none => rfl
  | some d =>
    simp only
    cases hintX P call o (gAt σ.S (opTemps o)) σ.O d with
    | none => rfl
    | some h => simp [hOf, hintOf]
theorem hintB_hintL {o : Oper} {σ : AS} : hintB o (hOf (hintL P call o σ) o.dst) = true := by
  rw [hOf_hintL]
  cases o.dst with
  | none => show hintB o none = true; unfold hintB; split <;> (try split) <;> rfl
  | some d =>
    simp only
    unfold hintB hintX
    split
    · rename_i c ho
      revert ho
      cases o.op with
      | call c' =>
        intro ho
        injection ho with ho
        subst ho
        simp only
        split
        · rfl
        · rename_i hne
          split
          · rename_i f hf; exact absurd hf (hne f)
          · rfl
      | _ => intro ho; cases ho
    · rfl
    · rename_i h1 h2
      split
      · rename_i c ho; exact absurd ho (h1 c)
      · rename_i t y i ho; exact absurd ho (h2 t y i)
      · rfl
/-- one operation -/
theorem gd_hintL {o : Oper} {σ : AS} : gdOf (hOf (hintL P call o σ) o.dst) = none := by
  rw [hOf_hintL]
  cases o.dst with
  | none => rfl
  | some d =>
    simp only
    unfold hintX
    split
    · split
      · split
        · split <;> rfl
        · rfl
      · rfl
    · split
      · split <;> rfl
      · rfl
    · rfl
theorem evOp_ok (hc : CallsOk P call) {ops : Array Oper} {o : Oper} {σ : AS} {f : Foot} {vc : List Prop} (h : stepF P (hintL P call o σ) ops o σ = some (f, vc)) (hb : chkO P (hintL P call o σ) ops o σ = true) : allP vc := by
  unfold stepF at h
  rw [Bool.cond_eq_ite, gd_hintL] at h
  split at h
  · simp only at h
    split at h
    · rename_i hw
      split at h
      · rename_i r hr
        injection h with h; injection h with h1 h2; subst h1; subst h2
        unfold chkO at hb
        rw [hw] at hb
        refine chkE_ok hr hb hintB_hintL fun g I hg hI => ?_
        rw [hOf_hintL] at hI
        cases hd : o.dst with
        | none => rw [hd] at hI; cases hI
        | some d =>
          rw [hd] at hI
          simp only at hI
          unfold hintX at hI
          unfold isCall at hg
          split at hI
          · rename_i c ho
            simp only [ho] at hg
            split at hI
            · rename_i f hf
              rw [hf] at hg
              simp only [Option.some.injEq] at hg
              subst hg
              split at hI
              · rename_i pre hpre
                split at hI
                · rename_i J hJ
                  injection hI with hI; injection hI with hI; subst hI
                  obtain ⟨k1, k2, k3⟩ := evCall_ok hc hJ
                  refine ⟨k1, ?_, ?_⟩
                  · rintro args ⟨c', hc', rfl⟩
                    rw [ho] at hc'; injection hc' with hc'; subst hc'
                    rw [k2]
                    refine Eq.subst (motive := fun l => lsEq l _) ?_ (lsEq_refl _)
                    refine List.map_congr_left fun x hx => (adapt_restr fun q hq => ?_).symm
                    obtain ⟨y, hy, rfl⟩ := List.mem_map.1 hx
                    unfold opIds
                    refine List.mem_append.2 (.inl (List.mem_append.2 (.inr (List.mem_flatMap.2 ⟨y, ?_, hq⟩))))
                    simp only [ho, Op.operands, Call.operands, Array.toList_append]
                    exact List.mem_append.2 (.inr hy)
                  · refine preVc_of fun p hp => ?_
                    have hp' := hp
                    rw [k3] at hp'
                    unfold restr
                    rw [if_pos]
                    · exact pickO_at hpre p hp'
                    · rw [List.contains_iff_mem]
                      unfold opIds
                      refine List.mem_append.2 (.inr ?_)
                      have e := hOf_hintL (P := P) (call := call) (o := o) (σ := σ)
                      rw [hd] at e
                      rw [e]
                      simp only
                      unfold hintX
                      simp only [ho, hf, hpre, hJ]
                      exact List.mem_append.2 (.inl (List.mem_map.2 ⟨p, hp, rfl⟩))
                · cases hI
              · cases hI
            · cases hI
          · rename_i ho
            simp only [ho] at hg
            cases hg
          · cases hI
      · cases h
    · injection h with h; injection h with h1 h2; subst h2; trivial
    · cases h
  · cases h
theorem stepF_hint {H H' : List (Nat × Hint)} {ops : Array Oper} {o : Oper} {σ : AS} (h : hOf H o.dst = hOf H' o.dst) : stepF P H ops o σ = stepF P H' ops o σ := by
  unfold stepF stepR; rw [h]
/-- all hints of a run -/
def evHs (P : Program) (call : CallF) (ops : Array Oper) : List Oper → AS → List (Nat × Hint)
  | [], _ => []
  | o :: l, σ => hintL P call o σ ++ (match stepF P (hintL P call o σ) ops o σ with | some (f, _) => evHs P call ops l (f.app σ) | none => [])
theorem hintL_keys {o : Oper} {σ : AS} : ∀ p ∈ hintL P call o σ, o.dst = some p.1 := by
  unfold hintL
  intro p hp
  split at hp
  · rename_i d hd
    split at hp
    · obtain rfl := List.mem_singleton.1 hp; exact hd
    · cases hp
  · cases hp
theorem evHs_keys {ops : Array Oper} : ∀ {l : List Oper} {σ : AS}, ∀ p ∈ evHs P call ops l σ, ∃ o ∈ l, o.dst = some p.1
  | [], _, p, hp => by cases hp
  | o :: l, σ, p, hp => by
    unfold evHs at hp
    rcases List.mem_append.1 hp with hp | hp
    · exact ⟨o, by simp, hintL_keys p hp⟩
    · split at hp
      · obtain ⟨o', h1, h2⟩ := evHs_keys p hp; exact ⟨o', by simp [h1], h2⟩
      · cases hp
theorem hintOf_none {l : List (Nat × Hint)} {t : Nat} (h : ∀ p ∈ l, p.1 ≠ t) : hintOf l t = none := by
  induction l with
  | nil => rfl
  | cons p l ih =>
    obtain ⟨k, x⟩ := p
    unfold hintOf
    rw [if_neg (h (k, x) (by simp))]
    exact ih fun q hq => h q (by simp [hq])
theorem hintOf_app (a b : List (Nat × Hint)) (t : Nat) : hintOf (a ++ b) t = match hintOf a t with | some x => some x | none => hintOf b t := by
  induction a with
  | nil => rfl
  | cons p a ih =>
    obtain ⟨k, x⟩ := p
    simp only [List.cons_append, hintOf]
    split <;> simp_all
/-- operations, one behind the other -/
theorem evOps_ok (hc : CallsOk P call) {ops : Array Oper} : ∀ {l : List Oper} {σ σ' : AS} {fs : List Foot} (H1 : List (Nat × Hint)), (∀ o ∈ l, ∀ p ∈ H1, o.dst ≠ some p.1) → (l.filterMap (·.dst)).Nodup → evOps P call ops l σ = some (σ', fs) →
    ∃ vc, runF P (H1 ++ evHs P call ops l σ) ops l σ = some (σ', vc, fs) ∧ allP vc
  | [], σ, σ', fs, H1, h1, h2, h => by injection h with h; injection h with e1 e2; subst e1; subst e2; exact ⟨[], rfl, trivial⟩
  | o :: l, σ, σ', fs, H1, h1, h2, h => by
    unfold evOps at h
    split at h
    · rename_i f vc hf
      rw [Bool.cond_eq_ite] at h
      split at h
      · rename_i hb
        split at h
        · rename_i σ2 fs2 hr
          injection h with h; injection h with e1 e2; subst e1; subst e2
          have hnd : (l.filterMap (·.dst)).Nodup := by
            simp only [List.filterMap_cons] at h2
            split at h2
            · exact h2
            · exact (List.nodup_cons.1 h2).2
          have hfresh : ∀ o' ∈ l, ∀ d, o.dst = some d → o'.dst ≠ some d := fun o' ho' d hd he => by
            simp only [List.filterMap_cons, hd] at h2
            exact (List.nodup_cons.1 h2).1 (List.mem_filterMap.2 ⟨o', ho', he⟩)
          obtain ⟨vc2, hr2, hv2⟩ := evOps_ok hc (H1 ++ hintL P call o σ) (fun o' ho' p hp => by
            rcases List.mem_append.1 hp with hp | hp
            · exact h1 o' (by simp [ho']) p hp
            · exact hfresh o' ho' _ (hintL_keys p hp)) hnd hr
          have hH : evHs P call ops (o :: l) σ = hintL P call o σ ++ evHs P call ops l (f.app σ) := by
            conv => lhs; unfold evHs
            rw [hf]
          refine ⟨vc ++ vc2, ?_, allP_append.2 ⟨evOp_ok hc hf hb, hv2⟩⟩
          unfold runF
          rw [hH, stepF_hint (H' := hintL P call o σ), hf]
          · simp only
            rw [← List.append_assoc, hr2]
          · cases hd : o.dst with
            | none => rfl
            | some d =>
              show hintOf _ d = hintOf _ d
              rw [hintOf_app, hintOf_none (l := H1) (fun p hp he => h1 o (by simp) p hp (by rw [hd, he])), hintOf_app]
              simp only
              rw [hintOf_none (l := evHs P call ops l (f.app σ)) (fun p hp he => by
                obtain ⟨o', ho', hd'⟩ := evHs_keys p hp
                exact hfresh o' ho' d hd (by rw [hd', he]))]
              cases hintOf (hintL P call o σ) d <;> rfl
        · cases h
      · cases h
    · cases h
end
end Go.Proofs.Ytfhmaincnlaapaa.Sy
namespace Go.Proofs.Ytfhmaincnlaapaa.Sy
open Go.ChangeShapes Go.WideShapes Go.ChangeAt Go.RowKit
set_option linter.unusedVariables false
theorem keepS_at {fr : List Nat} : ∀ {S : List (Nat × AV)} {seen : List Nat}, ∀ p ∈ keepS fr seen S, p.1 ∉ fr ∧ p.1 ∉ seen ∧ lk S p.1 = p.2
  | [], seen, p, hp => by cases hp
  | (t, x) :: l, seen, p, hp => by
    have hany : ∀ (m : List Nat) (t : Nat), (m.any fun b => Nat.beq b t) = true ↔ t ∈ m := fun m t => by
      rw [List.any_eq_true]
      constructor
      · rintro ⟨b, hb, e⟩; rw [Nat.beq_eq] at e; rw [← e]; exact hb
      · intro h; exact ⟨t, h, by simp⟩
    unfold keepS at hp
    rw [Bool.cond_eq_ite] at hp
    split at hp
    · rename_i hd
      rw [Bool.or_eq_true, hany, hany] at hd
      obtain ⟨h1, h2, h3⟩ := keepS_at p hp
      refine ⟨h1, h2, ?_⟩
      rw [lk_ne _ _ (fun e => ?_)]
      · exact h3
      · rcases hd with hd | hd
        · exact h1 (by rw [e]; exact hd)
        · exact h2 (by rw [e]; exact hd)
    · rename_i hd
      rw [Bool.or_eq_true, hany, hany] at hd
      rcases List.mem_cons.1 hp with rfl | hp
      · exact ⟨fun h => hd (.inl h), fun h => hd (.inr h), lk_eq _ _ _⟩
      · obtain ⟨h1, h2, h3⟩ := keepS_at p hp
        exact ⟨h1, fun h => h2 (by simp [h]), by rw [lk_ne _ _ (fun e => h2 (by simp [e]))]; exact h3⟩
theorem pickOs_at {O : List (Nat × AObj)} : ∀ {l : List Nat}, ∀ p ∈ pickOs O l, lo O p.1 = some p.2
  | [], p, hp => by cases hp
  | q :: l, p, hp => by
    unfold pickOs at hp
    split at hp
    · rename_i x hx
      rcases List.mem_cons.1 hp with rfl | hp
      · exact hx
      · exact pickOs_at p hp
    · exact pickOs_at p hp
theorem St.trim {M : Cx} {w0 : World} {σ : AS} {a : Act} {w : World} (h : St M w0 σ a w) {fr : List Nat} (hb : wkB (trimS fr σ) = true) : St M w0 (trimS fr σ) a w :=
  h.weaken rfl rfl hb (wkVc_of fun p hp => (keepS_at p hp).2.2) (wkVcO_of fun p hp => pickOs_at p hp)
theorem St.freezes {M : Cx} {w0 : World} {a : Act} {w : World} : ∀ {l : List Nat} {σ : AS}, St M w0 σ a w → St M w0 (Sy.freezes l σ) a w
  | [], _, h => h
  | q :: l, σ, h => St.freezes (l := l) (σ := Sy.freeze q σ) (St.freeze h q)
theorem nubN_le : ∀ l : List Nat, (nubN l).length ≤ l.length
  | [] => Nat.le_refl _
  | a :: l => by
    have := nubN_le l
    unfold nubN
    rw [Bool.cond_eq_ite]
    split
    · simp only [List.length_cons]; omega
    · simp only [List.length_cons]; omega
theorem nubN_nodup : ∀ {l : List Nat}, (nubN l).length = l.length → l.Nodup
  | [], _ => List.nodup_nil
  | a :: l, h => by
    have := nubN_le l
    unfold nubN at h
    rw [Bool.cond_eq_ite] at h
    split at h
    · simp only [List.length_cons] at h; omega
    · rename_i hn
      simp only [List.length_cons, Nat.add_right_cancel_iff] at h
      refine List.nodup_cons.2 ⟨fun hm => hn ?_, nubN_nodup h⟩
      rw [List.any_eq_true]; exact ⟨a, hm, by simp⟩
def RunOk (P : Program) (c : Code) (f : AS → Option (Exit × AS)) : Prop := ∀ (σ σ' : AS) (e : Exit), f σ = some (e, σ') → ∀ (M : Cx) (w0 : World) (a : Act) (w : World) (Q : Exit → Act → World → Prop), St M w0 σ a w → (∀ a' w', St M w0 σ' a' w' → Q e a' w') → c.wp P Q a w
theorem iterC_ok {P : Program} {c : Code} {f : AS → Option (Exit × AS)} (hf : RunOk P c f) (fr : List Nat) (k : Nat) : RunOk P (.loop c) (iterC f fr k) := by
  intro σ σ' e h M w0 a w Q hs hQ
  refine wp_loop_ghost (fun n a w => ∃ σ, iterC f fr n σ = some (e, σ') ∧ St M w0 σ a w) k ⟨σ, h, hs⟩ ?_
  rintro n a1 w1 ⟨σ1, h1, hs1⟩
  cases n with
  | zero => cases h1
  | succ n =>
    unfold iterC at h1
    split at h1
    · rename_i σ2 hf2
      rw [Bool.cond_eq_ite] at h1
      split at h1
      · rename_i hb
        exact hf _ _ _ hf2 _ _ _ _ _ hs1 fun a2 w2 hs2 => ⟨n, Nat.lt_succ_self n, trimS fr σ2, h1, hs2.trim hb⟩
      · cases h1
    · rename_i hne
      refine hf _ _ _ h1 _ _ _ _ _ hs1 fun a2 w2 hs2 => ?_
      have hq := hQ a2 w2 hs2
      cases e <;> first | exact hq | exact (hne _ h1).elim
theorem evC_ok {P : Program} (hmo : P.follows .mixedOrders = true) {call : CallF} (hc : CallsOk P call) (fz : Nat → List Nat) (k : Nat) : ∀ c : Code, RunOk P c (evC P call fz k c) := by
  intro c
  induction c with
  | skip => intro σ σ' e h M w0 a w Q hs hQ; injection h with h; injection h with h1 h2; subst h1; subst h2; exact wp_skip (hQ a w hs)
  | ret => intro σ σ' e h M w0 a w Q hs hQ; injection h with h; injection h with h1 h2; subst h1; subst h2; exact wp_ret (hQ a w hs)
  | exit id => intro σ σ' e h M w0 a w Q hs hQ; injection h with h; injection h with h1 h2; subst h1; subst h2; exact wp_exit (hQ a w hs)
  | region id ops draw =>
    intro σ σ' e h M w0 a w Q hs hQ
    simp only [evC, Bool.cond_eq_ite] at h
    split at h
    · rename_i hdst
      split at h
      · rename_i σ1 fs hr
        split at h
        · rename_i hd
          injection h with h; injection h with h1 h2; subst h1; subst h2
          unfold dstsOk at hdst
          rw [Nat.beq_eq] at hdst
          obtain ⟨vc, hrun, hv⟩ := evOps_ok hc [] (fun o _ p hp => by cases hp) (nubN_nodup hdst) hr
          cases draw with
          | false => exact region_text hrun hv hs.freezes hQ
          | true => exact region_any hmo hrun (hd rfl) hv hs.freezes hQ
        · cases h
      · cases h
    · cases h
  | seq x y ihx ihy =>
    intro σ σ' e h M w0 a w Q hs hQ
    simp only [evC] at h
    split at h
    · rename_i σ1 hx
      exact wp_seq (ihx _ _ _ hx _ _ _ _ _ hs fun a' w' hs' => ihy _ _ _ h _ _ _ _ _ hs' hQ)
    · rename_i hne
      refine wp_seq (ihx _ _ _ h _ _ _ _ _ hs fun a' w' hs' => ?_)
      cases e <;> first | exact hQ a' w' hs' | exact (hne _ h).elim
  | cond c x y ihx ihy =>
    intro σ σ' e h M w0 a w Q hs hQ
    simp only [evC] at h
    split at h
    · rename_i hcnd
      obtain ⟨E, rfl, hN⟩ := hs
      have e1 := hN.op c; rw [hcnd] at e1
      exact wp_cond_true (sees_v e1) (ihx _ _ _ h _ _ _ _ _ ⟨E, rfl, hN⟩ hQ)
    · rename_i hcnd
      obtain ⟨E, rfl, hN⟩ := hs
      have e1 := hN.op c; rw [hcnd] at e1
      exact wp_cond_false (sees_v e1) (ihy _ _ _ h _ _ _ _ _ ⟨E, rfl, hN⟩ hQ)
    · cases h
  | block id b ih =>
    intro σ σ' e h M w0 a w Q hs hQ
    simp only [evC] at h
    refine wp_block ?_
    split at h
    · rename_i id' σ1 hb
      split at h
      · rename_i hid
        injection h with h; injection h with h1 h2; subst h1; subst h2
        exact ih _ _ _ hb _ _ _ _ _ hs fun a' w' hs' => by simp only [Exit.inBlock, hid, if_true]; exact hQ a' w' hs'
      · rename_i hid
        injection h with h; injection h with h1 h2; subst h1; subst h2
        exact ih _ _ _ hb _ _ _ _ _ hs fun a' w' hs' => by simp only [Exit.inBlock, hid, if_false]; exact hQ a' w' hs'
    · rename_i hne
      refine ih _ _ _ h _ _ _ _ _ hs fun a' w' hs' => ?_
      cases e with
      | exit id' => exact absurd h (hne id' σ')
      | _ => exact hQ a' w' hs'
  | loop b ih => exact iterC_ok ih _ k
  | _ => intro σ σ' e h; cases h
theorem evFn_ok {P : Program} (hmo : P.follows .mixedOrders = true) {kn : FuncId → List AV → Option AV} (hkn : ∀ f args r, kn f args = some r → FnOk P f ⟨args, [], r, []⟩) (FZ : FuncId → Nat → List Nat) (k : Nat) : ∀ n, CallsOk P (evFn P kn FZ k n)
  | 0 => fun f args pre I h => by cases h
  | n + 1 => fun f args pre I h => by
    unfold evFn at h
    split at h
    · rename_i r hr
      injection h with h; subst h
      split at hr
      · rename_i he
        have : pre = [] := List.isEmpty_iff.1 he
        subst this
        exact ⟨hkn _ _ _ hr, rfl, rfl⟩
      · cases hr
    · rename_i fn hf
      split at h
      · rename_i c hb
        split at h
        · rename_i e σ' hr
          have hcode := evC_ok hmo (evFn_ok hmo hkn FZ k n) (FZ f) k c _ _ _ hr
          split at h
          all_goals first
            | (cases h; done)
            | (split at h
               · rename_i x hx
                 split at h
                 · rename_i post hpost
                   rw [Bool.cond_eq_ite] at h
                   split at h
                   · rename_i hbb
                     rw [Bool.and_eq_true, Bool.and_eq_true] at hbb
                     injection h with h; subst h
                     exact ⟨fn_wp (I := ⟨args, pre, resR post σ'.O x, post⟩) hf hb hcode (by simp) hx hbb.1 hbb.2.1 hbb.2.2 (reEq_refl _) (wkVcO_of (pickO_at hpost)), rfl, rfl⟩
                   · cases h
                 · cases h
               · cases h)
        · cases h
      · cases h
    · cases h
end Go.Proofs.Ytfhmaincnlaapaa.Sy
namespace Go.Proofs.Ytfhmaincnlaapaa.Sy
open Go.ChangeShapes Go.WideShapes Go.ChangeAt Go.RowKit
set_option linter.unusedVariables false
def strsOf : List AV → Option (List ByteArray)
  | [] => some []
  | .v (.string s) :: l => (match strsOf l with | some r => some (s :: r) | none => none)
  | _ => none
theorem strsOf_at : ∀ {cs : List AV} {l : List ByteArray}, strsOf cs = some l → cs = l.map fun s => .v (.string s)
  | [], l, h => by injection h with h; subst h; rfl
  | x :: cs, l, h => by
    unfold strsOf at h
    split at h
    · rename_i h1; cases h1
    · rename_i s l' h1
      injection h1 with h1 h2; subst h1; subst h2
      split at h
      · rename_i r hr; injection h with h; subst h; rw [strsOf_at hr]; rfl
      · cases h
    · cases h
def knTwice (f : FuncId) (args : List AV) : Option AV :=
  bif Nat.beq f 102 then (match args with
    | [.lst n cs] => (match strsOf cs with
      | some l => bif Nat.beq n l.length && (Nat.ble n 1000000 && ((l.all fun x => Nat.ble x.size maxLen) && !dupB l)) then some (.v (.int .i64 (-1))) else none
      | none => none)
    | _ => none) else none
theorem knTwice_ok (f : FuncId) (args : List AV) (r : AV) (h : knTwice f args = some r) : FnOk Try.prog f ⟨args, [], r, []⟩ := by
  unfold knTwice at h
  rw [Bool.cond_eq_ite] at h
  split at h
  · rename_i hf
    rw [Nat.beq_eq] at hf
    subst hf
    split at h
    · rename_i n cs
      split at h
      · rename_i l hl
        rw [Bool.cond_eq_ite] at h
        split at h
        · rename_i hb
          injection h with h; subst h
          simp only [Bool.and_eq_true, Nat.beq_eq, Nat.ble_eq, Bool.not_eq_true'] at hb
          obtain ⟨h1, h2, h3, h4⟩ := hb
          have hcs := strsOf_at hl
          refine FnOk.of_calls rfl fun E vs hF hlen hs => ?_
          obtain ⟨u, rfl⟩ : ∃ u, vs = [u] := List.length_eq_one_iff.1 hlen
          have hu : Rep E.w E.F (.lst n cs) u := hs 0 _ u rfl rfl
          have hsz : ∀ x ∈ l, x.size ≤ maxLen := fun x hx => by simpa using List.all_eq_true.1 h3 x hx
          have fin : ∀ A n c, Rd E.w E.w.heap.size 1 A n (strs l) → n = l.length → u = .slice A n c → Calls Try.prog 102 [u].toArray E.w fun y w' => y = .returned (.int .i64 (-1)) ∧ Below E.w.heap.size E.w w' := fun A n c hrd hn hu => by
            subst hu
            refine (twice_any E.w A n c E.w.heap.size l hrd (Nat.le_refl _) (by omega) hsz).mono ?_
            rintro y w' ⟨z, rfl, hz, hbl⟩
            rcases hz with ⟨rfl, _⟩ | ⟨_, hz⟩
            · exact ⟨rfl, hbl⟩
            · rw [h4] at hz; cases hz
          cases hu with
          | nil A c _ =>
            have : l = [] := List.eq_nil_of_length_eq_zero h1.symm
            subst this
            exact fin A 0 c Rd.nil rfl rfl
          | lst _ c _ a us hn hc hm hFa hl1 h1' hu' hr =>
            have hus : us = strs l := by
              rw [hcs] at hl1 hr
              refine List.ext_getElem? fun j => ?_
              by_cases hj : j < l.length
              · obtain ⟨u, h5⟩ := getElem?_of (l := us) (j := j) (by rw [hl1]; simpa using hj)
                have h6 := hr j (.v (.string l[j])) u (by rw [List.getElem?_map, List.getElem?_eq_getElem hj]; rfl) h5
                rw [h5, List.getElem?_map, List.getElem?_eq_getElem hj]
                cases h6 with
                | v _ h7 => rfl
              · rw [List.getElem?_eq_none (by rw [hl1]; simpa using hj), List.getElem?_eq_none (by simpa using hj)]
            refine fin (some a) n c ⟨?_, fun _ => ⟨a, rfl, hF _ hFa, by rw [← hus]; exact hu'⟩⟩ h1 rfl
            simp [strs, h1]
        · cases h
      · cases h
    · cases h
  · cases h
def fz14 (f : FuncId) (r : Nat) : List Nat := bif Nat.beq f 33 && Nat.beq r 2 then [9, 10] else []
end Go.Proofs.Ytfhmaincnlaapaa.Sy
namespace Go.Proofs.Ytfhmaincnlaapaa.Sy
open Go.ChangeShapes Go.WideShapes Go.ChangeAt Go.RowKit
set_option linter.unusedVariables false
set_option linter.unusedSimpArgs false
/-! ### in the other order -/
theorem sameWs_self : ∀ l : List WholeS, sameWs l l = true
  | [] => rfl
  | x :: l => by unfold sameWs; rw [sameW_self, sameWs_self l]; rfl
theorem sameRs_map {f g : Nat → RealS} : ∀ (l : List Nat), (∀ i ∈ l, sameR (f i) (g i) = true) → sameRs (l.map f) (l.map g) = true
  | [], _ => rfl
  | i :: l, h => by simp only [List.map_cons]; unfold sameRs; rw [h i (by simp), sameRs_map l fun j hj => h j (by simp [hj])]; rfl
/-! ### the cells are small -/
theorem okC_of {C : CellS} (h : CellOk C) (hn : okCl C) (hl : lightC C = true) : OkC C := by
  unfold lightC at hl
  simp only [Bool.and_eq_true, decide_eq_true_iff, List.all_eq_true] at hl
  obtain ⟨⟨⟨l1, l2⟩, l3⟩, l4⟩ := hl
  refine ⟨h.key, h.count, by omega, by omega, fun X hX => ?_, fun X hX => ?_⟩
  · obtain ⟨h1, h2, h3, h4, h5⟩ := h.ints X hX
    have := of_decide_eq_true (l3 X hX)
    exact ⟨h1, h2, h5, by omega, h3, h4⟩
  · obtain ⟨_, h2, h3⟩ := hn.2.2.2 X hX
    have := of_decide_eq_true (l4 X hX)
    exact ⟨by omega, h2, h3⟩
theorem addW_64 {a b : Int} : I64 (addW a b).1 := by
  unfold addW I64; split
  · assumption
  · simp
theorem okWh_no : okWh noW := ⟨rfl, rfl, (fun n (hn : n ∈ []) => by cases hn), rfl, rfl⟩
theorem okW_val {a b : CellS} (ha : OkC a) (hb : OkC b) {i : Nat} (h1 : i < a.ints.length) (h2 : i < b.ints.length) : okWh (valW a b i) := by
  have hx := ha.w h1
  have hy := hb.w h2
  unfold valW
  cases hz : joinW (wAt a.ints i) (wAt b.ints i) with
  | none => exact okWh_no
  | some z =>
    unfold joinW at hz
    split at hz
    · injection hz with hz; subst hz
      have m1 := hx.mn; have m2 := hy.mn; have m3 := hx.mx; have m4 := hy.mx
      unfold I64 at m1 m2 m3 m4
      exact ⟨WalkArith.wf_i64 addW_64, WalkArith.wf_i64 addW_64, dig_ltW _, WalkArith.wf_i64 (by simp only; omega), WalkArith.wf_i64 (by simp only; omega)⟩
    · cases hz
theorem okR_val {a b : CellS} (ha : OkC a) (hb : OkC b) {i : Nat} (h1 : i < a.nums.length) (h2 : i < b.nums.length) : okRe (valR a b i) := by
  have hx := ha.r h1
  have hy := hb.r h2
  have m1 := hx.mn; have m2 := hy.mn; have m3 := hx.mx; have m4 := hy.mx
  unfold valR joinR
  split
  · exact ⟨fun _ _ => trivial, by show (0 : Nat) < _; decide, by show (0 : Nat) < _; decide⟩
  · split
    · refine ⟨fun _ _ => trivial, ?_, ?_⟩
      · show leastF _ _ < _; unfold leastF; split <;> assumption
      · show mostF _ _ < _; unfold mostF; split <;> assumption
    · exact ⟨fun _ _ => trivial, by show (0 : Nat) < _; decide, by show (0 : Nat) < _; decide⟩
theorem okCl_join {a b : CellS} (ha : OkC a) (hb : OkC b) : okCl (joinC a b).1 := by
  have hno : okCl noC := ⟨by decide, rfl, (fun X (hX : X ∈ []) => by cases hX), (fun X (hX : X ∈ []) => by cases hX)⟩
  unfold joinC
  split
  · exact hno
  · rename_i c0
    split
    · exact hno
    · split
      · exact hno
      · split
        · exact hno
        · refine ⟨ha.key, WalkArith.wf_i64 addW_64, fun X hX => ?_, fun X hX => ?_⟩
          · obtain ⟨i, hi, rfl⟩ := List.mem_map.1 hX
            have := List.mem_range.1 hi
            exact okW_val ha hb this (by omega)
          · obtain ⟨i, hi, rfl⟩ := List.mem_map.1 hX
            have := List.mem_range.1 hi
            exact okR_val ha hb this (by omega)
theorem awake14_fn' : FnOk Try.prog 33 ⟨[], [], bz true, []⟩ := (evFn_ok hmo knTwice_ok fz14 200 30 33 [] [] ⟨[], [], bz true, []⟩ (by kernel_rfl)).1
end Go.Proofs.Ytfhmaincnlaapaa.Sy
namespace Go.Proofs.Ytfhmaincnlaapaa.Sy
open Go.ChangeShapes Go.WideShapes Go.ChangeAt Go.RowKit
set_option linter.unusedVariables false
/-! ### the bytes of a sum are read as that sum -/
theorem hd_u8 {l : List Nat} (h : ∀ n ∈ l, n < 256) (j : Nat) : hd (u8L l) j = dg l j := by
  unfold hd u8L dg
  rw [List.getD_eq_getElem?_getD, List.getD_eq_getElem?_getD, List.getElem?_map]
  rcases Nat.lt_or_ge j l.length with hj | hj
  · have := h _ (List.getElem_mem hj)
    rw [List.getElem?_eq_getElem hj]
    simp only [Option.map_some, Option.getD_some]
    rw [UInt8.toNat_ofNat', Nat.mod_eq_of_lt (by simpa using this)]
  · rw [List.getElem?_eq_none hj]; rfl
theorem dg_appR (a b : List Nat) (j : Nat) : dg (a ++ b) (a.length + j) = dg b j := by
  unfold dg
  rw [List.getD_eq_getElem?_getD, List.getD_eq_getElem?_getD, List.getElem?_append_right (by omega), Nat.add_sub_cancel_left]
theorem dg_appL (a b : List Nat) {j : Nat} (h : j < a.length) : dg (a ++ b) j = dg a j := by
  unfold dg
  rw [List.getD_eq_getElem?_getD, List.getD_eq_getElem?_getD, List.getElem?_append_left h]
theorem dg_bS (w : List Nat) : ∀ {k i j : Nat}, i < k → j < 4 → dg (bS w k) (4 * i + j) = dg (be4 (dg w (w.length - 1 - i))) j
  | 0, i, j, h, _ => absurd h (by omega)
  | k + 1, i, j, h, hj => by
    rw [bS]
    rcases Nat.lt_or_eq_of_le (Nat.le_of_lt_succ h) with h1 | rfl
    · rw [dg_appL _ _ (by rw [bS_len]; omega)]; exact dg_bS w h1 hj
    · have := dg_appR (bS w i) (be4 (dg w (w.length - 1 - i))) j
      rw [bS_len] at this; exact this
theorem wordB_encH {f : Nat} {w : List Nat} {k i : Nat} (hl : ∀ n ∈ encH f w k, n < 256) (hw : Wd w) (hi : i < k) : wordB (u8L (encH f w k)) i = dg w (w.length - 1 - i) := by
  have hlen : (u8L (encH f w k)).length = 3 + 4 * k := by unfold u8L; rw [List.length_map, encH_len]
  have hd4 : ∀ j, j < 4 → hd (u8L (encH f w k)) (3 + 4 * i + j) = dg (be4 (dg w (w.length - 1 - i))) j := fun j hj => by
    rw [hd_u8 hl]
    have := dg_appR [f, lz w, w.length - lz w] (bS w k) (4 * i + j)
    rw [show 3 + 4 * i + j = [f, lz w, w.length - lz w].length + (4 * i + j) by simp only [List.length_cons, List.length_nil]; omega]
    exact this.trans (dg_bS w hi hj)
  have hx := dg_ltW w (w.length - 1 - i) hw
  rw [← partB_four, partB_succ _ _ _ (by omega), partB_succ _ _ _ (by omega), partB_succ _ _ _ (by omega), partB_succ _ _ _ (by omega), partB_zero, hd4 0 (by decide), hd4 1 (by decide), hd4 2 (by decide), hd4 3 (by decide)]
  generalize dg w (w.length - 1 - i) = x at hx
  show (((0 * 256 + x / 16777216) * 256 + x / 65536 % 256) * 256 + x / 256 % 256) * 256 + x % 256 = x
  omega
theorem magP_self {g : Nat → Nat} {w : List Nat} (hg : ∀ i, i < w.length - lz w → g i = dg w (w.length - 1 - i)) : magP g w.length (w.length - lz w) = w := by
  have hz := lz_le w
  refine List.ext_getElem? fun p => ?_
  rcases Nat.lt_or_ge p w.length with hp | hp
  · rcases Nat.lt_or_ge p (lz w) with h1 | h1
    · have h2 := lz_low h1
      unfold magP
      rw [List.getElem?_append_left (by rw [List.length_replicate]; omega), List.getElem?_replicate, if_pos (by omega), List.getElem?_eq_getElem hp, dg_get w p hp, h2]
    · have h2 := magP_at g w.length (w.length - lz w) (w.length - 1 - p) (by omega) (by omega)
      rw [show w.length - 1 - (w.length - 1 - p) = p by omega, hg _ (by omega), show w.length - 1 - (w.length - 1 - p) = p by omega] at h2
      rw [h2, List.getElem?_eq_getElem hp, dg_get w p hp]
  · rw [List.getElem?_eq_none (by rw [magP_len _ _ _ (by omega)]; omega), List.getElem?_eq_none hp]
theorem bits_of : ∀ a b c d e n : Bool, (((flg a 1 + flg b 2 + flg c 4 + flg d 8 + flg e 16 + flg n 32) % 2 : Nat) : Int) = flg a 1 ∧ (((flg a 1 + flg b 2 + flg c 4 + flg d 8 + flg e 16 + flg n 32) / 2 % 2 : Nat) : Int) = flg b 1 ∧ (((flg a 1 + flg b 2 + flg c 4 + flg d 8 + flg e 16 + flg n 32) / 4 % 2 : Nat) : Int) = flg c 1 ∧ (((flg a 1 + flg b 2 + flg c 4 + flg d 8 + flg e 16 + flg n 32) / 8 % 2 : Nat) : Int) = flg d 1 ∧ (((flg a 1 + flg b 2 + flg c 4 + flg d 8 + flg e 16 + flg n 32) / 16 % 2 : Nat) : Int) = flg e 1 ∧ (flg a 1 + flg b 2 + flg c 4 + flg d 8 + flg e 16 + flg n 32) / 32 = flg n 1 := by decide +kernel
theorem flg_one (a : Bool) : (((flg a 1 : Nat) : Int) == 1) = a := by cases a <;> rfl
theorem decS_encS {s : SumS} (h : s.all.natAbs < roomN) : decS (encS s) = s := by
  have hw := Wd_dg s.all.natAbs
  have hlen := dgw_small h
  have hz := lz_le (dgw s.all.natAbs)
  have hfl := flN_lt s
  have hlt : ∀ n ∈ encN (flN s) (dgw s.all.natAbs), n < 256 := encN_lt hw (by omega) (by omega)
  have h0 : hd (encS s) 0 = flN s := by unfold encS; rw [hd_u8 hlt]; rfl
  have h1 : hd (encS s) 1 = lz (dgw s.all.natAbs) := by unfold encS; rw [hd_u8 hlt]; rfl
  have h2 : hd (encS s) 2 = (dgw s.all.natAbs).length - lz (dgw s.all.natAbs) := by unfold encS; rw [hd_u8 hlt]; rfl
  have hm : magP (wordB (encS s)) (hd (encS s) 1 + hd (encS s) 2) (hd (encS s) 2) = dgw s.all.natAbs := by
    rw [h1, h2, show lz (dgw s.all.natAbs) + ((dgw s.all.natAbs).length - lz (dgw s.all.natAbs)) = (dgw s.all.natAbs).length by omega]
    exact magP_self fun i hi => wordB_encH hlt hw hi
  obtain ⟨b1, b2, b3, b4, b5, b6⟩ := bits_of s.none s.up s.down s.minus s.plus (decide (s.all < 0))
  unfold decS
  rw [hm, vd_digW, h0]
  show (⟨((((flg s.none 1 + flg s.up 2 + flg s.down 4 + flg s.minus 8 + flg s.plus 16 + flg (decide (s.all < 0)) 32) % 2 : Nat) : Int) == 1), ((((flg s.none 1 + flg s.up 2 + flg s.down 4 + flg s.minus 8 + flg s.plus 16 + flg (decide (s.all < 0)) 32) / 2 % 2 : Nat) : Int) == 1), ((((flg s.none 1 + flg s.up 2 + flg s.down 4 + flg s.minus 8 + flg s.plus 16 + flg (decide (s.all < 0)) 32) / 4 % 2 : Nat) : Int) == 1), ((((flg s.none 1 + flg s.up 2 + flg s.down 4 + flg s.minus 8 + flg s.plus 16 + flg (decide (s.all < 0)) 32) / 8 % 2 : Nat) : Int) == 1), ((((flg s.none 1 + flg s.up 2 + flg s.down 4 + flg s.minus 8 + flg s.plus 16 + flg (decide (s.all < 0)) 32) / 16 % 2 : Nat) : Int) == 1), if (flg s.none 1 + flg s.up 2 + flg s.down 4 + flg s.minus 8 + flg s.plus 16 + flg (decide (s.all < 0)) 32) / 32 = 1 then -((s.all.natAbs : Nat) : Int) else ((s.all.natAbs : Nat) : Int)⟩ : SumS) = s
  rw [b1, b2, b3, b4, b5, b6, flg_one, flg_one, flg_one, flg_one, flg_one]
  have : (if flg (decide (s.all < 0)) 1 = 1 then -((s.all.natAbs : Nat) : Int) else ((s.all.natAbs : Nat) : Int)) = s.all := by
    by_cases hn : s.all < 0
    · rw [decide_eq_true hn, if_pos (show flg true 1 = 1 from rfl)]; omega
    · rw [decide_eq_false hn, if_neg (show ¬ flg false 1 = 1 by decide)]; omega
  rw [this]
/-! ### sums -/
theorem addW_ok {a b : Int} (h : (addW a b).2 = true) : (addW a b).1 = a + b := by
  unfold addW at h ⊢; split
  · rfl
  · rename_i h1; rw [if_neg h1] at h; cases h
theorem joinS_at {s o : SumS} (h : (joinS s o).2 = true) : (joinS s o).1 = ⟨s.none || o.none, s.up || o.up, s.down || o.down, s.minus || o.minus, s.plus || o.plus, s.all + o.all⟩ ∧ (s.all + o.all).natAbs < roomN := by
  unfold joinS at h ⊢
  split
  · rename_i h1; exact ⟨rfl, h1⟩
  · rename_i h1; rw [if_neg h1] at h; cases h
theorem joinW_at {x y z : WholeS} (h : joinW x y = some z) : z = ⟨x.sum + y.sum, x.abs + y.abs, dgw (vw x.sq + vw y.sq), min x.mn y.mn, max x.mx y.mx⟩ := by
  unfold joinW at h
  split at h
  · rename_i h1
    injection h with h
    rw [← h, addW_ok h1.1, addW_ok h1.2]
  · cases h
theorem joinW_assoc {x y z p q r s : WholeS} (h1 : joinW x y = some p) (h2 : joinW y z = some q) (h3 : joinW p z = some r) (h4 : joinW x q = some s) : r = s := by
  have e1 := joinW_at h1; have e2 := joinW_at h2; have e3 := joinW_at h3; have e4 := joinW_at h4
  subst e1; subst e2; subst e3; subst e4
  simp only [vd_digW, Int.add_assoc, Nat.add_assoc]
  congr 1
  · omega
  · omega
theorem joinR_at {x y : RealS} (h : (joinR x y).2 = 0) : (joinR x y).1 = ⟨encS (joinS (decS x.sum) (decS y.sum)).1, leastF x.mn y.mn, mostF x.mx y.mx⟩ ∧ (joinS (decS x.sum) (decS y.sum)).2 = true := by
  unfold joinR at h ⊢
  split
  · rename_i h1; rw [if_pos h1] at h; cases h
  · rename_i h1
    rw [if_neg h1] at h
    split
    · rename_i h2; exact ⟨rfl, h2⟩
    · rename_i h2; rw [if_neg h2] at h; cases h
theorem leastF_assoc (a b c : Nat) : keyB (leastF (leastF a b) c) = keyB (leastF a (leastF b c)) := by
  have h1 : ∀ a b, keyB (leastF a b) = min (keyB a) (keyB b) := fun a b => by unfold leastF; split <;> omega
  rw [h1, h1, h1, h1]; omega
theorem mostF_assoc (a b c : Nat) : keyB (mostF (mostF a b) c) = keyB (mostF a (mostF b c)) := by
  have h1 : ∀ a b, keyB (mostF a b) = max (keyB a) (keyB b) := fun a b => by unfold mostF; split <;> omega
  rw [h1, h1, h1, h1]; omega
theorem joinR_assoc {x y z : RealS} (h1 : (joinR x y).2 = 0) (h2 : (joinR y z).2 = 0) (h3 : (joinR (joinR x y).1 z).2 = 0) (h4 : (joinR x (joinR y z).1).2 = 0) : sameR (joinR (joinR x y).1 z).1 (joinR x (joinR y z).1).1 = true := by
  obtain ⟨e1, j1⟩ := joinR_at h1
  obtain ⟨e2, j2⟩ := joinR_at h2
  obtain ⟨e3, j3⟩ := joinR_at h3
  obtain ⟨e4, j4⟩ := joinR_at h4
  obtain ⟨s1, r1⟩ := joinS_at j1
  obtain ⟨s2, r2⟩ := joinS_at j2
  have d1 : decS (joinR x y).1.sum = (joinS (decS x.sum) (decS y.sum)).1 := by rw [e1]; exact decS_encS (by rw [s1]; exact r1)
  have d2 : decS (joinR y z).1.sum = (joinS (decS y.sum) (decS z.sum)).1 := by rw [e2]; exact decS_encS (by rw [s2]; exact r2)
  rw [d1] at e3 j3
  rw [d2] at e4 j4
  have s3 := (joinS_at j3).1
  have s4 := (joinS_at j4).1
  have hs : (joinS (joinS (decS x.sum) (decS y.sum)).1 (decS z.sum)).1 = (joinS (decS x.sum) (joinS (decS y.sum) (decS z.sum)).1).1 := by
    rw [s3, s4, s1, s2]; simp only [Int.add_assoc, Bool.or_assoc]
  rw [e3, e4, hs, show (joinR x y).1.mn = leastF x.mn y.mn by rw [e1], show (joinR x y).1.mx = mostF x.mx y.mx by rw [e1], show (joinR y z).1.mn = leastF y.mn z.mn by rw [e2], show (joinR y z).1.mx = mostF y.mx z.mx by rw [e2]]
  unfold sameR
  simp only [leastF_assoc, mostF_assoc, decide_true, Bool.and_self]
/-! ### cells -/
theorem wAt_acc (a b : CellS) {n i : Nat} (h : i < n) : wAt (accW a b n) i = valW a b i := by unfold wAt accW; simp [List.getD, h]
theorem rAt_acc (a b : CellS) {n i : Nat} (h : i < n) : rAt (accR a b n) i = valR a b i := by unfold rAt accR; simp [List.getD, h]
theorem errW_at {a b : CellS} {i : Nat} (h : errW a b i = 0) : joinW (wAt a.ints i) (wAt b.ints i) = some (valW a b i) := by
  unfold errW at h; unfold valW
  cases hz : joinW (wAt a.ints i) (wAt b.ints i) with
  | none => rw [hz] at h; cases h
  | some z => rfl
structure JoinOk (a b : CellS) : Prop where
  key : a.key = b.key
  li : b.ints.length = a.ints.length
  ln : b.nums.length = a.nums.length
  count : (addW a.count b.count).1 = a.count + b.count
  w : ∀ i, i < a.ints.length → errW a b i = 0
  r : ∀ i, i < a.nums.length → errR a b i = 0
  is : (joinC a b).1 = ⟨a.key, a.count + b.count, accW a b a.ints.length, accR a b a.nums.length⟩
theorem joinC_at {a b : CellS} (h : (joinC a b).2 = 0) : JoinOk a b := by
  unfold joinC at h
  split at h
  · cases h
  · rename_i c0
    split at h
    · cases h
    · rename_i c1
      split at h
      · rename_i c2; exact absurd h c2
      · rename_i c2
        split at h
        · rename_i c3; exact absurd h c3
        · rename_i c3
          have hc : (addW a.count b.count).2 = true := by simpa using c1
          refine ⟨by omega, by omega, by omega, addW_ok hc, errs_all (by omega), errs_all (by omega), ?_⟩
          unfold joinC
          rw [if_neg c0, if_neg c1, if_neg c2, if_neg c3, addW_ok hc]
theorem joinC_assoc {a b c : CellS} (h1 : (joinC a b).2 = 0) (h2 : (joinC b c).2 = 0) (h3 : (joinC (joinC a b).1 c).2 = 0) (h4 : (joinC a (joinC b c).1).2 = 0) : sameC (joinC (joinC a b).1 c).1 (joinC a (joinC b c).1).1 = true := by
  have g1 := joinC_at h1
  have g2 := joinC_at h2
  have g3 := joinC_at h3
  have g4 := joinC_at h4
  have k1 := g1.is
  have k2 := g2.is
  have l1 := g1.li; have l2 := g2.li; have n1 := g1.ln; have n2 := g2.ln
  have li : (joinC a b).1.ints.length = a.ints.length := by rw [k1]; exact accW_len ..
  have ln : (joinC a b).1.nums.length = a.nums.length := by rw [k1]; exact accR_len ..
  have hW : ∀ i, i < a.ints.length → valW (joinC a b).1 c i = valW a (joinC b c).1 i := fun i hi => by
    have e1 := errW_at (g1.w i hi)
    have e2 := errW_at (g2.w i (by omega))
    have e3 := errW_at (g3.w i (by omega))
    have e4 := errW_at (g4.w i hi)
    have f1 : wAt (joinC a b).1.ints i = valW a b i := by rw [k1]; exact wAt_acc _ _ hi
    have f2 : wAt (joinC b c).1.ints i = valW b c i := by rw [k2]; exact wAt_acc _ _ (by omega)
    rw [f1] at e3; rw [f2] at e4
    exact joinW_assoc e1 e2 e3 e4
  have hR : ∀ i, i < a.nums.length → sameR (valR (joinC a b).1 c i) (valR a (joinC b c).1 i) = true := fun i hi => by
    have e1 : (joinR (rAt a.nums i) (rAt b.nums i)).2 = 0 := g1.r i hi
    have e2 : (joinR (rAt b.nums i) (rAt c.nums i)).2 = 0 := g2.r i (by omega)
    have e3 : (joinR (rAt (joinC a b).1.nums i) (rAt c.nums i)).2 = 0 := g3.r i (by omega)
    have e4 : (joinR (rAt a.nums i) (rAt (joinC b c).1.nums i)).2 = 0 := g4.r i hi
    have f1 : rAt (joinC a b).1.nums i = (joinR (rAt a.nums i) (rAt b.nums i)).1 := by rw [k1]; exact rAt_acc _ _ hi
    have f2 : rAt (joinC b c).1.nums i = (joinR (rAt b.nums i) (rAt c.nums i)).1 := by rw [k2]; exact rAt_acc _ _ (by omega)
    rw [f1] at e3; rw [f2] at e4
    show sameR (joinR (rAt (joinC a b).1.nums i) (rAt c.nums i)).1 (joinR (rAt a.nums i) (rAt (joinC b c).1.nums i)).1 = true
    rw [f1, f2]
    exact joinR_assoc e1 e2 e3 e4
  rw [g3.is, g4.is, li, ln]
  have ew : accW (joinC a b).1 c a.ints.length = accW a (joinC b c).1 a.ints.length := by
    unfold accW; exact List.map_congr_left fun i hi => hW i (List.mem_range.1 hi)
  have er : sameRs (accR (joinC a b).1 c a.nums.length) (accR a (joinC b c).1 a.nums.length) = true := sameRs_map _ fun i hi => hR i (List.mem_range.1 hi)
  have hk : (joinC a b).1.key = a.key := by rw [k1]
  have hc1 : (joinC a b).1.count = a.count + b.count := by rw [k1]
  have hc2 : (joinC b c).1.count = b.count + c.count := by rw [k2]
  unfold sameC
  simp only [ew, er, sameWs_self, hk, hc1, hc2, Int.add_assoc, decide_true, Bool.and_self]
/-! ### what is joined is small again -/
theorem dig_add_len {l m : List Nat} (hl : Wd l) (hm : Wd m) {k : Nat} (h1 : l.length ≤ k) (h2 : m.length ≤ k) : (dgw (vw l + vw m)).length ≤ k + 1 := by
  have a1 := Nat.lt_of_lt_of_le (vd_ltW l hl) (Nat.pow_le_pow_right (by decide) h1)
  have a2 := Nat.lt_of_lt_of_le (vd_ltW m hm) (Nat.pow_le_pow_right (by decide) h2)
  apply dig_lenW
  rw [Nat.pow_succ]
  generalize 4294967296 ^ k = P at a1 a2 ⊢
  omega
theorem encS_len {s : SumS} (h : s.all.natAbs < roomN) : (encS s).length ≤ 283 := by
  have := dgw_small h
  unfold encS u8L encN
  rw [List.length_map, encH_len]; omega
theorem okC_join {a b : CellS} (ha : OkC a) (hb : OkC b) (wa : ∀ X ∈ a.ints, X.sq.length ≤ 900) (wb : ∀ X ∈ b.ints, X.sq.length ≤ 900) : OkC (joinC a b).1 := by
  have hno : OkC noC := ⟨by decide, by unfold I64 noC; decide, by decide, by decide, (fun X (hX : X ∈ []) => by cases hX), (fun X (hX : X ∈ []) => by cases hX)⟩
  unfold joinC
  split
  · exact hno
  · rename_i c0
    split
    · exact hno
    · split
      · exact hno
      · rename_i c2
        split
        · exact hno
        · rename_i c3
          have hw := errs_all (f := errW a b) (n := a.ints.length) (by omega)
          have hr := errs_all (f := errR a b) (n := a.nums.length) (by omega)
          refine ⟨ha.key, addW_64, by show (accW a b _).length ≤ _; rw [accW_len]; exact ha.li, by show (accR a b _).length ≤ _; rw [accR_len]; exact ha.ln, fun X hX => ?_, fun X hX => ?_⟩
          · obtain ⟨i, hi, rfl⟩ := List.mem_map.1 hX
            have h1 := List.mem_range.1 hi
            have hx := ha.w h1
            have hy := hb.w (i := i) (by omega)
            have e := errW_at (hw i h1)
            have m1 := hx.mn; have m2 := hy.mn; have m3 := hx.mx; have m4 := hy.mx
            have q1 : (wAt a.ints i).sq.length ≤ 900 := by
              have : wAt a.ints i = a.ints[i] := by unfold wAt; simp [h1]
              rw [this]; exact wa _ (List.getElem_mem h1)
            have q2 : (wAt b.ints i).sq.length ≤ 900 := by
              have h2 : i < b.ints.length := by omega
              have : wAt b.ints i = b.ints[i] := by unfold wAt; simp [h2]
              rw [this]; exact wb _ (List.getElem_mem h2)
            unfold I64 at m1 m2 m3 m4
            generalize valW a b i = z at e ⊢
            unfold joinW at e
            split at e
            · injection e with e; subst e
              exact ⟨addW_64, addW_64, Wd_dg _, Nat.le_trans (dig_add_len hx.sq hy.sq q1 q2) (by decide), by unfold I64; simp only; omega, by unfold I64; simp only; omega⟩
            · cases e
          · obtain ⟨i, hi, rfl⟩ := List.mem_map.1 hX
            have h1 := List.mem_range.1 hi
            have hx := ha.r h1
            have hy := hb.r (i := i) (by omega)
            have m1 := hx.mn; have m2 := hy.mn; have m3 := hx.mx; have m4 := hy.mx
            obtain ⟨e, j⟩ := joinR_at (x := rAt a.nums i) (y := rAt b.nums i) (hr i h1)
            obtain ⟨s, hs⟩ := joinS_at j
            show OkR (joinR (rAt a.nums i) (rAt b.nums i)).1
            rw [e]
            refine ⟨Nat.le_trans (encS_len (by rw [s]; exact hs)) (by decide), ?_, ?_⟩
            · show leastF _ _ < _; unfold leastF; split <;> assumption
            · show mostF _ _ < _; unfold mostF; split <;> assumption
end Go.Proofs.Ytfhmaincnlaapaa.Sy
