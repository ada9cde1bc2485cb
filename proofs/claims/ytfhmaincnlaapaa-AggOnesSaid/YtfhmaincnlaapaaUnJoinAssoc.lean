/-
  Three cells together: the order of the joins is of no matter, where both come to something.
  The law AggJoins.
  bushellaw14.awake, run.
  RUNNING ON GIVEN VALUES: code and functions.
  RUNNING ON GIVEN VALUES: regions, code, functions.
  RUNNING ON GIVEN VALUES: the run, and that it is sound.
  OBJECTS BY OTHER NAMES.
-/
import Derived.Test.YtfhmaincnlaapaaUnRefRead
import Derived.Test.YtfhmaincnlaapaaUnRefNodesW
import Derived.Test.YtfhmaincnlaapaaUnSchemaCheck
import Derived.Test.YtfhmaincnlaapaaUnTNat3
import Derived.Test.YtfhmaincnlaapaaUnSy15
namespace Go.Proofs.Ytfhmaincnlaapaa.Sy
open Go.ChangeShapes Go.WideShapes Go.ChangeAt Go.RowKit
set_option linter.unusedVariables false
abbrev CallF := FuncId → List AV → List (Nat × AObj) → Option Inst
def objIds (O : List (Nat × AObj)) : List Nat := O.flatMap fun p => p.1 :: (match p.2 with | .cells _ cs => cs.flatMap refsOf1 | _ => [])
/-- the names' way back -/
def piC (ids new : List Nat) (d q : Nat) : Nat := nth (ids.map (toC ids) ++ new) (posOf q ((ids.map (toC ids) ++ new).map (ofC ids new d)))
def callOk (args : List AV) (ids : List Nat) (pre : List (Nat × AObj)) (d : Nat) (I : Inst) : Bool :=
  ((args.flatMap refsL ++ objIds pre).all fun o => Nat.beq (ofC ids (I.post.map (·.1)) d (toC ids o)) o) &&
  ((I.pre.all fun p => Nat.beq (piC ids (I.post.map (·.1)) d (ofC ids (I.post.map (·.1)) d p.1)) p.1) &&
  ((I.post.all fun p => Nat.beq (piC ids (I.post.map (·.1)) d (ofC ids (I.post.map (·.1)) d p.1)) p.1) &&
  (closedB I.pre && (closedB I.post && (((I.args.flatMap refsL).all fun o => (lo I.pre o).isSome) && ((refsT I.res).all fun o => (lo I.post o).isSome))))))
def evCall (call : CallF) (O : List (Nat × AObj)) (d : Nat) (f : FuncId) (args : List AV) (ids : List Nat) (pre : List (Nat × AObj)) : Option Inst :=
  match call f ((args.map (adapt (lo O))).map (ren (toC ids))) (renL (toC ids) pre) with
  | some I => bif callOk (args.map (adapt (lo O))) ids pre d I then some ⟨args.map (adapt (lo O)), pre, renT (ofC ids (I.post.map (·.1)) d) I.res, renL (ofC ids (I.post.map (·.1)) d) I.post⟩ else none
  | none => none
def hintX (P : Program) (call : CallF) (o : Oper) (g : Operand → AV) (O : List (Nat × AObj)) (d : Nat) : Option Hint :=
  match o.op with
  | .call c => (match c.callee with
    | .value (.func f) => (match pickO O (reach O 8 (nubN ((c.args.toList.map g).flatMap ptrsOf))) with
      | some pre => (match evCall call O d f (c.args.toList.map g) (pre.map (·.1)) pre with | some I => some (.call I) | none => none)
      | none => none)
    | _ => none)
  | .index t y i => (match g y, g i with | .v (.string s), .v (.int k z) => (match s[z.toNat]? with | some c => some (.val (.v (.int .u8 c.toNat))) | none => none) | _, _ => none)
  | _ => none
def hintL (P : Program) (call : CallF) (o : Oper) (σ : AS) : List (Nat × Hint) :=
  match o.dst with
  | some d => (match hintX P call o (gAt σ.S (opTemps o)) σ.O d with | some h => [(d, h)] | none => [])
  | none => []
def chkO (P : Program) (H : List (Nat × Hint)) (ops : Array Oper) (o : Oper) (σ : AS) : Bool :=
  match wantedA σ.S (gTemp ops o) with
  | some true => chkE P o (hOf H o.dst) (gAt σ.S (opTemps o)) (restr (opIds o (hOf H o.dst) (gAt σ.S (opTemps o))) (lo σ.O))
  | _ => true
def evOps (P : Program) (call : CallF) (ops : Array Oper) : List Oper → AS → Option (AS × List Foot)
  | [], σ => some (σ, [])
  | o :: l, σ => match stepF P (hintL P call o σ) ops o σ with
    | some (f, vc) => bif chkO P (hintL P call o σ) ops o σ then (match evOps P call ops l (f.app σ) with
      | some (σ', fs) => some (σ', f :: fs)
      | none => none) else none
    | none => none
/-- temporaries that are computed anew in each round -/
def freshOp (o : Oper) : List Nat := match o.op with | .move _ => [] | .assign _ => [] | _ => o.dst.toList
def freshC : Code → List Nat
  | .region _ ops _ => ops.toList.flatMap freshOp
  | .seq a b => freshC a ++ freshC b
  | .cond _ a b => freshC a ++ freshC b
  | .block _ b => freshC b
  | .loop b => freshC b
  | _ => []
def keepS (fr : List Nat) : List Nat → List (Nat × AV) → List (Nat × AV)
  | _, [] => []
  | seen, (t, x) :: l => bif (fr.any fun b => Nat.beq b t) || (seen.any fun b => Nat.beq b t) then keepS fr seen l else (t, x) :: keepS fr (t :: seen) l
def pickOs (O : List (Nat × AObj)) : List Nat → List (Nat × AObj)
  | [] => []
  | q :: l => match lo O q with
    | some x => (q, x) :: pickOs O l
    | _ => pickOs O l
/-- at the end of a round -/
def trimS (fr : List Nat) (σ : AS) : AS := ⟨keepS fr [] σ.S, pickOs σ.O (reach σ.O 8 (nubN ((keepS fr [] σ.S).flatMap (fun p => refsT p.2) ++ σ.pk))), σ.nt, σ.pk⟩
def iterC (f : AS → Option (Exit × AS)) (fr : List Nat) : Nat → AS → Option (Exit × AS)
  | 0, _ => none
  | k + 1, σ => match f σ with
    | some (.normal, σ') => bif wkB (trimS fr σ') then iterC f fr k (trimS fr σ') else none
    | r => r
def freezes : List Nat → AS → AS
  | [], σ => σ
  | q :: l, σ => freezes l (freeze q σ)
def dstsOk (ops : Array Oper) : Bool := Nat.beq (nubN (ops.toList.filterMap (·.dst))).length (ops.toList.filterMap (·.dst)).length
/-- fz: the rows that nobody writes from a region on -/
def evC (P : Program) (call : CallF) (fz : Nat → List Nat) (k : Nat) : Code → AS → Option (Exit × AS)
  | .skip, σ => some (.normal, σ)
  | .ret, σ => some (.ret, σ)
  | .exit id, σ => some (.exit id, σ)
  | .region id ops draw, σ => bif dstsOk ops then (match evOps P call ops ops.toList (freezes (fz id) σ) with
    | some (σ', fs) => if draw = true → drawOk ops.toList fs (Region.before ops) = true then some (.normal, σ') else none
    | none => none) else none
  | .seq x y, σ => match evC P call fz k x σ with
    | some (.normal, σ') => evC P call fz k y σ'
    | r => r
  | .cond c x y, σ => match opv σ c with
    | .v (.bool true) => evC P call fz k x σ
    | .v (.bool false) => evC P call fz k y σ
    | _ => none
  | .block id b, σ => match evC P call fz k b σ with
    | some (.exit id', σ') => if id' = id then some (.normal, σ') else some (.exit id', σ')
    | r => r
  | .loop b, σ => iterC (fun σ => evC P call fz k b σ) (freshC b) k σ
  | _, _ => none
/-- kn: functions whose results are known -/
def evFn (P : Program) (kn : FuncId → List AV → Option AV) (FZ : FuncId → Nat → List Nat) (k : Nat) : Nat → CallF
  | 0, _, _, _ => none
  | n + 1, f, args, pre => match (if pre.isEmpty then kn f args else none), P.funcs[f]? with
    | some r, _ => some ⟨args, pre, r, []⟩
    | none, some fn => match fn.body with
      | some c => match evC P (evFn P kn FZ k n) (FZ f) k c ⟨initS 0 args, pre, args.length + (fn.ntmps - args.length), pre.map (·.1)⟩ with
        | some (e, σ') => match e with
          | .ret | .normal => match resA P σ' fn.results.toList with
            | some x => match pickO σ'.O (reach σ'.O 8 (nubN (pre.map (·.1) ++ ptrsT x))) with
              | some post => bif closedB post && (refsInV post (resR post σ'.O x) && pre.all fun p => (lo post p.1).isSome) then some ⟨args, pre, resR post σ'.O x, post⟩ else none
              | none => none
            | none => none
          | _ => none
        | none => none
      | none => none
    | none, none => none
/-! ### it is sound -/
theorem avEq_refl (x : AV) : avEq x x := by
  unfold avEq
  split <;> first | rfl | exact ⟨rfl, rfl⟩ | exact (if_pos rfl : (if _ then _ else _) = _) ▸ rfl | simp
theorem obEq_refl (x : AObj) : obEq x x := by cases x <;> simp [obEq]
theorem lsEq_refl : ∀ l : List AV, lsEq l l
  | [] => trivial
  | x :: l => ⟨avEq_refl x, lsEq_refl l⟩
theorem reEq_refl (x : AV) : reEq x x := by
  unfold reEq
  split
  · exact lsEq_refl _
  · exact avEq_refl x
/-! calls -/
theorem ren1_back {b t : Nat → Nat} {x : AV} (h : ∀ o ∈ refsOf1 x, b (t o) = o) : ren1 b (ren1 t x) = x := by
  cases x with
  | ptr o k => show AV.ptr (b (t o)) k = _; rw [h o (by simp [refsOf1])]
  | row o k => show AV.row (b (t o)) k = _; rw [h o (by simp [refsOf1])]
  | rptr o k j => show AV.rptr (b (t o)) k j = _; rw [h o (by simp [refsOf1])]
  | _ => rfl
theorem ren1L_back {b t : Nat → Nat} : ∀ {cs : List AV}, (∀ o ∈ cs.flatMap refsOf1, b (t o) = o) → (cs.map (ren1 t)).map (ren1 b) = cs
  | [], _ => rfl
  | x :: cs, h => by
    simp only [List.map_cons]
    rw [ren1_back fun o ho => h o (by simp only [List.flatMap_cons, List.mem_append]; exact .inl ho), ren1L_back fun o ho => h o (by simp only [List.flatMap_cons, List.mem_append]; exact .inr ho)]
theorem ren_back {b t : Nat → Nat} {x : AV} (h : ∀ o ∈ refsL x, b (t o) = o) : ren b (ren t x) = x := by
  cases x with
  | agg cs => show AV.agg ((cs.map (ren1 t)).map (ren1 b)) = _; rw [ren1L_back h]
  | ptr o k => exact ren1_back (x := .ptr o k) h
  | row o k => exact ren1_back (x := .row o k) h
  | rptr o k j => exact ren1_back (x := .rptr o k j) h
  | _ => rfl
theorem renAs_back {b t : Nat → Nat} : ∀ {l : List AV}, (∀ o ∈ l.flatMap refsL, b (t o) = o) → (l.map (ren t)).map (ren b) = l
  | [], _ => rfl
  | x :: l, h => by
    simp only [List.map_cons]
    rw [ren_back fun o ho => h o (by simp only [List.flatMap_cons, List.mem_append]; exact .inl ho), renAs_back fun o ho => h o (by simp only [List.flatMap_cons, List.mem_append]; exact .inr ho)]
theorem renL_back {b t : Nat → Nat} : ∀ {l : List (Nat × AObj)}, (∀ o ∈ objIds l, b (t o) = o) → renL b (renL t l) = l
  | [], _ => rfl
  | (q, x) :: l, h => by
    have h1 : b (t q) = q := h q (by simp [objIds])
    have h2 : renO b (renO t x) = x := by
      cases x with
      | cells ty cs => show AObj.cells ty ((cs.map (ren1 t)).map (ren1 b)) = _; rw [ren1L_back fun o ho => h o (by simp only [objIds, List.flatMap_cons, List.mem_append, List.mem_cons]; exact .inl (.inr ho))]
      | _ => rfl
    have h3 := renL_back (b := b) (t := t) (l := l) fun o ho => h o (by simp only [objIds, List.flatMap_cons, List.mem_append]; exact .inr ho)
    show (b (t q), renO b (renO t x)) :: renL b (renL t l) = _
    rw [h1, h2, h3]
/-- what a table of calls says is so -/
def CallsOk (P : Program) (call : CallF) : Prop := ∀ f args pre I, call f args pre = some I → FnOk P f I ∧ I.args = args ∧ I.pre = pre
theorem evCall_ok {P : Program} {call : CallF} (hc : CallsOk P call) {O : List (Nat × AObj)} {d : Nat} {f : FuncId} {args : List AV} {ids : List Nat} {pre : List (Nat × AObj)} {I : Inst} (h : evCall call O d f args ids pre = some I) : FnOk P f I ∧ I.args = args.map (adapt (lo O)) ∧ I.pre = pre := by
  unfold evCall at h
  split at h
  · rename_i J hJ
    rw [Bool.cond_eq_ite] at h
    split at h
    · rename_i hb
      injection h with h; subst h
      refine ⟨?_, rfl, rfl⟩
      obtain ⟨h1, h2, h3⟩ := hc _ _ _ _ hJ
      unfold callOk at hb
      simp only [Bool.and_eq_true] at hb
      obtain ⟨b1, b2, b3, b4, b5, b6, b7⟩ := hb
      have b1 : ∀ o ∈ (args.map (adapt (lo O))).flatMap refsL ++ objIds pre, ofC ids (J.post.map (·.1)) d (toC ids o) = o := fun o ho => by simpa using List.all_eq_true.1 b1 o ho
      have hr := h1.ren (ρ := ofC ids (J.post.map (·.1)) d) (π := piC ids (J.post.map (·.1)) d) (fun p hp => by simpa using List.all_eq_true.1 b2 p hp) (fun p hp => by simpa using List.all_eq_true.1 b3 p hp) b4 b5
        (fun x hx o ho => by have := List.all_eq_true.1 b6 o (List.mem_flatMap.2 ⟨x, hx, ho⟩); exact fun h0 => by rw [h0] at this; cases this) (fun o ho => by have := List.all_eq_true.1 b7 o ho; exact fun h0 => by rw [h0] at this; cases this)
      rw [h2, h3, renAs_back fun o ho => b1 o (List.mem_append.2 (.inl ho)), renL_back fun o ho => b1 o (List.mem_append.2 (.inr ho))] at hr
      exact hr
    · cases h
  · cases h
end Go.Proofs.Ytfhmaincnlaapaa.Sy
namespace Go.Proofs.Ytfhmaincnlaapaa.Sy
open Go.ChangeShapes Go.WideShapes Go.ChangeAt Go.RowKit
set_option linter.unusedVariables false
theorem adapt1_v (f g : Nat → Option AObj) (y : Value) : adapt1 f (.v y) = adapt1 g (.v y) := by
  by_cases hy : y = .slice none 0 0
  · subst hy; rfl
  · have : ∀ f : Nat → Option AObj, adapt1 f (.v y) = .v y := fun f => by
      unfold adapt1
      split
      · rename_i h; cases h
      · rename_i h; injection h with h; exact absurd h hy
      · rfl
    rw [this, this]
theorem adapt_restr {ids : List Nat} {f : Nat → Option AObj} {x : AV} (h : ∀ o ∈ refsL x, o ∈ ids) : adapt (restr ids f) x = adapt f x := by
  have h1 : ∀ y, (∀ o ∈ refsOf1 y, o ∈ ids) → adapt1 (restr ids f) y = adapt1 f y := fun y hy => by
    cases y with
    | row o ver =>
      have := hy o (by simp [refsOf1])
      simp only [adapt1, restr]
      rw [if_pos (List.contains_iff_mem.2 this)]
    | v y => exact adapt1_v _ _ y
    | _ => rfl
  cases x with
  | agg cs =>
    show AV.agg (cs.map (adapt1 (restr ids f))) = AV.agg (cs.map (adapt1 f))
    congr 1
    exact List.map_congr_left fun y hy => h1 y fun o ho => h o (List.mem_flatMap.2 ⟨y, hy, ho⟩)
  | row o v => exact h1 (.row o v) h
  | v y => exact h1 (.v y) h
  | _ => rfl
theorem pickO_at {O : List (Nat × AObj)} : ∀ {l : List Nat} {r : List (Nat × AObj)}, pickO O l = some r → ∀ p ∈ r, lo O p.1 = some p.2
  | [], r, h => by injection h with h; subst h; intro p hp; cases hp
  | q :: l, r, h => by
    unfold pickO at h
    split at h
    · rename_i x s hx hs
      injection h with h; subst h
      intro p hp
      rcases List.mem_cons.1 hp with rfl | hp
      · exact hx
      · exact pickO_at hs p hp
    · cases h
theorem preVc_of {ob : Nat → Option AObj} : ∀ {l : List (Nat × AObj)}, (∀ p ∈ l, ob p.1 = some p.2) → allP (preVc ob l)
  | [], _ => trivial
  | p :: l, h => ⟨by rw [h p (by simp)]; exact obEq_refl _, preVc_of fun q hq => h q (by simp [hq])⟩
theorem wkVcO_of {σ : AS} : ∀ {l : List (Nat × AObj)}, (∀ p ∈ l, lo σ.O p.1 = some p.2) → allP (wkVcO σ l)
  | [], _ => trivial
  | p :: l, h => ⟨by rw [h p (by simp)]; exact obEq_refl _, wkVcO_of fun q hq => h q (by simp [hq])⟩
theorem wkVc_of {σ : AS} : ∀ {l : List (Nat × AV)}, (∀ p ∈ l, lk σ.S p.1 = p.2) → allP (wkVc σ l)
  | [], _ => trivial
  | p :: l, h => ⟨by rw [h p (by simp)]; exact avEq_refl _, wkVc_of fun q hq => h q (by simp [hq])⟩
section
variable {P : Program} {call : CallF}
theorem hOf_hintL {o : Oper} {σ : AS} : hOf (hintL P call o σ) o.dst = match o.dst with | some d => hintX P call o (gAt σ.S (opTemps o)) σ.O d | none => none := by
  unfold hintL
  cases o.dst with
  | none => rfl
  | some d =>
    simp only
    cases hintX P call o (gAt σ.S (opTemps o)) σ.O d with
    | none => rfl
    | some h => simp [hOf, hintOf]
theorem hintB_hintL {o : Oper} {σ : AS} : hintB o (hOf (hintL P call o σ) o.dst) = true := by
  rw [hOf_hintL]
  cases o.dst with
  | none => show hintB o none = true; unfold hintB; split <;> (try split) <;> rfl
  | some d =>
    simp only
    unfold hintB hintX
    split
    · rename_i c ho
      revert ho
      cases o.op with
      | call c' =>
        intro ho
        injection ho with ho
        subst ho
        simp only
        split
        · rfl
        · rename_i hne
          split
          · rename_i f hf; exact absurd hf (hne f)
          · rfl
      | _ => intro ho; cases ho
    · rfl
    · rename_i h1 h2
      split
      · rename_i c ho; exact absurd ho (h1 c)
      · rename_i t y i ho; exact absurd ho (h2 t y i)
      · rfl
/-- one operation -/
theorem gd_hintL {o : Oper} {σ : AS} : gdOf (hOf (hintL P call o σ) o.dst) = none := by
  rw [hOf_hintL]
  cases o.dst with
  | none => rfl
  | some d =>
    simp only
    unfold hintX
    split
    · split
      · split
        · split <;> rfl
        · rfl
      · rfl
    · split
      · split <;> rfl
      · rfl
    · rfl
theorem evOp_ok (hc : CallsOk P call) {ops : Array Oper} {o : Oper} {σ : AS} {f : Foot} {vc : List Prop} (h : stepF P (hintL P call o σ) ops o σ = some (f, vc)) (hb : chkO P (hintL P call o σ) ops o σ = true) : allP vc := by
  unfold stepF at h
  rw [Bool.cond_eq_ite, gd_hintL] at h
  split at h
  · simp only at h
    split at h
    · rename_i hw
      split at h
      · rename_i r hr
        injection h with h; injection h with h1 h2; subst h1; subst h2
        unfold chkO at hb
        rw [hw] at hb
        refine chkE_ok hr hb hintB_hintL fun g I hg hI => ?_
        rw [hOf_hintL] at hI
        cases hd : o.dst with
        | none => rw [hd] at hI; cases hI
        | some d =>
          rw [hd] at hI
          simp only at hI
          unfold hintX at hI
          unfold isCall at hg
          split at hI
          · rename_i c ho
            simp only [ho] at hg
            split at hI
            · rename_i f hf
              rw [hf] at hg
              simp only [Option.some.injEq] at hg
              subst hg
              split at hI
              · rename_i pre hpre
                split at hI
                · rename_i J hJ
                  injection hI with hI; injection hI with hI; subst hI
                  obtain ⟨k1, k2, k3⟩ := evCall_ok hc hJ
                  refine ⟨k1, ?_, ?_⟩
                  · rintro args ⟨c', hc', rfl⟩
                    rw [ho] at hc'; injection hc' with hc'; subst hc'
                    rw [k2]
                    refine Eq.subst (motive := fun l => lsEq l _) ?_ (lsEq_refl _)
                    refine List.map_congr_left fun x hx => (adapt_restr fun q hq => ?_).symm
                    obtain ⟨y, hy, rfl⟩ := List.mem_map.1 hx
                    unfold opIds
                    refine List.mem_append.2 (.inl (List.mem_append.2 (.inr (List.mem_flatMap.2 ⟨y, ?_, hq⟩))))
                    simp only [ho, Op.operands, Call.operands, Array.toList_append]
                    exact List.mem_append.2 (.inr hy)
                  · refine preVc_of fun p hp => ?_
                    have hp' := hp
                    rw [k3] at hp'
                    unfold restr
                    rw [if_pos]
                    · exact pickO_at hpre p hp'
                    · rw [List.contains_iff_mem]
                      unfold opIds
                      refine List.mem_append.2 (.inr ?_)
                      have e := hOf_hintL (P := P) (call := call) (o := o) (σ := σ)
                      rw [hd] at e
                      rw [e]
                      simp only
                      unfold hintX
                      simp only [ho, hf, hpre, hJ]
                      exact List.mem_append.2 (.inl (List.mem_map.2 ⟨p, hp, rfl⟩))
                · cases hI
              · cases hI
            · cases hI
          · rename_i ho
            simp only [ho] at hg
            cases hg
          · cases hI
      · cases h
    · injection h with h; injection h with h1 h2; subst h2; trivial
    · cases h
  · cases h
theorem stepF_hint {H H' : List (Nat × Hint)} {ops : Array Oper} {o : Oper} {σ : AS} (h : hOf H o.dst = hOf H' o.dst) : stepF P H ops o σ = stepF P H' ops o σ := by
  unfold stepF stepR; rw [h]
/-- all hints of a run -/
def evHs (P : Program) (call : CallF) (ops : Array Oper) : List Oper → AS → List (Nat × Hint)
  | [], _ => []
  | o :: l, σ => hintL P call o σ ++ (match stepF P (hintL P call o σ) ops o σ with | some (f, _) => evHs P call ops l (f.app σ) | none => [])
theorem hintL_keys {o : Oper} {σ : AS} : ∀ p ∈ hintL P call o σ, o.dst = some p.1 := by
  unfold hintL
  intro p hp
  split at hp
  · rename_i d hd
    split at hp
    · obtain rfl := List.mem_singleton.1 hp; exact hd
    · cases hp
  · cases hp
theorem evHs_keys {ops : Array Oper} : ∀ {l : List Oper} {σ : AS}, ∀ p ∈ evHs P call ops l σ, ∃ o ∈ l, o.dst = some p.1
  | [], _, p, hp => by cases hp
  | o :: l, σ, p, hp => by
    unfold evHs at hp
    rcases List.mem_append.1 hp with hp | hp
    · exact ⟨o, by simp, hintL_keys p hp⟩
    · split at hp
      · obtain ⟨o', h1, h2⟩ := evHs_keys p hp; exact ⟨o', by simp [h1], h2⟩
      · cases hp
theorem hintOf_none {l : List (Nat × Hint)} {t : Nat} (h : ∀ p ∈ l, p.1 ≠ t) : hintOf l t = none := by
  induction l with
  | nil => rfl
  | cons p l ih =>
    obtain ⟨k, x⟩ := p
    unfold hintOf
    rw [if_neg (h (k, x) (by simp))]
    exact ih fun q hq => h q (by simp [hq])
theorem hintOf_app (a b : List (Nat × Hint)) (t : Nat) : hintOf (a ++ b) t = match hintOf a t with | some x => some x | none => hintOf b t := by
  induction a with
  | nil => rfl
  | cons p a ih =>
    obtain ⟨k, x⟩ := p
    simp only [List.cons_append, hintOf]
    split <;> simp_all
/-- operations, one behind the other -/
theorem evOps_ok (hc : CallsOk P call) {ops : Array Oper} : ∀ {l : List Oper} {σ σ' : AS} {fs : List Foot} (H1 : List (Nat × Hint)), (∀ o ∈ l, ∀ p ∈ H1, o.dst ≠ some p.1) → (l.filterMap (·.dst)).Nodup → evOps P call ops l σ = some (σ', fs) →
    ∃ vc, runF P (H1 ++ evHs P call ops l σ) ops l σ = some (σ', vc, fs) ∧ allP vc
  | [], σ, σ', fs, H1, h1, h2, h => by injection h with h; injection h with e1 e2; subst e1; subst e2; exact ⟨[], rfl, trivial⟩
  | o :: l, σ, σ', fs, H1, h1, h2, h => by
    unfold evOps at h
    split at h
    · rename_i f vc hf
      rw [Bool.cond_eq_ite] at h
      split at h
      · rename_i hb
        split at h
        · rename_i σ2 fs2 hr
          injection h with h; injection h with e1 e2; subst e1; subst e2
          have hnd : (l.filterMap (·.dst)).Nodup := by
            simp only [List.filterMap_cons] at h2
            split at h2
            · exact h2
            · exact (List.nodup_cons.1 h2).2
          have hfresh : ∀ o' ∈ l, ∀ d, o.dst = some d → o'.dst ≠ some d := fun o' ho' d hd he => by
            simp only [List.filterMap_cons, hd] at h2
            exact (List.nodup_cons.1 h2).1 (List.mem_filterMap.2 ⟨o', ho', he⟩)
          obtain ⟨vc2, hr2, hv2⟩ := evOps_ok hc (H1 ++ hintL P call o σ) (fun o' ho' p hp => by
            rcases List.mem_append.1 hp with hp | hp
            · exact h1 o' (by simp [ho']) p hp
            · exact hfresh o' ho' _ (hintL_keys p hp)) hnd hr
          have hH : evHs P call ops (o :: l) σ = hintL P call o σ ++ evHs P call ops l (f.app σ) := by
            conv => lhs; unfold evHs
            rw [hf]
          refine ⟨vc ++ vc2, ?_, allP_append.2 ⟨evOp_ok hc hf hb, hv2⟩⟩
          unfold runF
          rw [hH, stepF_hint (H' := hintL P call o σ), hf]
          · simp only
            rw [← List.append_assoc, hr2]
          · cases hd : o.dst with
            | none => rfl
            | some d =>
              show hintOf _ d = hintOf _ d
              rw [hintOf_app, hintOf_none (l := H1) (fun p hp he => h1 o (by simp) p hp (by rw [hd, he])), hintOf_app]
              simp only
              rw [hintOf_none (l := evHs P call ops l (f.app σ)) (fun p hp he => by
                obtain ⟨o', ho', hd'⟩ := evHs_keys p hp
                exact hfresh o' ho' d hd (by rw [hd', he]))]
              cases hintOf (hintL P call o σ) d <;> rfl
        · cases h
      · cases h
    · cases h
end
end Go.Proofs.Ytfhmaincnlaapaa.Sy
namespace Go.Proofs.Ytfhmaincnlaapaa.Sy
open Go.ChangeShapes Go.WideShapes Go.ChangeAt Go.RowKit
set_option linter.unusedVariables false
theorem keepS_at {fr : List Nat} : ∀ {S : List (Nat × AV)} {seen : List Nat}, ∀ p ∈ keepS fr seen S, p.1 ∉ fr ∧ p.1 ∉ seen ∧ lk S p.1 = p.2
  | [], seen, p, hp => by cases hp
  | (t, x) :: l, seen, p, hp => by
    have hany : ∀ (m : List Nat) (t : Nat), (m.any fun b => Nat.beq b t) = true ↔ t ∈ m := fun m t => by
      rw [List.any_eq_true]
      constructor
      · rintro ⟨b, hb, e⟩; rw [Nat.beq_eq] at e; rw [← e]; exact hb
      · intro h; exact ⟨t, h, by simp⟩
    unfold keepS at hp
    rw [Bool.cond_eq_ite] at hp
    split at hp
    · rename_i hd
      rw [Bool.or_eq_true, hany, hany] at hd
      obtain ⟨h1, h2, h3⟩ := keepS_at p hp
      refine ⟨h1, h2, ?_⟩
      rw [lk_ne _ _ (fun e => ?_)]
      · exact h3
      · rcases hd with hd | hd
        · exact h1 (by rw [e]; exact hd)
        · exact h2 (by rw [e]; exact hd)
    · rename_i hd
      rw [Bool.or_eq_true, hany, hany] at hd
      rcases List.mem_cons.1 hp with rfl | hp
      · exact ⟨fun h => hd (.inl h), fun h => hd (.inr h), lk_eq _ _ _⟩
      · obtain ⟨h1, h2, h3⟩ := keepS_at p hp
        exact ⟨h1, fun h => h2 (by simp [h]), by rw [lk_ne _ _ (fun e => h2 (by simp [e]))]; exact h3⟩
theorem pickOs_at {O : List (Nat × AObj)} : ∀ {l : List Nat}, ∀ p ∈ pickOs O l, lo O p.1 = some p.2
  | [], p, hp => by cases hp
  | q :: l, p, hp => by
    unfold pickOs at hp
    split at hp
    · rename_i x hx
      rcases List.mem_cons.1 hp with rfl | hp
      · exact hx
      · exact pickOs_at p hp
    · exact pickOs_at p hp
theorem St.trim {M : Cx} {w0 : World} {σ : AS} {a : Act} {w : World} (h : St M w0 σ a w) {fr : List Nat} (hb : wkB (trimS fr σ) = true) : St M w0 (trimS fr σ) a w :=
  h.weaken rfl rfl hb (wkVc_of fun p hp => (keepS_at p hp).2.2) (wkVcO_of fun p hp => pickOs_at p hp)
theorem St.freezes {M : Cx} {w0 : World} {a : Act} {w : World} : ∀ {l : List Nat} {σ : AS}, St M w0 σ a w → St M w0 (Sy.freezes l σ) a w
  | [], _, h => h
  | q :: l, σ, h => St.freezes (l := l) (σ := Sy.freeze q σ) (St.freeze h q)
theorem nubN_le : ∀ l : List Nat, (nubN l).length ≤ l.length
  | [] => Nat.le_refl _
  | a :: l => by
    have := nubN_le l
    unfold nubN
    rw [Bool.cond_eq_ite]
    split
    · simp only [List.length_cons]; omega
    · simp only [List.length_cons]; omega
theorem nubN_nodup : ∀ {l : List Nat}, (nubN l).length = l.length → l.Nodup
  | [], _ => List.nodup_nil
  | a :: l, h => by
    have := nubN_le l
    unfold nubN at h
    rw [Bool.cond_eq_ite] at h
    split at h
    · simp only [List.length_cons] at h; omega
    · rename_i hn
      simp only [List.length_cons, Nat.add_right_cancel_iff] at h
      refine List.nodup_cons.2 ⟨fun hm => hn ?_, nubN_nodup h⟩
      rw [List.any_eq_true]; exact ⟨a, hm, by simp⟩
def RunOk (P : Program) (c : Code) (f : AS → Option (Exit × AS)) : Prop := ∀ (σ σ' : AS) (e : Exit), f σ = some (e, σ') → ∀ (M : Cx) (w0 : World) (a : Act) (w : World) (Q : Exit → Act → World → Prop), St M w0 σ a w → (∀ a' w', St M w0 σ' a' w' → Q e a' w') → c.wp P Q a w
theorem iterC_ok {P : Program} {c : Code} {f : AS → Option (Exit × AS)} (hf : RunOk P c f) (fr : List Nat) (k : Nat) : RunOk P (.loop c) (iterC f fr k) := by
  intro σ σ' e h M w0 a w Q hs hQ
  refine wp_loop_ghost (fun n a w => ∃ σ, iterC f fr n σ = some (e, σ') ∧ St M w0 σ a w) k ⟨σ, h, hs⟩ ?_
  rintro n a1 w1 ⟨σ1, h1, hs1⟩
  cases n with
  | zero => cases h1
  | succ n =>
    unfold iterC at h1
    split at h1
    · rename_i σ2 hf2
      rw [Bool.cond_eq_ite] at h1
      split at h1
      · rename_i hb
        exact hf _ _ _ hf2 _ _ _ _ _ hs1 fun a2 w2 hs2 => ⟨n, Nat.lt_succ_self n, trimS fr σ2, h1, hs2.trim hb⟩
      · cases h1
    · rename_i hne
      refine hf _ _ _ h1 _ _ _ _ _ hs1 fun a2 w2 hs2 => ?_
      have hq := hQ a2 w2 hs2
      cases e <;> first | exact hq | exact (hne _ h1).elim
theorem evC_ok {P : Program} (hmo : P.follows .mixedOrders = true) {call : CallF} (hc : CallsOk P call) (fz : Nat → List Nat) (k : Nat) : ∀ c : Code, RunOk P c (evC P call fz k c) := by
  intro c
  induction c with
  | skip => intro σ σ' e h M w0 a w Q hs hQ; injection h with h; injection h with h1 h2; subst h1; subst h2; exact wp_skip (hQ a w hs)
  | ret => intro σ σ' e h M w0 a w Q hs hQ; injection h with h; injection h with h1 h2; subst h1; subst h2; exact wp_ret (hQ a w hs)
  | exit id => intro σ σ' e h M w0 a w Q hs hQ; injection h with h; injection h with h1 h2; subst h1; subst h2; exact wp_exit (hQ a w hs)
  | region id ops draw =>
    intro σ σ' e h M w0 a w Q hs hQ
    simp only [evC, Bool.cond_eq_ite] at h
    split at h
    · rename_i hdst
      split at h
      · rename_i σ1 fs hr
        split at h
        · rename_i hd
          injection h with h; injection h with h1 h2; subst h1; subst h2
          unfold dstsOk at hdst
          rw [Nat.beq_eq] at hdst
          obtain ⟨vc, hrun, hv⟩ := evOps_ok hc [] (fun o _ p hp => by cases hp) (nubN_nodup hdst) hr
          cases draw with
          | false => exact region_text hrun hv hs.freezes hQ
          | true => exact region_any hmo hrun (hd rfl) hv hs.freezes hQ
        · cases h
      · cases h
    · cases h
  | seq x y ihx ihy =>
    intro σ σ' e h M w0 a w Q hs hQ
    simp only [evC] at h
    split at h
    · rename_i σ1 hx
      exact wp_seq (ihx _ _ _ hx _ _ _ _ _ hs fun a' w' hs' => ihy _ _ _ h _ _ _ _ _ hs' hQ)
    · rename_i hne
      refine wp_seq (ihx _ _ _ h _ _ _ _ _ hs fun a' w' hs' => ?_)
      cases e <;> first | exact hQ a' w' hs' | exact (hne _ h).elim
  | cond c x y ihx ihy =>
    intro σ σ' e h M w0 a w Q hs hQ
    simp only [evC] at h
    split at h
    · rename_i hcnd
      obtain ⟨E, rfl, hN⟩ := hs
      have e1 := hN.op c; rw [hcnd] at e1
      exact wp_cond_true (sees_v e1) (ihx _ _ _ h _ _ _ _ _ ⟨E, rfl, hN⟩ hQ)
    · rename_i hcnd
      obtain ⟨E, rfl, hN⟩ := hs
      have e1 := hN.op c; rw [hcnd] at e1
      exact wp_cond_false (sees_v e1) (ihy _ _ _ h _ _ _ _ _ ⟨E, rfl, hN⟩ hQ)
    · cases h
  | block id b ih =>
    intro σ σ' e h M w0 a w Q hs hQ
    simp only [evC] at h
    refine wp_block ?_
    split at h
    · rename_i id' σ1 hb
      split at h
      · rename_i hid
        injection h with h; injection h with h1 h2; subst h1; subst h2
        exact ih _ _ _ hb _ _ _ _ _ hs fun a' w' hs' => by simp only [Exit.inBlock, hid, if_true]; exact hQ a' w' hs'
      · rename_i hid
        injection h with h; injection h with h1 h2; subst h1; subst h2
        exact ih _ _ _ hb _ _ _ _ _ hs fun a' w' hs' => by simp only [Exit.inBlock, hid, if_false]; exact hQ a' w' hs'
    · rename_i hne
      refine ih _ _ _ h _ _ _ _ _ hs fun a' w' hs' => ?_
      cases e with
      | exit id' => exact absurd h (hne id' σ')
      | _ => exact hQ a' w' hs'
  | loop b ih => exact iterC_ok ih _ k
  | _ => intro σ σ' e h; cases h
theorem evFn_ok {P : Program} (hmo : P.follows .mixedOrders = true) {kn : FuncId → List AV → Option AV} (hkn : ∀ f args r, kn f args = some r → FnOk P f ⟨args, [], r, []⟩) (FZ : FuncId → Nat → List Nat) (k : Nat) : ∀ n, CallsOk P (evFn P kn FZ k n)
  | 0 => fun f args pre I h => by cases h
  | n + 1 => fun f args pre I h => by
    unfold evFn at h
    split at h
    · rename_i r hr
      injection h with h; subst h
      split at hr
      · rename_i he
        have : pre = [] := List.isEmpty_iff.1 he
        subst this
        exact ⟨hkn _ _ _ hr, rfl, rfl⟩
      · cases hr
    · rename_i fn hf
      split at h
      · rename_i c hb
        split at h
        · rename_i e σ' hr
          have hcode := evC_ok hmo (evFn_ok hmo hkn FZ k n) (FZ f) k c _ _ _ hr
          split at h
          all_goals first
            | (cases h; done)
            | (split at h
               · rename_i x hx
                 split at h
                 · rename_i post hpost
                   rw [Bool.cond_eq_ite] at h
                   split at h
                   · rename_i hbb
                     rw [Bool.and_eq_true, Bool.and_eq_true] at hbb
                     injection h with h; subst h
                     exact ⟨fn_wp (I := ⟨args, pre, resR post σ'.O x, post⟩) hf hb hcode (by simp) hx hbb.1 hbb.2.1 hbb.2.2 (reEq_refl _) (wkVcO_of (pickO_at hpost)), rfl, rfl⟩
                   · cases h
                 · cases h
               · cases h)
        · cases h
      · cases h
    · cases h
end Go.Proofs.Ytfhmaincnlaapaa.Sy
namespace Go.Proofs.Ytfhmaincnlaapaa.Sy
open Go.ChangeShapes Go.WideShapes Go.ChangeAt Go.RowKit
set_option linter.unusedVariables false
def strsOf : List AV → Option (List ByteArray)
  | [] => some []
  | .v (.string s) :: l => (match strsOf l with | some r => some (s :: r) | none => none)
  | _ => none
theorem strsOf_at : ∀ {cs : List AV} {l : List ByteArray}, strsOf cs = some l → cs = l.map fun s => .v (.string s)
  | [], l, h => by injection h with h; subst h; rfl
  | x :: cs, l, h => by
    unfold strsOf at h
    split at h
    · rename_i h1; cases h1
    · rename_i s l' h1
      injection h1 with h1 h2; subst h1; subst h2
      split at h
      · rename_i r hr; injection h with h; subst h; rw [strsOf_at hr]; rfl
      · cases h
    · cases h
def knTwice (f : FuncId) (args : List AV) : Option AV :=
  bif Nat.beq f 102 then (match args with
    | [.lst n cs] => (match strsOf cs with
      | some l => bif Nat.beq n l.length && (Nat.ble n 1000000 && ((l.all fun x => Nat.ble x.size maxLen) && !dupB l)) then some (.v (.int .i64 (-1))) else none
      | none => none)
    | _ => none) else none
theorem knTwice_ok (f : FuncId) (args : List AV) (r : AV) (h : knTwice f args = some r) : FnOk Try.prog f ⟨args, [], r, []⟩ := by
  unfold knTwice at h
  rw [Bool.cond_eq_ite] at h
  split at h
  · rename_i hf
    rw [Nat.beq_eq] at hf
    subst hf
    split at h
    · rename_i n cs
      split at h
      · rename_i l hl
        rw [Bool.cond_eq_ite] at h
        split at h
        · rename_i hb
          injection h with h; subst h
          simp only [Bool.and_eq_true, Nat.beq_eq, Nat.ble_eq, Bool.not_eq_true'] at hb
          obtain ⟨h1, h2, h3, h4⟩ := hb
          have hcs := strsOf_at hl
          refine FnOk.of_calls rfl fun E vs hF hlen hs => ?_
          obtain ⟨u, rfl⟩ : ∃ u, vs = [u] := List.length_eq_one_iff.1 hlen
          have hu : Rep E.w E.F (.lst n cs) u := hs 0 _ u rfl rfl
          have hsz : ∀ x ∈ l, x.size ≤ maxLen := fun x hx => by simpa using List.all_eq_true.1 h3 x hx
          have fin : ∀ A n c, Rd E.w E.w.heap.size 1 A n (strs l) → n = l.length → u = .slice A n c → Calls Try.prog 102 [u].toArray E.w fun y w' => y = .returned (.int .i64 (-1)) ∧ Below E.w.heap.size E.w w' := fun A n c hrd hn hu => by
            subst hu
            refine (twice_any E.w A n c E.w.heap.size l hrd (Nat.le_refl _) (by omega) hsz).mono ?_
            rintro y w' ⟨z, rfl, hz, hbl⟩
            rcases hz with ⟨rfl, _⟩ | ⟨_, hz⟩
            · exact ⟨rfl, hbl⟩
            · rw [h4] at hz; cases hz
          cases hu with
          | nil A c _ =>
            have : l = [] := List.eq_nil_of_length_eq_zero h1.symm
            subst this
            exact fin A 0 c Rd.nil rfl rfl
          | lst _ c _ a us hn hc hm hFa hl1 h1' hu' hr =>
            have hus : us = strs l := by
              rw [hcs] at hl1 hr
              refine List.ext_getElem? fun j => ?_
              by_cases hj : j < l.length
              · obtain ⟨u, h5⟩ := getElem?_of (l := us) (j := j) (by rw [hl1]; simpa using hj)
                have h6 := hr j (.v (.string l[j])) u (by rw [List.getElem?_map, List.getElem?_eq_getElem hj]; rfl) h5
                rw [h5, List.getElem?_map, List.getElem?_eq_getElem hj]
                cases h6 with
                | v _ h7 => rfl
              · rw [List.getElem?_eq_none (by rw [hl1]; simpa using hj), List.getElem?_eq_none (by simpa using hj)]
            refine fin (some a) n c ⟨?_, fun _ => ⟨a, rfl, hF _ hFa, by rw [← hus]; exact hu'⟩⟩ h1 rfl
            simp [strs, h1]
        · cases h
      · cases h
    · cases h
  · cases h
def fz14 (f : FuncId) (r : Nat) : List Nat := bif Nat.beq f 33 && Nat.beq r 2 then [9, 10] else []
end Go.Proofs.Ytfhmaincnlaapaa.Sy
namespace Go.Proofs.Ytfhmaincnlaapaa.Sy
open Go.ChangeShapes Go.WideShapes Go.ChangeAt Go.RowKit
set_option linter.unusedVariables false
set_option linter.unusedSimpArgs false
/-! ### in the other order -/
theorem sameWs_self : ∀ l : List WholeS, sameWs l l = true
  | [] => rfl
  | x :: l => by unfold sameWs; rw [sameW_self, sameWs_self l]; rfl
theorem sameRs_self : ∀ l : List RealS, sameRs l l = true
  | [] => rfl
  | x :: l => by unfold sameRs; rw [sameR_self, sameRs_self l]; rfl
theorem sameC_self (C : CellS) : sameC C C = true := by unfold sameC; rw [sameWs_self, sameRs_self]; simp
/-! ### the cells are small -/
theorem awake14_fn' : FnOk Try.prog 33 ⟨[], [], bz true, []⟩ := (evFn_ok hmo knTwice_ok fz14 200 30 33 [] [] ⟨[], [], bz true, []⟩ (by kernel_rfl)).1
end Go.Proofs.Ytfhmaincnlaapaa.Sy
namespace Go.Proofs.Ytfhmaincnlaapaa.Sy
open Go.ChangeShapes Go.WideShapes Go.ChangeAt Go.RowKit
set_option linter.unusedVariables false
/-! ### the bytes of a sum are read as that sum -/
theorem hd_u8 {l : List Nat} (h : ∀ n ∈ l, n < 256) (j : Nat) : hd (u8L l) j = dg l j := by
  unfold hd u8L dg
  rw [List.getD_eq_getElem?_getD, List.getD_eq_getElem?_getD, List.getElem?_map]
  rcases Nat.lt_or_ge j l.length with hj | hj
  · have := h _ (List.getElem_mem hj)
    rw [List.getElem?_eq_getElem hj]
    simp only [Option.map_some, Option.getD_some]
    rw [UInt8.toNat_ofNat', Nat.mod_eq_of_lt (by simpa using this)]
  · rw [List.getElem?_eq_none hj]; rfl
theorem dg_appR (a b : List Nat) (j : Nat) : dg (a ++ b) (a.length + j) = dg b j := by
  unfold dg
  rw [List.getD_eq_getElem?_getD, List.getD_eq_getElem?_getD, List.getElem?_append_right (by omega), Nat.add_sub_cancel_left]
theorem dg_appL (a b : List Nat) {j : Nat} (h : j < a.length) : dg (a ++ b) j = dg a j := by
  unfold dg
  rw [List.getD_eq_getElem?_getD, List.getD_eq_getElem?_getD, List.getElem?_append_left h]
theorem dg_bS (w : List Nat) : ∀ {k i j : Nat}, i < k → j < 4 → dg (bS w k) (4 * i + j) = dg (be4 (dg w (w.length - 1 - i))) j
  | 0, i, j, h, _ => absurd h (by omega)
  | k + 1, i, j, h, hj => by
    rw [bS]
    rcases Nat.lt_or_eq_of_le (Nat.le_of_lt_succ h) with h1 | rfl
    · rw [dg_appL _ _ (by rw [bS_len]; omega)]; exact dg_bS w h1 hj
    · have := dg_appR (bS w i) (be4 (dg w (w.length - 1 - i))) j
      rw [bS_len] at this; exact this
theorem wordB_encH {f : Nat} {w : List Nat} {k i : Nat} (hl : ∀ n ∈ encH f w k, n < 256) (hw : Wd w) (hi : i < k) : wordB (u8L (encH f w k)) i = dg w (w.length - 1 - i) := by
  have hlen : (u8L (encH f w k)).length = 3 + 4 * k := by unfold u8L; rw [List.length_map, encH_len]
  have hd4 : ∀ j, j < 4 → hd (u8L (encH f w k)) (3 + 4 * i + j) = dg (be4 (dg w (w.length - 1 - i))) j := fun j hj => by
    rw [hd_u8 hl]
    have := dg_appR [f, lz w, w.length - lz w] (bS w k) (4 * i + j)
    rw [show 3 + 4 * i + j = [f, lz w, w.length - lz w].length + (4 * i + j) by simp only [List.length_cons, List.length_nil]; omega]
    exact this.trans (dg_bS w hi hj)
  have hx := dg_ltW w (w.length - 1 - i) hw
  rw [← partB_four, partB_succ _ _ _ (by omega), partB_succ _ _ _ (by omega), partB_succ _ _ _ (by omega), partB_succ _ _ _ (by omega), partB_zero, hd4 0 (by decide), hd4 1 (by decide), hd4 2 (by decide), hd4 3 (by decide)]
  generalize dg w (w.length - 1 - i) = x at hx
  show (((0 * 256 + x / 16777216) * 256 + x / 65536 % 256) * 256 + x / 256 % 256) * 256 + x % 256 = x
  omega
theorem bits_of : ∀ a b c d e n : Bool, (((flg a 1 + flg b 2 + flg c 4 + flg d 8 + flg e 16 + flg n 32) % 2 : Nat) : Int) = flg a 1 ∧ (((flg a 1 + flg b 2 + flg c 4 + flg d 8 + flg e 16 + flg n 32) / 2 % 2 : Nat) : Int) = flg b 1 ∧ (((flg a 1 + flg b 2 + flg c 4 + flg d 8 + flg e 16 + flg n 32) / 4 % 2 : Nat) : Int) = flg c 1 ∧ (((flg a 1 + flg b 2 + flg c 4 + flg d 8 + flg e 16 + flg n 32) / 8 % 2 : Nat) : Int) = flg d 1 ∧ (((flg a 1 + flg b 2 + flg c 4 + flg d 8 + flg e 16 + flg n 32) / 16 % 2 : Nat) : Int) = flg e 1 ∧ (flg a 1 + flg b 2 + flg c 4 + flg d 8 + flg e 16 + flg n 32) / 32 = flg n 1 := by decide +kernel
/-! ### sums -/
/-! ### cells -/
/-! ### what is joined is small again -/
end Go.Proofs.Ytfhmaincnlaapaa.Sy
