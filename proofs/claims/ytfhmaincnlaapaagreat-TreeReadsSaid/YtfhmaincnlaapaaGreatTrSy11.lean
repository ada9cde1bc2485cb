/- A REGION THAT DRAWS ITS ORDER: whatever order, one outcome. -/
import Derived.Test.YtfhmaincnlaapaaGreatTrSy9
namespace Go.Proofs.YtfhmaincnlaapaaGreat.Sy
open Go.ChangeShapes Go.WideShapes Go.ChangeAt Go.RowKit
set_option linter.unusedVariables false
def opTemps (o:Oper):List Nat:=o.op.operands.toList.filterMap fun | .tmp t=>some t|_=>none
def gAt (S:List (Nat×AV)) (ts:List Nat):Operand→AV
 | .tmp t=>if ts.contains t then lk S t else .junk
 | .const c=>cv c
 | .func f=>.v (.func (.func f) #[] #[])
 | .global _=>.junk
def refsL:AV→List Nat
 | .agg cs=>cs.flatMap refsOf1
 | x=>refsOf1 x
def opIds (o:Oper) (h:Option Hint) (g:Operand→AV):List Nat :=
 o.dst.toList++o.op.operands.toList.flatMap (fun y=>refsL (g y))++(match h with|some (.call I)=>I.pre.map (·.1)++I.post.map (·.1)|_=>[])
def restr (ids:List Nat) (f:Nat→Option AObj) (q:Nat):Option AObj:=if ids.contains q then f q else none
def hOf (H:List (Nat×Hint)) (d:Option Nat):Option Hint:=match d with|some d=>hintOf H d|none=>none
def stepR (P:Program) (H:List (Nat×Hint)) (o:Oper) (g:Operand→AV) (ids:List Nat) (O:List (Nat×AObj)):Option Res:=stepE P o (hOf H o.dst) g (restr ids (lo O))
structure Foot where
 dst:Option Nat
 temps:List Nat
 ids:List Nat
 val:AV
 wo:List (Nat×AObj)
def Foot.app (f:Foot) (σ:AS):AS:=σ.app f.dst ⟨f.val,f.wo,[]⟩
def gTemp (ops:Array Oper) (o:Oper):Option (Option Nat×Bool) :=
 match o.guard with
 | none=>none
 | some (j,want)=>some ((ops[j]?).bind (·.dst),want)
def wantedA (S:List (Nat×AV)):Option (Option Nat×Bool)→Option Bool
 | none=>some true
 | some (some t,want)=>match lk S t with
   | .v (.bool b)=>some (b==want)
   | .tup []=>some false
   | _=>none
 | some (none,_)=>none
def dstOk (d:Option Nat) (nt:Nat):Bool:=match d with|some d=>Nat.blt d nt|none=>true
def unA:AV→Bool×AV
 | .opt b x=>(b,x)
 | x=>(true,x)
def unS (S:List (Nat×AV)) (ts:List Nat):List (Nat×AV):=ts.map fun t=>(t,(unA (lk S t)).2)
def unVc (S:List (Nat×AV)) (ts:List Nat) (b:Bool):List Prop:=ts.map fun t=>(b=true→(unA (lk S t)).1=true)
def gdOf:Option Hint→Option (Option Hint)
 | some .gd=>some none
 | some (.gdv x)=>some (some (.val x))
 | some (.gdc I)=>some (some (.call I))
 | _=>none
def wantO (S:List (Nat×AV)):Option (Option Nat×Bool)→Option Bool
 | none=>some true
 | some (some t,want)=>match lk S t with
   | .v (.bool c)=>some (c==want)
   | .opt b (.v (.bool c))=>some (b&&(c==want))
   | .tup []=>some false
   | _=>none
 | some (none,_)=>none
def pickV (t:Bool):AV→AV→Option AV
 | .v (.bool p),.v (.bool q)=>some (.v (.bool (bif t then p else q)))
 | .v (.int k p),.v (.int k' q)=>if k=k' then some (.v (.int k (bif t then p else q))) else none
 | _,_=>none
def stepGp (h:Option Hint) (c x y:AV) (b:Bool):Option Res :=
 match (unA c).2 with
 | .v (.bool t)=>match pickV t (unA x).2 (unA y).2 with
   | some v=>sVal h v [b=true→(unA c).1=true∧(t=true→(unA x).1=true)∧(t=false→(unA y).1=true)]
   | none=>none
 | _=>none
def gdRes (P:Program) (h:Option Hint) (o:Oper) (σ:AS) (b:Bool):Option Res :=
 match o.op with
 | .pick c x y=>stepGp h (gAt σ.S (opTemps o) c) (gAt σ.S (opTemps o) x) (gAt σ.S (opTemps o) y) b
 | _=>match stepE P o h (gAt (unS σ.S (opTemps o)) (opTemps o)) (restr (opIds o h (gAt (unS σ.S (opTemps o)) (opTemps o))) (lo σ.O)) with
   | some r=>bif r.wo.isEmpty then some ⟨r.val,[],unVc σ.S (opTemps o) b++r.vc.map fun p=>(b=true→p)⟩ else none
   | none=>none
def gdTemps (ops:Array Oper) (o:Oper):List Nat:=match gTemp ops o with|some (some t,_)=>[t]|_=>[]
def stepGF (P:Program) (h:Option Hint) (ops:Array Oper) (o:Oper) (σ:AS):Option (Foot×List Prop) :=
 match wantO σ.S (gTemp ops o) with
 | some b=>match gdRes P h o σ b with
   | some r=>bif plainB r.val then some (⟨o.dst,opTemps o++gdTemps ops o,opIds o h (gAt (unS σ.S (opTemps o)) (opTemps o)),(match gTemp ops o with|none=>r.val|some _=>.opt b r.val),[]⟩,r.vc) else none
   | none=>none
 | none=>none
def stepF (P:Program) (H:List (Nat×Hint)) (ops:Array Oper) (o:Oper) (σ:AS):Option (Foot×List Prop) :=
 bif dstOk o.dst σ.nt then
  match gdOf (hOf H o.dst) with
  | some h=>stepGF P h ops o σ
  | none=>match wantedA σ.S (gTemp ops o) with
    | some true =>
      match stepR P H o (gAt σ.S (opTemps o)) (opIds o (hOf H o.dst) (gAt σ.S (opTemps o))) σ.O with
      | some r=>some (⟨o.dst,opTemps o++(match gTemp ops o with|some (some t,_)=>[t]|_=>[]),opIds o (hOf H o.dst) (gAt σ.S (opTemps o)),r.val,r.wo⟩,r.vc)
      | none=>none
    | some false=>some (⟨o.dst,opTemps o++(match gTemp ops o with|some (some t,_)=>[t]|_=>[]),[],.tup [],[]⟩,[])
    | none=>none
 else none
theorem allP_append {l m:List Prop}:allP (l++m)↔allP l∧allP m:=by
 induction l with
 | nil=>simp [allP]
 | cons p l ih=>simp only [List.cons_append,allP,ih];exact and_assoc.symm
theorem gAt_op {σ:AS} {o:Oper} {y:Operand} (h:y∈o.op.operands.toList):gAt σ.S (opTemps o) y=opv σ y:=by
 cases y with
 | tmp t =>
   have:(opTemps o).contains t=true:=by rw [List.contains_iff_mem];exact List.mem_filterMap.2 ⟨_,h,rfl⟩
   unfold gAt opv;simp only;rw [if_pos this]
 | _=>rfl
theorem stepR_ok {P:Program} {H:List (Nat×Hint)} {o:Oper} {σ:AS} {r:Res} (h:stepR P H o (gAt σ.S (opTemps o)) (opIds o (hOf H o.dst) (gAt σ.S (opTemps o))) σ.O=some r) (hv:allP r.vc):OpOk P o σ r:=by
 refine stepE_ok h (fun y hy=>gAt_op hy) (fun q x hq=>?_) (fun d hd hn=>?_) hv
 ·unfold restr at hq;split at hq
  ·exact hq
  ·cases hq
 ·have hm:(opIds o (hOf H o.dst) (gAt σ.S (opTemps o))).contains d=true:=by
   rw [List.contains_iff_mem]
   unfold opIds
   rcases hd with hd|⟨I,hI,x,hx⟩
   ·rw [hd];simp
   ·rw [hI];simp only
    exact List.mem_append.2 (.inr (List.mem_append.2 (.inr (List.mem_map.2 ⟨_,mem_of_lo hx,rfl⟩))))
  unfold restr at hn;rw [if_pos hm] at hn;exact hn
theorem wanted_ok {M:Cx} {w0:World} {σ:AS} {a:Act} {E:Env} (h:Now M w0 σ a E) {ops:Array Oper} {o:Oper} {b:Bool} (hw:wantedA σ.S (gTemp ops o)=some b):Region.wanted o (yielded ops a.tmps)=b:=by
 unfold gTemp at hw
 unfold Region.wanted
 split at hw
 ·rename_i hg;rw [hg];injection hw
 ·rename_i j want hg
  rw [hg];simp only
  cases ht:(ops[j]?).bind (·.dst) with
  | none=>rw [ht] at hw;cases hw
  | some t =>
    rw [ht] at hw
    simp only [wantedA] at hw
    have hs:=h.sl t
    have hgd:a.tmps.getD t undef=(a.tmps[t]?).getD undef:=by rw [Array.getD_eq_getD_getElem?]
    split at hw
    ·rename_i c hc
     injection hw with hw;subst hw
     rw [hc] at hs
     have e:=sees_v hs
     have:a.tmps[t]?=some (.bool c):=by
      rw [hgd] at e
      cases h3:a.tmps[t]? with
      | none=>rw [h3] at e;cases e
      | some v=>rw [h3] at e;simp at e;rw [e]
     simp only [yielded,ht,Option.bind_some,this]
     cases c<;>cases want<;>rfl
    ·rename_i hc
     injection hw with hw;subst hw
     rw [hc] at hs
     obtain ⟨us,e,hl,_⟩:=hs
     have hu:us=[]:=List.eq_nil_of_length_eq_zero hl
     subst hu
     have:yielded ops a.tmps j=none:=by
      simp only [yielded,ht,Option.bind_some]
      cases h3:a.tmps[t]? with
      | none=>rfl
      | some v=>rw [hgd,h3] at e;simp at e;rw [e]
     rw [this];cases want<;>rfl
    ·cases hw
theorem wantO_ok {M:Cx} {w0:World} {σ:AS} {a:Act} {E:Env} (h:Now M w0 σ a E) {ops:Array Oper} {o:Oper} {b:Bool} (hw:wantO σ.S (gTemp ops o)=some b):Region.wanted o (yielded ops a.tmps)=b:=by
 unfold gTemp at hw
 unfold Region.wanted
 split at hw
 ·rename_i hg;rw [hg];injection hw
 ·rename_i j want hg
  rw [hg];simp only
  cases ht:(ops[j]?).bind (·.dst) with
  | none=>rw [ht] at hw;cases hw
  | some t =>
    rw [ht] at hw
    simp only [wantO] at hw
    have hs:=h.sl t
    have hgd:a.tmps.getD t undef=(a.tmps[t]?).getD undef:=by rw [Array.getD_eq_getD_getElem?]
    have hbool:∀ c:Bool,a.tmps.getD t undef=.bool c→yielded ops a.tmps j=some c:=fun c e=>by
     have:a.tmps[t]?=some (.bool c):=by
      rw [hgd] at e
      cases h3:a.tmps[t]? with
      | none=>rw [h3] at e;cases e
      | some v=>rw [h3] at e;simp at e;rw [e]
     simp only [yielded,ht,Option.bind_some,this]
    have hnone:a.tmps.getD t undef=.tuple #[]→yielded ops a.tmps j=none:=fun e=>by
     simp only [yielded,ht,Option.bind_some]
     cases h3:a.tmps[t]? with
     | none=>rfl
     | some v=>rw [hgd,h3] at e;simp at e;rw [e]
    split at hw
    ·rename_i c hc
     injection hw with hw;subst hw
     rw [hc] at hs
     rw [hbool c (sees_v hs)]
     cases c<;>cases want<;>rfl
    ·rename_i b' c hc
     injection hw with hw;subst hw
     rw [hc] at hs
     simp only [Sees] at hs
     cases b' with
     | true =>
       rw [if_pos rfl] at hs
       rw [hbool c hs.1]
       cases c<;>cases want<;>rfl
     | false =>
       rw [if_neg (by simp)] at hs
       rw [hnone hs]
       cases want<;>rfl
    ·rename_i hc
     injection hw with hw;subst hw
     rw [hc] at hs
     obtain ⟨us,e,hl,_⟩:=hs
     have hu:us=[]:=List.eq_nil_of_length_eq_zero hl
     subst hu
     rw [hnone e]
     cases want<;>rfl
    ·cases hw
theorem unA_sees {E:Env} {x:AV} {u:Value} (h:Sees E x u) (hb:(unA x).1=true):Sees E (unA x).2 u:=by
 unfold unA at *
 split at hb
 ·rename_i b y
  simp only at hb ⊢
  simp only [Sees] at h
  rw [if_pos hb] at h
  exact Sees.sees1 h
 ·exact h
theorem lk_unS {S:List (Nat×AV)} {T:List (Nat×AV)} {t:Nat}:∀ {ts:List Nat},t∈ts→lk (unS S ts++T) t=(unA (lk S t)).2
 | a::l,h=>by
   show (if a=t then (unA (lk S a)).2 else lk (unS S l++T) t)=_
   by_cases e:t=a
   ·subst e;rw [if_pos rfl]
   ·rw [if_neg (fun x=>e x.symm)]
    exact lk_unS (by rcases List.mem_cons.1 h with h|h;exact absurd h e;exact h)
theorem lk_unS_ne {S:List (Nat×AV)} {T:List (Nat×AV)} {t:Nat}:∀ {ts:List Nat},t∉ts→lk (unS S ts++T) t=lk T t
 | [],_=>rfl
 | a::l,h=>by
   show (if a=t then (unA (lk S a)).2 else lk (unS S l++T) t)=_
   rw [if_neg (fun x=>h (by rw [←x];simp))]
   exact lk_unS_ne fun hm=>h (by simp [hm])
theorem unVc_spec {S:List (Nat×AV)} {ts:List Nat} {b:Bool} (h:allP (unVc S ts b)):∀ t∈ts,b=true→(unA (lk S t)).1=true:=by
 induction ts with
 | nil=>intro t ht;cases ht
 | cons a l ih =>
   intro t ht hb
   rcases List.mem_cons.1 ht with rfl|ht
   ·exact h.1 hb
   ·exact ih h.2 t ht hb
theorem allP_imp {b:Bool} (hb:b=true):∀ {l:List Prop},allP (l.map fun p=>(b=true→p))→allP l
 | [],_=>trivial
 | p::l,h=>⟨h.1 hb,allP_imp hb h.2⟩
theorem pickV_some {t:Bool} {x y v:AV} (h:pickV t x y=some v):v=bif t then x else y:=by
 unfold pickV at h
 split at h
 ·injection h with h;subst h;cases t<;>rfl
 ·split at h
  ·rename_i hk;subst hk;injection h with h;subst h;cases t<;>rfl
  ·cases h
 ·cases h
theorem sees_plain {E:Env} {x:AV} {u:Value} (h:Sees E x u) (hp:plainB x=true):Sees1 E x u:=by
 cases x<;>first|(cases hp;done)|exact h
theorem gdRes_ok {P:Program} {h:Option Hint} {o:Oper} {σ:AS} {b:Bool} {r:Res} (hr:gdRes P h o σ b=some r) (hv:allP r.vc) (hb:b=true) {σ':AS} (ht:∀ t∈opTemps o,lk σ'.S t=lk σ.S t) (hq:∀ q∈opIds o h (gAt (unS σ.S (opTemps o)) (opTemps o)),lo σ'.O q=lo σ.O q):OpOk P o σ' ⟨r.val,[],[]⟩:=by
 have hg:∀ y,gAt σ'.S (opTemps o) y=gAt σ.S (opTemps o) y:=fun y=>by
  cases y with
  | tmp t =>
    unfold gAt;simp only
    split
    ·rename_i hc;exact ht t (List.contains_iff_mem.1 hc)
    ·rfl
  | _=>rfl
 unfold gdRes at hr
 split at hr
 ·rename_i c x y ho
  unfold stepGp at hr
  split at hr
  ·rename_i t hc
   split at hr
   ·rename_i v hpv
    have hvv:=pickV_some hpv
    have hopv:∀ z∈([c,x,y]:List Operand),gAt σ.S (opTemps o) z=opv σ' z:=fun z hz=>by
     rw [←hg z];exact gAt_op (by simp only [ho,Op.operands];simpa using hz)
    rw [hopv c (by simp)] at hc
    have key:(∀ vc',allP vc'→(vc'=[b=true→(unA (opv σ' c)).1=true∧(t=true→(unA (opv σ' x)).1=true)∧(t=false→(unA (opv σ' y)).1=true)])→OpOk P o σ' ⟨v,[],[]⟩):=fun vc' h1 h2=>by
     subst h2
     obtain ⟨f1,f2,f3⟩:=h1.1 hb
     refine OpOk.pure fun a E hs hob _=>?_
     have s1:=unA_sees (hs c) f1
     rw [hc] at s1
     have e1:=sees_v s1
     refine ⟨if t then a.eval x else a.eval y,?_,?_⟩
     ·simp only [execOp,ho,e1,asBool,Sem.run_bind,Sem.run_pure,Result.andThen_ok]
     ·rw [hvv,hopv x (by simp),hopv y (by simp)]
      cases t with
      | true=>simpa using unA_sees (hs x) (f2 rfl)
      | false=>simpa using unA_sees (hs y) (f3 rfl)
    rw [hopv c (by simp),hopv x (by simp),hopv y (by simp)] at hr
    unfold sVal at hr
    split at hr
    ·injection hr with hr;subst hr
     have:=avEq_eq hv.1
     simp only
     rw [←this]
     exact key _ hv.2 rfl
    ·injection hr with hr;subst hr
     exact key _ hv rfl
   ·cases hr
  ·cases hr
 ·split at hr
  ·rename_i q hst
   rw [Bool.cond_eq_ite] at hr
   split at hr
   ·rename_i hwo
    injection hr with hr;subst hr
    obtain ⟨v1,v2⟩:=allP_append.1 hv
    have v2:=allP_imp hb v2
    have hfl:=fun t h=>unVc_spec v1 t h hb
    have hwo:q.wo=[]:=by simpa using hwo
    let σ2:AS:=⟨unS σ'.S (opTemps o)++σ'.S,σ'.O,σ'.nt,σ'.pk⟩
    have hunS:unS σ'.S (opTemps o)=unS σ.S (opTemps o):=by
     unfold unS;exact List.map_congr_left fun t h=>by rw [ht t h]
    have hg2:gAt σ2.S (opTemps o)=gAt (unS σ.S (opTemps o)) (opTemps o):=by
     funext y
     cases y with
     | tmp t =>
       unfold gAt;simp only
       split
       ·rename_i hc
        have hm:=List.contains_iff_mem.1 hc
        show lk (unS σ'.S (opTemps o)++σ'.S) t=_
        rw [lk_unS hm,ht t hm]
        have:=lk_unS (S:=σ.S) (T:=[]) hm
        rw [List.append_nil] at this
        exact this.symm
       ·rfl
     | _=>rfl
    have ho2:restr (opIds o h (gAt σ2.S (opTemps o))) (lo σ2.O)=restr (opIds o h (gAt (unS σ.S (opTemps o)) (opTemps o))) (lo σ.O):=by
     rw [hg2]
     funext q
     unfold restr
     split
     ·rename_i hc;exact hq q (List.contains_iff_mem.1 hc)
     ·rfl
    have hst2:stepE P o h (gAt σ2.S (opTemps o)) (restr (opIds o h (gAt σ2.S (opTemps o))) (lo σ2.O))=some q:=by rw [ho2,hg2];exact hst
    have hok:=stepE_ok (σ:=σ2) hst2 (fun y hy=>gAt_op hy) (fun q x hq=>by
     unfold restr at hq;split at hq
     ·exact hq
     ·cases hq) (fun d hd hn=>by
     have hm:(opIds o h (gAt σ2.S (opTemps o))).contains d=true:=by
      rw [List.contains_iff_mem]
      unfold opIds
      rcases hd with hd|⟨I,hI,x,hx⟩
      ·rw [hd];simp
      ·rw [hI];simp only
       exact List.mem_append.2 (.inr (List.mem_append.2 (.inr (List.mem_map.2 ⟨_,mem_of_lo hx,rfl⟩))))
     unfold restr at hn;rw [if_pos hm] at hn;exact hn) v2
    intro M w0 a E hN K Q hK
    have hN2:Now M w0 σ2 a E:=⟨hN.df,hN.sz,hN.ob,hN.mem,hN.aft,hN.pkk,fun t=>by
     show Sees E (lk (unS σ'.S (opTemps o)++σ'.S) t) _
     by_cases hm:t∈opTemps o
     ·rw [lk_unS hm];exact unA_sees (hN.sl t) (by rw [ht t hm];exact hfl t hm)
     ·rw [lk_unS_ne hm];exact hN.sl t⟩
    exact hok M w0 a E hN2 K Q fun u E' hob hm ha hs=>hK u E' (by rw [hob,hwo]) hm ha hs
   ·cases hr
  ·cases hr
theorem stepGF_ok {P:Program} {h:Option Hint} {ops:Array Oper} {o:Oper} {σ:AS} {f:Foot} {vc:List Prop} (hf:stepGF P h ops o σ=some (f,vc)) (hv:allP vc) {σ':AS} (hd:∀ x,o.dst=some x→x<σ'.nt) (ht:∀ t∈f.temps,lk σ'.S t=lk σ.S t) (hq:∀ q∈f.ids,lo σ'.O q=lo σ.O q)
 {M:Cx} {w0:World} {a:Act} {w:World} (hs:St M w0 σ' a w) {K:Act→World→Prop} {Q:Exit→Act→World→Prop} (hK:∀ a' w',St M w0 (f.app σ') a' w'→K a' w') :
 if Region.wanted o (yielded ops a.tmps) then o.wp P a w K Q∨(o.asks P a w∧LetsOut Q) else K (a.put o.dst undef) w:=by
 unfold stepGF at hf
 split at hf
 ·rename_i b hb
  split at hf
  ·rename_i r hr
   rw [Bool.cond_eq_ite] at hf
   split at hf
   ·rename_i hp
    injection hf with hf;injection hf with h1 h2;subst h1;subst h2
    obtain ⟨E,rfl,hN⟩:=hs
    have hb':wantO σ'.S (gTemp ops o)=some b:=by
     rw [←hb]
     cases hg:gTemp ops o with
     | none=>rfl
     | some p =>
       obtain ⟨q,want⟩:=p
       cases q with
       | none=>rfl
       | some t=>simp only [wantO];rw [ht t (List.mem_append.2 (.inr (by unfold gdTemps;rw [hg];simp)))]
    rw [wantO_ok hN hb']
    cases b with
    | true =>
      rw [if_pos rfl]
      refine .inl (gdRes_ok hr hv rfl (fun t h=>ht t (List.mem_append.2 (.inl h))) hq M w0 a E hN K Q fun u E' hob hm ha hsee=>?_)
      refine hK _ _ ⟨E',rfl,?_⟩
      refine hN.fin o.dst ⟨(match gTemp ops o with|none=>r.val|some _=>.opt true r.val),[],[]⟩ hd hob hm ha ?_
      cases hg:gTemp ops o with
      | none=>exact hsee
      | some p=>simp only [Sees,if_true];exact sees_plain hsee hp
    | false =>
      rw [if_neg (by simp)]
      refine hK _ _ ⟨E,rfl,?_⟩
      refine hN.fin o.dst ⟨(match gTemp ops o with|none=>r.val|some _=>.opt false r.val),[],[]⟩ hd hN.ob hN.mem (After.refl E) (u:=undef) ?_
      cases hg:gTemp ops o with
      | none=>rw [hg] at hb;cases hb
      | some p=>simp only [Sees];rfl
   ·cases hf
  ·cases hf
 ·cases hf
theorem stepF_ok {P:Program} {H:List (Nat×Hint)} {ops:Array Oper} {o:Oper} {σ:AS} {f:Foot} {vc:List Prop} (h:stepF P H ops o σ=some (f,vc)) (hv:allP vc) {σ':AS} (hn:σ'.nt=σ.nt) (ht:∀ t∈f.temps,lk σ'.S t=lk σ.S t) (hq:∀ q∈f.ids,lo σ'.O q=lo σ.O q)
 {M:Cx} {w0:World} {a:Act} {w:World} (hs:St M w0 σ' a w) {K:Act→World→Prop} {Q:Exit→Act→World→Prop} (hK:∀ a' w',St M w0 (f.app σ') a' w'→K a' w') :
 if Region.wanted o (yielded ops a.tmps) then o.wp P a w K Q∨(o.asks P a w∧LetsOut Q) else K (a.put o.dst undef) w:=by
 unfold stepF at h
 rw [Bool.cond_eq_ite] at h
 split at h
 ·rename_i hd
  have hd':∀ x,o.dst=some x→x<σ'.nt:=fun x hx=>by unfold dstOk at hd;rw [hx] at hd;simp only [Nat.blt_eq] at hd;rw [hn];exact hd
  split at h
  ·exact stepGF_ok h hv hd' ht hq hs hK
  have hwt:∀ b,wantedA σ.S (gTemp ops o)=some b→(∀ t,(match gTemp ops o with|some (some t,_)=>[t]|_=>[])=[t]→lk σ'.S t=lk σ.S t)→Region.wanted o (yielded ops a.tmps)=b:=fun b hb hl=>by
   obtain ⟨E,rfl,hN⟩:=hs
   refine wanted_ok hN ?_
   rw [←hb]
   cases hg:gTemp ops o with
   | none=>rfl
   | some p =>
     obtain ⟨q,want⟩:=p
     cases q with
     | none=>rfl
     | some t=>simp only [wantedA];rw [hl t (by rw [hg])]
  split at h
  ·rename_i hw
   split at h
   ·rename_i r hr
    injection h with h;injection h with h1 h2;subst h1;subst h2
    have hg:gAt σ'.S (opTemps o)=gAt σ.S (opTemps o):=by
     funext y
     cases y with
     | tmp t =>
       unfold gAt;simp only
       split
       ·rename_i hc;exact ht t (List.mem_append.2 (.inl (List.contains_iff_mem.1 hc)))
       ·rfl
     | _=>rfl
    have ho:restr (opIds o (hOf H o.dst) (gAt σ.S (opTemps o))) (lo σ'.O)=restr (opIds o (hOf H o.dst) (gAt σ.S (opTemps o))) (lo σ.O):=by
     funext q
     unfold restr
     split
     ·rename_i hc;exact hq q (List.contains_iff_mem.1 hc)
     ·rfl
    have hr':stepR P H o (gAt σ'.S (opTemps o)) (opIds o (hOf H o.dst) (gAt σ'.S (opTemps o))) σ'.O=some r:=by
     unfold stepR at hr ⊢;rw [hg,ho];exact hr
    rw [if_pos (hwt true hw fun t e=>ht t (List.mem_append.2 (.inr (by rw [e];simp))))]
    exact .inl ((stepR_ok hr' hv).step hd' hs hK)
   ·cases h
  ·rename_i hw
   injection h with h;injection h with h1 h2;subst h1;subst h2
   have hwf:=hwt false hw fun t e=>ht t (List.mem_append.2 (.inr (by rw [e];simp)))
   rw [hwf,if_neg (by simp)]
   obtain ⟨E,rfl,hN⟩:=hs
   refine hK _ _ ⟨E,rfl,?_⟩
   exact hN.fin o.dst ⟨.tup [],[],[]⟩ hd' hN.ob hN.mem (After.refl E) (u:=undef) ⟨[],rfl,rfl,fun j x u hx=>by simp at hx⟩
  ·cases h
 ·cases h
def runF (P:Program) (H:List (Nat×Hint)) (ops:Array Oper):List Oper→AS→Option (AS×List Prop×List Foot)
 | [],σ=>some (σ,[],[])
 | o::l,σ=>match stepF P H ops o σ with
   | some (f,vc)=>match runF P H ops l (f.app σ) with
     | some (σ',vcs,fs)=>some (σ',vc++vcs,f::fs)
     | none=>none
   | none=>none
theorem runF_text {P:Program} {H:List (Nat×Hint)} {ops:Array Oper} {M:Cx} {w0:World} {Q:Exit→Act→World→Prop}:∀ {l:List Oper} {σ σ':AS} {vc:List Prop} {fs:List Foot},runF P H ops l σ=some (σ',vc,fs)→allP vc→∀ {a:Act} {w:World},St M w0 σ a w →
 (∀ a' w',St M w0 σ' a' w'→Q .normal a' w')→wpList P ops Q l a w
 | [],σ,σ',vc,fs,h,hv,a,w,hs,hQ=>by
   injection h with h;injection h with h1 h2;subst h1
   exact hQ a w hs
 | o::l,σ,σ',vc,fs,h,hv,a,w,hs,hQ=>by
   simp only [runF] at h
   split at h
   ·rename_i f vc1 hf
    split at h
    ·rename_i σ1 vc2 fs2 hr
     injection h with h;injection h with h1 h2;injection h2 with h2 h3;subst h1;subst h2;subst h3
     obtain ⟨v1,v2⟩:=allP_append.1 hv
     have:=stepF_ok (Q:=Q) hf v1 rfl (fun _ _=>rfl) (fun _ _=>rfl) hs (K:=wpList P ops Q l) fun a' w' hs'=>runF_text hr v2 hs' hQ
     unfold wpList
     exact this
    ·cases h
   ·cases h
theorem region_text {P:Program} {H:List (Nat×Hint)} {id:Nat} {ops:Array Oper} {M:Cx} {w0:World} {Q:Exit→Act→World→Prop} {σ σ':AS} {vc:List Prop} {fs:List Foot} (h:runF P H ops ops.toList σ=some (σ',vc,fs)) (hv:allP vc) {a:Act} {w:World} (hs:St M w0 σ a w)
 (hQ:∀ a' w',St M w0 σ' a' w'→Q .normal a' w'):(Code.region id ops false).wp P Q a w:=wp_region_list (runF_text h hv hs hQ)
def appD (D:Nat→Bool):Nat→List Foot→AS→AS
 | _,[],σ=>σ
 | i,f::fs,σ=>appD D (i+1) fs (bif D i then f.app σ else σ)
theorem app_lk (f:Foot) (σ:AS) (t:Nat):lk (f.app σ).S t=if f.dst=some t then f.val else lk σ.S t:=by
 unfold Foot.app AS.app
 cases hd:f.dst with
 | none=>simp
 | some d =>
   simp only [Option.some.injEq]
   conv=>lhs;unfold lk
theorem app_lo (f:Foot) (σ:AS) (q:Nat):lo (f.app σ).O q=match lo f.wo q with|some x=>some x|none=>lo σ.O q:=lo_append _ _ _
theorem app_nt (f:Foot) (σ:AS):(f.app σ).nt=σ.nt:=rfl
theorem appD_nt (D:Nat→Bool):∀ (fs:List Foot) (i:Nat) (σ:AS),(appD D i fs σ).nt=σ.nt
 | [],_,_=>rfl
 | f::fs,i,σ=>by unfold appD;rw [appD_nt D fs];cases D i<;>rfl
theorem appD_pk (D:Nat→Bool):∀ (fs:List Foot) (i:Nat) (σ:AS),(appD D i fs σ).pk=σ.pk
 | [],_,_=>rfl
 | f::fs,i,σ=>by unfold appD;rw [appD_pk D fs];cases D i<;>rfl
theorem app_pk (f:Foot) (σ:AS):(f.app σ).pk=σ.pk:=rfl
theorem appD_lk (D D':Nat→Bool) (t:Nat):∀ (fs:List Foot) (i:Nat) (σ σ':AS),lk σ.S t=lk σ'.S t→(∀ k f,fs[k]?=some f→f.dst=some t→D (i+k)=D' (i+k))→lk (appD D i fs σ).S t=lk (appD D' i fs σ').S t
 | [],_,_,_,h,_=>h
 | f::fs,i,σ,σ',h,hD=>by
   unfold appD
   refine appD_lk D D' t fs (i+1) _ _ ?_ fun k g hk hg=>by have:=hD (k+1) g hk hg;rwa [show i+(k+1)=i+1+k by omega] at this
   by_cases hf:f.dst=some t
   ·have h0:=hD 0 f rfl hf
    simp only [Nat.add_zero] at h0
    rw [h0]
    cases D' i
    ·exact h
    ·show lk (f.app σ).S t=lk (f.app σ').S t;rw [app_lk,app_lk,if_pos hf,if_pos hf]
   ·have e:∀ τ:AS,lk (f.app τ).S t=lk τ.S t:=fun τ=>by rw [app_lk,if_neg hf]
    cases D i<;>cases D' i<;>simp only [cond_true,cond_false,e]<;>exact h
theorem appD_lo (D D':Nat→Bool) (q:Nat):∀ (fs:List Foot) (i:Nat) (σ σ':AS),lo σ.O q=lo σ'.O q→(∀ k f,fs[k]?=some f→lo f.wo q≠none→D (i+k)=D' (i+k))→lo (appD D i fs σ).O q=lo (appD D' i fs σ').O q
 | [],_,_,_,h,_=>h
 | f::fs,i,σ,σ',h,hD=>by
   unfold appD
   refine appD_lo D D' q fs (i+1) _ _ ?_ fun k g hk hg=>by have:=hD (k+1) g hk hg;rwa [show i+(k+1)=i+1+k by omega] at this
   by_cases hf:lo f.wo q=none
   ·have e:∀ τ:AS,lo (f.app τ).O q=lo τ.O q:=fun τ=>by rw [app_lo,hf]
    cases D i<;>cases D' i<;>simp only [cond_true,cond_false,e]<;>exact h
   ·have h0:=hD 0 f rfl hf
    simp only [Nat.add_zero] at h0
    rw [h0]
    obtain ⟨x,hx⟩:=Option.ne_none_iff_exists'.1 hf
    cases D' i
    ·exact h
    ·show lo (f.app σ).O q=lo (f.app σ').O q;rw [app_lo,app_lo,hx]
theorem appD_add_lk (D:Nat→Bool) (j t:Nat) (g:Foot):∀ (fs:List Foot) (i:Nat) (σ:AS),D j=false→fs[j-i]?=some g→i≤j→(∀ k f,fs[k]?=some f→j<i+k→D (i+k)=true→¬(f.dst=some t∧g.dst=some t)) →
 lk (appD (fun x=>D x||x==j) i fs σ).S t=if g.dst=some t then g.val else lk (appD D i fs σ).S t:=by
 intro fs
 induction fs with
 | nil=>intro i σ _ h;simp at h
 | cons f fs ih =>
   intro i σ hj hg hij hno
   unfold appD
   by_cases hi:i=j
   ·subst hi
    simp only [Nat.sub_self,List.getElem?_cons_zero,Option.some.injEq] at hg
    subst hg
    simp only [hj,beq_self_eq_true,Bool.or_true,cond_true,cond_false]
    by_cases hf:f.dst=some t
    ·rw [if_pos hf]
     have h1:=appD_lk (fun x=>D x||x==i) (fun _=>false) t fs (i+1) (f.app σ) (f.app σ) rfl (fun k e hk he=>by
      have h2:=hno (k+1) e hk (by omega)
      rw [show i+(k+1)=i+1+k by omega] at h2
      have h3:(i+1+k==i)=false:=by rw [beq_eq_false_iff_ne];omega
      cases h4:D (i+1+k)
      ·simp only [h3,Bool.or_false]
      ·exact absurd ⟨he,hf⟩ (h2 h4))
     rw [h1]
     have h5:∀ (l:List Foot) (n:Nat) (τ:AS),appD (fun _=>false) n l τ=τ:=by
      intro l;induction l with
      | nil=>intro n τ;rfl
      | cons e l ih2=>intro n τ;unfold appD;exact ih2 _ _
     rw [h5,app_lk,if_pos hf]
    ·rw [if_neg hf]
     refine appD_lk _ _ t fs (i+1) _ _ (by rw [app_lk,if_neg hf]) fun k e hk he=>?_
     have h3:(i+1+k==i)=false:=by rw [beq_eq_false_iff_ne];omega
     simp only [h3,Bool.or_false]
   ·have h3:(i==j)=false:=by rw [beq_eq_false_iff_ne];exact hi
    simp only [h3,Bool.or_false]
    refine ih (i+1) _ hj (by rw [←hg];rw [show j-i=(j-(i+1))+1 by omega];rfl) (by omega) fun k e hk hlt hD=>?_
    exact hno (k+1) e hk (by omega) (by rwa [show i+(k+1)=i+1+k by omega])
theorem appD_add_lo (D:Nat→Bool) (j q:Nat) (g:Foot):∀ (fs:List Foot) (i:Nat) (σ:AS),D j=false→fs[j-i]?=some g→i≤j→(∀ k f,fs[k]?=some f→j<i+k→D (i+k)=true→¬(lo f.wo q≠none∧lo g.wo q≠none)) →
 lo (appD (fun x=>D x||x==j) i fs σ).O q=match lo g.wo q with|some x=>some x|none=>lo (appD D i fs σ).O q:=by
 intro fs
 induction fs with
 | nil=>intro i σ _ h;simp at h
 | cons f fs ih =>
   intro i σ hj hg hij hno
   unfold appD
   by_cases hi:i=j
   ·subst hi
    simp only [Nat.sub_self,List.getElem?_cons_zero,Option.some.injEq] at hg
    subst hg
    simp only [hj,beq_self_eq_true,Bool.or_true,cond_true,cond_false]
    cases hf:lo f.wo q with
    | some x =>
      simp only
      have h1:=appD_lo (fun x=>D x||x==i) (fun _=>false) q fs (i+1) (f.app σ) (f.app σ) rfl (fun k e hk he=>by
       have h2:=hno (k+1) e hk (by omega)
       rw [show i+(k+1)=i+1+k by omega] at h2
       have h3:(i+1+k==i)=false:=by rw [beq_eq_false_iff_ne];omega
       cases h4:D (i+1+k)
       ·simp only [h3,Bool.or_false]
       ·exact absurd ⟨he,by rw [hf];simp⟩ (h2 h4))
      rw [h1]
      have h5:∀ (l:List Foot) (n:Nat) (τ:AS),appD (fun _=>false) n l τ=τ:=by
       intro l;induction l with
       | nil=>intro n τ;rfl
       | cons e l ih2=>intro n τ;unfold appD;exact ih2 _ _
      rw [h5,app_lo,hf]
    | none =>
      simp only
      refine appD_lo _ _ q fs (i+1) _ _ (by rw [app_lo,hf]) fun k e hk he=>?_
      have h3:(i+1+k==i)=false:=by rw [beq_eq_false_iff_ne];omega
      simp only [h3,Bool.or_false]
   ·have h3:(i==j)=false:=by rw [beq_eq_false_iff_ne];exact hi
    simp only [h3,Bool.or_false]
    refine ih (i+1) _ hj (by rw [←hg];rw [show j-i=(j-(i+1))+1 by omega];rfl) (by omega) fun k e hk hlt hD=>?_
    exact hno (k+1) e hk (by omega) (by rwa [show i+(k+1)=i+1+k by omega])
theorem St.congr {M:Cx} {w0:World} {σ σ':AS} {a:Act} {w:World} (h:St M w0 σ a w) (hn:σ'.nt=σ.nt∧σ'.pk=σ.pk) (hS:∀ t,lk σ'.S t=lk σ.S t) (hO:∀ q,lo σ'.O q=lo σ.O q):St M w0 σ' a w:=by
 obtain ⟨E,rfl,hN⟩:=h
 exact ⟨E,rfl,hN.df,by rw [hn.1];exact hN.sz,by rw [hN.ob];exact (funext hO).symm,hN.mem,hN.aft,by rw [hn.2];exact hN.pkk,fun t=>by rw [hS];exact hN.sl t⟩
theorem St.drew {M:Cx} {w0:World} {σ:AS} {a:Act} {w:World} (h:St M w0 σ a w):St M w0 σ a w.drew:=by
 obtain ⟨E,rfl,hN⟩:=h
 have hb:Below E.w.heap.size E.w E.w.drew:=(belR E.w).drew
 obtain ⟨hm,ha⟩:=hN.mem.grow hb E.F (fun b hb=>.inl hb) (fun b hb=>hb)
 exact ⟨⟨E.w.drew,E.F,E.β,E.ν,E.ob⟩,rfl,hN.df,hN.sz,hN.ob,hm,hN.aft.trans ha,hN.pkk,fun t=>(hN.sl t).after ha⟩
def predsB (o:Oper):List Nat:=o.after.toList.filterMap fun e=>if Region.binds .any e then some e.on else none
def apartB (f g:Foot):Bool :=
 (match f.dst with|some d=>!g.temps.contains d && !(g.dst==some d)|none=>true)&&(match g.dst with|some d=>!f.temps.contains d|none=>true) &&
 (f.wo.all fun p=>!g.ids.contains p.1)&&(g.wo.all fun p=>!f.ids.contains p.1)
def maskB (bm:Array Nat) (i j:Nat):Bool:=(bm.getD j 0).testBit i
def maskOk (ops:List Oper) (bm:Array Nat) (n:Nat):Bool :=
 (List.range n).all fun j=>match ops[j]? with
  | some o=>(predsB o).all (fun p=>Nat.blt p j)&&(List.range n).all fun i=>!maskB bm i j||(predsB o).contains i||(predsB o).any fun p=>maskB bm i p
  | none=>true
def pairsOk (fs:List Foot) (bm:Array Nat) (n:Nat):Bool :=
 (List.range n).all fun j=>(List.range j).all fun i=>match fs[i]?,fs[j]? with
  | some f,some g=>apartB f g||maskB bm i j
  | _,_=>true
def ownIds (fs:List Foot):Bool:=fs.all fun f=>f.wo.all fun p=>f.ids.contains p.1
def drawOk (ops:List Oper) (fs:List Foot) (bm:Array Nat):Bool:=ownIds fs&&(maskOk ops bm ops.length&&pairsOk fs bm ops.length)
theorem mask_in {ops:List Oper} {bm:Array Nat} {D:Nat→Bool} (hm:maskOk ops bm ops.length=true) (hD:∀ j o,ops[j]?=some o→D j=true→∀ p∈predsB o,D p=true) (i:Nat) (hi:i<ops.length):∀ n j o,j<n→ops[j]?=some o→(∀ p∈predsB o,D p=true)→maskB bm i j=true→D i=true:=by
 intro n
 induction n with
 | zero=>intro j o h;omega
 | succ n ih =>
   intro j o hjn ho hp hb
   have hj:j<ops.length:=lt_of_some ho
   have h1:=List.all_eq_true.1 hm j (List.mem_range.2 hj)
   simp only [ho,Bool.and_eq_true] at h1
   obtain ⟨h2,h3⟩:=h1
   have h4:=List.all_eq_true.1 h3 i (List.mem_range.2 hi)
   simp only [hb,Bool.not_true,Bool.false_or,Bool.or_eq_true] at h4
   rcases h4 with h4|h4
   ·exact hp i (List.contains_iff_mem.1 h4)
   ·obtain ⟨p,hpm,hpb⟩:=List.any_eq_true.1 h4
    have hlt:=List.all_eq_true.1 h2 p hpm
    simp only [Nat.blt_eq] at hlt
    obtain ⟨op,hop⟩:=getElem?_of (l:=ops) (j:=p) (by omega)
    exact ih p op (by omega) hop (hD p op hop (hp p hpm)) hpb
theorem apartB_spec {f g:Foot} (h:apartB f g=true):(∀ d,f.dst=some d→d∉g.temps∧g.dst≠some d)∧(∀ d,g.dst=some d→d∉f.temps)∧(∀ q,lo f.wo q≠none→q∉g.ids)∧(∀ q,lo g.wo q≠none→q∉f.ids):=by
 unfold apartB at h
 simp only [Bool.and_eq_true] at h
 obtain ⟨⟨⟨h1,h2⟩,h3⟩,h4⟩:=h
 refine ⟨fun d hd=>?_,fun d hd=>?_,fun q hq=>?_,fun q hq=>?_⟩
 ·rw [hd] at h1;simp only [Bool.and_eq_true,Bool.not_eq_true'] at h1
  exact ⟨fun hm=>(by rw [List.contains_iff_mem.2 hm] at h1;cases h1.1),fun he=>(by rw [he] at h1;simp at h1)⟩
 ·rw [hd] at h2;simp only [Bool.not_eq_true'] at h2
  exact fun hm=>by rw [List.contains_iff_mem.2 hm] at h2;cases h2
 ·obtain ⟨x,hx⟩:=Option.ne_none_iff_exists'.1 hq
  have:=List.all_eq_true.1 h3 _ (mem_of_lo hx)
  simp only [Bool.not_eq_true'] at this
  exact fun hm=>by rw [List.contains_iff_mem.2 hm] at this;cases this
 ·obtain ⟨x,hx⟩:=Option.ne_none_iff_exists'.1 hq
  have:=List.all_eq_true.1 h4 _ (mem_of_lo hx)
  simp only [Bool.not_eq_true'] at this
  exact fun hm=>by rw [List.contains_iff_mem.2 hm] at this;cases this
theorem runF_feet {P:Program} {H:List (Nat×Hint)} {ops:Array Oper}:∀ {l:List Oper} {σ σ':AS} {vc:List Prop} {fs:List Foot},runF P H ops l σ=some (σ',vc,fs)→allP vc →
 fs.length=l.length∧(∀ i,σ'=appD (fun _=>true) i fs σ)∧∀ (j:Nat) (o:Oper),l[j]?=some o→∃ f v,fs[j]?=some f∧allP v∧∀ i,stepF P H ops o (appD (fun k=>Nat.blt k (i+j)) i fs σ)=some (f,v)
 | [],σ,σ',vc,fs,h,hv=>by
   injection h with h;injection h with h1 h2;injection h2 with h2 h3;subst h1;subst h3
   exact ⟨rfl,fun _=>rfl,fun j o hj=>by simp at hj⟩
 | o::l,σ,σ',vc,fs,h,hv=>by
   simp only [runF] at h
   split at h
   ·rename_i f vc1 hf
    split at h
    ·rename_i σ1 vc2 fs2 hr
     injection h with h;injection h with h1 h2;injection h2 with h2 h3;subst h1;subst h2;subst h3
     obtain ⟨v1,v2⟩:=allP_append.1 hv
     obtain ⟨i1,i2,i3⟩:=runF_feet hr v2
     refine ⟨by simp [i1],fun i=>by unfold appD;simp only [cond_true];exact i2 (i+1),fun j o' hj=>?_⟩
     cases j with
     | zero =>
       simp only [List.getElem?_cons_zero,Option.some.injEq] at hj
       subst hj
       refine ⟨f,vc1,rfl,v1,fun i=>?_⟩
       have h5:∀ (l:List Foot) (n:Nat) (τ:AS),i<n→appD (fun k=>Nat.blt k (i+0)) n l τ=τ:=by
        intro l;induction l with
        | nil=>intro n τ _;rfl
        | cons e l ih2 =>
          intro n τ hn;unfold appD
          have:Nat.blt n (i+0)=false:=by rw [Bool.eq_false_iff,ne_eq,Nat.blt_eq];omega
          rw [this];exact ih2 _ _ (by omega)
       have h6:Nat.blt i (i+0)=false:=by rw [Bool.eq_false_iff,ne_eq,Nat.blt_eq];omega
       unfold appD
       rw [h6,cond_false,h5 _ _ _ (by omega)];exact hf
     | succ j =>
       obtain ⟨g,v,g1,g2,g3⟩:=i3 j o' (by simpa using hj)
       refine ⟨g,v,by simpa using g1,g2,fun i=>?_⟩
       have h6:Nat.blt i (i+(j+1))=true:=by rw [Nat.blt_eq];omega
       unfold appD
       rw [h6,cond_true,show i+(j+1)=i+1+j by omega];exact g3 (i+1)
    ·cases h
   ·cases h
theorem cnt_set:∀ (l:List Bool) (i:Nat),l[i]?=some false→((l.set i true).filter (fun b=>!b)).length+1=(l.filter (fun b=>!b)).length
 | [],i,h=>by simp at h
 | b::l,0,h=>by simp at h;subst h;simp
 | b::l,i+1,h=>by
   have:=cnt_set l i (by simpa using h)
   cases b
   ·simp only [List.set_cons_succ,List.filter_cons,Bool.not_false,if_true,List.length_cons];omega
   ·simp only [List.set_cons_succ,List.filter_cons,Bool.not_true,Bool.false_eq_true,if_false];exact this
theorem cnt_zero {l:List Bool} (h:(l.filter (fun b=>!b)).length=0) (k:Nat):l[k]?≠some false:=by
 intro hk
 have h1:=List.eq_nil_of_length_eq_zero h
 have h2:false∈l.filter (fun b=>!b):=List.mem_filter.2 ⟨List.mem_of_getElem? hk,rfl⟩
 rw [h1] at h2;cases h2
theorem region_any {P:Program} {H:List (Nat×Hint)} {id:Nat} {ops:Array Oper} {M:Cx} {w0:World} {Q:Exit→Act→World→Prop} {σ σ':AS} {vc:List Prop} {fs:List Foot} (hmo:P.follows .mixedOrders=true) (h:runF P H ops ops.toList σ=some (σ',vc,fs)) (hc:drawOk ops.toList fs (Region.before ops)=true)
 (hv:allP vc) {a:Act} {w:World} (hs:St M w0 σ a w) (hQ:∀ a' w',St M w0 σ' a' w'→Q .normal a' w'):(Code.region id ops true).wp P Q a w:=by
 refine wp_region_any hmo ?_
 obtain ⟨hl,hend,hfeet⟩:=runF_feet h hv
 unfold drawOk at hc
 rw [Bool.and_eq_true,Bool.and_eq_true] at hc
 obtain ⟨hown,hmask,hpairs⟩:=hc
 generalize hbm:Region.before ops=bm at *
 have hlen:ops.toList.length=ops.size:=Array.length_toList
 have hpair:∀ i j f g,i<j→fs[i]?=some f→fs[j]?=some g→apartB f g=true∨maskB bm i j=true:=fun i j f g hij hf hg=>by
  have h1:=List.all_eq_true.1 hpairs j (List.mem_range.2 (by rw [←hl];exact lt_of_some hg))
  have h2:=List.all_eq_true.1 h1 i (List.mem_range.2 hij)
  simp only [hf,hg,Bool.or_eq_true] at h2
  exact h2
 have hwoid:∀ (j:Nat) (f:Foot) (q:Nat),fs[j]?=some f→lo f.wo q≠none→q∈f.ids:=fun j f q hf hq=>by
  obtain ⟨x,hx⟩:=Option.ne_none_iff_exists'.1 hq
  have h1:=List.all_eq_true.1 hown f (List.mem_of_getElem? hf)
  exact List.contains_iff_mem.1 (List.all_eq_true.1 h1 _ (mem_of_lo hx))
 have key:∀ (fuel:Nat) (listed:Array Bool) (a:Act) (w:World),listed.size=ops.size→(listed.toList.filter (fun b=>!b)).length≤fuel →
  (∀ j o,ops.toList[j]?=some o→listed.getD j false=true→∀ p∈predsB o,listed.getD p false=true)→St M w0 (appD (fun k=>listed.getD k false) 0 fs σ) a w→wpAny P .any ops Q fuel listed a w:=by
  have hfin:∀ (listed:Array Bool) (a:Act) (w:World),listed.size=ops.size→(∀ k,k<ops.size→listed.getD k false=true)→St M w0 (appD (fun k=>listed.getD k false) 0 fs σ) a w→Q .normal a w:=fun listed a w hsz hall hst=>by
   refine hQ a w (hst.congr ?_ (fun t=>?_) fun q=>?_)
   ·rw [hend 0,appD_nt,appD_nt,appD_pk,appD_pk];exact ⟨rfl,rfl⟩
   ·rw [hend 0]
    exact appD_lk _ _ t fs 0 σ σ rfl fun k f hf _=>by simp only [Nat.zero_add];exact (hall k (by rw [←hlen,←hl];exact lt_of_some hf)).symm
   ·rw [hend 0]
    exact appD_lo _ _ q fs 0 σ σ rfl fun k f hf _=>by simp only [Nat.zero_add];exact (hall k (by rw [←hlen,←hl];exact lt_of_some hf)).symm
  intro fuel
  induction fuel with
  | zero =>
    intro listed a w hsz hcnt hcl hst
    have hall:∀ k,k<ops.size→listed.getD k false=true:=fun k hk=>by
     have h1:=cnt_zero (Nat.le_zero.1 hcnt) k
     rw [Array.getElem?_toList] at h1
     rw [Array.getD_eq_getD_getElem?]
     cases h2:listed[k]? with
     | none=>rw [Array.getElem?_eq_none_iff] at h2;omega
     | some b=>cases b
               ·exact absurd h2 h1
               ·rfl
    refine ⟨?_,hfin listed a w hsz hall hst⟩
    apply List.eq_nil_iff_forall_not_mem.2
    intro i hi
    obtain ⟨h1,o,ho,_⟩:=mem_ready.1 hi
    have hlt:i<ops.size:=(Array.getElem?_eq_some_iff.1 ho).1
    have h2:=hall i hlt
    rw [Array.getD_eq_getD_getElem?] at h1 h2
    rw [Array.getElem?_eq_getElem (by omega)] at h1 h2
    simp only [Option.getD_some] at h1 h2
    rw [h2] at h1;cases h1
  | succ fuel ih =>
    intro listed a w hsz hcnt hcl hst
    refine ⟨fun hr=>?_,fun i hi=>?_⟩
    ·refine hfin listed a w hsz (fun k hk=>?_) hst
     have hind:∀ n k,k<n→k<ops.size→listed.getD k false=true:=by
      intro n
      induction n with
      | zero=>intro k h;omega
      | succ n ihn =>
        intro k hkn hk
        apply Classical.byContradiction
        intro hne
        obtain ⟨o,ho⟩:=getElem?_of (l:=ops.toList) (j:=k) (by omega)
        have ho':ops[k]?=some o:=by rw [←Array.getElem?_toList];exact ho
        have hmem:k∈Region.ready .any ops listed:=by
         refine mem_ready.2 ⟨?_,o,ho',fun e he hb=>?_⟩
         ·rw [Array.getD_eq_getD_getElem?] at hne ⊢
          rw [Array.getElem?_eq_getElem (by omega)] at hne ⊢
          simpa using hne
         ·have hp:e.on∈predsB o:=List.mem_filterMap.2 ⟨e,Array.mem_toList_iff.2 he,by rw [if_pos hb]⟩
          have h1:=List.all_eq_true.1 hmask k (List.mem_range.2 (by omega))
          simp only [ho,Bool.and_eq_true] at h1
          have h2:=List.all_eq_true.1 h1.1 _ hp
          simp only [Nat.blt_eq] at h2
          exact ihn e.on (by omega) (by omega)
        rw [hr] at hmem;cases hmem
     exact hind (k+1) k (by omega) hk
    ·obtain ⟨hun,o,ho,hpre⟩:=mem_ready.1 hi
     have hlt:i<ops.size:=(Array.getElem?_eq_some_iff.1 ho).1
     have hoL:ops.toList[i]?=some o:=by rw [Array.getElem?_toList];exact ho
     have hDi:listed.getD i false=false:=by
      rw [Array.getD_eq_getD_getElem?] at hun ⊢
      rw [Array.getElem?_eq_getElem (by omega)] at hun ⊢
      simpa using hun
     have hpi:∀ p∈predsB o,listed.getD p false=true:=fun p hp=>by
      obtain ⟨e,he,heq⟩:=List.mem_filterMap.1 hp
      split at heq
      ·rename_i hb;injection heq with heq;rw [←heq];exact hpre e (Array.mem_toList_iff.1 he) hb
      ·cases heq
     obtain ⟨f,v,hf,hvv,hstep⟩:=hfeet i o hoL
     have hstep:=hstep 0
     have hmi:∀ k,k<ops.size→maskB bm k i=true→listed.getD k false=true:=fun k hk hb=>mask_in (D:=fun k=>listed.getD k false) hmask hcl k (by omega) (i+1) i o (by omega) hoL hpi hb
     have hmk:∀ k g,fs[k]?=some g→listed.getD k false=true→maskB bm i k=true→False:=fun k g hg hk hb=>by
      have hkl:k<ops.toList.length:=by rw [←hl];exact lt_of_some hg
      obtain ⟨ok,hok⟩:=getElem?_of hkl
      have:=mask_in (D:=fun k=>listed.getD k false) hmask hcl i (by omega) (k+1) k ok (by omega) hok (hcl k ok hok hk) hb
      simp only [hDi] at this;cases this
     have hagree:∀ (k:Nat) (g:Foot),fs[k]?=some g→(k<i→apartB g f=false)→(i<k→apartB f g=false)→listed.getD (0+k) false=Nat.blt (0+k) (0+i):=fun k g hg h1 h2=>by
      simp only [Nat.zero_add]
      have hks:k<ops.size:=by rw [←hlen,←hl];exact lt_of_some hg
      rcases Nat.lt_trichotomy k i with h3|h3|h3
      ·have h4:=h1 h3
       rcases hpair k i g f h3 hg hf with h5|h5
       ·rw [h4] at h5;cases h5
       ·rw [hmi k hks h5];exact (show Nat.blt k i=true by rw [Nat.blt_eq];exact h3).symm
      ·subst h3;rw [hDi];exact (Bool.eq_false_iff.2 (by rw [ne_eq,Nat.blt_eq];omega)).symm
      ·have h4:=h2 h3
       have h6:Nat.blt k i=false:=Bool.eq_false_iff.2 (by rw [ne_eq,Nat.blt_eq];omega)
       rw [h6]
       rcases hpair i k f g h3 hf hg with h5|h5
       ·rw [h4] at h5;cases h5
       ·cases h7:listed.getD k false
        ·rfl
        ·exact (hmk k g hg h7 h5).elim
     unfold wpOp
     simp only [ho]
     refine stepF_ok hstep hvv (by rw [appD_nt,appD_nt]) (fun t ht=>?_) (fun q hq=>?_) hst fun a' w' hs'=>?_
     ·refine appD_lk _ _ t fs 0 σ σ rfl fun k g hg hgt=>hagree k g hg (fun _=>?_) (fun _=>?_)
      ·exact Bool.eq_false_iff.2 fun hap=>((apartB_spec hap).1 t hgt).1 ht
      ·exact Bool.eq_false_iff.2 fun hap=>(apartB_spec hap).2.1 t hgt ht
     ·refine appD_lo _ _ q fs 0 σ σ rfl fun k g hg hgq=>hagree k g hg (fun _=>?_) (fun _=>?_)
      ·exact Bool.eq_false_iff.2 fun hap=>(apartB_spec hap).2.2.1 q hgq hq
      ·exact Bool.eq_false_iff.2 fun hap=>(apartB_spec hap).2.2.2 q hgq hq
     ·have hset:∀ k,(listed.setIfInBounds i true).getD k false=(listed.getD k false||k==i):=fun k=>by
       by_cases hk:i=k
       ·subst hk
        rw [Array.getD_eq_getD_getElem?,Array.getElem?_setIfInBounds_self_of_lt (by omega)]
        simp
       ·rw [Array.getD_eq_getD_getElem?,Array.getElem?_setIfInBounds_ne hk,←Array.getD_eq_getD_getElem?]
        have:(k==i)=false:=by rw [beq_eq_false_iff_ne];exact fun e=>hk e.symm
        rw [this,Bool.or_false]
      refine ih _ a' w' (by simp [hsz]) ?_ (fun j oj hoj hj p hp=>?_) (hs'.congr ?_ (fun t=>?_) fun q=>?_)
      ·have:=cnt_set listed.toList i (by rw [Array.getElem?_toList,Array.getElem?_eq_getElem (by omega)];rw [Array.getD_eq_getD_getElem?,Array.getElem?_eq_getElem (by omega)] at hDi;simpa using hDi)
       rw [Array.toList_setIfInBounds];omega
      ·rw [hset] at hj ⊢
       rw [Bool.or_eq_true] at hj ⊢
       rcases hj with hj|hj
       ·exact .inl (hcl j oj hoj hj p hp)
       ·have:j=i:=by simpa using hj
        subst this
        rw [hoL] at hoj;injection hoj with hoj;subst hoj
        exact .inl (hpi p hp)
      ·rw [appD_nt,app_nt,appD_nt,appD_pk,app_pk,appD_pk];exact ⟨rfl,rfl⟩
      ·rw [app_lk,show (fun k=>(listed.setIfInBounds i true).getD k false)=(fun k=>listed.getD k false||k==i) from funext hset]
       refine appD_add_lk (fun k=>listed.getD k false) i t f fs 0 σ hDi (by simpa using hf) (Nat.zero_le _) fun k g hg hlt2 hDk hh=>?_
       simp only [Nat.zero_add] at hlt2 hDk
       rcases hpair i k f g hlt2 hf hg with h5|h5
       ·exact ((apartB_spec h5).1 t hh.2).2 hh.1
       ·exact hmk k g hg hDk h5
      ·rw [app_lo,show (fun k=>(listed.setIfInBounds i true).getD k false)=(fun k=>listed.getD k false||k==i) from funext hset]
       refine appD_add_lo (fun k=>listed.getD k false) i q f fs 0 σ hDi (by simpa using hf) (Nat.zero_le _) fun k g hg hlt2 hDk hh=>?_
       simp only [Nat.zero_add] at hlt2 hDk
       rcases hpair i k f g hlt2 hf hg with h5|h5
       ·exact (apartB_spec h5).2.2.1 q hh.2 (hwoid k g q hg hh.1)
       ·exact hmk k g hg hDk h5
 refine key _ _ _ _ (by simp) (Nat.le_trans (List.length_filter_le _ _) (by simp)) (fun j o _ hj=>?_) ?_
 ·rw [Array.getD_eq_getD_getElem?] at hj
  cases h2:(Array.replicate ops.size false)[j]? with
  | none=>rw [h2] at hj;cases hj
  | some b =>
    have:=(Array.getElem?_replicate (n:=ops.size) (v:=false) (i:=j)).symm.trans h2
    rw [h2] at hj
    split at this
    ·injection this with this;subst this;cases hj
    ·cases this
 ·refine hs.drew.congr ?_ (fun t=>?_) fun q=>?_
  ·rw [appD_nt,appD_pk];exact ⟨rfl,rfl⟩
  all_goals
   have hD0:∀ k,(Array.replicate ops.size false).getD k false=false:=fun k=>by
    rw [Array.getD_eq_getD_getElem?,Array.getElem?_replicate];split<;>rfl
   have h5:∀ (l:List Foot) (n:Nat) (τ:AS),appD (fun k=>(Array.replicate ops.size false).getD k false) n l τ=τ:=by
    intro l;induction l with
    | nil=>intro n τ;rfl
    | cons e l ih2=>intro n τ;unfold appD;rw [hD0,cond_false];exact ih2 _ _
   rw [h5]
end Go.Proofs.YtfhmaincnlaapaaGreat.Sy
