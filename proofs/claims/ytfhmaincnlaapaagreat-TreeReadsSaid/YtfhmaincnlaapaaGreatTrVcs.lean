/- Short names; conditions split. -/
import Derived.Deep.LoopGhost
import Derived.IntWalk
import Derived.Test.YtfhmaincnlaapaaGreatTrSy12
namespace Go.Proofs.YtfhmaincnlaapaaGreat.Sy
open Go.ChangeShapes Go.WideShapes Go.ChangeAt Go.RowKit
set_option linter.unusedVariables false
structure Round (P:Program) (c:Code) {ι:Type} (inv:ι→AS) (μ:ι→Nat) (e:Exit) (σ':AS) (i:ι):Prop where
 run:∃ H L e1 σ1 vc,runC P H L c (inv i)=some (e1,σ1,vc)∧allP vc ∧
  ((e1=.normal∧∃ j,μ j<μ i∧((inv j).nt==σ1.nt&&(inv j).pk==σ1.pk&&wkB (inv j))=true∧allP (wkVc (fitS (inv j) σ1) (inv j).S)∧allP (wkVcO (fitS (inv j) σ1) (inv j).O)) ∨
   (e1=e∧e≠.normal∧(σ'.nt==σ1.nt&&σ'.pk==σ1.pk&&wkB σ')=true∧allP (wkVc (fitS σ' σ1) σ'.S)∧allP (wkVcO (fitS σ' σ1) σ'.O)))
theorem LoopOk.of {P:Program} (hmo:P.follows .mixedOrders=true) {c:Code} {ι:Type} (inv:ι→AS) (μ:ι→Nat) {e:Exit} {σ':AS} (h:∀ i,Round P c inv μ e σ' i) (i0:ι):LoopOk P c (inv i0) e σ':=by
 intro M w0 a w Q hs hQ
 refine wp_loop_ghost (fun n a w=>∃ i,μ i=n∧St M w0 (inv i) a w) (μ i0) ⟨i0,rfl,hs⟩ ?_
 rintro n a1 w1 ⟨i,rfl,hs1⟩
 obtain ⟨H,L,e1,σ1,vc,hr,hv,hcase⟩:=(h i).run
 refine runC_ok hmo hr hv hs1 fun a2 w2 hs2=>?_
 rcases hcase with ⟨rfl,j,hj,hb,h1,h2⟩|⟨rfl,hne,hb,h1,h2⟩
 ·simp only [Bool.and_eq_true] at hb
  exact ⟨μ j,hj,j,rfl,hs2.weakenF (by simpa using hb.1.1) (by simpa using hb.1.2) hb.2 h1 h2⟩
 ·simp only [Bool.and_eq_true] at hb
  have hq:=hQ a2 w2 (hs2.weakenF (by simpa using hb.1.1) (by simpa using hb.1.2) hb.2 h1 h2)
  cases e1<;>first|exact hq|exact absurd rfl hne
def resOne (P:Program) (σ:AS):ResultVar→Option AV
 | .tmp t=>some (lk σ.S t)
 | .cell a t=>match tyB P t,viewOf (lo σ.O) (lk σ.S a) with
   | some (b,k),some (cs,off)=>rd1 b k cs off
   | _,_=>none
def resL (P:Program) (σ:AS):List ResultVar→Option (List AV)
 | []=>some []
 | r::l=>match resOne P σ r,resL P σ l with
   | some x,some xs=>some (x::xs)
   | _,_=>none
def notTup:AV→Bool
 | .tup _=>false
 | .opt _ _=>false
 | _=>true
def resA (P:Program) (σ:AS) (rs:List ResultVar):Option AV :=
 match resL P σ rs with
 | some [x]=>some x
 | some xs=>bif xs.all notTup then some (.tup xs) else none
 | none=>none
def resSem (tmps:Array Value):ResultVar→Sem Value
 | .tmp t=>pure (tmps.getD t undef)
 | .cell a t=>do loadVar t (←asAddr (tmps.getD a undef))
theorem run_resOne {P:Program} {M:Cx} {w0:World} {σ:AS} {a:Act} {E:Env} (h:Now M w0 σ a E) {r:ResultVar} {x:AV} (hr:resOne P σ r=some x):∃ v,(resSem a.tmps r).run P E.w=.ok v E.w∧Sees E x v:=by
 cases r with
 | tmp t=>injection hr with hr;subst hr;exact ⟨_,rfl,h.sl t⟩
 | cell q t =>
   simp only [resOne] at hr
   split at hr
   ·rename_i b k cs off ht hv
    rw [←h.ob] at hv
    obtain ⟨A,us,e,hl,hc⟩:=viewOf_at h.mem hv (Sees.leaf_of hv (h.sl q))
    obtain ⟨h1,h2,h3⟩:=rd1_sees hl hr
    exact ⟨_,by simp only [resSem,e,asAddr,Sem.run_bind,Sem.run_pure,Result.andThen_ok,run_loadVar_at ht hc h2 h3],h1⟩
   ·cases hr
theorem run_resL {P:Program} {M:Cx} {w0:World} {σ:AS} {a:Act} {E:Env} (h:Now M w0 σ a E):∀ {rs:List ResultVar} {xs:List AV},resL P σ rs=some xs→∃ vs:List Value,(rs.mapM (resSem a.tmps)).run P E.w=.ok vs E.w∧vs.length=xs.length ∧
 ∀ (j:Nat) (x:AV) (u:Value),xs[j]?=some x→vs[j]?=some u→Sees E x u
 | [],xs,hr=>by injection hr with hr;subst hr;exact ⟨[],by simp,rfl,fun j x u hx=>by simp at hx⟩
 | r::rs,xs,hr=>by
   simp only [resL] at hr
   split at hr
   ·rename_i x ys h1 h2
    injection hr with hr;subst hr
    obtain ⟨v,hv,hs⟩:=run_resOne h h1
    obtain ⟨vs,hvs,hl,hss⟩:=run_resL h h2
    refine ⟨v::vs,by simp [List.mapM_cons,hv,hvs],by simp [hl],fun j y u hy hu=>?_⟩
    cases j with
    | zero=>simp only [List.getElem?_cons_zero,Option.some.injEq] at hy hu;subst hy;subst hu;exact hs
    | succ j=>exact hss j y u (by simpa using hy) (by simpa using hu)
   ·cases hr
theorem Sees.not_tup {E:Env} {x:AV} {u:Value} (h:Sees E x u) (hn:notTup x=true):Sees1 E x u:=by
 cases x<;>first|(cases hn;done)|exact h
theorem run_res {P:Program} {fn:Func} {M:Cx} {w0:World} {σ:AS} {a:Act} {E:Env} (h:Now M w0 σ a E) {x:AV} (hr:resA P σ fn.results.toList=some x):∃ v,(results fn a.tmps).run P E.w=.ok v E.w∧Sees E x v:=by
 have hm:∀ vs:List Value,(fn.results.toList.mapM (resSem a.tmps)).run P E.w=.ok vs E.w→(results fn a.tmps).run P E.w=.ok (if h:vs.toArray.size=1 then vs.toArray[0] else .tuple vs.toArray) E.w:=fun vs hvs=>by
  have:(fn.results.mapM (resSem a.tmps)).run P E.w=.ok vs.toArray E.w:=by rw [Array.mapM_eq_mapM_toList];simp [hvs]
  have hres:results fn a.tmps=(do let vs ←fn.results.mapM (resSem a.tmps);pure (if h:vs.size=1 then vs[0] else .tuple vs)):=by
   unfold results
   congr 1
  rw [hres,Sem.run_bind,this]
  simp
 unfold resA at hr
 split at hr
 ·rename_i y hy
  injection hr with hr;subst hr
  obtain ⟨vs,h1,h2,h3⟩:=run_resL h hy
  obtain ⟨v,rfl⟩:∃ v,vs=[v]:=List.length_eq_one_iff.1 h2
  exact ⟨v,by rw [hm _ h1];simp,h3 0 _ v rfl rfl⟩
 ·rename_i ys hne hy
  rw [Bool.cond_eq_ite] at hr
  split at hr
  ·rename_i hall
   injection hr with hr;subst hr
   obtain ⟨vs,h1,h2,h3⟩:=run_resL h hy
   refine ⟨.tuple vs.toArray,?_,vs,rfl,h2,fun j y u hy' hu=>(h3 j y u hy' hu).not_tup (List.all_eq_true.1 hall y (List.mem_of_getElem? hy'))⟩
   rw [hm _ h1,dif_neg]
   intro h4
   obtain ⟨v,rfl⟩:∃ v,vs=[v]:=List.length_eq_one_iff.1 (by simpa using h4)
   obtain ⟨y,rfl⟩:∃ y,ys=[y]:=List.length_eq_one_iff.1 h2.symm
   exact hne y rfl
  ·cases hr
 ·cases hr
def initS:Nat→List AV→List (Nat×AV)
 | _,[]=>[]
 | i,x::l=>(i,x)::initS (i+1) l
theorem initS_lk:∀ (l:List AV) (i t:Nat),lk (initS i l) t=if i≤t then (l[t-i]?).getD .junk else .junk
 | [],i,t=>by simp [initS,lk]
 | x::l,i,t=>by
   by_cases h:t=i
   ·subst h;show lk ((t,x)::initS (t+1) l) t=_;rw [lk_eq];simp
   ·show lk ((i,x)::initS (i+1) l) t=_
    rw [lk_ne _ _ h,initS_lk l (i+1) t]
    by_cases h2:i≤t
    ·rw [if_pos (by omega),if_pos h2,show t-i=(t-(i+1))+1 by omega];rfl
    ·rw [if_neg (by omega),if_neg h2]
def leafR (post O:List (Nat×AObj)):AV→AV
 | .row o ver=>match lo post o with
   | some _=>.row o ver
   | none=>match lo O o with|some (.row _ _ n k cs)=>if k=ver then .lst n cs else .junk|_=>.junk
 | .v (.slice none 0 0)=>.lst 0 []
 | x=>x
def oneR (post O:List (Nat×AObj)):AV→AV
 | .agg cs=>.agg (cs.map (leafR post O))
 | x=>leafR post O x
def resR (post O:List (Nat×AObj)):AV→AV
 | .tup l=>.tup (l.map (oneR post O))
 | x=>oneR post O x
def reEq:AV→AV→Prop
 | .tup l,.tup m=>lsEq l m
 | x,y=>avEq x y
theorem reEq_eq {x y:AV} (h:reEq x y):x=y:=by
 unfold reEq at h
 split at h
 ·rw [lsEq_eq h]
 ·exact avEq_eq h
def fnVc (P:Program) (ntmps:Nat) (rs:List ResultVar) (c:Code) (H:List (Nat×Hint)) (L:List (Nat×LoopHint)) (I:Inst):Option (List Prop) :=
 match runC P H L c ⟨initS 0 I.args,I.pre,I.args.length+(ntmps-I.args.length),I.pre.map (·.1)⟩ with
 | some (e,σ',vc)=>match e with
   | .ret | .normal=>match resA P σ' rs with
     | some x=>bif closedB I.post&&(refsInV I.post (resR I.post σ'.O x)&&I.pre.all fun p=>(lo I.post p.1).isSome) then some (reEq (resR I.post σ'.O x) I.res::(wkVcO σ' I.post++vc)) else none
     | none=>none
   | _=>none
 | none=>none
theorem leafR_sees {M:Cx} {w0:World} {E:Env} (hm:Mem M w0 E) {O post:List (Nat×AObj)} (hO:E.ob=lo O) (ho:∀ o,lo post o≠none→lo post o=E.ob o) {x:AV} {u:Value} (hr:refsIn post (leafR post O x)=true) (hx:Leaf E x u) :
 Leaf ⟨E.w,fun b=>E.F b∨∃ o,lo post o=none∧bk E o=some b,E.β,E.ν,lo post⟩ (leafR post O x) u:=by
 have hgo:∀ y,refsIn post y=true→Leaf E y u→Leaf ⟨E.w,fun b=>E.F b∨∃ o,lo post o=none∧bk E o=some b,E.β,E.ν,lo post⟩ y u:=fun y hy hl =>
  Leaf.restr (E:=E) (E':=⟨E.w,fun b=>E.F b∨∃ o,lo post o=none∧bk E o=some b,E.β,E.ν,lo post⟩) rfl (fun b hb=>Or.inl hb) rfl rfl (fun o hoo=>by
   have:=List.all_eq_true.1 hy o hoo
   exact ho o (fun h0=>by rw [h0] at this;cases this)) hl
 cases x with
 | row o ver =>
   unfold leafR at hr ⊢
   simp only at hr ⊢
   cases hp:lo post o with
   | some y =>
     simp only [hp] at hr ⊢
     exact hgo _ hr hx
   | none =>
     simp only [hp] at hr ⊢
     split
     ·rename_i z e s n k cs hq
      split
      ·rename_i hk
       have hq':E.ob o=some (.row e s n k cs):=by rw [hO];exact hq
       rw [(hx.2 _ _ _ _ _ hq').2 hk.symm]
       exact rep_row hm hq' _ (fun b hb=>.inl hb) fun b hb=>.inr ⟨o,hp,by unfold bk;rw [hq'];exact hb⟩
      ·trivial
     ·trivial
 | v y =>
   unfold leafR at hr ⊢
   split
   ·rename_i h;cases h
   ·rename_i h;injection h with h
    obtain ⟨e,_⟩:=hx
    rw [e,h]
    exact .nil none 0 (Nat.zero_le _)
   ·exact hx
 | agg=>exact hx.elim
 | tup=>exact hx.elim
 | opt=>exact hx.elim
 | fk=>exact hx
 | junk=>trivial
 | lst n cs=>exact hgo _ (by rfl) hx
 | fptr cs off=>exact hgo _ (by rfl) hx
 | ptr o off=>exact hgo _ hr hx
 | rptr o ver off=>exact hgo _ hr hx
theorem oneR_sees {M:Cx} {w0:World} {E:Env} (hm:Mem M w0 E) {O post:List (Nat×AObj)} (hO:E.ob=lo O) (ho:∀ o,lo post o≠none→lo post o=E.ob o) {x:AV} {u:Value} (hr:(match oneR post O x with | .agg cs=>cs.all (refsIn post)|y=>refsIn post y)=true) (hx:Sees1 E x u) :
 Sees1 ⟨E.w,fun b=>E.F b∨∃ o,lo post o=none∧bk E o=some b,E.β,E.ν,lo post⟩ (oneR post O x) u:=by
 cases x with
 | agg cs =>
   obtain ⟨us,rfl,hl,hs⟩:=hx
   refine ⟨us,rfl,by simp [hl],fun j y v hy hv=>?_⟩
   have h1:=List.all_eq_true.1 (show (cs.map (leafR post O)).all (refsIn post)=true from hr) y (List.mem_of_getElem? hy)
   rw [List.getElem?_map] at hy
   cases hc:cs[j]? with
   | none=>rw [hc] at hy;cases hy
   | some z =>
     rw [hc] at hy;injection hy with hy;subst hy
     exact ⟨leafR_sees hm hO ho h1 (hs j z v hc hv).1,(hs j z v hc hv).2⟩
 | _ =>
   simp only [oneR] at hr ⊢
   refine Sees1.leaf (leafR_sees hm hO ho ?_ (by simpa only [Sees1] using hx))
   revert hr
   generalize leafR post O _=z
   intro hr
   cases z<;>first|exact hr|rfl
theorem fn_wp {P:Program} {f:FuncId} {fn:Func} {c:Code} (hf:P.funcs[f]?=some fn) (hb:fn.body=some c) {I:Inst} {e:Exit} {σ':AS} {x:AV}
 (hcode:∀ (M:Cx) (w0:World) (a:Act) (w:World) (Q:Exit→Act→World→Prop),St M w0 ⟨initS 0 I.args,I.pre,I.args.length+(fn.ntmps-I.args.length),I.pre.map (·.1)⟩ a w→(∀ a' w',St M w0 σ' a' w'→Q e a' w')→c.wp P Q a w)
 (he:e=.ret∨e=.normal) (hx:resA P σ' fn.results.toList=some x) (hcl:closedB I.post=true) (hrf:refsInV I.post (resR I.post σ'.O x)=true) (hpre:(I.pre.all fun p=>(lo I.post p.1).isSome)=true) (v1:reEq (resR I.post σ'.O x) I.res) (v2:allP (wkVcO σ' I.post)):FnOk P f I:=by
 intro M0 w00 E0 vs hob hm0 hlen hargs
 refine calls_of_wp hf hb ?_
 have hm:Mem ⟨fun b=>∃ q,bk E0 q=some b,E0.F,E0⟩ E0.w E0 :=
  ⟨Chg.refl _ _,fun b hb=>.inl hb,hm0.fz,hm0.ok,fun q b hb=>⟨(hm0.live q b hb).1,(hm0.live q b hb).2.1,.inr ⟨q,hb⟩⟩,hm0.inj⟩
 have hSt:St ⟨fun b=>∃ q,bk E0 q=some b,E0.F,E0⟩ E0.w ⟨initS 0 I.args,I.pre,I.args.length+(fn.ntmps-I.args.length),I.pre.map (·.1)⟩ { tmps:=vs.toArray++Array.replicate (fn.ntmps-vs.toArray.size) undef,defers:=[] } E0.w:=by
  refine ⟨E0,rfl,rfl,by simp [hlen],hob,hm,After.refl E0,fun o ho=>?_,fun t=>?_⟩
  ·rw [hob] at ho
   obtain ⟨x,hx⟩:=Option.ne_none_iff_exists'.1 ho
   exact List.mem_map.2 ⟨_,mem_of_lo hx,rfl⟩
  ·rw [initS_lk,if_pos (Nat.zero_le _),Nat.sub_zero]
   cases hx:I.args[t]? with
   | none=>trivial
   | some x =>
     have hlt:=lt_of_some hx
     rw [←hlen] at hlt
     have:(vs.toArray++Array.replicate (fn.ntmps-vs.toArray.size) undef).getD t undef=vs[t]:=by
      rw [Array.getD_eq_getD_getElem?,Array.getElem?_append_left (by simpa using hlt)]
      simp [hlt]
     rw [this]
     exact Sees.sees1 (hargs t x _ hx (List.getElem?_eq_getElem hlt))
 refine hcode _ _ _ _ _ hSt ?_
 rcases he with rfl|rfl
 all_goals
  rintro a' w' ⟨E,rfl,hN⟩
  obtain ⟨v,hrun,hsee⟩:=run_res (fn:=fn) hN hx
  refine ⟨hN.df,v,hrun,?_⟩
  have ho:∀ o,lo I.post o≠none→lo I.post o=E.ob o:=fun o hq=>by rw [hN.ob];exact wkVcO_spec v2 o hq
  refine ⟨⟨E.w,fun b=>E.F b∨∃ o,lo I.post o=none∧bk E o=some b,E.β,E.ν,lo I.post⟩,v,rfl,rfl,rfl,?_,?_,?_⟩
  ·have hm1:=hN.mem
   have hbk:∀ q b,bk ⟨E.w,fun b=>E.F b∨∃ o,lo I.post o=none∧bk E o=some b,E.β,E.ν,lo I.post⟩ q=some b→lo I.post q≠none∧bk E q=some b:=fun q b hb=>by
    have hq:lo I.post q≠none:=fun h0=>by unfold bk at hb;simp only [h0] at hb;cases hb
    refine ⟨hq,?_⟩
    unfold bk at hb ⊢;rw [←ho q hq];exact hb
   have hlv:∀ q b,bk E0 q=some b→w00.heap.size≤b∨M0.m b:=fun q b hb=>(hm0.live q b hb).2.2
   refine ⟨⟨hm1.chg.os.trans hm0.chg.os,hm1.chg.tape.trans hm0.chg.tape,hm1.chg.output.trans hm0.chg.output,Nat.le_trans hm0.chg.size hm1.chg.size,fun b hb hM=>?_⟩,fun b hb=>?_,fun b hb=>?_,fun q y hy=>?_,fun q b hb=>?_,fun q q' b h1 h2=>hm1.inj q q' b (hbk q b h1).2 (hbk q' b h2).2⟩
   ·rw [hm1.chg.block b (Nat.lt_of_lt_of_le hb hm0.chg.size) (fun ⟨q,hq⟩=>by
     rcases hlv q b hq with h3|h3
     ·omega
     ·exact hM h3)]
    exact hm0.chg.block b hb hM
   ·have hcase:∀ b,(E0.F b∨E0.w.heap.size≤b∨∃ q,bk E0 q=some b)→M0.f b∨w00.heap.size≤b∨M0.m b:=fun b hb=>by
     rcases hb with hb|hb|⟨q,hb⟩
     ·exact hm0.org b hb
     ·exact .inr (.inl (Nat.le_trans hm0.chg.size hb))
     ·exact .inr (hlv q b hb)
    rcases hb with hb|⟨o,_,hb⟩
    ·exact hcase b (hm1.org b hb)
    ·exact hcase b (.inr (hm1.live o b hb).2.2)
   ·rcases hb with hb|⟨o,_,hb⟩
    ·exact hm1.fz b hb
    ·exact (hm1.live o b hb).2.1
   ·have hy':lo I.post q=some y:=hy
    have hq:E.ob q=some y:=by rw [←ho q (by rw [hy'];simp)];exact hy'
    have hok:=hm1.ok q y hq
    have hc2:=List.all_eq_true.1 hcl _ (mem_of_lo hy')
    cases y with
    | gone=>trivial
    | cells t cs =>
      obtain ⟨us,hb,hl,hs⟩:=hok
      refine ⟨us,hb,hl,fun j z u hz hu=>⟨Leaf.restr (E:=E) (E':=⟨E.w,fun b=>E.F b∨∃ o,lo I.post o=none∧bk E o=some b,E.β,E.ν,lo I.post⟩) rfl (fun b hb=>Or.inl hb) rfl rfl (fun o hoo=>?_) (hs j z u hz hu).1,(hs j z u hz hu).2⟩⟩
      have h1:=List.all_eq_true.1 (List.all_eq_true.1 hc2 z (List.mem_of_getElem? hz)) o hoo
      exact ho o (fun h0=>by rw [h0] at h1;cases h1)
    | row e s n k cs =>
      obtain ⟨us,hb,hs0,hl,hrr⟩:=hok
      exact ⟨us,hb,hs0,hl,fun j z u hz hu=>(hrr j z u hz hu).mono (fun b hb=>Or.inl hb) fun _ _=>rfl⟩
   ·obtain ⟨hq,hb'⟩:=hbk q b hb
    obtain ⟨l1,l2,l3⟩:=hm1.live q b hb'
    refine ⟨fun hf=>?_,l2,?_⟩
    ·rcases hf with hf|⟨o,ho1,ho2⟩
     ·exact l1 hf
     ·have:=hm1.inj q o b hb' ho2;subst this;exact hq ho1
    ·rcases l3 with l3|⟨p,l3⟩
     ·exact .inl (Nat.le_trans hm0.chg.size l3)
     ·exact hlv p b l3
  ·refine ⟨fun b hb=>Or.inl (hN.aft.sub b hb),hN.aft.old,fun o h0=>?_⟩
   obtain ⟨a1,a2,a3⟩:=hN.aft.obj o h0
   have h1:lo I.post o≠none:=fun h2=>by
    rw [hob] at h0
    obtain ⟨y,hy⟩:=Option.ne_none_iff_exists'.1 h0
    have:=List.all_eq_true.1 hpre _ (mem_of_lo hy)
    simp only [h2] at this;cases this
   have h2:lo I.post o=E.ob o:=ho o h1
   exact ⟨h1,fun t cs hh=>a2 t cs (by rw [←h2];exact hh),fun e s n k cs hh=>a3 e s n k cs (by rw [←h2];exact hh)⟩
  ·rw [←reEq_eq v1]
   have hgo:=fun (y:AV) (u:Value) hr hx=>oneR_sees (O:=σ'.O) (post:=I.post) hN.mem hN.ob ho (x:=y) (u:=u) hr hx
   cases x with
   | tup l =>
     obtain ⟨us,e1,e2,e3⟩:=hsee
     refine ⟨us,e1,by simp [e2],fun j y u hy hu=>?_⟩
     have h1:=List.all_eq_true.1 (show (l.map (oneR I.post σ'.O)).all _=true from hrf) y (List.mem_of_getElem? hy)
     rw [List.getElem?_map] at hy
     cases hc:l[j]? with
     | none=>rw [hc] at hy;cases hy
     | some z =>
       rw [hc] at hy;injection hy with hy;subst hy
       exact hgo z u h1 (e3 j z u hc hu)
   | opt b y=>cases hrf
   | agg cs=>exact hgo (.agg cs) v hrf hsee
   | _ =>
     simp only [resR] at hrf ⊢
     refine Sees.sees1 (hgo _ v ?_ (by simpa only [Sees] using hsee))
     revert hrf
     generalize oneR I.post σ'.O _=z
     intro hrf
     cases z<;>first|exact hrf|rfl
theorem fn_run {P:Program} (hmo:P.follows .mixedOrders=true) {f:FuncId} {fn:Func} {c:Code} (hf:P.funcs[f]?=some fn) (hb:fn.body=some c) {H:List (Nat×Hint)} {L:List (Nat×LoopHint)} {I:Inst} {vcs:List Prop} (h:fnVc P fn.ntmps fn.results.toList c H L I=some vcs) (hv:allP vcs):FnOk P f I:=by
 unfold fnVc at h
 split at h
 ·rename_i e σ' vc hr
  split at h
  all_goals first
   | (cases h;done)
   | (split at h
      ·rename_i x hx
       rw [Bool.cond_eq_ite] at h
       split at h
       ·rename_i hbb
        injection h with h;subst h
        obtain ⟨v1,v2⟩:=hv
        obtain ⟨v2,v3⟩:=allP_append.1 v2
        rw [Bool.and_eq_true,Bool.and_eq_true] at hbb
        obtain ⟨hcl,hrf,hpre⟩:=hbb
        exact fn_wp hf hb (fun M w0 a w Q hs hQ=>runC_ok hmo hr v3 hs hQ) (by simp) hx hcl hrf hpre v1 v2
       ·cases h
      ·cases h)
 ·cases h
theorem fn_go {P:Program} (hmo:P.follows .mixedOrders=true) {f:FuncId} {fn:Func} (hf:P.funcs[f]?=some fn) (hb:fn.body.isSome=true) {I:Inst} (H:List (Nat×Hint)) (L:List (Nat×LoopHint)) (vcs:List Prop) (h:fnVc P fn.ntmps fn.results.toList (fn.body.getD .skip) H L I=some vcs) (hv:allP vcs):FnOk P f I:=by
 obtain ⟨c,hc⟩:=Option.isSome_iff_exists.1 hb
 rw [hc] at h
 exact fn_run hmo hf hc h hv
theorem Round.on {P:Program} {c:Code} {ι:Type} {inv:ι→AS} {μ:ι→Nat} {e:Exit} {σ':AS} {i:ι} (H:List (Nat×Hint)) (L:List (Nat×LoopHint)) (j:ι) (vcs:List Prop) (hr:((runC P H L c (inv i)).bind fun r=>match r.1 with
 | .normal=>(bif (inv j).nt==r.2.1.nt&&(inv j).pk==r.2.1.pk&&wkB (inv j) then some (wkVc (fitS (inv j) r.2.1) (inv j).S++(wkVcO (fitS (inv j) r.2.1) (inv j).O++r.2.2)) else none)
 | _=>none)=some vcs) (hj:μ j<μ i) (hv:allP vcs):Round P c inv μ e σ' i:=by
 cases hrun:runC P H L c (inv i) with
 | none=>rw [hrun] at hr;cases hr
 | some r =>
   obtain ⟨e1,σ1,vc⟩:=r
   rw [hrun] at hr
   simp only [Option.bind_some] at hr
   cases e1<;>first|(cases hr;done)|skip
   simp only [Bool.cond_eq_ite] at hr
   split at hr
   ·rename_i hb
    injection hr with hr;subst hr
    obtain ⟨h1,h2⟩:=allP_append.1 hv
    obtain ⟨h2,h3⟩:=allP_append.1 h2
    exact ⟨H,L,.normal,σ1,vc,hrun,h3,.inl ⟨rfl,j,hj,hb,h1,h2⟩⟩
   ·cases hr
def exitIs:Exit→Exit→Bool
 | .ret,.ret=>true
 | .exit a,.exit b=>a==b
 | _,_=>false
theorem Round.out {P:Program} {c:Code} {ι:Type} {inv:ι→AS} {μ:ι→Nat} {e:Exit} {σ':AS} {i:ι} (H:List (Nat×Hint)) (L:List (Nat×LoopHint)) (vcs:List Prop) (hr:((runC P H L c (inv i)).bind fun r =>
 bif exitIs r.1 e&&(σ'.nt==r.2.1.nt&&σ'.pk==r.2.1.pk&&wkB σ') then some (wkVc (fitS σ' r.2.1) σ'.S++(wkVcO (fitS σ' r.2.1) σ'.O++r.2.2)) else none)=some vcs) (hv:allP vcs):Round P c inv μ e σ' i:=by
 cases hrun:runC P H L c (inv i) with
 | none=>rw [hrun] at hr;cases hr
 | some r =>
   obtain ⟨e1,σ1,vc⟩:=r
   rw [hrun] at hr
   simp only [Option.bind_some,Bool.cond_eq_ite] at hr
   split at hr
   ·rename_i hb
    rw [Bool.and_eq_true] at hb
    injection hr with hr;subst hr
    obtain ⟨h1,h2⟩:=allP_append.1 hv
    obtain ⟨h2,h3⟩:=allP_append.1 h2
    have he:e1=e∧e≠.normal:=by
     have h0:=hb.1
     cases e1<;>cases e<;>first|(cases h0;done)|exact ⟨rfl,by simp⟩|exact ⟨by simpa [exitIs] using h0,by simp⟩
    exact ⟨H,L,e1,σ1,vc,hrun,h3,.inr ⟨he.1,he.2,hb.2,h1,h2⟩⟩
   ·cases hr
def sub1 (q k n:Nat) (cs:List AV):AV→AV
 | .row o v=>bif Nat.beq o q&&Nat.beq v k then .lst n cs else .row o v
 | x=>x
def subA (q k n:Nat) (cs:List AV):AV→AV
 | .agg l=>.agg (l.map (sub1 q k n cs))
 | x=>sub1 q k n cs x
def subT (q k n:Nat) (cs:List AV):AV→AV
 | .tup l=>.tup (l.map (subA q k n cs))
 | x=>subA q k n cs x
def subO (q k n:Nat) (cs:List AV):AObj→AObj
 | .cells t l=>.cells t (l.map (sub1 q k n cs))
 | x=>x
def freeze (q:Nat) (σ:AS):AS :=
 match lo σ.O q with
 | some (.row e s n k cs)=>⟨σ.S.map (fun p=>(p.1,subT q k n cs p.2)),(q,.gone)::σ.O.map (fun p=>(p.1,subO q k n cs p.2)),σ.nt,σ.pk⟩
 | _=>σ
theorem lk_map (g:AV→AV) (hj:g .junk=.junk) (l:List (Nat×AV)) (t:Nat):lk (l.map fun p=>(p.1,g p.2)) t=g (lk l t):=by
 induction l with
 | nil=>exact hj.symm
 | cons p l ih =>
   obtain ⟨k,x⟩:=p
   by_cases h:t=k
   ·subst h;simp only [List.map_cons];rw [lk_eq,lk_eq]
   ·simp only [List.map_cons];rw [lk_ne _ _ h,lk_ne _ _ h];exact ih
theorem lo_map (g:AObj→AObj) (l:List (Nat×AObj)) (t:Nat):lo (l.map fun p=>(p.1,g p.2)) t=(lo l t).map g:=by
 induction l with
 | nil=>rfl
 | cons p l ih =>
   obtain ⟨k,x⟩:=p
   by_cases h:t=k
   ·subst h;simp only [List.map_cons];rw [lo_eq,lo_eq];rfl
   ·simp only [List.map_cons];rw [lo_ne _ _ h,lo_ne _ _ h];exact ih
theorem St.freeze {M:Cx} {w0:World} {σ:AS} {a:Act} {w:World} (h:St M w0 σ a w) (q:Nat):St M w0 (freeze q σ) a w:=by
 unfold Sy.freeze
 split
 ·rename_i e s n k cs hq
  obtain ⟨E,rfl,hN⟩:=h
  have hqE:E.ob q=some (.row e s n k cs):=by rw [hN.ob];exact hq
  let E':Env:=⟨E.w,fun b=>E.F b∨(E.ν q).ownBlock=some b,E.β,E.ν,lo ((q,.gone)::σ.O.map (fun p=>(p.1,subO q k n cs p.2)))⟩
  have hbkq:∀ b,(E.ν q).ownBlock=some b→bk E q=some b:=fun b hb=>by unfold bk;rw [hqE];exact hb
  have hob1:E'.ob q=some .gone:=lo_eq _ _ _
  have hob2:∀ o,o≠q→E'.ob o=(E.ob o).map (subO q k n cs):=fun o ho=>by
   show lo ((q,.gone)::σ.O.map (fun p=>(p.1,subO q k n cs p.2))) o=_
   rw [lo_ne _ _ ho,lo_map,hN.ob]
  have hrep:=rep_row hN.mem hqE E'.F (fun b hb=>.inl hb) (fun b hb=>.inr hb)
  have hlat:∀ o,Later E E' o:=fun o h0=>by
   by_cases ho:o=q
   ·subst ho;exact ⟨by rw [hob1];simp,fun t l hh=>(by rw [hob1] at hh;cases hh),fun e s n k l hh=>(by rw [hob1] at hh;cases hh)⟩
   ·rw [hob2 o ho]
    cases hx:E.ob o with
    | none=>exact absurd hx h0
    | some x =>
      refine ⟨by simp,fun t l hh=>?_,fun e s n k l hh=>?_⟩
      ·cases x with
       | cells t0 l0=>exact ⟨⟨t0,l0,rfl⟩,rfl⟩
       | row=>cases hh
       | gone=>cases hh
      ·cases x with
       | cells t0 l0=>cases hh
       | row e0 s0 n0 k0 l0=>simp only [Option.map_some,subO] at hh;injection hh with hh;injection hh with h1 h2 h3 h4 h5;subst h1;subst h2;subst h3;subst h4;subst h5;exact ⟨_,_,_,_,_,rfl,Nat.le_refl _,fun _=>⟨rfl,rfl⟩⟩
       | gone=>cases hh
  have hleaf:∀ (haft:After E E') (x:AV) (u:Value),Leaf E x u→Leaf E' (sub1 q k n cs x) u:=fun haft x u hx=>by
   cases x with
   | row o v =>
     show Leaf E' (bif Nat.beq o q&&Nat.beq v k then .lst n cs else .row o v) u
     rw [Bool.cond_eq_ite]
     split
     ·rename_i hh
      rw [Bool.and_eq_true,Nat.beq_eq,Nat.beq_eq] at hh
      obtain ⟨rfl,rfl⟩:=hh
      rw [(hx.2 _ _ _ _ _ hqE).2 rfl]
      exact hrep
     ·exact Leaf.after haft hx
   | _=>exact Leaf.after haft hx
  have hsub:∀ (haft:After E E') (x:AV) (u:Value),Sees E x u→Sees E' (subT q k n cs x) u:=fun haft x u hx=>by
   have hcells:∀ (l:List AV) (us:List Value),Leafs E l us→Leafs E' (l.map (sub1 q k n cs)) us:=fun l us hl=>by
    refine ⟨by rw [hl.1];simp,fun j y v hy hv=>?_⟩
    rw [List.getElem?_map] at hy
    cases hc:l[j]? with
    | none=>rw [hc] at hy;cases hy
    | some z=>rw [hc] at hy;injection hy with hy;subst hy;exact ⟨hleaf haft z v (hl.2 j z v hc hv).1,(hl.2 j z v hc hv).2⟩
   have hone:∀ (x:AV) (u:Value),Sees1 E x u→Sees1 E' (subA q k n cs x) u:=fun x u hx=>by
    cases x with
    | agg l=>obtain ⟨us,e,hl⟩:=hx;exact ⟨us,e,hcells l us hl⟩
    | v y=>exact Sees1.leaf (hleaf haft (.v y) u hx)
    | lst m l=>exact Sees1.leaf (hleaf haft (.lst m l) u hx)
    | tup l=>exact Sees1.leaf (hleaf haft (.tup l) u hx)
    | opt b y=>exact Sees1.leaf (hleaf haft (.opt b y) u hx)
    | fk k=>exact Sees1.leaf (hleaf haft (.fk k) u hx)
    | row o v=>exact Sees1.leaf (hleaf haft (.row o v) u hx)
    | ptr o v=>exact Sees1.leaf (hleaf haft (.ptr o v) u hx)
    | fptr l v=>exact Sees1.leaf (hleaf haft (.fptr l v) u hx)
    | rptr o v f=>exact Sees1.leaf (hleaf haft (.rptr o v f) u hx)
    | junk=>trivial
   cases x with
   | tup l =>
     obtain ⟨us,e,hl,hs⟩:=hx
     refine ⟨us,e,by rw [hl];simp,fun j y v hy hv=>?_⟩
     rw [List.getElem?_map] at hy
     cases hc:l[j]? with
     | none=>rw [hc] at hy;cases hy
     | some z=>rw [hc] at hy;injection hy with hy;subst hy;exact hone z v (hs j z v hc hv)
   | opt b y=>exact Sees.after haft hx
   | agg l=>exact hone (.agg l) u hx
   | v y=>exact Sees.sees1 (hone (.v y) u hx)
   | lst m l=>exact Sees.sees1 (hone (.lst m l) u hx)
   | fk k=>exact Sees.sees1 (hone (.fk k) u hx)
   | row o v=>exact Sees.sees1 (hone (.row o v) u hx)
   | ptr o v=>exact Sees.sees1 (hone (.ptr o v) u hx)
   | fptr l v=>exact Sees.sees1 (hone (.fptr l v) u hx)
   | rptr o v f=>exact Sees.sees1 (hone (.rptr o v f) u hx)
   | junk=>trivial
  obtain ⟨hm,haft⟩:=hN.mem.step (E':=E') (fun _=>True) rfl rfl rfl (Nat.le_refl _) (fun _ _ _=>rfl) (fun b hb=>.inl hb)
   (fun b hb=>by
    rcases hb with hb|hb
    ·exact .inl hb
    ·exact .inr ⟨(hN.mem.live q b (hbkq b hb)).2.1,.inr ⟨q,trivial,hbkq b hb⟩⟩)
   (fun o ho=>absurd trivial ho) (fun o _=>hlat o)
   (fun haft o x _ hx=>by
    by_cases ho:o=q
    ·subst ho;rw [hob1] at hx;injection hx with hx;subst hx;trivial
    ·rw [hob2 o ho] at hx
     cases hy:E.ob o with
     | none=>rw [hy] at hx;cases hx
     | some y =>
       rw [hy] at hx;injection hx with hx;subst hx
       have hok:=hN.mem.ok o y hy
       cases y with
       | gone=>trivial
       | cells t l =>
         obtain ⟨us,hb,hl⟩:=hok
         refine ⟨us,hb,by rw [hl.1];simp,fun j y v hy hv=>?_⟩
         rw [List.getElem?_map] at hy
         cases hc:l[j]? with
         | none=>rw [hc] at hy;cases hy
         | some z=>rw [hc] at hy;injection hy with hy;subst hy;exact ⟨hleaf haft z v (hl.2 j z v hc hv).1,(hl.2 j z v hc hv).2⟩
       | row e0 s0 n0 k0 l0 =>
         obtain ⟨us,hb,hs0,hl,hr⟩:=hok
         exact ⟨us,hb,hs0,hl,fun j y u hy hu=>(hr j y u hy hu).mono (fun b hb=>Or.inl hb) fun _ _=>rfl⟩)
   (fun o b _ hb=>by
    by_cases ho:o=q
    ·subst ho;unfold bk at hb;rw [hob1] at hb;cases hb
    ·have hb':bk E o=some b:=by
      unfold bk at hb ⊢
      rw [hob2 o ho] at hb
      cases hy:E.ob o with
      | none=>rw [hy] at hb;cases hb
      | some y=>rw [hy] at hb;cases y<;>first|exact hb|(cases hb;done)
     obtain ⟨l1,l2,l3⟩:=hN.mem.live o b hb'
     refine ⟨fun hf=>?_,l2,.inr ⟨o,trivial,hb'⟩⟩
     rcases hf with hf|hf
     ·exact l1 hf
     ·exact ho (hN.mem.inj o q b hb' (hbkq b hf)))
   (fun o o' b _ _ h1 h2=>by
    have key:∀ o,bk E' o=some b→bk E o=some b:=fun o hb=>by
     by_cases ho:o=q
     ·subst ho;unfold bk at hb;rw [hob1] at hb;cases hb
     ·unfold bk at hb ⊢
      rw [hob2 o ho] at hb
      cases hy:E.ob o with
      | none=>rw [hy] at hb;cases hb
      | some y=>rw [hy] at hb;cases y<;>first|exact hb|(cases hb;done)
    exact hN.mem.inj o o' b (key o h1) (key o' h2))
  exact ⟨E',rfl,hN.df,hN.sz,rfl,hm,hN.aft.trans haft,hN.pkk,fun t=>by
   rw [lk_map _ rfl];exact hsub haft _ _ (hN.sl t)⟩
 ·exact h
def ren1 (f:Nat→Nat):AV→AV
 | .row o v=>.row (f o) v
 | .ptr o k=>.ptr (f o) k
 | .rptr o v k=>.rptr (f o) v k
 | x=>x
def ren (f:Nat→Nat):AV→AV
 | .agg cs=>.agg (cs.map (ren1 f))
 | x=>ren1 f x
def renT (f:Nat→Nat):AV→AV
 | .tup l=>.tup (l.map (ren f))
 | .opt _ _=>.junk
 | x=>ren f x
def renO (f:Nat→Nat):AObj→AObj
 | .cells t cs=>.cells t (cs.map (ren1 f))
 | x=>x
def renL (f:Nat→Nat) (l:List (Nat×AObj)):List (Nat×AObj):=l.map fun p=>(f p.1,renO f p.2)
section
variable {ρ π:Nat→Nat}
def Nm (ρ:Nat→Nat) (E E':Env) (o:Nat):Prop:=E'.ob (ρ o)=(E.ob o).map (renO ρ)∧E'.β (ρ o)=E.β o∧E'.ν (ρ o)=E.ν o
theorem Leaf.nm {E E':Env} (hw:E'.w=E.w) (hF:E'.F=E.F) {x:AV} {u:Value} (ho:∀ o∈refsOf1 x,Nm ρ E E' o):Leaf E x u↔Leaf E' (ren1 ρ x) u:=by
 cases x with
 | v y=>exact Iff.rfl
 | lst n cs=>unfold ren1 Leaf;rw [hw,hF]
 | agg=>exact Iff.rfl
 | tup=>exact Iff.rfl
 | opt=>exact Iff.rfl
 | fk=>exact Iff.rfl
 | junk=>exact Iff.rfl
 | fptr cs off=>unfold ren1 Leaf;rw [hw,hF]
 | ptr o off =>
   obtain ⟨h1,h2,h3⟩:=ho o (by simp [refsOf1])
   simp only [ren1,Leaf]
   rw [h1,h2]
   cases E.ob o with
   | none=>simp
   | some y=>cases y<;>simp [renO]
 | row o ver =>
   obtain ⟨h1,h2,h3⟩:=ho o (by simp [refsOf1])
   simp only [ren1,Leaf]
   rw [h1,h3]
   cases E.ob o with
   | none=>simp
   | some y=>cases y<;>simp [renO]
 | rptr o ver off =>
   obtain ⟨h1,h2,h3⟩:=ho o (by simp [refsOf1])
   simp only [ren1,Leaf]
   rw [h1,h3]
   cases E.ob o with
   | none=>simp
   | some y=>cases y<;>simp [renO]
theorem Leafs.nm {E E':Env} (hw:E'.w=E.w) (hF:E'.F=E.F) {cs:List AV} {us:List Value} (ho:∀ o∈cs.flatMap refsOf1,Nm ρ E E' o):Leafs E cs us↔Leafs E' (cs.map (ren1 ρ)) us:=by
 constructor
 ·rintro ⟨hl,hs⟩
  refine ⟨by simpa using hl,fun j y v hy hv=>?_⟩
  rw [List.getElem?_map] at hy
  cases hc:cs[j]? with
  | none=>rw [hc] at hy;cases hy
  | some z=>rw [hc] at hy;injection hy with hy;subst hy;exact ⟨(Leaf.nm hw hF fun o h=>ho o (List.mem_flatMap.2 ⟨z,List.mem_of_getElem? hc,h⟩)).1 (hs j z v hc hv).1,(hs j z v hc hv).2⟩
 ·rintro ⟨hl,hs⟩
  refine ⟨by simpa using hl,fun j z v hc hv=>?_⟩
  obtain ⟨h1,h2⟩:=hs j (ren1 ρ z) v (by rw [List.getElem?_map,hc];rfl) hv
  exact ⟨(Leaf.nm hw hF fun o h=>ho o (List.mem_flatMap.2 ⟨z,List.mem_of_getElem? hc,h⟩)).2 h1,h2⟩
theorem Sees1.nm {E E':Env} (hw:E'.w=E.w) (hF:E'.F=E.F) {x:AV} {u:Value} (ho:∀ o∈refsL x,Nm ρ E E' o):Sees1 E x u↔Sees1 E' (ren ρ x) u:=by
 cases x with
 | agg cs =>
   constructor
   ·rintro ⟨us,e,hl⟩;exact ⟨us,e,(Leafs.nm hw hF ho).1 hl⟩
   ·rintro ⟨us,e,hl⟩;exact ⟨us,e,(Leafs.nm hw hF ho).2 hl⟩
 | v y=>exact Leaf.nm (x:=.v y) hw hF ho
 | lst m l=>exact Leaf.nm (x:=.lst m l) hw hF ho
 | tup l=>exact Iff.rfl
 | opt=>exact Iff.rfl
 | fk=>exact Iff.rfl
 | row o v=>exact Leaf.nm (x:=.row o v) hw hF ho
 | ptr o v=>exact Leaf.nm (x:=.ptr o v) hw hF ho
 | fptr l v=>exact Leaf.nm (x:=.fptr l v) hw hF ho
 | rptr o v f=>exact Leaf.nm (x:=.rptr o v f) hw hF ho
 | junk=>exact Iff.rfl
def refsT:AV→List Nat
 | .tup l=>l.flatMap refsL
 | x=>refsL x
theorem Sees.nm {E E':Env} (hw:E'.w=E.w) (hF:E'.F=E.F) {x:AV} {u:Value} (ho:∀ o∈refsT x,Nm ρ E E' o) (hx:Sees E x u):Sees E' (renT ρ x) u:=by
 cases x with
 | tup l =>
   obtain ⟨us,e,hl,hs⟩:=hx
   refine ⟨us,e,by simpa using hl,fun j y v hy hv=>?_⟩
   rw [List.getElem?_map] at hy
   cases hc:l[j]? with
   | none=>rw [hc] at hy;cases hy
   | some z=>rw [hc] at hy;injection hy with hy;subst hy;exact (Sees1.nm hw hF fun o h=>ho o (List.mem_flatMap.2 ⟨z,List.mem_of_getElem? hc,h⟩)).1 (hs j z v hc hv)
 | opt=>trivial
 | fk=>exact hx
 | agg cs=>exact (Sees1.nm (x:=.agg cs) hw hF ho).1 hx
 | v y=>exact hx
 | lst m l=>exact (Sees1.nm (x:=.lst m l) hw hF ho).1 hx
 | row o v=>exact (Sees1.nm (x:=.row o v) hw hF ho).1 hx
 | ptr o v=>exact (Sees1.nm (x:=.ptr o v) hw hF ho).1 hx
 | fptr l v=>exact (Sees1.nm (x:=.fptr l v) hw hF ho).1 hx
 | rptr o v f=>exact (Sees1.nm (x:=.rptr o v f) hw hF ho).1 hx
 | junk=>trivial
theorem lo_ren {l:List (Nat×AObj)} (hl:∀ p∈l,π (ρ p.1)=p.1) {q:Nat} (hq:π (ρ q)=q):lo (renL ρ l) (ρ q)=(lo l q).map (renO ρ):=by
 induction l with
 | nil=>rfl
 | cons p l ih =>
   obtain ⟨k,x⟩:=p
   have hk:=hl (k,x) (by simp)
   by_cases h:q=k
   ·subst h;show lo ((ρ q,renO ρ x)::renL ρ l) (ρ q)=_;rw [lo_eq,lo_eq];rfl
   ·show lo ((ρ k,renO ρ x)::renL ρ l) (ρ q)=_
    rw [lo_ne _ _ (fun e=>h (by rw [←hq,e,hk])),lo_ne _ _ h]
    exact ih fun p hp=>hl p (by simp [hp])
theorem lo_ren_inv {l:List (Nat×AObj)} (hl:∀ p∈l,π (ρ p.1)=p.1) {q:Nat} {x:AObj} (h:lo (renL ρ l) q=some x):ρ (π q)=q∧∃ y,lo l (π q)=some y∧x=renO ρ y:=by
 have hm:=mem_of_lo h
 obtain ⟨⟨k,y⟩,hp,he⟩:=List.mem_map.1 hm
 injection he with h1 h2
 have hk:=hl _ hp
 simp only at h1 hk
 subst h1
 rw [hk]
 refine ⟨rfl,?_⟩
 rw [lo_ren hl hk] at h
 cases hy:lo l k with
 | none=>rw [hy] at h;cases h
 | some z=>rw [hy] at h;injection h with h;exact ⟨z,rfl,h.symm⟩
theorem Mem.nm {M:Cx} {w0:World} {E E':Env} {l:List (Nat×AObj)} (hw:E'.w=E.w) (hF:E'.F=E.F) (hl:∀ p∈l,π (ρ p.1)=p.1) (hcl:closedB l=true) (ho:E.ob=lo l) (hn:∀ o,lo l o≠none→Nm ρ E E' o) (ho':E'.ob=lo (renL ρ l)):Mem M w0 E↔Mem M w0 E':=by
 have hr:∀ o t cs,lo l o=some (.cells t cs)→∀ q∈cs.flatMap refsOf1,Nm ρ E E' q:=fun o t cs h q hq=>by
  have h1:=List.all_eq_true.1 hcl _ (mem_of_lo h)
  obtain ⟨y,hy,hyq⟩:=List.mem_flatMap.1 hq
  have h2:=List.all_eq_true.1 (List.all_eq_true.1 h1 y hy) q hyq
  exact hn q (fun h0=>by rw [h0] at h2;cases h2)
 have hok:∀ o x,lo l o=some x→(ObjOk E 0 o x↔ObjOk E' 0 (ρ o) (renO ρ x)):=fun o x hx=>by
  obtain ⟨n1,n2,n3⟩:=hn o (by rw [hx];simp)
  cases x with
  | gone=>exact Iff.rfl
  | cells t cs =>
    unfold ObjOk renO
    simp only
    rw [n2,hw]
    constructor
    ·rintro ⟨us,hb,hl⟩;exact ⟨us,hb,(Leafs.nm hw hF (hr o t cs hx)).1 hl⟩
    ·rintro ⟨us,hb,hl⟩;exact ⟨us,hb,(Leafs.nm hw hF (hr o t cs hx)).2 hl⟩
  | row e s n k cs=>unfold ObjOk renO;simp only;rw [n3,hw,hF]
 have hbk:∀ o,lo l o≠none→bk E' (ρ o)=bk E o:=fun o h0=>by
  obtain ⟨n1,n2,n3⟩:=hn o h0
  unfold bk
  rw [n1,n2,n3]
  cases E.ob o with
  | none=>rfl
  | some y=>cases y<;>rfl
 have hin:∀ o b,bk E o=some b→lo l o≠none:=fun o b h h0=>by unfold bk at h;rw [ho,h0] at h;cases h
 have hin':∀ o b,bk E' o=some b→∃ q,lo l q≠none∧o=ρ q:=fun o b h=>by
  unfold bk at h
  cases hx:E'.ob o with
  | none=>rw [hx] at h;cases h
  | some x =>
    rw [ho'] at hx
    obtain ⟨h1,y,hy,_⟩:=lo_ren_inv hl hx
    exact ⟨π o,by rw [hy];simp,h1.symm⟩
 have hpi:∀ o,lo l o≠none→π (ρ o)=o:=fun o h0=>by
  obtain ⟨x,hx⟩:=Option.ne_none_iff_exists'.1 h0
  exact hl _ (mem_of_lo hx)
 constructor
 ·intro h
  refine ⟨by rw [hw];exact h.chg,by rw [hF];exact h.org,by rw [hF,hw];exact h.fz,fun o x hx=>?_,fun o b hb=>?_,fun o o' b h1 h2=>?_⟩
  ·rw [ho'] at hx
   obtain ⟨h1,y,hy,rfl⟩:=lo_ren_inv hl hx
   rw [←h1]
   exact (hok _ y hy).1 (h.ok _ y (by rw [ho];exact hy))
  ·obtain ⟨q,hq,rfl⟩:=hin' o b hb
   rw [hbk q hq] at hb
   rw [hF,hw];exact h.live q b hb
  ·obtain ⟨q,hq,rfl⟩:=hin' o b h1
   obtain ⟨q',hq',rfl⟩:=hin' o' b h2
   rw [hbk q hq] at h1;rw [hbk q' hq'] at h2
   rw [h.inj q q' b h1 h2]
 ·intro h
  refine ⟨by rw [←hw];exact h.chg,by rw [←hF];exact h.org,by rw [←hF,←hw];exact h.fz,fun o x hx=>?_,fun o b hb=>?_,fun o o' b h1 h2=>?_⟩
  ·rw [ho] at hx
   refine (hok o x hx).2 (h.ok _ _ ?_)
   rw [(hn o (by rw [hx];simp)).1,ho,hx];rfl
  ·have h0:=hin o b hb
   rw [←hbk o h0] at hb
   rw [←hF,←hw];exact h.live _ b hb
  ·have h3:=hin o b h1
   have h4:=hin o' b h2
   rw [←hbk o h3] at h1;rw [←hbk o' h4] at h2
   have:=congrArg π (h.inj _ _ b h1 h2)
   rw [hpi o h3,hpi o' h4] at this;exact this
theorem FnOk.ren {P:Program} {f:FuncId} {I:Inst} (h:FnOk P f I) (h1:∀ p∈I.pre,π (ρ p.1)=p.1) (h2:∀ p∈I.post,π (ρ p.1)=p.1) (c1:closedB I.pre=true) (c2:closedB I.post=true)
 (ha:∀ x∈I.args,∀ o∈refsL x,lo I.pre o≠none) (hr:∀ o∈refsT I.res,lo I.post o≠none):FnOk P f ⟨I.args.map (Sy.ren ρ),renL ρ I.pre,renT ρ I.res,renL ρ I.post⟩:=by
 intro M w0 E vs hob hm hl hs
 let Ec:Env:=⟨E.w,E.F,fun o=>E.β (ρ o),fun o=>E.ν (ρ o),lo I.pre⟩
 have hpi:∀ o,lo I.pre o≠none→π (ρ o)=o:=fun o h0=>by
  obtain ⟨x,hx⟩:=Option.ne_none_iff_exists'.1 h0
  exact h1 _ (mem_of_lo hx)
 have hnm:∀ o,lo I.pre o≠none→Nm ρ Ec E o:=fun o h0=>⟨by rw [hob];exact lo_ren h1 (hpi o h0),rfl,rfl⟩
 have hmc:Mem M w0 Ec:=(Mem.nm (E:=Ec) (E':=E) rfl rfl h1 c1 rfl hnm hob).2 hm
 refine (h M w0 Ec vs rfl hmc (by simpa using hl) (fun j x u hx hu=>?_)).mono ?_
 ·have:=hs j (Sy.ren ρ x) u (by rw [List.getElem?_map,hx];rfl) hu
  exact (Sees1.nm (E:=Ec) (E':=E) rfl rfl fun o ho=>hnm o (ha x (List.mem_of_getElem? hx) o ho)).2 this
 ·rintro y w' ⟨E',v,rfl,rfl,hob',hm',haf,hres⟩
  let E2:Env:=⟨E'.w,E'.F,fun q=>E'.β (π q),fun q=>E'.ν (π q),lo (renL ρ I.post)⟩
  have hpi2:∀ o,lo I.post o≠none→π (ρ o)=o:=fun o h0=>by
   obtain ⟨x,hx⟩:=Option.ne_none_iff_exists'.1 h0
   exact h2 _ (mem_of_lo hx)
  have hnm2:∀ o,lo I.post o≠none→Nm ρ E' E2 o:=fun o h0=>⟨by rw [hob'];exact lo_ren h2 (hpi2 o h0),by show E'.β (π (ρ o))=_;rw [hpi2 o h0],by show E'.ν (π (ρ o))=_;rw [hpi2 o h0]⟩
  refine ⟨E2,v,rfl,rfl,rfl,(Mem.nm (E:=E') (E':=E2) rfl rfl h2 c2 hob' hnm2 rfl).1 hm',⟨haf.sub,haf.old,fun q h0=>?_⟩,Sees.nm (E:=E') (E':=E2) rfl rfl (fun o ho=>hnm2 o (hr o ho)) hres⟩
  obtain ⟨x,hx⟩:=Option.ne_none_iff_exists'.1 h0
  rw [hob] at hx
  obtain ⟨e1,z,hz,rfl⟩:=lo_ren_inv h1 hx
  obtain ⟨o,ho⟩:∃ o,π q=o:=⟨_,rfl⟩
  rw [ho] at e1 hz
  subst e1
  have hne:lo I.pre o≠none:=by rw [hz];simp
  obtain ⟨a1,a2,a3⟩:=haf.obj o (by show lo I.pre o≠none;exact hne)
  rw [hob'] at a1
  obtain ⟨n1,n2,n3⟩:=hnm2 o a1
  obtain ⟨m1,m2,m3⟩:=hnm o hne
  refine ⟨by rw [n1,hob'];simpa using a1,fun t cs hh=>?_,fun e s n k cs hh=>?_⟩
  ·rw [n1] at hh
   cases hy:E'.ob o with
   | none=>rw [hy] at hh;cases hh
   | some y =>
     rw [hy] at hh;injection hh with hh
     cases y with
     | cells t0 c0 =>
       obtain ⟨⟨t1,c1',x1⟩,b1⟩:=a2 t0 c0 hy
       exact ⟨⟨t1,c1'.map (ren1 ρ),by rw [m1,x1];rfl⟩,by rw [n2,b1]⟩
     | row=>cases hh
     | gone=>cases hh
  ·rw [n1] at hh
   cases hy:E'.ob o with
   | none=>rw [hy] at hh;cases hh
   | some y =>
     rw [hy] at hh;injection hh with hh
     cases y with
     | cells=>cases hh
     | row e0 s0 n0 k0 c0 =>
       injection hh with g1 g2 g3 g4 g5;subst g1;subst g2;subst g3;subst g4;subst g5
       obtain ⟨b1,b2,b3,b4,b5,x1,x2,x3⟩:=a3 _ _ _ _ _ hy
       exact ⟨b1,b2,b3,b4,b5,by rw [m1,x1];rfl,x2,fun hk=>⟨by rw [n3,(x3 hk).1],(x3 hk).2⟩⟩
     | gone=>cases hh
end
abbrev CallF:=FuncId→List AV→List (Nat×AObj)→Option Inst
theorem hmo:Tryz.prog.follows .mixedOrders=true:=by kernel_rfl
theorem someI {k:IntKind} {e b:Int} (h:e=b):some (AV.v (.int k e))=some (AV.v (.int k b)):=by rw [h]
theorem Dt {p:Prop} [Decidable p] (h:p):decide p=true:=decide_eq_true h
theorem Df {p:Prop} [Decidable p] (h:¬p):decide p=false:=decide_eq_false h
theorem Be {x y:Int} (h:x=y):(x==y)=true:=beq_iff_eq.2 h
theorem Bn {x y:Int} (h:x≠y):(x==y)=false:=beq_eq_false_iff_ne.2 h
theorem Ne {x y:Int} (h:x≠y):(x != y)=true:=bne_iff_ne.2 h
theorem Nq {x y:Int} (h:x=y):(x != y)=false:=bne_eq_false_iff_eq.2 h
theorem Wi (z:Int) (h:-9223372036854775808≤z∧z≤9223372036854775807):IntKind.i64.wrap z=z:=IntWalk.i64_in _ h
def iz (n:Int):AV:=.v (.int .i64 n)
def uz (n:Int):AV:=.v (.int .u64 n)
def u3 (n:Nat):AV:=.v (.int .u32 (n:Int))
def bz (b:Bool):AV:=.v (.bool b)
end Go.Proofs.YtfhmaincnlaapaaGreat.Sy
