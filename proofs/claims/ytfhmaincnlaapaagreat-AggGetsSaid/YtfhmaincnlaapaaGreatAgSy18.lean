/- RUNNING ON GIVEN VALUES: regions, code, functions. -/
import Derived.Test.YtfhmaincnlaapaaGreatAgRefTwice
namespace Go.Proofs.YtfhmaincnlaapaaGreat.Sy
open Go.ChangeShapes Go.WideShapes Go.ChangeAt Go.RowKit
set_option linter.unusedVariables false
def sub1 (q k n:Nat) (cs:List AV):AV→AV
 | .row o v=>bif Nat.beq o q&&Nat.beq v k then .lst n cs else .row o v
 | x=>x
def subA (q k n:Nat) (cs:List AV):AV→AV
 | .agg l=>.agg (l.map (sub1 q k n cs))
 | x=>sub1 q k n cs x
def subT (q k n:Nat) (cs:List AV):AV→AV
 | .tup l=>.tup (l.map (subA q k n cs))
 | x=>subA q k n cs x
def subO (q k n:Nat) (cs:List AV):AObj→AObj
 | .cells t l=>.cells t (l.map (sub1 q k n cs))
 | x=>x
def freeze (q:Nat) (σ:AS):AS :=
 match lo σ.O q with
 | some (.row e s n k cs)=>⟨σ.S.map (fun p=>(p.1,subT q k n cs p.2)),(q,.gone) :: σ.O.map (fun p=>(p.1,subO q k n cs p.2)),σ.nt,σ.pk⟩
 | _=>σ
theorem lk_map (g:AV→AV) (hj:g .junk=.junk) (l:List (Nat×AV)) (t:Nat):lk (l.map fun p=>(p.1,g p.2)) t=g (lk l t):=by
 induction l with
 | nil=>exact hj.symm
 | cons p l ih =>
   obtain ⟨k,x⟩:=p
   by_cases h:t=k
   ·subst h;simp only [List.map_cons];rw [lk_eq,lk_eq]
   ·simp only [List.map_cons];rw [lk_ne _ _ h,lk_ne _ _ h];exact ih
theorem lo_map (g:AObj→AObj) (l:List (Nat×AObj)) (t:Nat):lo (l.map fun p=>(p.1,g p.2)) t=(lo l t).map g:=by
 induction l with
 | nil=>rfl
 | cons p l ih =>
   obtain ⟨k,x⟩:=p
   by_cases h:t=k
   ·subst h;simp only [List.map_cons];rw [lo_eq,lo_eq];rfl
   ·simp only [List.map_cons];rw [lo_ne _ _ h,lo_ne _ _ h];exact ih
theorem St.freeze {M:Cx} {w0:World} {σ:AS} {a:Act} {w:World} (h:St M w0 σ a w) (q:Nat):St M w0 (freeze q σ) a w:=by
 unfold Sy.freeze
 split
 ·rename_i e s n k cs hq
  obtain ⟨E,rfl,hN⟩:=h
  have hqE:E.ob q=some (.row e s n k cs):=by rw [hN.ob];exact hq
  let E':Env:=⟨E.w,fun b=>E.F b∨(E.ν q).ownBlock=some b,E.β,E.ν,lo ((q,.gone) :: σ.O.map (fun p=>(p.1,subO q k n cs p.2)))⟩
  have hbkq:∀ b,(E.ν q).ownBlock=some b→bk E q=some b:=fun b hb=>by unfold bk;rw [hqE];exact hb
  have hob1:E'.ob q=some .gone:=lo_eq _ _ _
  have hob2:∀ o,o≠q→E'.ob o=(E.ob o).map (subO q k n cs):=fun o ho=>by
   show lo ((q,.gone) :: σ.O.map (fun p=>(p.1,subO q k n cs p.2))) o=_
   rw [lo_ne _ _ ho,lo_map,hN.ob]
  have hrep:=rep_row hN.mem hqE E'.F (fun b hb=>.inl hb) (fun b hb=>.inr hb)
  have hlat:∀ o,Later E E' o:=fun o h0=>by
   by_cases ho:o=q
   ·subst ho;exact ⟨by rw [hob1];simp,fun t l hh=>(by rw [hob1] at hh;cases hh),fun e s n k l hh=>(by rw [hob1] at hh;cases hh)⟩
   ·rw [hob2 o ho]
    cases hx:E.ob o with
    | none=>exact absurd hx h0
    | some x =>
      refine ⟨by simp,fun t l hh=>?_,fun e s n k l hh=>?_⟩
      ·cases x with
       | cells t0 l0=>exact ⟨⟨t0,l0,rfl⟩,rfl⟩
       | row=>cases hh
       | gone=>cases hh
      ·cases x with
       | cells t0 l0=>cases hh
       | row e0 s0 n0 k0 l0=>simp only [Option.map_some,subO] at hh;injection hh with hh;injection hh with h1 h2 h3 h4 h5;subst h1;subst h2;subst h3;subst h4;subst h5;exact ⟨_,_,_,_,_,rfl,Nat.le_refl _,fun _=>⟨rfl,rfl⟩⟩
       | gone=>cases hh
  have hleaf:∀ (haft:After E E') (x:AV) (u:Value),Leaf E x u→Leaf E' (sub1 q k n cs x) u:=fun haft x u hx=>by
   cases x with
   | row o v =>
     show Leaf E' (bif Nat.beq o q&&Nat.beq v k then .lst n cs else .row o v) u
     rw [Bool.cond_eq_ite]
     split
     ·rename_i hh
      rw [Bool.and_eq_true,Nat.beq_eq,Nat.beq_eq] at hh
      obtain ⟨rfl,rfl⟩:=hh
      rw [(hx.2 _ _ _ _ _ hqE).2 rfl]
      exact hrep
     ·exact Leaf.after haft hx
   | _=>exact Leaf.after haft hx
  have hsub:∀ (haft:After E E') (x:AV) (u:Value),Sees E x u→Sees E' (subT q k n cs x) u:=fun haft x u hx=>by
   have hcells:∀ (l:List AV) (us:List Value),Leafs E l us→Leafs E' (l.map (sub1 q k n cs)) us:=fun l us hl=>by
    refine ⟨by rw [hl.1];simp,fun j y v hy hv=>?_⟩
    rw [List.getElem?_map] at hy
    cases hc:l[j]? with
    | none=>rw [hc] at hy;cases hy
    | some z=>rw [hc] at hy;injection hy with hy;subst hy;exact ⟨hleaf haft z v (hl.2 j z v hc hv).1,(hl.2 j z v hc hv).2⟩
   have hone:∀ (x:AV) (u:Value),Sees1 E x u→Sees1 E' (subA q k n cs x) u:=fun x u hx=>by
    cases x with
    | agg l=>obtain ⟨us,e,hl⟩:=hx;exact ⟨us,e,hcells l us hl⟩
    | v y=>exact Sees1.leaf (hleaf haft (.v y) u hx)
    | lst m l=>exact Sees1.leaf (hleaf haft (.lst m l) u hx)
    | tup l=>exact Sees1.leaf (hleaf haft (.tup l) u hx)
    | opt b y=>exact Sees1.leaf (hleaf haft (.opt b y) u hx)
    | fk k=>exact Sees1.leaf (hleaf haft (.fk k) u hx)
    | row o v=>exact Sees1.leaf (hleaf haft (.row o v) u hx)
    | ptr o v=>exact Sees1.leaf (hleaf haft (.ptr o v) u hx)
    | fptr l v=>exact Sees1.leaf (hleaf haft (.fptr l v) u hx)
    | rptr o v f=>exact Sees1.leaf (hleaf haft (.rptr o v f) u hx)
    | junk=>trivial
   cases x with
   | tup l =>
     obtain ⟨us,e,hl,hs⟩:=hx
     refine ⟨us,e,by rw [hl];simp,fun j y v hy hv=>?_⟩
     rw [List.getElem?_map] at hy
     cases hc:l[j]? with
     | none=>rw [hc] at hy;cases hy
     | some z=>rw [hc] at hy;injection hy with hy;subst hy;exact hone z v (hs j z v hc hv)
   | opt b y=>exact Sees.after haft hx
   | agg l=>exact hone (.agg l) u hx
   | v y=>exact Sees.sees1 (hone (.v y) u hx)
   | lst m l=>exact Sees.sees1 (hone (.lst m l) u hx)
   | fk k=>exact Sees.sees1 (hone (.fk k) u hx)
   | row o v=>exact Sees.sees1 (hone (.row o v) u hx)
   | ptr o v=>exact Sees.sees1 (hone (.ptr o v) u hx)
   | fptr l v=>exact Sees.sees1 (hone (.fptr l v) u hx)
   | rptr o v f=>exact Sees.sees1 (hone (.rptr o v f) u hx)
   | junk=>trivial
  obtain ⟨hm,haft⟩:=hN.mem.step (E':=E') (fun _=>True) rfl rfl rfl (Nat.le_refl _) (fun _ _ _=>rfl) (fun b hb=>.inl hb)
   (fun b hb=>by
    rcases hb with hb|hb
    ·exact .inl hb
    ·exact .inr ⟨(hN.mem.live q b (hbkq b hb)).2.1,.inr ⟨q,trivial,hbkq b hb⟩⟩)
   (fun o ho=>absurd trivial ho) (fun o _=>hlat o)
   (fun haft o x _ hx=>by
    by_cases ho:o=q
    ·subst ho;rw [hob1] at hx;injection hx with hx;subst hx;trivial
    ·rw [hob2 o ho] at hx
     cases hy:E.ob o with
     | none=>rw [hy] at hx;cases hx
     | some y =>
       rw [hy] at hx;injection hx with hx;subst hx
       have hok:=hN.mem.ok o y hy
       cases y with
       | gone=>trivial
       | cells t l =>
         obtain ⟨us,hb,hl⟩:=hok
         refine ⟨us,hb,by rw [hl.1];simp,fun j y v hy hv=>?_⟩
         rw [List.getElem?_map] at hy
         cases hc:l[j]? with
         | none=>rw [hc] at hy;cases hy
         | some z=>rw [hc] at hy;injection hy with hy;subst hy;exact ⟨hleaf haft z v (hl.2 j z v hc hv).1,(hl.2 j z v hc hv).2⟩
       | row e0 s0 n0 k0 l0 =>
         obtain ⟨us,hb,hs0,hl,hr⟩:=hok
         exact ⟨us,hb,hs0,hl,fun j y u hy hu=>(hr j y u hy hu).mono (fun b hb=>Or.inl hb) fun _ _=>rfl⟩)
   (fun o b _ hb=>by
    by_cases ho:o=q
    ·subst ho;unfold bk at hb;rw [hob1] at hb;cases hb
    ·have hb':bk E o=some b:=by
      unfold bk at hb ⊢
      rw [hob2 o ho] at hb
      cases hy:E.ob o with
      | none=>rw [hy] at hb;cases hb
      | some y=>rw [hy] at hb;cases y <;> first|exact hb|(cases hb;done)
     obtain ⟨l1,l2,l3⟩:=hN.mem.live o b hb'
     refine ⟨fun hf=>?_,l2,.inr ⟨o,trivial,hb'⟩⟩
     rcases hf with hf|hf
     ·exact l1 hf
     ·exact ho (hN.mem.inj o q b hb' (hbkq b hf)))
   (fun o o' b _ _ h1 h2=>by
    have key:∀ o,bk E' o=some b→bk E o=some b:=fun o hb=>by
     by_cases ho:o=q
     ·subst ho;unfold bk at hb;rw [hob1] at hb;cases hb
     ·unfold bk at hb ⊢
      rw [hob2 o ho] at hb
      cases hy:E.ob o with
      | none=>rw [hy] at hb;cases hb
      | some y=>rw [hy] at hb;cases y <;> first|exact hb|(cases hb;done)
    exact hN.mem.inj o o' b (key o h1) (key o' h2))
  exact ⟨E',rfl,hN.df,hN.sz,rfl,hm,hN.aft.trans haft,hN.pkk,fun t=>by
   rw [lk_map _ rfl];exact hsub haft _ _ (hN.sl t)⟩
 ·exact h
def ren1 (f:Nat→Nat):AV→AV
 | .row o v=>.row (f o) v
 | .ptr o k=>.ptr (f o) k
 | .rptr o v k=>.rptr (f o) v k
 | x=>x
def ren (f:Nat→Nat):AV→AV
 | .agg cs=>.agg (cs.map (ren1 f))
 | x=>ren1 f x
def renT (f:Nat→Nat):AV→AV
 | .tup l=>.tup (l.map (ren f))
 | .opt _ _=>.junk
 | x=>ren f x
def renO (f:Nat→Nat):AObj→AObj
 | .cells t cs=>.cells t (cs.map (ren1 f))
 | x=>x
def renL (f:Nat→Nat) (l:List (Nat×AObj)):List (Nat×AObj):=l.map fun p=>(f p.1,renO f p.2)
def nubN:List Nat→List Nat
 | []=>[]
 | a :: l=>bif l.any (fun b=>Nat.beq b a) then nubN l else a :: nubN l
def objRefs (O:List (Nat×AObj)) (q:Nat):List Nat:=match lo O q with|some (.cells _ cs)=>cs.flatMap refsOf1|_=>[]
def reach (O:List (Nat×AObj)):Nat→List Nat→List Nat
 | 0,l=>l
 | k+1,l=>bif Nat.beq (nubN (l++l.flatMap (objRefs O))).length l.length then l else reach O k (nubN (l++l.flatMap (objRefs O)))
def ptrsT:AV→List Nat
 | .tup l=>l.flatMap ptrsOf
 | x=>ptrsOf x
def pickO (O:List (Nat×AObj)):List Nat→Option (List (Nat×AObj))
 | []=>some []
 | q :: l=>match lo O q,pickO O l with
   | some x,some r=>some ((q,x) :: r)
   | _,_=>none
def posOf (q:Nat):List Nat→Nat
 | []=>0
 | a :: l=>bif Nat.beq a q then 0 else posOf q l+1
def nth (l:List Nat) (k:Nat):Nat:=l.getD k 0
def toC (ids:List Nat) (q:Nat):Nat:=1000+posOf q ids
def ofC (ids new:List Nat) (d q:Nat):Nat:=bif Nat.ble 1000 q&&Nat.blt (q-1000) ids.length then nth ids (q-1000) else 10000+d*100+posOf q new
section
variable {P:Program} {ob:Nat→Option AObj} {r:Res}
def idxC (ob:Nat→Option AObj) (y i:AV):Bool :=
 match i with
 | .v (.int k z)=>(match y with
   | .lst n cs=>decide (0≤z∧z<n)
   | .row q ver=>(match ob q with|some (.row _ _ n k' cs)=>decide (0≤z∧z<n)|_=>true)
   | _=>true)
 | _=>true
theorem idxC_ok {t:TypeId} {y i:AV} (hr:sIdx P ob t y i=some r) (hc:idxC ob y i=true):allP r.vc:=by
 unfold sIdx at hr
 split at hr
 ·split at hr
  ·injection hr with hr;subst hr;exact ⟨of_decide_eq_true hc,trivial⟩
  ·split at hr
   ·rename_i hq
    split at hr
    ·injection hr with hr;subst hr
     simp only [idxC,hq] at hc
     exact ⟨of_decide_eq_true hc,trivial⟩
    ·cases hr
   ·cases hr
  ·cases hr
 ·cases hr
def strC (h:Option Hint) (y i:AV):Bool :=
 match y,i,h with
 | .v (.string s),.v (.int k z),some (.val (.v (.int .u8 b)))=>decide (0≤z)&&(match s[z.toNat]? with|some c=>decide (b=c.toNat)|none=>false)
 | _,_,_=>true
theorem strC_ok {h:Option Hint} {t:TypeId} {y i:AV} (hr:sStr P h t y i=some r) (hc:strC h y i=true):allP r.vc:=by
 unfold sStr at hr
 split at hr
 ·injection hr with hr;subst hr
  simp only [strC,Bool.and_eq_true] at hc
  obtain ⟨h1,h2⟩:=hc
  split at h2
  ·rename_i c hcc;exact ⟨⟨of_decide_eq_true h1,c,hcc,of_decide_eq_true h2⟩,trivial⟩
  ·cases h2
 ·cases hr
def binC (op:BinOp) (x y:AV):Bool :=
 match x,y with
 | .v (.int _ _),.v (.int _ b)=>(match op with
   | .shl=>decide (0≤b)
   | .shr=>decide (0≤b)
   | .quo=>decide (b≠0)
   | .rem=>decide (b≠0)
   | _=>true)
 | .v (.string a),.v (.string b)=>(match op with
   | .add=>decide (((a.size+b.size:Nat):Int)≤9223372036854775807)
   | _=>true)
 | _,_=>true
theorem intV_ok {op:BinOp} {k k':IntKind} {a b:Int} {q:Value} {vc:List Prop} (hr:intV op k a b=some (q,vc)) (hc:binC op (.v (.int k a)) (.v (.int k' b))=true):allP vc:=by
 cases op <;> simp only [intV,Option.some.injEq,Prod.mk.injEq,reduceCtorEq] at hr <;> obtain ⟨rfl,rfl⟩:=hr <;> first
  | exact trivial
  | exact ⟨of_decide_eq_true hc,trivial⟩
theorem binV_ok {op:BinOp} {x y q:Value} {vc:List Prop} (hr:binV op x y=some (q,vc)) (hc:binC op (.v x) (.v y)=true):allP vc:=by
 unfold binV at hr
 split at hr
 ·split at hr
  ·injection hr with hr;injection hr with h1 h2;subst h2;exact ⟨of_decide_eq_true hc,trivial⟩
  ·injection hr with hr;injection hr with h1 h2;subst h2;exact ⟨of_decide_eq_true hc,trivial⟩
  ·split at hr
   ·exact intV_ok hr hc
   ·cases hr
 ·split at hr <;> first
   | (cases hr;done)
   | (injection hr with hr;injection hr with h1 h2;subst h2;first|exact trivial|exact ⟨of_decide_eq_true hc,trivial⟩)
 ·split at hr
  ·split at hr <;> first
    | (cases hr;done)
    | (injection hr with hr;injection hr with h1 h2;subst h2;exact trivial)
  ·cases hr
 ·cases hr
theorem sVal_none {x:AV} {vc:List Prop} (hr:sVal none x vc=some r):r.vc=vc:=by
 unfold sVal at hr;injection hr with hr;subst hr;rfl
theorem sRd_none {q:Option AV} (hr:sRd none q=some r):allP r.vc:=by
 unfold sRd at hr
 split at hr
 ·rename_i h;cases h
 ·split at hr
  ·injection hr with hr;subst hr;trivial
  ·cases hr
theorem sBin_ok {op:BinOp} {t:TypeId} {x y:AV} (hr:sBin P ob none op t x y=some r) (hc:binC op x y=true):allP r.vc:=by
 unfold sBin at hr
 split at hr
 ·unfold sNil at hr
  rw [Bool.cond_eq_ite] at hr
  split at hr
  ·split at hr <;> first|(cases hr;done)|(rw [sVal_none hr];trivial)
  ·cases hr
 ·split at hr <;> first|(cases hr;done)|(rw [sVal_none hr];trivial)
 ·split at hr
  ·rename_i q vc hq
   rw [Bool.cond_eq_ite] at hr
   split at hr
   ·rw [sVal_none hr];exact binV_ok hq hc
   ·cases hr
  ·cases hr
 ·cases hr
theorem sUn_ok {op:UnOp} {x:AV} (hr:sUn none op x=some r):allP r.vc:=by
 unfold sUn at hr
 split at hr
 ·split at hr
  ·rw [sVal_none hr];trivial
  ·cases hr
 ·cases hr
theorem sConv_ok {s d:TypeId} {x:AV} (hr:sConv P ob none s d x=some r):allP r.vc:=by
 unfold sConv at hr
 split at hr
 ·split at hr
  ·rw [sVal_none hr];trivial
  ·cases hr
 ·split at hr
  ·rw [sVal_none hr];trivial
  ·rw [Bool.cond_eq_ite] at hr
   split at hr
   ·simp only [Bool.cond_eq_ite] at hr
    split at hr
    ·injection hr with hr;subst hr;trivial
    ·cases hr
   ·cases hr
 ·split at hr
  ·rename_i h _ _;cases h
  ·cases hr
def cutC (ob:Nat→Option AObj) (y:AV) (lo hi:Option AV):Bool :=
 match y with
 | .lst n cs=>(match loN lo,hiN n hi with|some l,some h=>decide (0≤l∧l≤h∧h≤n)|_,_=>true)
 | .row q ver=>(match ob q with
   | some (.row e s n k cs)=>(match loN lo,hiN n hi with|some l,some h=>decide (l=0∧0≤h∧h≤n)|_,_=>true)
   | _=>true)
 | .v (.string s)=>(match loN lo,hiN s.size hi with|some l,some h=>decide (0≤l∧l≤h∧h≤s.size)|_,_=>true)
 | _=>true
theorem cutC_ok {t:TypeId} {y:AV} {lo hi:Option AV} (hr:sCut P ob t y lo hi=some r) (hc:cutC ob y lo hi=true):allP r.vc:=by
 unfold sCut at hr
 split at hr
 ·split at hr
  ·rename_i h1 h2 h3
   injection hr with hr;subst hr
   simp only [cutC,h2,h3] at hc
   exact ⟨of_decide_eq_true hc,trivial⟩
  ·cases hr
 ·split at hr
  ·rename_i hq
   split at hr
   ·rename_i h1 h2 h3
    split at hr
    ·injection hr with hr;subst hr
     simp only [cutC,hq,h2,h3] at hc
     exact ⟨of_decide_eq_true hc,trivial⟩
    ·cases hr
   ·cases hr
  ·cases hr
 ·split at hr
  ·rename_i h1 h2 h3
   injection hr with hr;subst hr
   simp only [cutC,h2,h3] at hc
   exact ⟨of_decide_eq_true hc,trivial⟩
  ·cases hr
 ·cases hr
def makeC (P:Program) (t:TypeId) (y z:AV):Bool :=
 match inB P t,y,z with
 | some (e,s,by_),.v (.int k a),.v (.int k' b)=>decide (b=a)&&decide (0≤a∧a*by_≤140737488355328∧a≤140737488355328)
 | _,_,_=>true
theorem makeC_ok {d:Option Nat} {t:TypeId} {y z:AV} (hr:sMake P ob d t y z=some r) (hc:makeC P t y z=true):allP r.vc:=by
 unfold sMake at hr
 split at hr
 ·rename_i hi
  split at hr
  ·injection hr with hr;subst hr
   simp only [makeC,hi,Bool.and_eq_true] at hc
   exact ⟨of_decide_eq_true hc.1,of_decide_eq_true hc.2,trivial⟩
  ·cases hr
 ·cases hr
def appC (P:Program) (ob:Nat→Option AObj) (t:TypeId) (y x:AV):Bool :=
 match inB P t,srcA ob x with
 | some (e,s,by_),some (m,cs2)=>(match y with
   | .row q ver=>(match ob q with
     | some (.row e' s' n k cs)=>decide (cs2.length=m*s)&&decide ((n+m)*by_≤140737488355328∧n+m≤140737488355328)
     | _=>true)
   | _=>decide (cs2.length=m*s)&&decide (m*by_≤140737488355328∧m≤140737488355328))
 | _,_=>true
theorem appC_ok {d:Option Nat} {t:TypeId} {y x:AV} (hr:sApp P ob d t y x=some r) (hc:appC P ob t y x=true):allP r.vc:=by
 unfold sApp at hr
 split at hr
 ·rename_i hi hs
  split at hr
  ·split at hr
   ·rename_i hq
    split at hr
    ·injection hr with hr;subst hr
     simp only [appC,hi,hs,hq,Bool.and_eq_true] at hc
     exact ⟨of_decide_eq_true hc.1,of_decide_eq_true hc.2,trivial⟩
    ·cases hr
   ·cases hr
  ·split at hr
   ·split at hr
    ·injection hr with hr;subst hr
     simp only [appC,hi,hs,Bool.and_eq_true] at hc
     exact ⟨of_decide_eq_true hc.1,of_decide_eq_true hc.2,trivial⟩
    ·cases hr
   ·cases hr
  ·cases hr
 ·cases hr
def storeC (ob:Nat→Option AObj) (y x:AV):Bool :=
 match y,cellsA ob x with
 | .rptr q ver off,some xs=>(match ob q with|some (.row e s n k' cs)=>Nat.ble (off+xs.length) cs.length|_=>true)
 | _,_=>true
theorem storeC_ok {t:TypeId} {y x:AV} (hr:sStore P ob t y x=some r) (hc:storeC ob y x=true):allP r.vc:=by
 unfold sStore at hr
 split at hr
 ·rename_i hx
  split at hr
  ·rename_i hq
   split at hr
   ·injection hr with hr;subst hr
    simp only [storeC,hx,hq,Nat.ble_eq] at hc
    exact ⟨hc,trivial⟩
   ·cases hr
  ·cases hr
 ·split at hr
  ·split at hr
   ·injection hr with hr;subst hr;trivial
   ·cases hr
  ·cases hr
 ·cases hr
theorem sMin_ok {mx:Bool} {x y:AV} (hr:sMin mx none x y=some r):allP r.vc:=by
 unfold sMin at hr
 split at hr
 ·split at hr
  ·rw [sVal_none hr];trivial
  ·cases hr
 ·cases hr
def chkE (P:Program) (o:Oper) (h:Option Hint) (g:Operand→AV) (ob:Nat→Option AObj):Bool :=
 match o.op with
 | .store t y x=>storeC ob (g y) (g x)
 | .indexAddr t y i=>idxC ob (g y) (g i)
 | .index t y i=>strC h (g y) (g i)
 | .binOp op xt x y _=>binC op (g x) (g y)
 | .slice t y lo hi none=>cutC ob (g y) (lo.map g) (hi.map g)
 | .makeSlice t y z=>makeC P t (g y) (g z)
 | .call c=>(match c.callee,c.args.toList,c.argTypes.toList with
   | .builtin .append,[y,x],[t,t']=>appC P ob t (g y) (g x)
   | _,_,_=>true)
 | _=>true
def hintB (o:Oper) (h:Option Hint):Bool :=
 match o.op with
 | .call c=>(match c.callee with | .value (.func f)=>true|_=>h.isNone)
 | .index _ _ _=>true
 | _=>h.isNone
def isCall (o:Oper):Option FuncId :=
 match o.op with
 | .call c=>(match c.callee with | .value (.func f)=>some f|_=>none)
 | _=>none
theorem chkE_ok {o:Oper} {h:Option Hint} {g:Operand→AV} (hr:stepE P o h g ob=some r) (hc:chkE P o h g ob=true) (hh:hintB o h=true)
 (hcall:∀ f I,isCall o=some f→h=some (.call I)→FnOk P f I∧(∀ args,(∃ c,o.op=.call c∧args=c.args.toList.map g)→lsEq (args.map (adapt ob)) I.args)∧allP (preVc ob I.pre)):allP r.vc:=by
 have hn:∀ {q:Option Hint},q.isNone=true→q=none:=fun hq=>Option.isNone_iff_eq_none.1 hq
 unfold stepE at hr
 unfold chkE at hc
 unfold hintB at hh
 split at hr <;> rename_i ho <;> simp only [ho] at hc hh
 ·rw [hn hh] at hr;rw [sVal_none hr];trivial
 ·rw [hn hh] at hr;rw [sVal_none hr];trivial
 ·split at hr
  ·rw [hn hh] at hr;rw [sVal_none hr];trivial
  ·cases hr
 ·split at hr
  ·rw [hn hh] at hr;exact sRd_none hr
  ·cases hr
 ·exact storeC_ok hr hc
 ·split at hr
  ·injection hr with hr;subst hr;trivial
  ·cases hr
 ·exact idxC_ok hr hc
 ·exact strC_ok hr hc
 ·split at hr
  ·injection hr with hr;subst hr;trivial
  ·cases hr
 ·split at hr
  ·rw [hn hh] at hr;exact sRd_none hr
  ·cases hr
 ·split at hr
  ·split at hr
   ·rw [hn hh] at hr;rw [sVal_none hr];trivial
   ·cases hr
  ·cases hr
 ·rw [hn hh] at hr;exact sBin_ok hr hc
 ·rw [hn hh] at hr;exact sUn_ok hr
 ·rw [hn hh] at hr;exact sConv_ok hr
 ·exact cutC_ok hr hc
 ·exact makeC_ok hr hc
 ·unfold sBox at hr
  split at hr
  ·split at hr
   ·injection hr with hr;subst hr;trivial
   ·cases hr
  ·cases hr
 ·unfold sAlloc at hr
  split at hr
  ·split at hr
   ·injection hr with hr;subst hr;trivial
   ·cases hr
  ·cases hr
 ·unfold sBuild at hr
  split at hr
  ·split at hr
   ·injection hr with hr;subst hr;trivial
   ·cases hr
  ·cases hr
 ·unfold sBuildSlice at hr
  split at hr
  ·split at hr
   ·split at hr
    ·split at hr
     ·injection hr with hr;subst hr;trivial
     ·cases hr
    ·cases hr
   ·cases hr
  ·cases hr
 ·rename_i c
  split at hr
  ·rename_i hcal h1 h2
   simp only [hcal] at hh
   rw [hn hh] at hr
   split at hr
   ·rw [sVal_none hr];trivial
   ·cases hr
  ·rename_i hcal h1
   simp only [hcal] at hh
   rw [hn hh] at hr;exact sMin_ok hr
  ·rename_i hcal h1
   simp only [hcal] at hh
   rw [hn hh] at hr;exact sMin_ok hr
  ·rename_i hcal h1 h2
   simp only [hcal,h1,h2] at hc
   split at hr
   ·exact appC_ok hr hc
   ·cases hr
  ·rename_i f hcal
   unfold sCall at hr
   split at hr
   ·rename_i I
    rw [Bool.cond_eq_ite] at hr
    split at hr
    ·injection hr with hr;subst hr
     obtain ⟨h1,h2,h3⟩:=hcall f I (by unfold isCall;simp only [ho,hcal]) rfl
     exact ⟨h2 _ ⟨_,ho,rfl⟩,h1,h3⟩
    ·cases hr
   ·cases hr
  ·rename_i t0 hcal
   simp only [hcal] at hh
   split at hr
   ·rw [hn hh] at hr;cases hr
   ·cases hr
  ·cases hr
 ·cases hr
end
section
variable {ρ π:Nat→Nat}
def Nm (ρ:Nat→Nat) (E E':Env) (o:Nat):Prop:=E'.ob (ρ o)=(E.ob o).map (renO ρ)∧E'.β (ρ o)=E.β o∧E'.ν (ρ o)=E.ν o
theorem Leaf.nm {E E':Env} (hw:E'.w=E.w) (hF:E'.F=E.F) {x:AV} {u:Value} (ho:∀ o ∈ refsOf1 x,Nm ρ E E' o):Leaf E x u↔Leaf E' (ren1 ρ x) u:=by
 cases x with
 | v y=>exact Iff.rfl
 | lst n cs=>unfold ren1 Leaf;rw [hw,hF]
 | agg=>exact Iff.rfl
 | tup=>exact Iff.rfl
 | opt=>exact Iff.rfl
 | fk=>exact Iff.rfl
 | junk=>exact Iff.rfl
 | fptr cs off=>unfold ren1 Leaf;rw [hw,hF]
 | ptr o off =>
   obtain ⟨h1,h2,h3⟩:=ho o (by simp [refsOf1])
   simp only [ren1,Leaf]
   rw [h1,h2]
   cases E.ob o with
   | none=>simp
   | some y=>cases y <;> simp [renO]
 | row o ver =>
   obtain ⟨h1,h2,h3⟩:=ho o (by simp [refsOf1])
   simp only [ren1,Leaf]
   rw [h1,h3]
   cases E.ob o with
   | none=>simp
   | some y=>cases y <;> simp [renO]
 | rptr o ver off =>
   obtain ⟨h1,h2,h3⟩:=ho o (by simp [refsOf1])
   simp only [ren1,Leaf]
   rw [h1,h3]
   cases E.ob o with
   | none=>simp
   | some y=>cases y <;> simp [renO]
theorem Leafs.nm {E E':Env} (hw:E'.w=E.w) (hF:E'.F=E.F) {cs:List AV} {us:List Value} (ho:∀ o ∈ cs.flatMap refsOf1,Nm ρ E E' o):Leafs E cs us↔Leafs E' (cs.map (ren1 ρ)) us:=by
 constructor
 ·rintro ⟨hl,hs⟩
  refine ⟨by simpa using hl,fun j y v hy hv=>?_⟩
  rw [List.getElem?_map] at hy
  cases hc:cs[j]? with
  | none=>rw [hc] at hy;cases hy
  | some z=>rw [hc] at hy;injection hy with hy;subst hy;exact ⟨(Leaf.nm hw hF fun o h=>ho o (List.mem_flatMap.2 ⟨z,List.mem_of_getElem? hc,h⟩)).1 (hs j z v hc hv).1,(hs j z v hc hv).2⟩
 ·rintro ⟨hl,hs⟩
  refine ⟨by simpa using hl,fun j z v hc hv=>?_⟩
  obtain ⟨h1,h2⟩:=hs j (ren1 ρ z) v (by rw [List.getElem?_map,hc];rfl) hv
  exact ⟨(Leaf.nm hw hF fun o h=>ho o (List.mem_flatMap.2 ⟨z,List.mem_of_getElem? hc,h⟩)).2 h1,h2⟩
theorem Sees1.nm {E E':Env} (hw:E'.w=E.w) (hF:E'.F=E.F) {x:AV} {u:Value} (ho:∀ o ∈ refsL x,Nm ρ E E' o):Sees1 E x u↔Sees1 E' (ren ρ x) u:=by
 cases x with
 | agg cs =>
   constructor
   ·rintro ⟨us,e,hl⟩;exact ⟨us,e,(Leafs.nm hw hF ho).1 hl⟩
   ·rintro ⟨us,e,hl⟩;exact ⟨us,e,(Leafs.nm hw hF ho).2 hl⟩
 | v y=>exact Leaf.nm (x:=.v y) hw hF ho
 | lst m l=>exact Leaf.nm (x:=.lst m l) hw hF ho
 | tup l=>exact Iff.rfl
 | opt=>exact Iff.rfl
 | fk=>exact Iff.rfl
 | row o v=>exact Leaf.nm (x:=.row o v) hw hF ho
 | ptr o v=>exact Leaf.nm (x:=.ptr o v) hw hF ho
 | fptr l v=>exact Leaf.nm (x:=.fptr l v) hw hF ho
 | rptr o v f=>exact Leaf.nm (x:=.rptr o v f) hw hF ho
 | junk=>exact Iff.rfl
def refsT:AV→List Nat
 | .tup l=>l.flatMap refsL
 | x=>refsL x
theorem Sees.nm {E E':Env} (hw:E'.w=E.w) (hF:E'.F=E.F) {x:AV} {u:Value} (ho:∀ o ∈ refsT x,Nm ρ E E' o) (hx:Sees E x u):Sees E' (renT ρ x) u:=by
 cases x with
 | tup l =>
   obtain ⟨us,e,hl,hs⟩:=hx
   refine ⟨us,e,by simpa using hl,fun j y v hy hv=>?_⟩
   rw [List.getElem?_map] at hy
   cases hc:l[j]? with
   | none=>rw [hc] at hy;cases hy
   | some z=>rw [hc] at hy;injection hy with hy;subst hy;exact (Sees1.nm hw hF fun o h=>ho o (List.mem_flatMap.2 ⟨z,List.mem_of_getElem? hc,h⟩)).1 (hs j z v hc hv)
 | opt=>trivial
 | fk=>exact hx
 | agg cs=>exact (Sees1.nm (x:=.agg cs) hw hF ho).1 hx
 | v y=>exact hx
 | lst m l=>exact (Sees1.nm (x:=.lst m l) hw hF ho).1 hx
 | row o v=>exact (Sees1.nm (x:=.row o v) hw hF ho).1 hx
 | ptr o v=>exact (Sees1.nm (x:=.ptr o v) hw hF ho).1 hx
 | fptr l v=>exact (Sees1.nm (x:=.fptr l v) hw hF ho).1 hx
 | rptr o v f=>exact (Sees1.nm (x:=.rptr o v f) hw hF ho).1 hx
 | junk=>trivial
theorem lo_ren {l:List (Nat×AObj)} (hl:∀ p ∈ l,π (ρ p.1)=p.1) {q:Nat} (hq:π (ρ q)=q):lo (renL ρ l) (ρ q)=(lo l q).map (renO ρ):=by
 induction l with
 | nil=>rfl
 | cons p l ih =>
   obtain ⟨k,x⟩:=p
   have hk:=hl (k,x) (by simp)
   by_cases h:q=k
   ·subst h;show lo ((ρ q,renO ρ x) :: renL ρ l) (ρ q)=_;rw [lo_eq,lo_eq];rfl
   ·show lo ((ρ k,renO ρ x) :: renL ρ l) (ρ q)=_
    rw [lo_ne _ _ (fun e=>h (by rw [← hq,e,hk])),lo_ne _ _ h]
    exact ih fun p hp=>hl p (by simp [hp])
theorem lo_ren_inv {l:List (Nat×AObj)} (hl:∀ p ∈ l,π (ρ p.1)=p.1) {q:Nat} {x:AObj} (h:lo (renL ρ l) q=some x):ρ (π q)=q∧∃ y,lo l (π q)=some y∧x=renO ρ y:=by
 have hm:=mem_of_lo h
 obtain ⟨⟨k,y⟩,hp,he⟩:=List.mem_map.1 hm
 injection he with h1 h2
 have hk:=hl _ hp
 simp only at h1 hk
 subst h1
 rw [hk]
 refine ⟨rfl,?_⟩
 rw [lo_ren hl hk] at h
 cases hy:lo l k with
 | none=>rw [hy] at h;cases h
 | some z=>rw [hy] at h;injection h with h;exact ⟨z,rfl,h.symm⟩
theorem Mem.nm {M:Cx} {w0:World} {E E':Env} {l:List (Nat×AObj)} (hw:E'.w=E.w) (hF:E'.F=E.F) (hl:∀ p ∈ l,π (ρ p.1)=p.1) (hcl:closedB l=true) (ho:E.ob=lo l) (hn:∀ o,lo l o≠none→Nm ρ E E' o) (ho':E'.ob=lo (renL ρ l)):Mem M w0 E↔Mem M w0 E':=by
 have hr:∀ o t cs,lo l o=some (.cells t cs)→∀ q ∈ cs.flatMap refsOf1,Nm ρ E E' q:=fun o t cs h q hq=>by
  have h1:=List.all_eq_true.1 hcl _ (mem_of_lo h)
  obtain ⟨y,hy,hyq⟩:=List.mem_flatMap.1 hq
  have h2:=List.all_eq_true.1 (List.all_eq_true.1 h1 y hy) q hyq
  exact hn q (fun h0=>by rw [h0] at h2;cases h2)
 have hok:∀ o x,lo l o=some x→(ObjOk E 0 o x↔ObjOk E' 0 (ρ o) (renO ρ x)):=fun o x hx=>by
  obtain ⟨n1,n2,n3⟩:=hn o (by rw [hx];simp)
  cases x with
  | gone=>exact Iff.rfl
  | cells t cs =>
    unfold ObjOk renO
    simp only
    rw [n2,hw]
    constructor
    ·rintro ⟨us,hb,hl⟩;exact ⟨us,hb,(Leafs.nm hw hF (hr o t cs hx)).1 hl⟩
    ·rintro ⟨us,hb,hl⟩;exact ⟨us,hb,(Leafs.nm hw hF (hr o t cs hx)).2 hl⟩
  | row e s n k cs=>unfold ObjOk renO;simp only;rw [n3,hw,hF]
 have hbk:∀ o,lo l o≠none→bk E' (ρ o)=bk E o:=fun o h0=>by
  obtain ⟨n1,n2,n3⟩:=hn o h0
  unfold bk
  rw [n1,n2,n3]
  cases E.ob o with
  | none=>rfl
  | some y=>cases y <;> rfl
 have hin:∀ o b,bk E o=some b→lo l o≠none:=fun o b h h0=>by unfold bk at h;rw [ho,h0] at h;cases h
 have hin':∀ o b,bk E' o=some b→∃ q,lo l q≠none∧o=ρ q:=fun o b h=>by
  unfold bk at h
  cases hx:E'.ob o with
  | none=>rw [hx] at h;cases h
  | some x =>
    rw [ho'] at hx
    obtain ⟨h1,y,hy,_⟩:=lo_ren_inv hl hx
    exact ⟨π o,by rw [hy];simp,h1.symm⟩
 have hpi:∀ o,lo l o≠none→π (ρ o)=o:=fun o h0=>by
  obtain ⟨x,hx⟩:=Option.ne_none_iff_exists'.1 h0
  exact hl _ (mem_of_lo hx)
 constructor
 ·intro h
  refine ⟨by rw [hw];exact h.chg,by rw [hF];exact h.org,by rw [hF,hw];exact h.fz,fun o x hx=>?_,fun o b hb=>?_,fun o o' b h1 h2=>?_⟩
  ·rw [ho'] at hx
   obtain ⟨h1,y,hy,rfl⟩:=lo_ren_inv hl hx
   rw [← h1]
   exact (hok _ y hy).1 (h.ok _ y (by rw [ho];exact hy))
  ·obtain ⟨q,hq,rfl⟩:=hin' o b hb
   rw [hbk q hq] at hb
   rw [hF,hw];exact h.live q b hb
  ·obtain ⟨q,hq,rfl⟩:=hin' o b h1
   obtain ⟨q',hq',rfl⟩:=hin' o' b h2
   rw [hbk q hq] at h1;rw [hbk q' hq'] at h2
   rw [h.inj q q' b h1 h2]
 ·intro h
  refine ⟨by rw [← hw];exact h.chg,by rw [← hF];exact h.org,by rw [← hF,← hw];exact h.fz,fun o x hx=>?_,fun o b hb=>?_,fun o o' b h1 h2=>?_⟩
  ·rw [ho] at hx
   refine (hok o x hx).2 (h.ok _ _ ?_)
   rw [(hn o (by rw [hx];simp)).1,ho,hx];rfl
  ·have h0:=hin o b hb
   rw [← hbk o h0] at hb
   rw [← hF,← hw];exact h.live _ b hb
  ·have h3:=hin o b h1
   have h4:=hin o' b h2
   rw [← hbk o h3] at h1;rw [← hbk o' h4] at h2
   have:=congrArg π (h.inj _ _ b h1 h2)
   rw [hpi o h3,hpi o' h4] at this;exact this
theorem FnOk.ren {P:Program} {f:FuncId} {I:Inst} (h:FnOk P f I) (h1:∀ p ∈ I.pre,π (ρ p.1)=p.1) (h2:∀ p ∈ I.post,π (ρ p.1)=p.1) (c1:closedB I.pre=true) (c2:closedB I.post=true)
 (ha:∀ x ∈ I.args,∀ o ∈ refsL x,lo I.pre o≠none) (hr:∀ o ∈ refsT I.res,lo I.post o≠none):FnOk P f ⟨I.args.map (Sy.ren ρ),renL ρ I.pre,renT ρ I.res,renL ρ I.post⟩:=by
 intro M w0 E vs hob hm hl hs
 let Ec:Env:=⟨E.w,E.F,fun o=>E.β (ρ o),fun o=>E.ν (ρ o),lo I.pre⟩
 have hpi:∀ o,lo I.pre o≠none→π (ρ o)=o:=fun o h0=>by
  obtain ⟨x,hx⟩:=Option.ne_none_iff_exists'.1 h0
  exact h1 _ (mem_of_lo hx)
 have hnm:∀ o,lo I.pre o≠none→Nm ρ Ec E o:=fun o h0=>⟨by rw [hob];exact lo_ren h1 (hpi o h0),rfl,rfl⟩
 have hmc:Mem M w0 Ec:=(Mem.nm (E:=Ec) (E':=E) rfl rfl h1 c1 rfl hnm hob).2 hm
 refine (h M w0 Ec vs rfl hmc (by simpa using hl) (fun j x u hx hu=>?_)).mono ?_
 ·have:=hs j (Sy.ren ρ x) u (by rw [List.getElem?_map,hx];rfl) hu
  exact (Sees1.nm (E:=Ec) (E':=E) rfl rfl fun o ho=>hnm o (ha x (List.mem_of_getElem? hx) o ho)).2 this
 ·rintro y w' ⟨E',v,rfl,rfl,hob',hm',haf,hres⟩
  let E2:Env:=⟨E'.w,E'.F,fun q=>E'.β (π q),fun q=>E'.ν (π q),lo (renL ρ I.post)⟩
  have hpi2:∀ o,lo I.post o≠none→π (ρ o)=o:=fun o h0=>by
   obtain ⟨x,hx⟩:=Option.ne_none_iff_exists'.1 h0
   exact h2 _ (mem_of_lo hx)
  have hnm2:∀ o,lo I.post o≠none→Nm ρ E' E2 o:=fun o h0=>⟨by rw [hob'];exact lo_ren h2 (hpi2 o h0),by show E'.β (π (ρ o))=_;rw [hpi2 o h0],by show E'.ν (π (ρ o))=_;rw [hpi2 o h0]⟩
  refine ⟨E2,v,rfl,rfl,rfl,(Mem.nm (E:=E') (E':=E2) rfl rfl h2 c2 hob' hnm2 rfl).1 hm',⟨haf.sub,haf.old,fun q h0=>?_⟩,Sees.nm (E:=E') (E':=E2) rfl rfl (fun o ho=>hnm2 o (hr o ho)) hres⟩
  obtain ⟨x,hx⟩:=Option.ne_none_iff_exists'.1 h0
  rw [hob] at hx
  obtain ⟨e1,z,hz,rfl⟩:=lo_ren_inv h1 hx
  obtain ⟨o,ho⟩:∃ o,π q=o:=⟨_,rfl⟩
  rw [ho] at e1 hz
  subst e1
  have hne:lo I.pre o≠none:=by rw [hz];simp
  obtain ⟨a1,a2,a3⟩:=haf.obj o (by show lo I.pre o≠none;exact hne)
  rw [hob'] at a1
  obtain ⟨n1,n2,n3⟩:=hnm2 o a1
  obtain ⟨m1,m2,m3⟩:=hnm o hne
  refine ⟨by rw [n1,hob'];simpa using a1,fun t cs hh=>?_,fun e s n k cs hh=>?_⟩
  ·rw [n1] at hh
   cases hy:E'.ob o with
   | none=>rw [hy] at hh;cases hh
   | some y =>
     rw [hy] at hh;injection hh with hh
     cases y with
     | cells t0 c0 =>
       obtain ⟨⟨t1,c1',x1⟩,b1⟩:=a2 t0 c0 hy
       exact ⟨⟨t1,c1'.map (ren1 ρ),by rw [m1,x1];rfl⟩,by rw [n2,b1]⟩
     | row=>cases hh
     | gone=>cases hh
  ·rw [n1] at hh
   cases hy:E'.ob o with
   | none=>rw [hy] at hh;cases hh
   | some y =>
     rw [hy] at hh;injection hh with hh
     cases y with
     | cells=>cases hh
     | row e0 s0 n0 k0 c0 =>
       injection hh with g1 g2 g3 g4 g5;subst g1;subst g2;subst g3;subst g4;subst g5
       obtain ⟨b1,b2,b3,b4,b5,x1,x2,x3⟩:=a3 _ _ _ _ _ hy
       exact ⟨b1,b2,b3,b4,b5,by rw [m1,x1];rfl,x2,fun hk=>⟨by rw [n3,(x3 hk).1],(x3 hk).2⟩⟩
     | gone=>cases hh
end
abbrev CallF:=FuncId→List AV→List (Nat×AObj)→Option Inst
def objIds (O:List (Nat×AObj)):List Nat:=O.flatMap fun p=>p.1 :: (match p.2 with | .cells _ cs=>cs.flatMap refsOf1|_=>[])
def piC (ids new:List Nat) (d q:Nat):Nat:=nth (ids.map (toC ids)++new) (posOf q ((ids.map (toC ids)++new).map (ofC ids new d)))
def callOk (args:List AV) (ids:List Nat) (pre:List (Nat×AObj)) (d:Nat) (I:Inst):Bool :=
 ((args.flatMap refsL++objIds pre).all fun o=>Nat.beq (ofC ids (I.post.map (·.1)) d (toC ids o)) o) &&
 ((I.pre.all fun p=>Nat.beq (piC ids (I.post.map (·.1)) d (ofC ids (I.post.map (·.1)) d p.1)) p.1) &&
 ((I.post.all fun p=>Nat.beq (piC ids (I.post.map (·.1)) d (ofC ids (I.post.map (·.1)) d p.1)) p.1) &&
 (closedB I.pre&&(closedB I.post&&(((I.args.flatMap refsL).all fun o=>(lo I.pre o).isSome)&&((refsT I.res).all fun o=>(lo I.post o).isSome))))))
def evCall (call:CallF) (O:List (Nat×AObj)) (d:Nat) (f:FuncId) (args:List AV) (ids:List Nat) (pre:List (Nat×AObj)):Option Inst :=
 match call f ((args.map (adapt (lo O))).map (ren (toC ids))) (renL (toC ids) pre) with
 | some I=>bif callOk (args.map (adapt (lo O))) ids pre d I then some ⟨args.map (adapt (lo O)),pre,renT (ofC ids (I.post.map (·.1)) d) I.res,renL (ofC ids (I.post.map (·.1)) d) I.post⟩ else none
 | none=>none
def hintX (P:Program) (call:CallF) (o:Oper) (g:Operand→AV) (O:List (Nat×AObj)) (d:Nat):Option Hint :=
 match o.op with
 | .call c=>(match c.callee with
   | .value (.func f)=>(match pickO O (reach O 8 (nubN ((c.args.toList.map g).flatMap ptrsOf))) with
     | some pre=>(match evCall call O d f (c.args.toList.map g) (pre.map (·.1)) pre with|some I=>some (.call I)|none=>none)
     | none=>none)
   | _=>none)
 | .index t y i=>(match g y,g i with | .v (.string s),.v (.int k z)=>(match s[z.toNat]? with|some c=>some (.val (.v (.int .u8 c.toNat)))|none=>none)|_,_=>none)
 | _=>none
def hintL (P:Program) (call:CallF) (o:Oper) (σ:AS):List (Nat×Hint) :=
 match o.dst with
 | some d=>(match hintX P call o (gAt σ.S (opTemps o)) σ.O d with|some h=>[(d,h)]|none=>[])
 | none=>[]
def chkO (P:Program) (H:List (Nat×Hint)) (ops:Array Oper) (o:Oper) (σ:AS):Bool :=
 match wantedA σ.S (gTemp ops o) with
 | some true=>chkE P o (hOf H o.dst) (gAt σ.S (opTemps o)) (restr (opIds o (hOf H o.dst) (gAt σ.S (opTemps o))) (lo σ.O))
 | _=>true
def evOps (P:Program) (call:CallF) (ops:Array Oper):List Oper→AS→Option (AS×List Foot)
 | [],σ=>some (σ,[])
 | o :: l,σ=>match stepF P (hintL P call o σ) ops o σ with
   | some (f,vc)=>bif chkO P (hintL P call o σ) ops o σ then (match evOps P call ops l (f.app σ) with
     | some (σ',fs)=>some (σ',f :: fs)
     | none=>none) else none
   | none=>none
def freshOp (o:Oper):List Nat:=match o.op with | .move _=>[] | .assign _=>[]|_=>o.dst.toList
def freshC:Code→List Nat
 | .region _ ops _=>ops.toList.flatMap freshOp
 | .seq a b=>freshC a++freshC b
 | .cond _ a b=>freshC a++freshC b
 | .block _ b=>freshC b
 | .loop b=>freshC b
 | _=>[]
def keepS (fr:List Nat):List Nat→List (Nat×AV)→List (Nat×AV)
 | _,[]=>[]
 | seen,(t,x) :: l=>bif (fr.any fun b=>Nat.beq b t)||(seen.any fun b=>Nat.beq b t) then keepS fr seen l else (t,x) :: keepS fr (t :: seen) l
def pickOs (O:List (Nat×AObj)):List Nat→List (Nat×AObj)
 | []=>[]
 | q :: l=>match lo O q with
   | some x=>(q,x) :: pickOs O l
   | _=>pickOs O l
def trimS (fr:List Nat) (σ:AS):AS:=⟨keepS fr [] σ.S,pickOs σ.O (reach σ.O 8 (nubN ((keepS fr [] σ.S).flatMap (fun p=>refsT p.2)++σ.pk))),σ.nt,σ.pk⟩
def iterC (f:AS→Option (Exit×AS)) (fr:List Nat):Nat→AS→Option (Exit×AS)
 | 0,_=>none
 | k+1,σ=>match f σ with
   | some (.normal,σ')=>bif wkB (trimS fr σ') then iterC f fr k (trimS fr σ') else none
   | r=>r
def freezes:List Nat→AS→AS
 | [],σ=>σ
 | q :: l,σ=>freezes l (freeze q σ)
def dstsOk (ops:Array Oper):Bool:=Nat.beq (nubN (ops.toList.filterMap (·.dst))).length (ops.toList.filterMap (·.dst)).length
def evC (P:Program) (call:CallF) (fz:Nat→List Nat) (k:Nat):Code→AS→Option (Exit×AS)
 | .skip,σ=>some (.normal,σ)
 | .ret,σ=>some (.ret,σ)
 | .exit id,σ=>some (.exit id,σ)
 | .region id ops draw,σ=>bif dstsOk ops then (match evOps P call ops ops.toList (freezes (fz id) σ) with
   | some (σ',fs)=>if draw=true→drawOk ops.toList fs (Region.before ops)=true then some (.normal,σ') else none
   | none=>none) else none
 | .seq x y,σ=>match evC P call fz k x σ with
   | some (.normal,σ')=>evC P call fz k y σ'
   | r=>r
 | .cond c x y,σ=>match opv σ c with
   | .v (.bool true)=>evC P call fz k x σ
   | .v (.bool false)=>evC P call fz k y σ
   | _=>none
 | .block id b,σ=>match evC P call fz k b σ with
   | some (.exit id',σ')=>if id'=id then some (.normal,σ') else some (.exit id',σ')
   | r=>r
 | .loop b,σ=>iterC (fun σ=>evC P call fz k b σ) (freshC b) k σ
 | _,_=>none
def evFn (P:Program) (kn:FuncId→List AV→Option AV) (FZ:FuncId→Nat→List Nat) (k:Nat):Nat→CallF
 | 0,_,_,_=>none
 | n+1,f,args,pre=>match (if pre.isEmpty then kn f args else none),P.funcs[f]? with
   | some r,_=>some ⟨args,pre,r,[]⟩
   | none,some fn=>match fn.body with
     | some c=>match evC P (evFn P kn FZ k n) (FZ f) k c ⟨initS 0 args,pre,args.length+(fn.ntmps-args.length),pre.map (·.1)⟩ with
       | some (e,σ')=>match e with
         | .ret | .normal=>match resA P σ' fn.results.toList with
           | some x=>match pickO σ'.O (reach σ'.O 8 (nubN (pre.map (·.1)++ptrsT x))) with
             | some post=>bif closedB post&&(refsInV post (resR post σ'.O x)&&pre.all fun p=>(lo post p.1).isSome) then some ⟨args,pre,resR post σ'.O x,post⟩ else none
             | none=>none
           | none=>none
         | _=>none
       | none=>none
     | none=>none
   | none,none=>none
theorem avEq_refl (x:AV):avEq x x:=by
 unfold avEq
 split <;> first|rfl|exact ⟨rfl,rfl⟩|exact (if_pos rfl:(if _ then _ else _)=_) ▸ rfl|simp
theorem obEq_refl (x:AObj):obEq x x:=by cases x <;> simp [obEq]
theorem lsEq_refl:∀ l:List AV,lsEq l l
 | []=>trivial
 | x :: l=>⟨avEq_refl x,lsEq_refl l⟩
theorem reEq_refl (x:AV):reEq x x:=by
 unfold reEq
 split
 ·exact lsEq_refl _
 ·exact avEq_refl x
theorem ren1_back {b t:Nat→Nat} {x:AV} (h:∀ o ∈ refsOf1 x,b (t o)=o):ren1 b (ren1 t x)=x:=by
 cases x with
 | ptr o k=>show AV.ptr (b (t o)) k=_;rw [h o (by simp [refsOf1])]
 | row o k=>show AV.row (b (t o)) k=_;rw [h o (by simp [refsOf1])]
 | rptr o k j=>show AV.rptr (b (t o)) k j=_;rw [h o (by simp [refsOf1])]
 | _=>rfl
theorem ren1L_back {b t:Nat→Nat}:∀ {cs:List AV},(∀ o ∈ cs.flatMap refsOf1,b (t o)=o)→(cs.map (ren1 t)).map (ren1 b)=cs
 | [],_=>rfl
 | x :: cs,h=>by
   simp only [List.map_cons]
   rw [ren1_back fun o ho=>h o (by simp only [List.flatMap_cons,List.mem_append];exact .inl ho),ren1L_back fun o ho=>h o (by simp only [List.flatMap_cons,List.mem_append];exact .inr ho)]
theorem ren_back {b t:Nat→Nat} {x:AV} (h:∀ o ∈ refsL x,b (t o)=o):ren b (ren t x)=x:=by
 cases x with
 | agg cs=>show AV.agg ((cs.map (ren1 t)).map (ren1 b))=_;rw [ren1L_back h]
 | ptr o k=>exact ren1_back (x:=.ptr o k) h
 | row o k=>exact ren1_back (x:=.row o k) h
 | rptr o k j=>exact ren1_back (x:=.rptr o k j) h
 | _=>rfl
theorem renAs_back {b t:Nat→Nat}:∀ {l:List AV},(∀ o ∈ l.flatMap refsL,b (t o)=o)→(l.map (ren t)).map (ren b)=l
 | [],_=>rfl
 | x :: l,h=>by
   simp only [List.map_cons]
   rw [ren_back fun o ho=>h o (by simp only [List.flatMap_cons,List.mem_append];exact .inl ho),renAs_back fun o ho=>h o (by simp only [List.flatMap_cons,List.mem_append];exact .inr ho)]
theorem renL_back {b t:Nat→Nat}:∀ {l:List (Nat×AObj)},(∀ o ∈ objIds l,b (t o)=o)→renL b (renL t l)=l
 | [],_=>rfl
 | (q,x) :: l,h=>by
   have h1:b (t q)=q:=h q (by simp [objIds])
   have h2:renO b (renO t x)=x:=by
    cases x with
    | cells ty cs=>show AObj.cells ty ((cs.map (ren1 t)).map (ren1 b))=_;rw [ren1L_back fun o ho=>h o (by simp only [objIds,List.flatMap_cons,List.mem_append,List.mem_cons];exact .inl (.inr ho))]
    | _=>rfl
   have h3:=renL_back (b:=b) (t:=t) (l:=l) fun o ho=>h o (by simp only [objIds,List.flatMap_cons,List.mem_append];exact .inr ho)
   show (b (t q),renO b (renO t x)) :: renL b (renL t l)=_
   rw [h1,h2,h3]
def CallsOk (P:Program) (call:CallF):Prop:=∀ f args pre I,call f args pre=some I→FnOk P f I∧I.args=args∧I.pre=pre
theorem evCall_ok {P:Program} {call:CallF} (hc:CallsOk P call) {O:List (Nat×AObj)} {d:Nat} {f:FuncId} {args:List AV} {ids:List Nat} {pre:List (Nat×AObj)} {I:Inst} (h:evCall call O d f args ids pre=some I):FnOk P f I∧I.args=args.map (adapt (lo O))∧I.pre=pre:=by
 unfold evCall at h
 split at h
 ·rename_i J hJ
  rw [Bool.cond_eq_ite] at h
  split at h
  ·rename_i hb
   injection h with h;subst h
   refine ⟨?_,rfl,rfl⟩
   obtain ⟨h1,h2,h3⟩:=hc _ _ _ _ hJ
   unfold callOk at hb
   simp only [Bool.and_eq_true] at hb
   obtain ⟨b1,b2,b3,b4,b5,b6,b7⟩:=hb
   have b1:∀ o ∈ (args.map (adapt (lo O))).flatMap refsL++objIds pre,ofC ids (J.post.map (·.1)) d (toC ids o)=o:=fun o ho=>by simpa using List.all_eq_true.1 b1 o ho
   have hr:=h1.ren (ρ:=ofC ids (J.post.map (·.1)) d) (π:=piC ids (J.post.map (·.1)) d) (fun p hp=>by simpa using List.all_eq_true.1 b2 p hp) (fun p hp=>by simpa using List.all_eq_true.1 b3 p hp) b4 b5
    (fun x hx o ho=>by have:=List.all_eq_true.1 b6 o (List.mem_flatMap.2 ⟨x,hx,ho⟩);exact fun h0=>by rw [h0] at this;cases this) (fun o ho=>by have:=List.all_eq_true.1 b7 o ho;exact fun h0=>by rw [h0] at this;cases this)
   rw [h2,h3,renAs_back fun o ho=>b1 o (List.mem_append.2 (.inl ho)),renL_back fun o ho=>b1 o (List.mem_append.2 (.inr ho))] at hr
   exact hr
  ·cases h
 ·cases h
theorem adapt1_v (f g:Nat→Option AObj) (y:Value):adapt1 f (.v y)=adapt1 g (.v y):=by
 by_cases hy:y=.slice none 0 0
 ·subst hy;rfl
 ·have:∀ f:Nat→Option AObj,adapt1 f (.v y)=.v y:=fun f=>by
   unfold adapt1
   split
   ·rename_i h;cases h
   ·rename_i h;injection h with h;exact absurd h hy
   ·rfl
  rw [this,this]
theorem adapt_restr {ids:List Nat} {f:Nat→Option AObj} {x:AV} (h:∀ o ∈ refsL x,o ∈ ids):adapt (restr ids f) x=adapt f x:=by
 have h1:∀ y,(∀ o ∈ refsOf1 y,o ∈ ids)→adapt1 (restr ids f) y=adapt1 f y:=fun y hy=>by
  cases y with
  | row o ver =>
    have:=hy o (by simp [refsOf1])
    simp only [adapt1,restr]
    rw [if_pos (List.contains_iff_mem.2 this)]
  | v y=>exact adapt1_v _ _ y
  | _=>rfl
 cases x with
 | agg cs =>
   show AV.agg (cs.map (adapt1 (restr ids f)))=AV.agg (cs.map (adapt1 f))
   congr 1
   exact List.map_congr_left fun y hy=>h1 y fun o ho=>h o (List.mem_flatMap.2 ⟨y,hy,ho⟩)
 | row o v=>exact h1 (.row o v) h
 | v y=>exact h1 (.v y) h
 | _=>rfl
theorem pickO_at {O:List (Nat×AObj)}:∀ {l:List Nat} {r:List (Nat×AObj)},pickO O l=some r→∀ p ∈ r,lo O p.1=some p.2
 | [],r,h=>by injection h with h;subst h;intro p hp;cases hp
 | q :: l,r,h=>by
   unfold pickO at h
   split at h
   ·rename_i x s hx hs
    injection h with h;subst h
    intro p hp
    rcases List.mem_cons.1 hp with rfl|hp
    ·exact hx
    ·exact pickO_at hs p hp
   ·cases h
theorem preVc_of {ob:Nat→Option AObj}:∀ {l:List (Nat×AObj)},(∀ p ∈ l,ob p.1=some p.2)→allP (preVc ob l)
 | [],_=>trivial
 | p :: l,h=>⟨by rw [h p (by simp)];exact obEq_refl _,preVc_of fun q hq=>h q (by simp [hq])⟩
theorem wkVcO_of {σ:AS}:∀ {l:List (Nat×AObj)},(∀ p ∈ l,lo σ.O p.1=some p.2)→allP (wkVcO σ l)
 | [],_=>trivial
 | p :: l,h=>⟨by rw [h p (by simp)];exact obEq_refl _,wkVcO_of fun q hq=>h q (by simp [hq])⟩
theorem wkVc_of {σ:AS}:∀ {l:List (Nat×AV)},(∀ p ∈ l,lk σ.S p.1=p.2)→allP (wkVc σ l)
 | [],_=>trivial
 | p :: l,h=>⟨by rw [h p (by simp)];exact avEq_refl _,wkVc_of fun q hq=>h q (by simp [hq])⟩
section
variable {P:Program} {call:CallF}
theorem hOf_hintL {o:Oper} {σ:AS}:hOf (hintL P call o σ) o.dst=match o.dst with|some d=>hintX P call o (gAt σ.S (opTemps o)) σ.O d|none=>none:=by
 unfold hintL
 cases o.dst with
 | none=>rfl
 | some d =>
   simp only
   cases hintX P call o (gAt σ.S (opTemps o)) σ.O d with
   | none=>rfl
   | some h=>simp [hOf,hintOf]
theorem hintB_hintL {o:Oper} {σ:AS}:hintB o (hOf (hintL P call o σ) o.dst)=true:=by
 rw [hOf_hintL]
 cases o.dst with
 | none=>show hintB o none=true;unfold hintB;split <;> (try split) <;> rfl
 | some d =>
   simp only
   unfold hintB hintX
   split
   ·rename_i c ho
    revert ho
    cases o.op with
    | call c' =>
      intro ho
      injection ho with ho
      subst ho
      simp only
      split
      ·rfl
      ·rename_i hne
       split
       ·rename_i f hf;exact absurd hf (hne f)
       ·rfl
    | _=>intro ho;cases ho
   ·rfl
   ·rename_i h1 h2
    split
    ·rename_i c ho;exact absurd ho (h1 c)
    ·rename_i t y i ho;exact absurd ho (h2 t y i)
    ·rfl
theorem gd_hintL {o:Oper} {σ:AS}:gdOf (hOf (hintL P call o σ) o.dst)=none:=by
 rw [hOf_hintL]
 cases o.dst with
 | none=>rfl
 | some d =>
   simp only
   unfold hintX
   split
   ·split
    ·split
     ·split <;> rfl
     ·rfl
    ·rfl
   ·split
    ·split <;> rfl
    ·rfl
   ·rfl
theorem evOp_ok (hc:CallsOk P call) {ops:Array Oper} {o:Oper} {σ:AS} {f:Foot} {vc:List Prop} (h:stepF P (hintL P call o σ) ops o σ=some (f,vc)) (hb:chkO P (hintL P call o σ) ops o σ=true):allP vc:=by
 unfold stepF at h
 rw [Bool.cond_eq_ite,gd_hintL] at h
 split at h
 ·simp only at h
  split at h
  ·rename_i hw
   split at h
   ·rename_i r hr
    injection h with h;injection h with h1 h2;subst h1;subst h2
    unfold chkO at hb
    rw [hw] at hb
    refine chkE_ok hr hb hintB_hintL fun g I hg hI=>?_
    rw [hOf_hintL] at hI
    cases hd:o.dst with
    | none=>rw [hd] at hI;cases hI
    | some d =>
      rw [hd] at hI
      simp only at hI
      unfold hintX at hI
      unfold isCall at hg
      split at hI
      ·rename_i c ho
       simp only [ho] at hg
       split at hI
       ·rename_i f hf
        rw [hf] at hg
        simp only [Option.some.injEq] at hg
        subst hg
        split at hI
        ·rename_i pre hpre
         split at hI
         ·rename_i J hJ
          injection hI with hI;injection hI with hI;subst hI
          obtain ⟨k1,k2,k3⟩:=evCall_ok hc hJ
          refine ⟨k1,?_,?_⟩
          ·rintro args ⟨c',hc',rfl⟩
           rw [ho] at hc';injection hc' with hc';subst hc'
           rw [k2]
           refine Eq.subst (motive:=fun l=>lsEq l _) ?_ (lsEq_refl _)
           refine List.map_congr_left fun x hx=>(adapt_restr fun q hq=>?_).symm
           obtain ⟨y,hy,rfl⟩:=List.mem_map.1 hx
           unfold opIds
           refine List.mem_append.2 (.inl (List.mem_append.2 (.inr (List.mem_flatMap.2 ⟨y,?_,hq⟩))))
           simp only [ho,Op.operands,Call.operands,Array.toList_append]
           exact List.mem_append.2 (.inr hy)
          ·refine preVc_of fun p hp=>?_
           have hp':=hp
           rw [k3] at hp'
           unfold restr
           rw [if_pos]
           ·exact pickO_at hpre p hp'
           ·rw [List.contains_iff_mem]
            unfold opIds
            refine List.mem_append.2 (.inr ?_)
            have e:=hOf_hintL (P:=P) (call:=call) (o:=o) (σ:=σ)
            rw [hd] at e
            rw [e]
            simp only
            unfold hintX
            simp only [ho,hf,hpre,hJ]
            exact List.mem_append.2 (.inl (List.mem_map.2 ⟨p,hp,rfl⟩))
         ·cases hI
        ·cases hI
       ·cases hI
      ·rename_i ho
       simp only [ho] at hg
       cases hg
      ·cases hI
   ·cases h
  ·injection h with h;injection h with h1 h2;subst h2;trivial
  ·cases h
 ·cases h
theorem stepF_hint {H H':List (Nat×Hint)} {ops:Array Oper} {o:Oper} {σ:AS} (h:hOf H o.dst=hOf H' o.dst):stepF P H ops o σ=stepF P H' ops o σ:=by
 unfold stepF stepR;rw [h]
def evHs (P:Program) (call:CallF) (ops:Array Oper):List Oper→AS→List (Nat×Hint)
 | [],_=>[]
 | o :: l,σ=>hintL P call o σ++(match stepF P (hintL P call o σ) ops o σ with|some (f,_)=>evHs P call ops l (f.app σ)|none=>[])
theorem hintL_keys {o:Oper} {σ:AS}:∀ p ∈ hintL P call o σ,o.dst=some p.1:=by
 unfold hintL
 intro p hp
 split at hp
 ·rename_i d hd
  split at hp
  ·obtain rfl:=List.mem_singleton.1 hp;exact hd
  ·cases hp
 ·cases hp
theorem evHs_keys {ops:Array Oper}:∀ {l:List Oper} {σ:AS},∀ p ∈ evHs P call ops l σ,∃ o ∈ l,o.dst=some p.1
 | [],_,p,hp=>by cases hp
 | o :: l,σ,p,hp=>by
   unfold evHs at hp
   rcases List.mem_append.1 hp with hp|hp
   ·exact ⟨o,by simp,hintL_keys p hp⟩
   ·split at hp
    ·obtain ⟨o',h1,h2⟩:=evHs_keys p hp;exact ⟨o',by simp [h1],h2⟩
    ·cases hp
theorem hintOf_none {l:List (Nat×Hint)} {t:Nat} (h:∀ p ∈ l,p.1≠t):hintOf l t=none:=by
 induction l with
 | nil=>rfl
 | cons p l ih =>
   obtain ⟨k,x⟩:=p
   unfold hintOf
   rw [if_neg (h (k,x) (by simp))]
   exact ih fun q hq=>h q (by simp [hq])
theorem hintOf_app (a b:List (Nat×Hint)) (t:Nat):hintOf (a++b) t=match hintOf a t with|some x=>some x|none=>hintOf b t:=by
 induction a with
 | nil=>rfl
 | cons p a ih =>
   obtain ⟨k,x⟩:=p
   simp only [List.cons_append,hintOf]
   split <;> simp_all
theorem evOps_ok (hc:CallsOk P call) {ops:Array Oper}:∀ {l:List Oper} {σ σ':AS} {fs:List Foot} (H1:List (Nat×Hint)),(∀ o ∈ l,∀ p ∈ H1,o.dst≠some p.1)→(l.filterMap (·.dst)).Nodup→evOps P call ops l σ=some (σ',fs) →
 ∃ vc,runF P (H1++evHs P call ops l σ) ops l σ=some (σ',vc,fs)∧allP vc
 | [],σ,σ',fs,H1,h1,h2,h=>by injection h with h;injection h with e1 e2;subst e1;subst e2;exact ⟨[],rfl,trivial⟩
 | o :: l,σ,σ',fs,H1,h1,h2,h=>by
   unfold evOps at h
   split at h
   ·rename_i f vc hf
    rw [Bool.cond_eq_ite] at h
    split at h
    ·rename_i hb
     split at h
     ·rename_i σ2 fs2 hr
      injection h with h;injection h with e1 e2;subst e1;subst e2
      have hnd:(l.filterMap (·.dst)).Nodup:=by
       simp only [List.filterMap_cons] at h2
       split at h2
       ·exact h2
       ·exact (List.nodup_cons.1 h2).2
      have hfresh:∀ o' ∈ l,∀ d,o.dst=some d→o'.dst≠some d:=fun o' ho' d hd he=>by
       simp only [List.filterMap_cons,hd] at h2
       exact (List.nodup_cons.1 h2).1 (List.mem_filterMap.2 ⟨o',ho',he⟩)
      obtain ⟨vc2,hr2,hv2⟩:=evOps_ok hc (H1++hintL P call o σ) (fun o' ho' p hp=>by
       rcases List.mem_append.1 hp with hp|hp
       ·exact h1 o' (by simp [ho']) p hp
       ·exact hfresh o' ho' _ (hintL_keys p hp)) hnd hr
      have hH:evHs P call ops (o :: l) σ=hintL P call o σ++evHs P call ops l (f.app σ):=by
       conv=>lhs;unfold evHs
       rw [hf]
      refine ⟨vc++vc2,?_,allP_append.2 ⟨evOp_ok hc hf hb,hv2⟩⟩
      unfold runF
      rw [hH,stepF_hint (H':=hintL P call o σ),hf]
      ·simp only
       rw [← List.append_assoc,hr2]
      ·cases hd:o.dst with
       | none=>rfl
       | some d =>
         show hintOf _ d=hintOf _ d
         rw [hintOf_app,hintOf_none (l:=H1) (fun p hp he=>h1 o (by simp) p hp (by rw [hd,he])),hintOf_app]
         simp only
         rw [hintOf_none (l:=evHs P call ops l (f.app σ)) (fun p hp he=>by
          obtain ⟨o',ho',hd'⟩:=evHs_keys p hp
          exact hfresh o' ho' d hd (by rw [hd',he]))]
         cases hintOf (hintL P call o σ) d <;> rfl
     ·cases h
    ·cases h
   ·cases h
end
end Go.Proofs.YtfhmaincnlaapaaGreat.Sy
