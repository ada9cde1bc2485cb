/- CALLS IN STATES TOLD BY TREES. -/
import Derived.Lib.ConvBytes
import Derived.Test.YtfhmaincnlaapaaGreatTrSy7
namespace Go.Proofs.YtfhmaincnlaapaaGreat.Sy
open Go.ChangeShapes Go.WideShapes Go.ChangeAt Go.RowKit
set_option linter.unusedVariables false
theorem run_bound {P:Program} {w:World} {k:IntKind} {z:Int} {y:Nat} {code:BoundsCode} (h:0≤z∧z≤y):(Instr.sliceBound (.int k z) y code).run P w=.ok z.toNat w:=by
 simp [Instr.sliceBound,asIntOf,h]
def loN:Option AV→Option Int
 | none=>some 0
 | some (.v (.int _ z))=>some z
 | _=>none
def hiN (n:Nat):Option AV→Option Int
 | none=>some n
 | some (.v (.int _ z))=>some z
 | _=>none
def boundVal (o:Option AV) (v:Option Value):Prop:=match o,v with|none,none=>True|some (.v x),some y=>y=x|_,_=>False
theorem run_bounds {P:Program} {w:World} {isS:Bool} {n m:Nat} {lo hi:Option AV} {vl vh:Option Value} {l h:Int} (hl:loN lo=some l) (hh:hiN n hi=some h) (h1:boundVal lo vl) (h2:boundVal hi vh) (h0:0≤l∧l≤h∧h≤m) (hn:n≤m) :
 (Instr.sliceBounds isS n m vl vh none).run P w=.ok (l.toNat,h.toNat,m) w:=by
 have e1:∀ v,vh=some v→∃ k,v=.int k h:=fun v hv=>by
  subst hv
  cases hi with
  | none=>exact h2.elim
  | some x =>
    cases x with
    | v y =>
      cases y with
      | int k z=>injection hh with hh;subst hh;exact ⟨k,h2⟩
      | _=>cases hh
    | _=>cases hh
 have e2:∀ v,vl=some v→∃ k,v=.int k l:=fun v hv=>by
  subst hv
  cases lo with
  | none=>exact h1.elim
  | some x =>
    cases x with
    | v y =>
      cases y with
      | int k z=>injection hl with hl;subst hl;exact ⟨k,h1⟩
      | _=>cases hl
    | _=>cases hl
 have e3:vh=none→h=n:=fun hv=>by
  subst hv
  cases hi with
  | none=>injection hh with hh;exact hh.symm
  | some x=>cases x<;>first|exact h2.elim|cases hh
 have e4:vl=none→l=0:=fun hv=>by
  subst hv
  cases lo with
  | none=>injection hl with hl;exact hl.symm
  | some x=>cases x<;>first|exact h1.elim|cases hl
 have hl':(0:Int)≤l∧l≤(h.toNat:Nat):=by omega
 have hh':(0:Int)≤h∧h≤(m:Nat):=by omega
 cases vh with
 | none =>
   have:=e3 rfl;subst this
   cases vl with
   | none=>have:=e4 rfl;subst this;simp [Instr.sliceBounds]
   | some v =>
     obtain ⟨k,rfl⟩:=e2 v rfl
     have hb:(Instr.sliceBound (.int k l) n .sliceB).run P w=.ok l.toNat w:=run_bound (by omega)
     simp [Instr.sliceBounds,hb]
 | some v =>
   obtain ⟨k,rfl⟩:=e1 v rfl
   cases vl with
   | none=>have:=e4 rfl;subst this;cases isS<;>simp [Instr.sliceBounds,run_bound hh']
   | some v2=>obtain ⟨k2,rfl⟩:=e2 v2 rfl;cases isS<;>simp [Instr.sliceBounds,run_bound hh',run_bound hl']
theorem sees_bound {σ:AS} {E:Env} {a:Act} (hs:∀ y,Sees E (opv σ y) (a.eval y)) (x:Option Operand) (hx:∀ y,x=some y→∃ v,opv σ y=.v v):boundVal (x.map (opv σ)) (x.map a.eval):=by
 cases x with
 | none=>trivial
 | some y =>
   obtain ⟨v,hv⟩:=hx y rfl
   have e:=hs y;rw [hv] at e
   simp only [Option.map_some,boundVal,hv]
   exact sees_v e
theorem loN_v {x:Option AV} {l:Int} (h:loN x=some l):∀ y,x=some y→∃ v,y=.v v:=by
 intro y hy;subst hy
 cases y<;>first|exact ⟨_,rfl⟩|cases h
theorem hiN_v {n:Nat} {x:Option AV} {l:Int} (h:hiN n x=some l):∀ y,x=some y→∃ v,y=.v v:=by
 intro y hy;subst hy
 cases y<;>first|exact ⟨_,rfl⟩|cases h
section
variable {P:Program} {o:Oper} {σ:AS}
theorem run_cut {t e:TypeId} {s:Nat} (ht:elB P t=some (e,s)) {w:World} {A:Option Addr} {n m:Nat} {lo hi:Option AV} {vl vh:Option Value} {l h:Int} (hl:loN lo=some l) (hh:hiN n hi=some h) (h1:boundVal lo vl) (h2:boundVal hi vh) (h0:0≤l∧l≤h∧h≤m) (hn:n≤m) :
 (Instr.sliceAt t (.slice A n m) vl vh none).run P w=.ok (.slice (if m=l.toNat then A else A.map (·.add (l.toNat*s))) (h.toNat-l.toNat) (m-l.toNat)) w:=by
 obtain ⟨hu,i,hi',hs⟩:=elB_spec ht
 simp [Instr.sliceAt,Instr.slice,run_underlying hu,run_bounds (P:=P) (w:=w) (isS:=true) hl hh h1 h2 h0 hn,sizeOf,typeInfo,hi',hs]
theorem bound_op {a:Act} {E:Env} (hs:∀ y,Sees E (opv σ y) (a.eval y)) {x:Option Operand} (hv:∀ y,x.map (opv σ)=some y→∃ v,y=.v v):boundVal (x.map (opv σ)) (x.map a.eval) :=
 sees_bound hs x fun y hy=>hv _ (by rw [hy];rfl)
theorem ok_cut {t e:TypeId} {s n:Nat} {y:Operand} {lo hi:Option Operand} {cs:List AV} {l h:Int} (ho:o.op=.slice t y lo hi none) (ht:elB P t=some (e,s)) (hy:opv σ y=.lst n cs) (hl:loN (lo.map (opv σ))=some l) (hh:hiN n (hi.map (opv σ))=some h) (h0:0≤l∧l≤h∧h≤n) :
 OpOk P o σ ⟨.lst (h.toNat-l.toNat) ((cs.drop (l.toNat*s)).take ((h.toNat-l.toNat)*s)),[],[]⟩ :=
 OpOk.pure fun a E hs _ _=>by
  have e2:=hs y;rw [hy] at e2
  generalize e3:a.eval y=u at e2
  have b1:=bound_op hs (loN_v hl)
  have b2:=bound_op hs (hiN_v hh)
  cases e2 with
  | nil A c hc =>
    refine ⟨_,by simp only [execOp,ho,e3,Option.map_none,Sem.run_bind,run_cut ht hl hh b1 b2 (show 0≤l∧l≤h∧h≤(c:Int) by omega) (Nat.zero_le c),Result.andThen_ok,Sem.run_pure];rfl,?_⟩
    have hz:h.toNat-l.toNat=0:=by omega
    rw [hz,Nat.zero_mul,List.take_zero]
    exact .nil _ _ (by omega)
  | lst _ c _ ad us hn hc hm hF hl' h1 hu hr =>
    refine ⟨_,by simp only [execOp,ho,e3,Option.map_none,Sem.run_bind,run_cut ht hl hh b1 b2 (show 0≤l∧l≤h∧h≤(c:Int) by omega) hc,Result.andThen_ok,Sem.run_pure];rfl,?_⟩
    rcases Nat.eq_zero_or_pos (h.toNat-l.toNat) with hz|hz
    ·rw [hz,Nat.zero_mul,List.take_zero]
     exact .nil _ _ (by omega)
    ·rw [if_neg (by omega)]
     refine .lst _ _ _ (ad.add (l.toNat*s)) ((us.drop (l.toNat*s)).take ((h.toNat-l.toNat)*s)) hz (by omega) (by omega) (by rw [block_add];exact hF) (by simp [hl']) (fun u hu'=>h1 u (List.mem_of_mem_drop (List.mem_of_mem_take hu'))) (fun j u hj=>?_) (fun j x u hx hj=>?_)
     ·rw [add_add']
      rw [List.getElem?_take] at hj
      split at hj
      ·rw [List.getElem?_drop] at hj;exact hu _ u hj
      ·cases hj
     ·rw [List.getElem?_take] at hx hj
      split at hx
      ·rename_i hlt
       rw [if_pos hlt,List.getElem?_drop] at hj
       rw [List.getElem?_drop] at hx
       exact hr _ x u hx hj
      ·cases hx
theorem ok_front {t e e':TypeId} {s s' n q ver:Nat} {y:Operand} {lo hi:Option Operand} {cs:List AV} {l h:Int} (ho:o.op=.slice t y lo hi none) (ht:elB P t=some (e,s)) (hy:opv σ y=.row q ver) (hq:Sy.lo σ.O q=some (.row e' s' n ver cs)) (hl:loN (lo.map (opv σ))=some l) (hh:hiN n (hi.map (opv σ))=some h)
 (h0:l=0∧0≤h∧h≤n):OpOk P o σ ⟨.row q (ver+1),[(q,.row e' s' h.toNat (ver+1) (cs.take (h.toNat*s')))],[]⟩:=by
 intro M w0 a E hN K Q hK
 obtain ⟨rfl,h1,h2⟩:=h0
 have hqo:E.ob q=some (.row e' s' n ver cs):=by rw [hN.ob];exact hq
 obtain ⟨us,hown,hs,hlen,hr⟩:=hN.mem.row hqo
 have e3:=hN.op y;rw [hy] at e3
 have e3:=(e3.2 _ _ _ _ _ hqo).2 rfl
 obtain ⟨A,c,hv,hnc,hcm,_⟩:=own_form hown
 have b1:=bound_op hN.op (loN_v hl)
 have b2:=bound_op hN.op (hiN_v hh)
 rw [hv] at e3
 have hA:(if c=(0:Int).toNat then A else A.map (·.add ((0:Int).toNat*s)))=A:=by
  split
  ·rfl
  ·cases A<;>simp [Addr.add]
 have hrun:(execOp a.eval o).run P E.w=.ok (.value (.slice A h.toNat c)) E.w:=by
  have:=run_cut (P:=P) (w:=E.w) (A:=A) ht hl hh b1 b2 (show (0:Int)≤0∧0≤h∧h≤(c:Int) by omega) hnc
  rw [hA] at this
  simp only [execOp,ho,e3,Option.map_none,Sem.run_bind,this,Result.andThen_ok,Sem.run_pure]
  simp
 have hown':E.w.ownsRow 0 e' s' (.slice A h.toNat c) h.toNat (us.take (h.toNat*s')):=by
  have hle:h.toNat*s'≤n*s':=Nat.mul_le_mul_right _ (by omega)
  refine ⟨by rw [List.length_take,hown.1];omega,?_⟩
  rcases hown.2 with ⟨hv',hn⟩|⟨g,cap,cur,hv',hg,hheap,hnc',hcm',hcs,htk⟩
  ·rw [hv] at hv';injection hv' with a1 a2 a3;subst a1;subst a3
   have:h.toNat=0:=by omega
   exact .inl ⟨by rw [this],this⟩
  ·rw [hv] at hv';injection hv' with a1 a2 a3;subst a1;subst a3
   exact .inr ⟨g,c,cur,rfl,hg,hheap,by omega,hcm',hcs,by rw [←htk,List.take_take,Nat.min_eq_left hle]⟩
 obtain ⟨hm,ha⟩:=hN.mem.growRow hN.ob hq (w':=E.w) (v:=.slice A h.toNat c) (World.grownBy.refl _ _) hown' (.inl (by rw [hv];cases A<;>rfl)) (cs':=cs.take (h.toNat*s')) (by simp [hlen]) (fun j x u hx hu=>by
  rw [List.getElem?_take] at hx hu
  split at hx
  ·rename_i hlt;rw [if_pos hlt] at hu;exact hr j x u hx hu
  ·cases hx)
 unfold Oper.wp
 rw [hrun]
 refine hK _ ⟨E.w,E.F,E.β,upd E.ν q (.slice A h.toNat c),Sy.lo ((q,.row e' s' h.toNat (ver+1) (cs.take (h.toNat*s')))::σ.O)⟩ rfl hm ha ⟨by simp [lo_eq],fun e4 s4 n4 k4 c4 h4=>?_⟩
 simp only [lo_eq,Option.some.injEq,AObj.row.injEq] at h4
 obtain ⟨rfl,rfl,rfl,rfl,rfl⟩:=h4
 exact ⟨Nat.le_refl _,fun _=>by simp only [upd_eq]⟩
theorem ok_cutS {t:TypeId} {y:Operand} {lo hi:Option Operand} {s:ByteArray} {l h:Int} (ho:o.op=.slice t y lo hi none) (ht:P.underlying t=some .string) (hy:opv σ y=.v (.string s)) (hl:loN (lo.map (opv σ))=some l) (hh:hiN s.size (hi.map (opv σ))=some h) (h0:0≤l∧l≤h∧h≤s.size) :
 OpOk P o σ ⟨.v (.string (s.extract l.toNat h.toNat)),[],[]⟩ :=
 OpOk.pure fun a E hs _ _=>by
  have e2:=hs y;rw [hy] at e2;have e2:=sees_v e2
  have b1:=bound_op hs (loN_v hl)
  have b2:=bound_op hs (hiN_v hh)
  refine ⟨_,?_,rfl,rfl⟩
  have:=run_bounds (P:=P) (w:=E.w) (isS:=false) hl hh b1 b2 h0 (Nat.le_refl _)
  simp only [execOp,ho,e2,Option.map_none,Instr.sliceAt,Instr.slice,Sem.run_bind,run_underlying ht,Result.andThen_ok,Option.isSome_none,Bool.false_eq_true,if_false,this,Sem.run_pure]
theorem ok_storeR {t e:TypeId} {y x:Operand} {b:Bool} {q ver off k s n:Nat} {cs xs:List AV} (h:o.op=.store t y x) (ht:tyB P t=some (b,k)) (hy:opv σ y=.rptr q ver off) (hq:lo σ.O q=some (.row e s n ver cs)) (hx:cellsA (lo σ.O) (opv σ x)=some xs) (hf:xs.all frozB=true) (hk:xs.length=k) (hl:off+xs.length≤cs.length) :
 OpOk P o σ ⟨.junk,[(q,.row e s n ver (cs.take off++xs++cs.drop (off+xs.length)))],[]⟩:=by
 intro M w0 a E hN K Q hK
 rw [←hN.ob] at hx
 have hxs:=cellsA_sees hN.mem hx (hN.op x)
 have hqo:E.ob q=some (.row e s n ver cs):=by rw [hN.ob];exact hq
 obtain ⟨us,hown,hs,hlen,hr⟩:=hN.mem.row hqo
 have e3:=hN.op y;rw [hy] at e3
 obtain ⟨g,c,hν,hptr⟩:=(e3.2 _ _ _ _ _ hqo).2 rfl
 rcases hown.2 with ⟨hv',_⟩|⟨g',cap,cur,hv',hg,hheap,hnc,hcm,hcs,htk⟩
 ·rw [hν] at hv';cases hv'
 ·rw [hν] at hv';injection hv' with a1 a2 a3;injection a1 with a1;injection a1 with a1 _;subst a1;subst a3
  have hvl:(a.eval x).cells.toList.length=xs.length:=hxs.1
  have hcl:us.length=n*s:=hown.1
  have hbnd:off+(a.eval x).cells.toList.length≤n*s:=by rw [hvl,←hcl,hlen];exact hl
  have hcapn:n*s≤cur.size:=by rw [hcs];exact Nat.mul_le_mul_right _ hnc
  have hst:=run_storeCells_at (P:=P) g off e (a.eval x).cells.toList 0 cur E.w hheap (by simp only [Nat.add_zero];omega) (fun v hv=>by
   obtain ⟨j,hj,rfl⟩:=List.getElem_of_mem hv
   exact (hxs.2 j _ _ (List.getElem?_eq_getElem (by rw [←hxs.1];exact hj)) (List.getElem?_eq_getElem hj)).2)
  simp only [Nat.add_zero] at hst
  have hrun:(execOp a.eval o).run P E.w=.ok .skip (E.w.setRow g (cur.toList.take off++(a.eval x).cells.toList++cur.toList.drop (off+(a.eval x).cells.toList.length)).toArray):=by
   have hz:=(run_isAggB ht E.w).2
   have hsz:(a.eval x).cells.size=k:=by rw [←hk,←hxs.1,Array.length_toList]
   simp only [execOp,h,Instr.storeAt,hptr,Instr.sureAddr,storeVar,Sem.run_bind,Sem.run_pure,Result.andThen_ok,hz,hsz,ne_eq,not_true_eq_false,if_false,hst]
  have hbq:bk E q=some g:=by unfold bk;rw [hqo];simp only [hν];rfl
  have hglt:=(hN.mem.live q g hbq).2.1
  have hown':(E.w.setRow g (cur.toList.take off++(a.eval x).cells.toList++cur.toList.drop (off+(a.eval x).cells.toList.length)).toArray).ownsRow 0 e s (E.ν q) n (us.take off++(a.eval x).cells.toList++us.drop (off+(a.eval x).cells.toList.length)):=by
   refine ⟨by simp only [List.length_append,List.length_take,List.length_drop];omega,.inr ⟨g,c,_,hν,hg,setRow_heap _ _ _ _ _ _ hheap,hnc,hcm,?_,?_⟩⟩
   ·simp only [List.size_toArray,List.length_append,List.length_take,List.length_drop,Array.length_toList];have hb2:=hbnd;rw [Array.length_toList] at hb2;omega
   ·rw [←htk]
    generalize (a.eval x).cells.toList=vs at *
    apply List.ext_getElem?
    intro j
    simp only [List.getElem?_take,List.getElem?_append,List.length_take,List.length_append,List.getElem?_drop,Array.length_toList]
    have h1:min off cur.size=off:=by omega
    have h2:min off (min (n*s) cur.size)=off:=by omega
    rw [h1,h2]
    by_cases hj:j<n*s
    ·rw [if_pos hj]
     by_cases hj1:j<off+vs.length
     ·rw [if_pos hj1,if_pos hj1]
      by_cases hj2:j<off
      ·rw [if_pos hj2,if_pos hj2,if_pos hj2,if_pos hj2,if_pos hj]
      ·rw [if_neg hj2,if_neg hj2]
     ·rw [if_neg hj1,if_neg hj1,if_pos (by omega)]
    ·rw [if_neg hj,if_neg (by omega),if_neg (by omega)]
  refine ?_
  obtain ⟨hm,ha⟩:=hN.mem.step (E':=⟨E.w.setRow g (cur.toList.take off++(a.eval x).cells.toList++cur.toList.drop (off+(a.eval x).cells.toList.length)).toArray,E.F,E.β,E.ν,lo ((q,.row e s n ver (cs.take off++xs++cs.drop (off+xs.length)))::σ.O)⟩) (·=q) rfl rfl rfl (by simp)
   (fun b hb hne=>setRow_other _ _ _ _ (fun he=>hne q rfl (by rw [hbq,he]))) (fun _ h=>h) (fun _ h=>.inl h) (fun p hX=>⟨by rw [hN.ob];exact lo_ne _ _ hX,rfl,rfl⟩)
   (fun p hX h0=>by
    subst hX
    refine ⟨by simp [lo_eq],fun t c hc=>by simp [lo_eq] at hc,fun e2 s2 n2 k2 c2 hc=>?_⟩
    simp only [lo_eq,Option.some.injEq,AObj.row.injEq] at hc
    obtain ⟨rfl,rfl,rfl,rfl,rfl⟩:=hc
    exact ⟨_,_,_,_,_,hqo,Nat.le_refl _,fun _=>⟨rfl,rfl⟩⟩)
   (fun haf p z hX hz=>by
    subst hX
    simp only [lo_eq,Option.some.injEq] at hz
    subst hz
    have hsp:=Leafs.splice (E:=E) (cs:=cs) (us:=us) ⟨hlen,fun j x u hx hu=>⟨Leaf.rep (hr j x u hx hu),(hr j x u hx hu).one⟩⟩ hxs off hl
    refine ⟨_,hown',hs,hsp.1,fun j z u hz hu=>?_⟩
    have h1:=(hsp.2 j z u hz hu).1
    have hfz:frozB z=true:=by
     rcases List.mem_append.1 (List.mem_of_getElem? hz) with hz1|hz1
     ·rcases List.mem_append.1 hz1 with hz2|hz2
      ·have hzc:=List.mem_of_mem_take hz2
       obtain ⟨i,hi,rfl⟩:=List.getElem_of_mem hzc
       obtain ⟨u',hu'⟩:=getElem?_of (l:=us) (j:=i) (by omega)
       have:=hr i _ u' (List.getElem?_eq_getElem hi) hu'
       generalize cs[i]=zz at *
       cases this<;>rfl
      ·exact List.all_eq_true.1 hf z hz2
     ·have hzc:=List.mem_of_mem_drop hz1
      obtain ⟨i,hi,rfl⟩:=List.getElem_of_mem hzc
      obtain ⟨u',hu'⟩:=getElem?_of (l:=us) (j:=i) (by omega)
      have:=hr i _ u' (List.getElem?_eq_getElem hi) hu'
      generalize cs[i]=zz at *
      cases this<;>rfl
    exact (rep_of hfz h1).mono haf.sub haf.old)
   (fun p b hX hb=>by
    subst hX
    unfold bk at hb
    simp only [lo_eq] at hb
    have:bk E p=some b:=by unfold bk;rw [hqo];exact hb
    obtain ⟨l1,l2,_⟩:=hN.mem.live p b this
    exact ⟨l1,by simpa using l2,.inr ⟨p,rfl,this⟩⟩)
   (fun p p' b hX hX' _ _=>hX.trans hX'.symm)
  unfold Oper.wp
  rw [hrun]
  exact hK _ _ rfl hm ha trivial
end
def repA (m:Nat) (zs:List Value):List AV :=
 match zs with
 | [z]=>List.replicate m (.v z)
 | zs=>(List.range (m*zs.length)).map fun i=>.v (zs.toArray[i%zs.length]!)
theorem repA_leafs {E:Env} (m:Nat) {zs:List Value} (h:zs.all (·.oneCell')=true) (h0:0<zs.length):(repA m zs).all frozB=true∧Leafs E (repA m zs) ((List.range (m*zs.length)).map fun i=>zs.toArray[i%zs.length]!):=by
 have hg:((List.range (m*zs.length)).map fun i=>AV.v (zs.toArray[i%zs.length]!)).all frozB=true∧Leafs E ((List.range (m*zs.length)).map fun i=>.v (zs.toArray[i%zs.length]!)) ((List.range (m*zs.length)).map fun i=>zs.toArray[i%zs.length]!):=by
  refine ⟨by rw [List.all_map];exact List.all_eq_true.2 fun _ _=>rfl,by simp,fun j x u hx hu'=>?_⟩
  rw [List.getElem?_map] at hx hu'
  cases hj:(List.range (m*zs.length))[j]? with
  | none=>rw [hj] at hx;cases hx
  | some q =>
    rw [hj] at hx hu'
    injection hx with hx;injection hu' with hu';subst hx;subst hu'
    have h1:(zs.toArray[q%zs.length]!).oneCell'=true:=by
     have hlt:q%zs.length<zs.length:=Nat.mod_lt _ h0
     have:zs.toArray[q%zs.length]! = zs[q%zs.length]:=by simp [hlt]
     rw [this];exact List.all_eq_true.1 h _ (List.getElem_mem hlt)
    exact ⟨⟨rfl,h1⟩,h1⟩
 unfold repA
 split
 ·rename_i z
  have e:(List.replicate m (AV.v z))=(List.range (m * [z].length)).map fun i=>.v ([z].toArray[i % [z].length]!):=by
   apply List.ext_getElem?
   intro j
   simp only [List.length_singleton,Nat.mul_one,Nat.mod_one,List.getElem?_map]
   by_cases hj:j<m
   ·rw [List.getElem?_replicate,if_pos hj,List.getElem?_range hj];rfl
   ·rw [List.getElem?_replicate,if_neg hj,List.getElem?_eq_none (by simpa using hj)];rfl
  rw [e];exact hg
 ·exact hg
section
variable {P:Program} {o:Oper} {σ:AS}
theorem ok_make {t e:TypeId} {s by_ d:Nat} {y z:Operand} {k k':IntKind} {a:Int} {zs:List Value} (h:o.op=.makeSlice t y z) (ht:inB P t=some (e,s,by_)) (hz:zeroA P e=some zs) (hd:lo σ.O d=none) (hy:opv σ y=.v (.int k a)) (hzz:opv σ z=.v (.int k' a))
 (hv:0≤a∧a*by_≤140737488355328∧a≤140737488355328):OpOk P o σ ⟨.row d 0,[(d,.row e s a.toNat 0 (repA a.toNat zs))],[]⟩:=by
 intro M w0 ac E hN K Q hK
 obtain ⟨hu,hs,i,zv,hi,hzv,hzs,his,hib⟩:=inB_spec ht
 have hz':zv.cells.toList=zs∧zs.all (·.oneCell')=true:=by
  unfold zeroA at hz;rw [hi] at hz;simp only [hzv] at hz
  split at hz
  ·rename_i h1;injection hz with hz;subst hz;exact ⟨rfl,h1⟩
  ·cases hz
 have hzl:zs.length=s:=by rw [←hz'.1,Array.length_toList,hzs]
 obtain ⟨hf,hl⟩:=repA_leafs (E:=E) a.toNat hz'.2 (by omega)
 have e1:=hN.op y;rw [hy] at e1;have e1:=sees_v e1
 have e2:=hN.op z;rw [hzz] at e2;have e2:=sees_v e2
 have hw:IntKind.i64.wrap a=a:=IntWalk.i64_in _ (by omega)
 have hnat:((a.toNat:Nat):Int)=a:=by omega
 have hbig:¬(by_:Int)*a>281474976710656:=by rw [Int.mul_comm];omega
 have hrun:(execOp ac.eval o).run P E.w=.ok (.value (.slice (some ⟨E.w.heap.size,0,none⟩) a.toNat a.toNat)) (E.w.alloc (.cells ((List.range (a.toNat*zs.length)).map fun i=>zs.toArray[i%zs.length]!).toArray e)):=by
  have harr:((Array.range (a.toNat*s)).map fun i=>zv.cells[i%zv.cells.size]!)=((List.range (a.toNat*zs.length)).map fun i=>zs.toArray[i%zs.length]!).toArray:=by
   apply Array.toList_inj.1
   rw [←hz'.1]
   simp [Array.toList_range,hzs]
  have hn0:¬a<0:=by omega
  have hr1:(if a.toNat*s=0 then (pure #[]:Sem (Array Value)) else do pure (←zeroValue e).cells).run P E.w=.ok (if a.toNat*s=0 then #[] else zv.cells) E.w:=by
   split<;>simp [zeroValue,typeInfo,hi,hzv]
  have hr2:((Array.range (a.toNat*s)).map fun i=>(if a.toNat*s=0 then #[] else zv.cells)[i%(if a.toNat*s=0 then #[] else zv.cells).size]!)=((List.range (a.toNat*zs.length)).map fun i=>zs.toArray[i%zs.length]!).toArray:=by
   rw [←harr]
   split
   ·rename_i h0;apply Array.toList_inj.1;simp [h0]
   ·rfl
  have hask:∀ n:Nat,(askRoom n).run P E.w=.ok () E.w:=fun n=>by unfold askRoom;split<;>rfl
  simp only [execOp,h,Instr.makeSlice,e1,e2,asInt,asIntOf,Sem.run_bind,Sem.run_pure,Result.andThen_ok,run_underlying hu,typeInfo,run_program,hi,hib,hw]
  simp [hn0,hbig,hask,sizeOf,typeInfo,hi,his,newRow]
  have harr':=harr
  simp at harr'
  split
  ·rename_i h0
   have h1:a.toNat*zs.length=0:=by rw [hzl];exact h0
   rw [h0,h1]
   have e:Array.map (fun _=>(default:Value)) (Array.range 0)=(List.map (fun i=>zs[i%zs.length]?.getD default) (List.range 0)).toArray:=by apply Array.toList_inj.1;simp [Array.toList_range]
   rw [e]
  ·simp [zeroValue,typeInfo,hi,hzv,harr']
 have hown:(E.w.alloc (.cells ((List.range (a.toNat*zs.length)).map fun i=>zs.toArray[i%zs.length]!).toArray e)).ownsRow E.w.heap.size e s (.slice (some ⟨E.w.heap.size,0,none⟩) a.toNat a.toNat) a.toNat ((List.range (a.toNat*zs.length)).map fun i=>zs.toArray[i%zs.length]!) :=
  ⟨by simp [hzl],.inr ⟨E.w.heap.size,a.toNat,_,rfl,Nat.le_refl _,heap_alloc_new _ _,Nat.le_refl _,by unfold maxLen;omega,by simp [hzl],by rw [←hzl];exact List.take_of_length_le (by simp)⟩⟩
 obtain ⟨hm',ha'⟩:=hN.mem.newRow hN.ob hd (belA (belR E.w) _) (k:=0) hs hown hl.1 (fun j x u hx hu=>rep_of (List.all_eq_true.1 hf x (List.mem_of_getElem? hx)) (hl.2 j x u hx hu).1)
 unfold Oper.wp
 rw [hrun]
 refine hK _ _ rfl hm' ha' ⟨by simp [lo_eq],fun e4 s4 n4 k4 c4 h4=>?_⟩
 simp only [lo_eq,Option.some.injEq,AObj.row.injEq] at h4
 obtain ⟨rfl,rfl,rfl,rfl,rfl⟩:=h4
 exact ⟨Nat.le_refl _,fun _=>by simp only [upd_eq]⟩
theorem ok_min {ts:Array TypeId} {x y:Operand} {k:IntKind} {a b:Int} (h:o.op=.call { callee:=.builtin .min,args:=#[x,y],argTypes:=ts }) (hx:opv σ x=.v (.int k a)) (hy:opv σ y=.v (.int k b)):OpOk P o σ ⟨.v (.int k (if b<a then b else a)),[],[]⟩ :=
 OpOk.pure fun q E hs _ _=>by
  have e1:=hs x;rw [hx] at e1;have e1:=sees_v e1
  have e2:=hs y;rw [hy] at e2;have e2:=sees_v e2
  exact ⟨_,by simp [execOp,h,resolve,invoke,builtin,Builtin.min_,Builtin.min2,e1,e2],rfl,rfl⟩
theorem ok_max {ts:Array TypeId} {x y:Operand} {k:IntKind} {a b:Int} (h:o.op=.call { callee:=.builtin .max,args:=#[x,y],argTypes:=ts }) (hx:opv σ x=.v (.int k a)) (hy:opv σ y=.v (.int k b)):OpOk P o σ ⟨.v (.int k (if a<b then b else a)),[],[]⟩ :=
 OpOk.pure fun q E hs _ _=>by
  have e1:=hs x;rw [hx] at e1;have e1:=sees_v e1
  have e2:=hs y;rw [hy] at e2;have e2:=sees_v e2
  exact ⟨_,by simp [execOp,h,resolve,invoke,builtin,Builtin.max_,Builtin.max2,e1,e2],rfl,rfl⟩
def byL (l:List UInt8):List AV:=l.map fun b=>.v (.int .u8 (b.toNat:Int))
theorem ok_str {src dst e:TypeId} {y:Operand} {n:Nat} {cs:List AV} {l:List UInt8} (h:o.op=.convert src dst y) (h1:P.underlying src=some (.slice e)) (h2:P.underlying e=some (.int .u8)) (h3:P.underlying dst=some .string) (hy:srcA (lo σ.O) (opv σ y)=some (n,cs)) (hn:n=l.length) (hc:cs=byL l) :
 OpOk P o σ ⟨.v (.string ⟨l.toArray⟩),[],[]⟩ :=
 OpOk.pure fun q E hs hob ⟨M,w0,hm⟩=>by
  subst hc;subst hn
  rw [←hob] at hy
  obtain ⟨A,c,us,e1,hl,hone,hr,ha⟩:=src_sees hm hy (hs y)
  have hus:us=u8s l:=by
   apply List.ext_getElem?
   intro j
   unfold byL at hr hl
   rw [List.length_map] at hl
   by_cases hj:j<l.length
   ·obtain ⟨u,hu⟩:=getElem?_of (l:=us) (j:=j) (by omega)
    have:=hr j _ u (by rw [List.getElem?_map,List.getElem?_eq_getElem hj];rfl) hu
    rw [hu,u8s_get l j hj]
    cases this;rfl
   ·rw [List.getElem?_eq_none (by omega),List.getElem?_eq_none (by rw [u8s_length];omega)]
  subst hus
  have hRd:Rd E.w E.w.heap.size 1 A l.length (u8s l):=⟨by simp [u8s],fun h0=>by
   obtain ⟨a,rfl,hc⟩:=ha (fun he=>by have:=congrArg List.length he;simp [byL] at this;subst this;simp at h0)
   refine ⟨a,rfl,?_,hc⟩
   have:=hc 0 _ (u8s_get l 0 h0)
   rw [add_zero'] at this
   exact World.block_lt_of_cell? E.w a this⟩
  refine ⟨_,?_,rfl,rfl⟩
  simp only [execOp,h,e1,Sem.run_bind,run_str (P:=P) hRd h1 h2 h3,Result.andThen_ok,Sem.run_pure]
theorem addr_at (b j:Nat):(⟨b,0,none⟩:Addr).add j=⟨b,j,none⟩:=by unfold Addr.add;split<;>simp_all
theorem ok_bytes {src dst e:TypeId} {y:Operand} {s:ByteArray} (h:o.op=.convert src dst y) (h1:P.underlying src=some .string) (h2:P.underlying dst=some (.slice e)) (h3:P.underlying e=some (.int .u8)) (hy:opv σ y=.v (.string s)) (hs:s.data.toList.length≤maxLen) :
 OpOk P o σ ⟨.lst s.data.toList.length (byL s.data.toList),[],[]⟩:=by
 intro M w0 a E hN K Q hK
 have e1:=hN.op y;rw [hy] at e1;have e1:=sees_v e1
 have hsz:s.size=s.data.toList.length:=by rw [Array.length_toList];rfl
 have hrun:(execOp a.eval o).run P E.w=.ok (.value (.slice (some ⟨E.w.heap.size,0,none⟩) s.size (grownCap E.w s.size 0 e))) (Lib.bytesWorld E.w e s):=by
  simp only [execOp,h,e1,Sem.run_bind,Lib.run_convert_string_bytes E.w src dst e s h1 h2 h3,Result.andThen_ok,Sem.run_pure]
 have hb:Below E.w.heap.size E.w (Lib.bytesWorld E.w e s):=by
  refine ⟨?_,?_,?_,?_,fun i hi=>Lib.bytesWorld_at_old _ _ s i hi⟩
  ·unfold Lib.bytesWorld World.freeze;rw [if_neg (by decide)];rfl
  ·unfold Lib.bytesWorld World.freeze;rw [if_neg (by decide)];rfl
  ·unfold Lib.bytesWorld World.freeze;rw [if_neg (by decide)];rfl
  ·rw [Lib.bytesWorld_size];omega
 unfold Oper.wp
 rw [hrun]
 obtain ⟨hm,ha⟩:=hN.mem.grow hb (fun b=>E.F b∨(E.w.heap.size≤b∧b<(Lib.bytesWorld E.w e s).heap.size)) (fun b hb=>hb) (fun b hb=>.inl hb)
 refine hK _ ⟨Lib.bytesWorld E.w e s,_,E.β,E.ν,E.ob⟩ hN.ob hm ha ?_
 have hge:=grownCap_ge E.w s.size 0 e
 have hle:=grownCap_le_maxLen E.w s.size 0 e (by rw [hsz];exact hs)
 show Rep (Lib.bytesWorld E.w e s) (fun b=>E.F b∨(E.w.heap.size≤b∧b<(Lib.bytesWorld E.w e s).heap.size)) (.lst s.data.toList.length (byL s.data.toList)) (.slice (some ⟨E.w.heap.size,0,none⟩) s.size (grownCap E.w s.size 0 e))
 rw [←hsz]
 generalize grownCap E.w s.size 0 e=cp at hge hle ⊢
 rcases Nat.eq_zero_or_pos s.size with h0|h0
 ·have hd:s.data.toList=[]:=List.eq_nil_of_length_eq_zero (by omega)
  rw [hd,h0]
  exact .nil _ _ hle
 ·refine .lst s.size _ _ ⟨E.w.heap.size,0,none⟩ (u8s s.data.toList) h0 hge hle (.inr ⟨Nat.le_refl _,by rw [Lib.bytesWorld_size];exact Nat.lt_succ_self _⟩) (by unfold u8s byL;rw [List.length_map,List.length_map]) (fun u hu=>(List.mem_map.1 hu).elim fun z hz=>by rw [←hz.2];rfl) (fun j u hu=>?_) (fun j x u hx hu=>?_)
  ·have hadd:=addr_at E.w.heap.size j
   have hj:j<s.size:=by
    have:=(List.getElem?_eq_some_iff.1 hu).1
    simp [u8s] at this
    exact this
   rw [hadd,Lib.bytesWorld_cell E.w _ s j hj,←hu]
   have hj2:j<s.data.toList.length:=by omega
   simp only [u8s,List.getElem?_map,List.getD_eq_getElem?_getD,List.getElem?_eq_getElem hj2,Option.map_some,Option.getD_some]
  ·unfold byL at hx
   unfold u8s at hu
   rw [List.getElem?_map] at hx hu
   cases hc:s.data.toList[j]? with
   | none=>rw [hc] at hx;cases hx
   | some z =>
     rw [hc] at hx hu
     injection hx with hx;injection hu with hu;subst hx;subst hu
     exact .v _ rfl
end
structure Inst where
 args:List AV
 pre:List (Nat×AObj)
 res:AV
 post:List (Nat×AObj)
def FnOk (P:Program) (f:FuncId) (I:Inst):Prop:=∀ (M:Cx) (w0:World) (E:Env) (vs:List Value),E.ob=lo I.pre→Mem M w0 E→vs.length=I.args.length→(∀ (j:Nat) (x:AV) (u:Value),I.args[j]?=some x→vs[j]?=some u→Sees1 E x u) →
 Calls P f vs.toArray E.w fun y w'=>∃ E' v,E'.w=w'∧y=.returned v∧E'.ob=lo I.post∧Mem M w0 E'∧After E E'∧Sees E' I.res v
theorem rep_row {M:Cx} {w0:World} {E:Env} (hm:Mem M w0 E) {o:Nat} {e:TypeId} {s n k:Nat} {cs:List AV} (ho:E.ob o=some (.row e s n k cs)) (F:Nat→Prop) (hF:∀ b,E.F b→F b) (hb:∀ b,(E.ν o).ownBlock=some b→F b):Rep E.w F (.lst n cs) (E.ν o):=by
 obtain ⟨us,hown,hs,hl,hr⟩:=hm.row ho
 rcases hown.2 with ⟨hv,hn⟩|⟨g,cap,cur,hv,_,hh,hnc,hcm,_⟩
 ·subst hn
  have hc:cs=[]:=List.eq_nil_of_length_eq_zero (by rw [←hl,hown.1];simp)
  subst hc;rw [hv];exact .nil none 0 (Nat.zero_le _)
 ·rw [hv]
  rcases Nat.eq_zero_or_pos n with hn|hn
  ·subst hn
   have hc:cs=[]:=List.eq_nil_of_length_eq_zero (by rw [←hl,hown.1];simp)
   subst hc;exact .nil _ cap hcm
  ·refine .lst n cap cs ⟨g,0,none⟩ us hn hnc hcm (hb g (by rw [hv];rfl)) hl (fun u hu=>?_) (hown.cells (g:=g) (by rw [hv];rfl)) (fun j x u hx hu=>(hr j x u hx hu).mono hF fun _ _=>rfl)
   obtain ⟨j,hj,rfl⟩:=List.getElem_of_mem hu
   exact (hr j _ _ (List.getElem?_eq_getElem (by rw [←hl];exact hj)) (List.getElem?_eq_getElem hj)).one
def adapt1 (ob:Nat→Option AObj):AV→AV
 | .row o ver=>match ob o with|some (.row _ _ n k cs)=>if k=ver then .lst n cs else .junk|_=>.junk
 | .v (.slice none 0 0)=>.lst 0 []
 | x=>x
def adapt (ob:Nat→Option AObj):AV→AV
 | .agg cs=>.agg (cs.map (adapt1 ob))
 | x=>adapt1 ob x
def rowsOf1:AV→List Nat
 | .row o _=>[o]
 | _=>[]
def rowsOf:AV→List Nat
 | .agg cs=>cs.flatMap rowsOf1
 | x=>rowsOf1 x
def ptrsOf1:AV→List Nat
 | .ptr o _=>[o]
 | .rptr o _ _=>[o]
 | _=>[]
def ptrsOf:AV→List Nat
 | .agg cs=>cs.flatMap ptrsOf1
 | x=>ptrsOf1 x
def refsOf1:AV→List Nat
 | .ptr o _=>[o]
 | .rptr o _ _=>[o]
 | .row o _=>[o]
 | _=>[]
theorem Leaf.restr {E E':Env} (hw:E'.w=E.w) (hF:∀ b,E.F b→E'.F b) (hβ:E'.β=E.β) (hν:E'.ν=E.ν) {x:AV} {u:Value} (ho:∀ o∈refsOf1 x,E'.ob o=E.ob o) (hx:Leaf E x u):Leaf E' x u:=by
 have hold:∀ b,E.F b→E'.w.heap[b]?=E.w.heap[b]?:=fun b _=>by rw [hw]
 cases x with
 | v x=>exact hx
 | lst n cs=>exact Rep.mono hF hold hx
 | agg=>exact hx
 | tup=>exact hx
 | opt=>exact hx
 | fk=>exact hx
 | junk=>trivial
 | row o ver =>
   have e:=ho o (by simp [refsOf1])
   exact ⟨by rw [e];exact hx.1,fun e1 s n k cs h=>by rw [e] at h;rw [hν];exact hx.2 _ _ _ _ _ h⟩
 | ptr o off =>
   have e:=ho o (by simp [refsOf1])
   exact ⟨by rw [e];exact hx.1,fun t cs h=>by rw [e] at h;rw [hβ];exact hx.2 _ _ h⟩
 | rptr o ver off =>
   have e:=ho o (by simp [refsOf1])
   exact ⟨by rw [e];exact hx.1,fun e1 s n k cs h=>by rw [e] at h;rw [hν];exact hx.2 _ _ _ _ _ h⟩
 | fptr cs off =>
   obtain ⟨a,us,rfl,hFa,hl,h1,hu,hr⟩:=hx
   exact ⟨a,us,rfl,hF _ hFa,hl,h1,fun j u h=>by rw [hw];exact hu j u h,fun j x u h1 h2=>(hr j x u h1 h2).mono hF hold⟩
theorem adapt1_sees {M:Cx} {w0:World} {E Ec:Env} {ob:Nat→Option AObj} (H:∀ q x,ob q=some x→E.ob q=some x) (hm:Mem M w0 E) (hw:Ec.w=E.w) (hF:∀ b,E.F b→Ec.F b) (hβ:Ec.β=E.β) (hν:Ec.ν=E.ν) {x:AV} {u:Value} (hr:∀ o∈rowsOf1 x,∀ b,bk E o=some b→Ec.F b) (hp:∀ o∈ptrsOf1 x,Ec.ob o=E.ob o) (hx:Leaf E x u):Leaf Ec (adapt1 ob x) u:=by
 cases x with
 | row o ver =>
   simp only [adapt1]
   split
   ·rename_i z e s n k cs ho
    have ho:=H _ _ ho
    split
    ·rename_i hk
     rw [(hx.2 _ _ _ _ _ ho).2 hk.symm]
     show Rep Ec.w Ec.F (.lst n cs) (E.ν o)
     rw [hw]
     exact rep_row hm ho Ec.F hF fun b hb=>hr o (by simp [rowsOf1]) b (by unfold bk;rw [ho];exact hb)
    ·trivial
   ·trivial
 | v y =>
   unfold adapt1
   split
   ·rename_i h;cases h
   ·rename_i h;injection h with h
    obtain ⟨rfl,_⟩:=hx
    rw [h]
    exact .nil none 0 (Nat.zero_le _)
   ·exact hx
 | lst n cs=>exact Leaf.restr (x:=.lst n cs) hw hF hβ hν (fun o ho=>by cases ho) hx
 | agg=>exact hx
 | tup=>exact hx
 | opt=>exact hx
 | fk=>exact hx
 | junk=>trivial
 | ptr o off=>exact Leaf.restr (x:=.ptr o off) hw hF hβ hν (fun q hq=>hp q hq) hx
 | rptr o ver off=>exact Leaf.restr (x:=.rptr o ver off) hw hF hβ hν (fun q hq=>hp q hq) hx
 | fptr cs off=>exact Leaf.restr (x:=.fptr cs off) hw hF hβ hν (fun o ho=>by cases ho) hx
theorem adapt_sees {M:Cx} {w0:World} {E Ec:Env} {ob:Nat→Option AObj} (H:∀ q x,ob q=some x→E.ob q=some x) (hm:Mem M w0 E) (hw:Ec.w=E.w) (hF:∀ b,E.F b→Ec.F b) (hβ:Ec.β=E.β) (hν:Ec.ν=E.ν) {x:AV} {u:Value} (hr:∀ o∈rowsOf x,∀ b,bk E o=some b→Ec.F b) (hp:∀ o∈ptrsOf x,Ec.ob o=E.ob o) (hx:Sees1 E x u):Sees1 Ec (adapt ob x) u:=by
 cases x with
 | agg cs =>
   obtain ⟨us,rfl,hl,hs⟩:=hx
   refine ⟨us,rfl,by simp [hl],fun j y v hy hv=>?_⟩
   rw [List.getElem?_map] at hy
   cases hc:cs[j]? with
   | none=>rw [hc] at hy;cases hy
   | some z =>
     rw [hc] at hy;injection hy with hy;subst hy
     have hz:z∈cs:=List.mem_of_getElem? hc
     obtain ⟨h1,h2⟩:=hs j z v hc hv
     exact ⟨adapt1_sees H hm hw hF hβ hν (fun o ho=>hr o (List.mem_flatMap.2 ⟨z,hz,ho⟩)) (fun o ho=>hp o (List.mem_flatMap.2 ⟨z,hz,ho⟩)) h1,h2⟩
 | _=>simp only [adapt];exact Sees1.leaf (adapt1_sees H hm hw hF hβ hν (by simpa only [rowsOf] using hr) (by simpa only [ptrsOf] using hp) (by simpa only [Sees1] using hx))
theorem lo_append (A B:List (Nat×AObj)) (q:Nat):lo (A++B) q=match lo A q with|some x=>some x|none=>lo B q:=by
 induction A with
 | nil=>rfl
 | cons a A ih =>
   obtain ⟨k,x⟩:=a
   by_cases h:q=k
   ·subst h;show lo ((q,x)::(A++B)) q=_;rw [lo_eq,lo_eq]
   ·show lo ((k,x)::(A++B)) q=_;rw [lo_ne _ _ h,lo_ne _ _ h];exact ih
def plainB:AV→Bool
 | .tup _=>false
 | .opt _ _=>false
 | _=>true
def scal1:AV→Bool
 | .v _=>true
 | .junk=>true
 | .fk _=>true
 | _=>false
def scal:AV→Bool
 | .agg cs=>cs.all scal1
 | .tup l=>l.all fun x=>match x with | .agg cs=>cs.all scal1|y=>scal1 y
 | x=>scal1 x
theorem scal1_sees {E E':Env} {x:AV} {u:Value} (h:scal1 x=true) (hx:Leaf E x u):Leaf E' x u:=by
 cases x<;>first|(cases h;done)|exact hx
theorem scalL_sees {E E':Env} {cs:List AV} {us:List Value} (h:cs.all scal1=true) (hx:Leafs E cs us):Leafs E' cs us :=
 ⟨hx.1,fun j x u h1 h2=>⟨scal1_sees (List.all_eq_true.1 h x (List.mem_of_getElem? h1)) (hx.2 j x u h1 h2).1,(hx.2 j x u h1 h2).2⟩⟩
theorem scal_sees {E E':Env} {x:AV} {u:Value} (h:scal x=true) (hx:Sees E x u):Sees E' x u:=by
 cases x with
 | agg cs=>obtain ⟨us,e,hl⟩:=hx;exact ⟨us,e,scalL_sees h hl⟩
 | tup l =>
   obtain ⟨us,e,hl,hs⟩:=hx
   refine ⟨us,e,hl,fun j x u h1 h2=>?_⟩
   have h3:=List.all_eq_true.1 h x (List.mem_of_getElem? h1)
   have h4:=hs j x u h1 h2
   cases x with
   | agg cs=>obtain ⟨vs,e2,hl2⟩:=h4;exact ⟨vs,e2,scalL_sees h3 hl2⟩
   | _=>exact Sees1.leaf (scal1_sees (E:=E) h3 (by simpa only [Sees1] using h4))
 | opt=>cases h
 | _=>exact Sees.leaf (scal1_sees (E:=E) h hx)
def callB (P:Program) (f:FuncId):Bool :=
 match P.funcs[f]? with
 | some fn=>fn.name != "runtime.NumGoroutine"&&fn.body.isSome
 | none=>false
section
variable {P:Program} {o:Oper} {σ:AS}
theorem run_callFunc {f:FuncId} (h:callB P f=true) (args:Array Value) (w:World):(callFunc f args).run P w=.ok (.enter f args) w:=by
 unfold callB at h
 split at h
 ·rename_i fn hf
  simp only [Bool.and_eq_true,bne_iff_ne,ne_eq,Option.isSome_iff_exists] at h
  obtain ⟨h1,b,h2⟩:=h
  simp [callFunc,hf,h1,h2]
 ·cases h
def gonesOf (l:List AV):List (Nat×AObj):=(l.flatMap rowsOf).map fun q=>(q,.gone)
theorem gonesOf_at {l:List AV} {q:Nat} (h:lo (gonesOf l) q≠none):lo (gonesOf l) q=some .gone∧∃ x∈l,q∈rowsOf x:=by
 unfold gonesOf at *
 have:∀ m:List Nat,lo (m.map fun q=>(q,AObj.gone)) q≠none→lo (m.map fun q=>(q,AObj.gone)) q=some .gone∧q∈m:=by
  intro m
  induction m with
  | nil=>intro h;exact absurd rfl h
  | cons a m ih =>
    intro h
    by_cases ha:q=a
    ·subst ha;exact ⟨by simp only [List.map_cons];rw [lo_eq],by simp⟩
    ·simp only [List.map_cons] at h ⊢
     rw [lo_ne _ _ ha] at h ⊢
     exact ⟨(ih h).1,by simp [(ih h).2]⟩
 obtain ⟨h1,h2⟩:=this _ h
 exact ⟨h1,List.mem_flatMap.1 h2⟩
theorem gonesOf_in {l:List AV} {q:Nat} {x:AV} (hx:x∈l) (hq:q∈rowsOf x):lo (gonesOf l) q≠none:=by
 unfold gonesOf
 have:∀ m:List Nat,q∈m→lo (m.map fun q=>(q,AObj.gone)) q≠none:=by
  intro m
  induction m with
  | nil=>intro h;cases h
  | cons a m ih =>
    intro h
    simp only [List.map_cons]
    by_cases ha:q=a
    ·subst ha;rw [lo_eq];simp
    ·rw [lo_ne _ _ ha];exact ih (by simpa [ha] using h)
 exact this _ (List.mem_flatMap.2 ⟨x,hx,hq⟩)
theorem ok_call {f:FuncId} {ob:Nat→Option AObj} (H:∀ q x,ob q=some x→lo σ.O q=some x) {y0:Operand} {args:Array Operand} {ts:Array TypeId} {I:Inst} (h:o.op=.call { callee:=.value y0,args:=args,argTypes:=ts }) (hy0:opv σ y0=.v (.func (.func f) #[] #[])) (hf:callB P f=true) (hI:FnOk P f I)
 (ha:args.toList.map (fun x=>adapt ob (opv σ x))=I.args) (h1:∀ x∈args.toList,plainB (opv σ x)=true)
 (hpre:∀ q x,lo I.pre q=some x→lo σ.O q=some x) (hnew:∀ q x,lo I.post q=some x→lo I.pre q=none→lo σ.O q=none)
 (hrefs:∀ q x,lo I.pre q=some x→(match x with | .cells _ cs=>cs.all fun y=>(refsOf1 y).all fun p=>(lo I.pre p).isSome|_=>true)=true)
 (hptr:∀ x∈args.toList,∀ p∈ptrsOf (opv σ x),(lo I.pre p).isSome=true)
 (hrow:∀ x∈args.toList,∀ p∈rowsOf (opv σ x),lo I.pre p=none)
 {gs:List (Nat×AObj)} (hlend:(gs=[]∧((∀ x∈args.toList,rowsOf (opv σ x)=[])∨(I.post=[]∧scal I.res=true)))∨gs=gonesOf (args.toList.map (opv σ))):OpOk P o σ ⟨I.res,I.post++gs,[]⟩:=by
 intro M w0 a E hN K Q hK
 have hob:=hN.ob
 let bb:Nat→Prop:=fun b=>∃ x∈args.toList,∃ p∈rowsOf (opv σ x),bk E p=some b
 let Fc:Nat→Prop:=fun b=>E.F b∨bb b
 let Ec:Env:=⟨E.w,Fc,E.β,E.ν,lo I.pre⟩
 have hobc:∀ q,lo I.pre q≠none→Ec.ob q=E.ob q:=fun q hq=>by
  obtain ⟨x,hx⟩:=Option.ne_none_iff_exists'.1 hq
  show lo I.pre q=E.ob q
  rw [hob,hx,hpre q x hx]
 have hbkc:∀ q b,bk Ec q=some b→lo I.pre q≠none∧bk E q=some b:=fun q b hb=>by
  have hq:lo I.pre q≠none:=fun h0=>by unfold bk at hb;simp only [show Ec.ob q=none from h0] at hb;cases hb
  refine ⟨hq,?_⟩
  unfold bk at hb ⊢
  rw [←hobc q hq];exact hb
 have hmc:Mem ⟨fun b=>∃ q,bk Ec q=some b,Fc,Ec⟩ E.w Ec:=by
  refine ⟨Chg.refl _ _,fun b hb=>.inl hb,fun b hb=>?_,fun q x hx=>?_,fun q b hb=>?_,fun q q' b h1 h2=>hN.mem.inj q q' b (hbkc q b h1).2 (hbkc q' b h2).2⟩
  ·rcases hb with hb|⟨x,_,p,_,hp⟩
   ·exact hN.mem.fz b hb
   ·exact (hN.mem.live p b hp).2.1
  ·have hx':E.ob q=some x:=by rw [hob];exact hpre q x hx
   have hok:=hN.mem.ok q x hx'
   have hrf:=hrefs q x hx
   cases x with
   | gone=>trivial
   | cells t cs =>
     obtain ⟨us,hb,hl,hs⟩:=hok
     refine ⟨us,hb,hl,fun j y u hy hu=>⟨Leaf.restr (E:=E) (E':=Ec) rfl (fun b hb=>Or.inl hb) rfl rfl (fun p hp=>?_) (hs j y u hy hu).1,(hs j y u hy hu).2⟩⟩
     have h2:=List.all_eq_true.1 hrf y (List.mem_of_getElem? hy)
     have h3:=List.all_eq_true.1 h2 p hp
     exact hobc p (fun h0=>by rw [h0] at h3;cases h3)
   | row e s n k cs =>
     obtain ⟨us,hb,hs0,hl,hr⟩:=hok
     exact ⟨us,hb,hs0,hl,fun j y u hy hu=>(hr j y u hy hu).mono (F':=Fc) (fun b hb=>Or.inl hb) fun _ _=>rfl⟩
  ·obtain ⟨hq,hb'⟩:=hbkc q b hb
   refine ⟨fun hf'=>?_,(hN.mem.live q b hb').2.1,.inr ⟨q,hb⟩⟩
   rcases hf' with hf'|⟨x,hx,p,hp,hpb⟩
   ·exact (hN.mem.live q b hb').1 hf'
   ·have:=hN.mem.inj q p b hb' hpb;subst this;exact hq (hrow x hx _ hp)
 have hcall:=hI _ E.w Ec (args.toList.map a.eval) rfl hmc (by rw [←ha];simp) (fun j x u hx hu=>by
  rw [←ha] at hx
  rw [List.getElem?_map] at hx hu
  cases hy:args.toList[j]? with
  | none=>rw [hy] at hx;cases hx
  | some y =>
    rw [hy] at hx hu
    injection hx with hx;injection hu with hu;subst hx;subst hu
    have hmem:=List.mem_of_getElem? hy
    have hs:=hN.op y
    have h1':=h1 y hmem
    have hs1:Sees1 E (opv σ y) (a.eval y):=by
     generalize opv σ y=z at hs h1'
     cases z<;>first|(cases h1';done)|exact hs
    exact adapt_sees (Ec:=Ec) (by rw [hob];exact H) hN.mem rfl (fun b hb=>Or.inl hb) rfl rfl (fun p hp b hb=>Or.inr ⟨y,hmem,p,hp,hb⟩) (fun p hp=>hobc p (fun h0=>by have:=hptr y hmem p hp;rw [h0] at this;cases this)) hs1)
 unfold Oper.wp
 have hrun:(execOp a.eval o).run P E.w=.ok (.enter f (args.toList.map a.eval).toArray) E.w:=by
  have:args.map a.eval=(args.toList.map a.eval).toArray:=by rw [←Array.toList_map]
  have ey:=hN.op y0;rw [hy0] at ey;have ey:=sees_v ey
  simp only [execOp,h,resolve,ey,Deferred.ofValue,Sem.run_bind,Sem.run_pure,Result.andThen_ok,invoke]
  rw [show (args.map fun x=>a.eval x)=args.map a.eval from rfl,this]
  simpa using run_callFunc hf _ E.w
 rw [hrun]
 simp only [Oper.upon_enter]
 refine hcall.mono ?_
 rintro y w' ⟨E',v,rfl,rfl,hob',hm',haf,hres⟩
 let gm:Prop:=gs=gonesOf (args.toList.map (opv σ))
 let X:Nat→Prop:=fun q=>lo I.post q≠none∨lo gs q≠none
 have hXpre:∀ q,lo I.pre q≠none→lo I.post q≠none:=fun q hq=>by
  have:=(haf.obj q hq).1;rw [hob'] at this;exact this
 have hgs:∀ q,lo gs q≠none→gm∧lo gs q=some .gone:=fun q hq=>by
  rcases hlend with ⟨h0,_⟩|h0
  ·rw [h0] at hq;exact absurd rfl hq
  ·refine ⟨h0,?_⟩
   rw [h0] at hq ⊢
   exact (gonesOf_at hq).1
 classical
 let E2:Env:=⟨E'.w,fun b=>E'.F b∧(bb b→gm),fun q=>if lo I.post q≠none then E'.β q else E.β q,fun q=>if lo I.post q≠none then E'.ν q else E.ν q,lo ((I.post++gs)++σ.O)⟩
 have hbb:∀ b,bb b→b<E.w.heap.size∧¬E.F b∧∀ q,lo I.pre q≠none→bk E q≠some b:=fun b ⟨x,hx,p,hp,hpb⟩=>by
  refine ⟨(hN.mem.live p b hpb).2.1,(hN.mem.live p b hpb).1,fun q hq he=>?_⟩
  have:=hN.mem.inj q p b he hpb;subst this;exact hq (hrow x hx _ hp)
 have hob2:∀ q,lo I.post q≠none→E2.ob q=E'.ob q∧E2.β q=E'.β q∧E2.ν q=E'.ν q:=fun q hXq=>by
  refine ⟨?_,if_pos hXq,if_pos hXq⟩
  show lo ((I.post++gs)++σ.O) q=_
  rw [hob',lo_append,lo_append]
  cases hq2:lo I.post q with
  | none=>exact absurd hq2 hXq
  | some x=>rfl
 have hob3:∀ q,X q→lo I.post q=none→E2.ob q=some .gone:=fun q hX h0=>by
  rcases hX with h1|h1
  ·exact absurd h0 h1
  ·show lo ((I.post++gs)++σ.O) q=_
   rw [lo_append,lo_append,h0,(hgs q h1).2]
 have hsee:∀ (x:AV) (u:Value),(x=I.res∨I.post≠[])→Sees E' x u→Sees E2 x u:=fun x u hc hx=>by
  by_cases hno:∀ b,bb b→gm
  ·refine Sees.after (E:=E') (E':=E2) ⟨fun b hb=>⟨hb,hno b⟩,fun _ _=>rfl,fun q hq=>?_⟩ hx
   obtain ⟨e1,e2,e3⟩:=hob2 q (by rw [←hob'];exact hq)
   exact ⟨by rw [e1];exact hq,fun t cs hh=>⟨⟨t,cs,by rw [←e1];exact hh⟩,e2⟩,fun e s n k cs hh=>⟨e,s,n,k,cs,by rw [←e1];exact hh,Nat.le_refl _,fun _=>⟨e3,rfl⟩⟩⟩
  ·rcases hlend with ⟨_,hl|⟨hl1,hl2⟩⟩|hl
   ·exact absurd (fun b ⟨y,hy,p,hp,_⟩=>by rw [hl y hy] at hp;cases hp) hno
   ·rcases hc with hc|hc
    ·subst hc;exact scal_sees hl2 hx
    ·exact absurd hl1 hc
   ·exact absurd (fun _ _=>hl) hno
 have hbk2:∀ q,lo I.post q≠none→bk E2 q=bk E' q:=fun q hXq=>by
  obtain ⟨e1,e2,e3⟩:=hob2 q hXq
  unfold bk;rw [e1,e2,e3]
 have hbk3:∀ q b,X q→bk E2 q=some b→lo I.post q≠none:=fun q b hX hb h0=>by
  unfold bk at hb;rw [hob3 q hX h0] at hb;cases hb
 have hlive':∀ q b,bk E' q=some b→¬E'.F b∧b<E'.w.heap.size∧(E.w.heap.size≤b∨∃ p,bk Ec p=some b):=fun q b hb=>hm'.live q b hb
 obtain ⟨hm2,ha2⟩:=hN.mem.step (E':=E2) X hm'.chg.os hm'.chg.tape hm'.chg.output hm'.chg.size (fun b hb hne=>hm'.chg.block b hb fun ⟨p,hp⟩=>hne p (.inl (hXpre p (hbkc p b hp).1)) (hbkc p b hp).2)
  (fun b hb=>⟨haf.sub b (Or.inl hb),fun h0=>absurd hb (hbb b h0).2.1⟩)
  (fun b ⟨hb,hnb⟩=>by
   rcases hm'.org b hb with h1|h1|⟨p,hp⟩
   ·rcases h1 with h1|h1
    ·exact .inl h1
    ·have hg:=hnb h1
     obtain ⟨y,hy,p,hp,hpb⟩:=h1
     refine .inr ⟨hm'.fz b hb,.inr ⟨p,.inr ?_,hpb⟩⟩
     rw [hg]
     exact gonesOf_in (List.mem_map.2 ⟨y,hy,rfl⟩) hp
   ·exact .inr ⟨hm'.fz b hb,.inl h1⟩
   ·exact .inr ⟨hm'.fz b hb,.inr ⟨p,.inl (hXpre p (hbkc p b hp).1),(hbkc p b hp).2⟩⟩)
  (fun q hX=>by
   have hq:lo I.post q=none:=Classical.byContradiction fun h0=>hX (.inl h0)
   have hq2:lo gs q=none:=Classical.byContradiction fun h0=>hX (.inr h0)
   refine ⟨?_,if_neg (fun h0=>h0 hq),if_neg (fun h0=>h0 hq)⟩
   show lo ((I.post++gs)++σ.O) q=_
   rw [lo_append,lo_append,hq,hq2,hob])
  (fun q hX h0=>by
   by_cases hXq:lo I.post q=none
   ·have e1:=hob3 q hX hXq
    exact ⟨by rw [e1];simp,fun t cs hh=>(by rw [e1] at hh;cases hh),fun e s n k cs hh=>(by rw [e1] at hh;cases hh)⟩
   obtain ⟨e1,e2,e3⟩:=hob2 q hXq
   cases hq:lo I.pre q with
   | none =>
     obtain ⟨x,hx⟩:=Option.ne_none_iff_exists'.1 hXq
     rw [hob] at h0
     exact absurd (hnew q x hx hq) h0
   | some x =>
     have hqc:Ec.ob q≠none:=by show lo I.pre q≠none;rw [hq];simp
     obtain ⟨g1,g2,g3⟩:=haf.obj q hqc
     have hqe:Ec.ob q=E.ob q:=hobc q (by rw [hq];simp)
     exact ⟨by rw [e1];exact g1,fun t cs hh=>by
      rw [e1] at hh
      obtain ⟨⟨t0,c0,x0⟩,b0⟩:=g2 t cs hh
      exact ⟨⟨t0,c0,by rw [←hqe];exact x0⟩,e2.trans b0⟩,fun e s n k cs hh=>by
      rw [e1] at hh
      obtain ⟨a1,a2,a3,a4,a5,a6,a7,a8⟩:=g3 e s n k cs hh
      exact ⟨a1,a2,a3,a4,a5,by rw [←hqe];exact a6,a7,fun hk=>⟨e3.trans (a8 hk).1,(a8 hk).2⟩⟩⟩)
  (fun _ q x hX hx=>by
   by_cases hXq:lo I.post q=none
   ·rw [hob3 q hX hXq] at hx;injection hx with hx;subst hx;trivial
   obtain ⟨e1,e2,e3⟩:=hob2 q hXq
   have hne:I.post≠[]:=fun h0=>hXq (by rw [h0];rfl)
   have hok:=hm'.ok q x (by rw [←e1];exact hx)
   cases x with
   | gone=>trivial
   | cells t cs =>
     obtain ⟨us,hb,hl,hs⟩:=hok
     refine ⟨us,by rw [e2];exact hb,hl,fun j y u hy hu=>⟨?_,(hs j y u hy hu).2⟩⟩
     have h3:=hsee y u (.inr hne) (Sees.leaf (hs j y u hy hu).1)
     have h4:=(hs j y u hy hu).1
     cases y<;>first|exact h4.elim|exact h3
   | row e s n k cs =>
     obtain ⟨us,hb,hs0,hl,hr⟩:=hok
     refine ⟨us,by rw [e3];exact hb,hs0,hl,fun j y u hy hu=>?_⟩
     have hno:∀ b,bb b→gm:=by
      rcases hlend with ⟨_,hl2|⟨hl1,_⟩⟩|hl2
      ·exact fun b ⟨y,hy,p,hp,_⟩=>by rw [hl2 y hy] at hp;cases hp
      ·exact absurd hl1 hne
      ·exact fun _ _=>hl2
     exact (hr j y u hy hu).mono (fun b hb=>⟨hb,hno b⟩) fun _ _=>rfl)
  (fun q b hX hb=>by
   have hXq:=hbk3 q b hX hb
   rw [hbk2 q hXq] at hb
   obtain ⟨h2,h3,h4⟩:=hlive' q b hb
   refine ⟨fun hf=>h2 hf.1,h3,?_⟩
   rcases h4 with h4|⟨p,hp⟩
   ·exact .inl h4
   ·obtain ⟨hp1,hp2⟩:=hbkc p b hp
    exact .inr ⟨p,.inl (hXpre p hp1),hp2⟩)
  (fun q q' b hX hX' h1 h2=>by
   have hXq:=hbk3 q b hX h1
   have hXq':=hbk3 q' b hX' h2
   rw [hbk2 q hXq] at h1;rw [hbk2 q' hXq'] at h2;exact hm'.inj q q' b h1 h2)
 exact hK v E2 rfl hm2 ha2 (hsee _ _ (.inl rfl) hres)
end
end Go.Proofs.YtfhmaincnlaapaaGreat.Sy
