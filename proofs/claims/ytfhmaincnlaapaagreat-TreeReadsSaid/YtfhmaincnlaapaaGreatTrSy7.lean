/- COMPOSITES IN STATES TOLD BY TREES: structs and slices written out, made slices, cuts of slices and strings. -/
import Derived.Test.YtfhmaincnlaapaaGreatTrSy2
namespace Go.Proofs.YtfhmaincnlaapaaGreat.Sy
open Go.ChangeShapes Go.WideShapes Go.ChangeAt Go.RowKit
set_option linter.unusedVariables false
section
variable {P:Program} {o:Oper} {σ:AS}
theorem sees_v {E:Env} {x u:Value} (h:Sees E (.v x) u):u=x:=h.1
theorem ok_move {x:Operand} (h:o.op=.move x∨o.op=.assign x):OpOk P o σ ⟨opv σ x,[],[]⟩ :=
 OpOk.pure fun a E hs _ _=>⟨a.eval x,by rcases h with h|h<;>simp [execOp,h],hs x⟩
theorem ok_pick {c x y:Operand} {t:Bool} (h:o.op=.pick c x y) (hc:opv σ c=.v (.bool t)):OpOk P o σ ⟨bif t then opv σ x else opv σ y,[],[]⟩ :=
 OpOk.pure fun a E hs _ _=>⟨if t then a.eval x else a.eval y,by
  have e:=hs c;rw [hc] at e;have e:=sees_v e
  simp [execOp,h,e,asBool],by cases t<;>exact hs _⟩
theorem ok_load {t:TypeId} {y:Operand} {b:Bool} {k off:Nat} {cs:List AV} {x:AV} (h:o.op=.load t y) (ht:tyB P t=some (b,k)) (hv:viewOf (lo σ.O) (opv σ y)=some (cs,off)) (hx:rd1 b k cs off=some x):OpOk P o σ ⟨x,[],[]⟩ :=
 OpOk.pure fun a E hs hob ⟨M,w0,hm⟩=>by
  rw [←hob] at hv
  obtain ⟨A,us,e,hl,hc⟩:=viewOf_at hm hv (Sees.leaf_of hv (hs y))
  obtain ⟨h1,h2,h3⟩:=rd1_sees hl hx
  refine ⟨_,?_,h1⟩
  simp only [execOp,h,e,Instr.loadAt,Instr.sureAddr,Sem.run_bind,Sem.run_pure,Result.andThen_ok,run_loadVar_at ht hc h2 h3]
def fldB (P:Program) (s:TypeId) (f:Nat):Option Nat :=
 match P.underlying s with
 | some (.struct fs)=>match fs[f]? with
   | some fd=>match P.info? fd.type with
     | some i=>if i.size=0 then none else some fd.offset
     | none=>none
   | none=>none
 | _=>none
def shift:AV→Nat→AV
 | .ptr o off,n=>.ptr o (off+n)
 | .fptr cs off,n=>.fptr cs (off+n)
 | .rptr o v off,n=>.rptr o v (off+n)
 | x,_=>x
theorem add_at2 (g off n:Nat):(⟨g,off,none⟩:Addr).add n=⟨g,off+n,none⟩:=by
 rw [←add_at,add_add',add_at]
theorem shift_sees {E:Env} {M:Cx} {w0:World} (hm:Mem M w0 E) {x:AV} {u:Value} {cs:List AV} {off:Nat} (hv:viewOf E.ob x=some (cs,off)) (hs:Leaf E x u) (n:Nat) :
 ∃ a:Addr,u=.pointer (some a)∧Sees E (shift x n) (.pointer (some (a.add n))):=by
 cases x with
 | ptr o off' =>
   simp only [viewOf] at hv
   split at hv
   ·rename_i q t cs' ho
    refine ⟨_,hs.2 _ _ ho,hs.1,fun t2 c2 h2=>?_⟩
    rw [add_at2]
   ·cases hv
 | fptr cs' off' =>
   obtain ⟨a,us,rfl,hr⟩:=hs
   exact ⟨_,rfl,a,us,by rw [add_add'],hr⟩
 | rptr o ver off' =>
   simp only [viewOf] at hv
   split at hv
   ·rename_i q e s nn k cs' ho
    split at hv
    ·rename_i hk
     obtain ⟨g,c,e1,e2⟩:=(hs.2 _ _ _ _ _ ho).2 hk.symm
     refine ⟨_,e2,hs.1,fun e3 s3 n3 k3 c3 h3=>?_⟩
     rw [ho] at h3
     injection h3 with h3;injection h3 with a1 a2 a3 a4 a5
     subst a4;subst a3
     exact ⟨by omega,fun _=>⟨g,c,e1,by rw [add_at2]⟩⟩
    ·cases hv
   ·cases hv
 | _=>cases hv
theorem ok_fieldAddr {s:TypeId} {y:Operand} {f fo off:Nat} {cs:List AV} (h:o.op=.fieldAddr s y f) (hf:fldB P s f=some fo) (hv:viewOf (lo σ.O) (opv σ y)=some (cs,off)):OpOk P o σ ⟨shift (opv σ y) fo,[],[]⟩ :=
 OpOk.pure fun a E hs hob ⟨M,w0,hm⟩=>by
  rw [←hob] at hv
  obtain ⟨ad,e,h1⟩:=shift_sees hm hv (Sees.leaf_of hv (hs y)) fo
  refine ⟨_,?_,h1⟩
  unfold fldB at hf
  split at hf
  ·rename_i fs hu
   split at hf
   ·rename_i fd hfd
    split at hf
    ·rename_i i hi
     split at hf
     ·cases hf
     ·rename_i hz
      injection hf with hf;subst hf
      simp [execOp,h,e,Instr.fieldAt,Instr.sureAddr,run_underlying hu,hfd,fieldPlace,sizeOf,typeInfo,hi,hz]
    ·cases hf
   ·cases hf
  ·cases hf
def elB (P:Program) (t:TypeId):Option (TypeId×Nat) :=
 match P.underlying t with
 | some (.slice e)=>match P.info? e with
   | some i=>some (e,i.size)
   | none=>none
 | _=>none
theorem elB_spec {t e:TypeId} {s:Nat} (h:elB P t=some (e,s)):P.underlying t=some (.slice e)∧∃ i,P.info? e=some i∧i.size=s:=by
 unfold elB at h
 split at h
 ·rename_i e' hu
  split at h
  ·rename_i i hi
   injection h with h;injection h with h1 h2;subst h1
   exact ⟨hu,i,hi,h2⟩
  ·cases h
 ·cases h
theorem run_indexAt {t e:TypeId} {s:Nat} (h:elB P t=some (e,s)) (w:World) (a:Addr) (n c:Nat) (k:IntKind) (z:Int) (h0:0≤z) (hn:z<n) :
 (Instr.indexAt t (.slice (some a) n c) (.int k z)).run P w=.ok (.pointer (some (a.add (z.toNat*s)))) w:=by
 obtain ⟨hu,i,hi,hs⟩:=elB_spec h
 simp [Instr.indexAt,asIntOf,run_underlying hu,h0,hn,sizeOf,typeInfo,hi,hs]
theorem ok_index_lst {t e:TypeId} {s n:Nat} {y i:Operand} {cs:List AV} {k:IntKind} {z:Int} (h:o.op=.indexAddr t y i) (ht:elB P t=some (e,s)) (hy:opv σ y=.lst n cs) (hi:opv σ i=.v (.int k z)) (h0:0≤z∧z<n) :
 OpOk P o σ ⟨.fptr cs (z.toNat*s),[],[]⟩ :=
 OpOk.pure fun a E hs _ _=>by
  have e1:=hs i;rw [hi] at e1;have e1:=sees_v e1
  have e2:=hs y;rw [hy] at e2
  generalize e3:a.eval y=u at e2
  cases e2 with
  | nil A c hc=>omega
  | lst _ c _ ad us hn hc hm hF hl h1 hu hr =>
    refine ⟨.pointer (some (ad.add (z.toNat*s))),?_,ad,us,rfl,hF,hl,h1,hu,hr⟩
    simp only [execOp,h,e1,e3,Sem.run_bind,run_indexAt ht E.w ad n c k z h0.1 h0.2,Result.andThen_ok,Sem.run_pure]
theorem ok_index_row {t e e':TypeId} {s n:Nat} {y i:Operand} {q ver s':Nat} {cs:List AV} {k:IntKind} {z:Int} (h:o.op=.indexAddr t y i) (ht:elB P t=some (e,s)) (hy:opv σ y=.row q ver) (hq:lo σ.O q=some (.row e' s' n ver cs)) (hi:opv σ i=.v (.int k z)) (h0:0≤z∧z<n) :
 OpOk P o σ ⟨.rptr q ver (z.toNat*s),[],[]⟩ :=
 OpOk.pure fun a E hs hob ⟨M,w0,hm⟩=>by
  rw [←hob] at hq
  have e1:=hs i;rw [hi] at e1;have e1:=sees_v e1
  have e2:=hs y;rw [hy] at e2
  have e3:=(e2.2 _ _ _ _ _ hq).2 rfl
  obtain ⟨us,hb,_,_,_⟩:=hm.row hq
  rcases hb.2 with ⟨_,hn⟩|⟨g,cap,cur,hv,_⟩
  ·omega
  ·refine ⟨.pointer (some ⟨g,z.toNat*s,none⟩),?_,by rw [hq];simp,fun e4 s4 n4 k4 c4 h4=>?_⟩
   ·simp only [execOp,h,e1,e3,hv,Sem.run_bind,run_indexAt ht E.w _ n cap k z h0.1 h0.2,Result.andThen_ok,Sem.run_pure,add_at]
   ·rw [hq] at h4;injection h4 with h4;injection h4 with a1 a2 a3 a4 a5
    subst a3;subst a4
    exact ⟨Nat.le_refl _,fun _=>⟨g,cap,hv,rfl⟩⟩
def arB (P:Program) (t:TypeId):Option (Nat×Nat) :=
 match P.underlying t with
 | some (.array n e)=>match P.info? e with
   | some i=>some (n,i.size)
   | none=>none
 | _=>none
theorem arB_spec {t:TypeId} {n s:Nat} (h:arB P t=some (n,s)):∃ e,P.underlying t=some (.array n e)∧∃ i,P.info? e=some i∧i.size=s:=by
 unfold arB at h
 split at h
 ·rename_i m e hu
  split at h
  ·rename_i i hi
   injection h with h;injection h with h1 h2;subst h1
   exact ⟨e,hu,i,hi,h2⟩
  ·cases h
 ·cases h
theorem ok_index_arr {t:TypeId} {n s off:Nat} {y i:Operand} {cs:List AV} {k:IntKind} {z:Int} (h:o.op=.indexAddr t y i) (ht:arB P t=some (n,s)) (hv:viewOf (lo σ.O) (opv σ y)=some (cs,off)) (hi:opv σ i=.v (.int k z)) (h0:0≤z∧z<n) :
 OpOk P o σ ⟨shift (opv σ y) (z.toNat*s),[],[]⟩ :=
 OpOk.pure fun a E hs hob ⟨M,w0,hm⟩=>by
  rw [←hob] at hv
  have e1:=hs i;rw [hi] at e1;have e1:=sees_v e1
  obtain ⟨ad,e,h1⟩:=shift_sees hm hv (Sees.leaf_of hv (hs y)) (z.toNat*s)
  obtain ⟨el,hu,q,hq,hqs⟩:=arB_spec ht
  refine ⟨_,?_,h1⟩
  simp [execOp,h,e,e1,Instr.indexAt,Instr.sureAddr,asIntOf,run_underlying hu,h0,sizeOf,typeInfo,hq,hqs]
theorem ok_index_str {t:TypeId} {y i:Operand} {k:IntKind} {z:Int} {s:ByteArray} {b:UInt8} (h:o.op=.index t y i) (ht:P.underlying t=some .string) (hy:opv σ y=.v (.string s)) (hi:opv σ i=.v (.int k z)) (h0:0≤z) (hb:s[z.toNat]?=some b) :
 OpOk P o σ ⟨.v (.int .u8 b.toNat),[],[]⟩ :=
 OpOk.pure fun a E hs _ _=>by
  have e1:=hs i;rw [hi] at e1;have e1:=sees_v e1
  have e2:=hs y;rw [hy] at e2;have e2:=sees_v e2
  exact ⟨_,by simp [execOp,h,e1,e2,Instr.index,asIntOf,run_underlying ht,h0,hb],rfl,rfl⟩
theorem ok_nilCheck {y:Operand} {cs:List AV} {off:Nat} (h:o.op=.nilCheck y) (hv:viewOf (lo σ.O) (opv σ y)=some (cs,off)):OpOk P o σ ⟨opv σ y,[],[]⟩ :=
 OpOk.pure fun a E hs hob ⟨M,w0,hm⟩=>by
  rw [←hob] at hv
  obtain ⟨A,us,e,hl,hc⟩:=viewOf_at hm hv (Sees.leaf_of hv (hs y))
  refine ⟨_,?_,hs y⟩
  simp [execOp,h,e]
def fdB (P:Program) (s:TypeId) (f:Nat):Option (Bool×Nat×Nat) :=
 match P.underlying s with
 | some (.struct fs)=>match fs[f]? with
   | some fd=>match tyB P fd.type with
     | some (b,k)=>some (b,k,fd.offset)
     | none=>none
   | none=>none
 | _=>none
theorem ok_field {s:TypeId} {y:Operand} {f off k:Nat} {b:Bool} {cs:List AV} {x:AV} (h:o.op=.field s y f) (hf:fdB P s f=some (b,k,off)) (hy:opv σ y=.agg cs) (hx:rd1 b k cs off=some x):OpOk P o σ ⟨x,[],[]⟩ :=
 OpOk.pure fun a E hs _ _=>by
  have e:=hs y;rw [hy] at e
  obtain ⟨us,e,hl⟩:=e
  obtain ⟨h1,h2,h3⟩:=rd1_sees hl hx
  refine ⟨_,?_,h1⟩
  unfold fdB at hf
  split at hf
  ·rename_i fs hu
   split at hf
   ·rename_i fd hfd
    split at hf
    ·rename_i b' k' ht
     injection hf with hf;injection hf with a1 a2;injection a2 with a2 a3
     subst a1;subst a2;subst a3
     obtain ⟨r1,r2⟩:=run_isAggB ht E.w
     cases b' with
     | true=>simp [execOp,h,e,Instr.field,run_underlying hu,hfd,asAgg,part,r1,r2,List.take_drop,Nat.add_comm]
     | false =>
       have hlt:=h3 rfl
       simp [execOp,h,e,Instr.field,run_underlying hu,hfd,asAgg,part,r1,List.getD_eq_getElem?_getD,List.getElem?_eq_getElem hlt]
    ·cases hf
   ·cases hf
  ·cases hf
theorem ok_extract {y:Operand} {i:Nat} {l:List AV} {x:AV} (h:o.op=.extract y i) (hy:opv σ y=.tup l) (hx:l[i]?=some x):OpOk P o σ ⟨x,[],[]⟩ :=
 OpOk.pure fun a E hs _ _=>by
  have e:=hs y;rw [hy] at e
  obtain ⟨us,e,hl,hr⟩:=e
  have hlt:=lt_of_some hx
  rw [←hl] at hlt
  exact ⟨us[i],by simp [execOp,h,e,Instr.extract,List.getElem?_eq_getElem hlt],Sees.sees1 (hr i x _ hx (List.getElem?_eq_getElem hlt))⟩
end
def intV (op:BinOp) (k:IntKind) (a b:Int):Option (Value×List Prop) :=
 match op with
 | .add=>some (.int k (k.wrap (a+b)),[])
 | .sub=>some (.int k (k.wrap (a-b)),[])
 | .mul=>some (.int k (k.wrap (a*b)),[])
 | .quo=>some (.int k (k.wrap (a.tdiv b)),[b≠0])
 | .rem=>some (.int k (a.tmod b),[b≠0])
 | .and=>some (.int k (k.wrap (BitVec.ofInt k.bits a &&& BitVec.ofInt k.bits b).toNat),[])
 | .or=>some (.int k (k.wrap (BitVec.ofInt k.bits a ||| BitVec.ofInt k.bits b).toNat),[])
 | .xor=>some (.int k (k.wrap (BitVec.ofInt k.bits a ^^^ BitVec.ofInt k.bits b).toNat),[])
 | .andNot=>some (.int k (k.wrap (BitVec.ofInt k.bits a &&& ~~~ (BitVec.ofInt k.bits b)).toNat),[])
 | .eql=>some (.bool (a==b),[])
 | .neq=>some (.bool (a != b),[])
 | .lss=>some (.bool (decide (a<b)),[])
 | .leq=>some (.bool (decide (a≤b)),[])
 | .gtr=>some (.bool (decide (b<a)),[])
 | .geq=>some (.bool (decide (b≤a)),[])
 | _=>none
def binV (op:BinOp):Value→Value→Option (Value×List Prop)
 | .int k a,.int k' b =>
   match op with
   | .shl=>some (.int k (k.wrap (a*2^min b.toNat k.bits)),[0≤b])
   | .shr=>some (.int k (a.fdiv (2^min b.toNat k.bits)),[0≤b])
   | op=>if k=k' then intV op k a b else none
 | .string a,.string b =>
   match op with
   | .add=>some (.string (a++b),[((a.size+b.size:Nat):Int)≤9223372036854775807])
   | .eql=>some (.bool (a.toList==b.toList),[])
   | .neq=>some (.bool (!(a.toList==b.toList)),[])
   | .lss=>some (.bool (Op.bytesLess a.toList b.toList),[])
   | .leq=>some (.bool (Op.bytesLess a.toList b.toList||a.toList==b.toList),[])
   | .gtr=>some (.bool (!(Op.bytesLess a.toList b.toList||a.toList==b.toList)),[])
   | .geq=>some (.bool (!Op.bytesLess a.toList b.toList),[])
   | _=>none
 | .float k a,.float k' b =>
   if k=k' then
    match op with
    | .eql=>some (.bool (k.format.order a b==some .eq),[])
    | .neq=>some (.bool (k.format.order a b != some .eq),[])
    | .lss=>some (.bool (k.format.order a b==some .lt),[])
    | .leq=>some (.bool (k.format.order a b==some .lt||k.format.order a b==some .eq),[])
    | .gtr=>some (.bool (k.format.order a b==some .gt),[])
    | .geq=>some (.bool (k.format.order a b==some .gt||k.format.order a b==some .eq),[])
    | _=>none
   else none
 | _,_=>none
def allP:List Prop→Prop
 | []=>True
 | p::l=>p∧allP l
theorem run_intV {P:Program} {op:BinOp} {k:IntKind} {a b:Int} {r:Value} {vc:List Prop} (h:intV op k a b=some (r,vc)) (hv:allP vc) (hs:op≠.shl∧op≠.shr) (t:TypeId) (xo yo:Operand) (w:World) :
 (do eqGuard op t xo yo (.int k a) (.int k b);binOp op t (.int k a) (.int k b):Sem Value).run P w=.ok r w:=by
 cases op<;>simp only [intV,Option.some.injEq,Prod.mk.injEq,reduceCtorEq] at h<;>(try (obtain ⟨rfl,rfl⟩:=h))<;>first
  | (simp [eqGuard,binOp,Op.intArith,Op.intCmp,Op.intBits];done)
  | (simp only [allP,and_true] at hv;simp [eqGuard,binOp,Op.intDiv,hv];done)
  | exact absurd rfl hs.1
  | exact absurd rfl hs.2
theorem run_binV {P:Program} {op:BinOp} {x y r:Value} {vc:List Prop} (h:binV op x y=some (r,vc)) (hv:allP vc) (t:TypeId) (xo yo:Operand) (w:World) :
 (do eqGuard op t xo yo x y;binOp op t x y:Sem Value).run P w=.ok r w:=by
 cases x with
 | int k a =>
   cases y with
   | int k' b =>
     by_cases h1:op=.shl
     ·subst h1;simp only [binV,Option.some.injEq,Prod.mk.injEq] at h;obtain ⟨rfl,rfl⟩:=h
      simp only [allP,and_true] at hv
      simp [eqGuard,binOp,Op.shift,Int.not_lt.2 hv]
     ·by_cases h2:op=.shr
      ·subst h2;simp only [binV,Option.some.injEq,Prod.mk.injEq] at h;obtain ⟨rfl,rfl⟩:=h
       simp only [allP,and_true] at hv
       simp [eqGuard,binOp,Op.shift,Int.not_lt.2 hv]
      ·have h3:binV op (.int k a) (.int k' b)=if k=k' then intV op k a b else none:=by
        cases op<;>first|rfl|exact absurd rfl h1|exact absurd rfl h2
       rw [h3] at h
       split at h
       ·rename_i e;subst e
        exact run_intV h hv ⟨h1,h2⟩ t xo yo w
       ·cases h
   | _=>cases h
 | string a =>
   cases y with
   | string b =>
     cases op<;>simp only [binV,Option.some.injEq,Prod.mk.injEq,reduceCtorEq] at h<;>(try (obtain ⟨rfl,rfl⟩:=h))<;>first
      | (simp [eqGuard,binOp,Op.stringOp];done)
      | (simp only [allP,and_true] at hv
         have hm:IntKind.i64.max=9223372036854775807:=by decide
         have hv2:¬((a.size+b.size:Nat):Int)>IntKind.i64.max:=by rw [hm];omega
         simp only [eqGuard,binOp,Op.stringOp,if_neg hv2]
         simp)
   | _=>cases h
 | float k a =>
   cases y with
   | float k' b =>
     simp only [binV] at h
     split at h
     ·rename_i e;subst e
      cases op<;>simp only [Option.some.injEq,Prod.mk.injEq,reduceCtorEq] at h<;>(try (obtain ⟨rfl,rfl⟩:=h))<;>(simp [eqGuard,binOp,Op.floatCmp];done)
     ·cases h
   | _=>cases h
 | _=>cases h
section
variable {P:Program} {o:Oper} {σ:AS}
theorem ok_bin {op:BinOp} {xt yt:TypeId} {x y:Operand} {a b r:Value} {vc:List Prop} (h:o.op=.binOp op xt x y yt) (hx:opv σ x=.v a) (hy:opv σ y=.v b) (hr:binV op a b=some (r,vc)) (hv:allP vc) (h1:r.oneCell'=true) (vc':List Prop):OpOk P o σ ⟨.v r,[],vc'⟩ :=
 OpOk.pure fun q E hs _ _=>by
  have e1:=hs x;rw [hx] at e1;have e1:=sees_v e1
  have e2:=hs y;rw [hy] at e2;have e2:=sees_v e2
  refine ⟨r,?_,rfl,h1⟩
  have:=run_binV (P:=P) hr hv xt x y E.w
  simp only [execOp,h,e1,e2]
  simp only [Sem.run_bind] at this ⊢
  rw [this];simp
theorem ok_binB {op:BinOp} {xt yt:TypeId} {x y:Operand} {a b:Bool} (h:o.op=.binOp op xt x y yt) (ht:P.underlying xt=some .bool) (hx:opv σ x=.v (.bool a)) (hy:opv σ y=.v (.bool b)) (hop:op=.eql∨op=.neq):OpOk P o σ ⟨.v (.bool (if op=.eql then a==b else !(a==b))),[],[]⟩ :=
 OpOk.pure fun q E hs _ _=>by
  have e1:=hs x;rw [hx] at e1;have e1:=sees_v e1
  have e2:=hs y;rw [hy] at e2;have e2:=sees_v e2
  refine ⟨_,?_,rfl,rfl⟩
  have he:(Op.equal xt (.bool a) (.bool b)).run P E.w=.ok (a==b) E.w:=run_equalIn_bool E.w 9999 xt a b ht
  rcases hop with rfl|rfl
  ·have:(do eqGuard .eql xt x y (.bool a) (.bool b);binOp .eql xt (.bool a) (.bool b):Sem Value).run P E.w=.ok (.bool (a==b)) E.w:=by
    simp only [eqGuard,binOp,Sem.run_bind];simp [he]
   simp only [execOp,h,e1,e2,Sem.run_bind] at this ⊢
   rw [this];rfl
  ·have:(do eqGuard .neq xt x y (.bool a) (.bool b);binOp .neq xt (.bool a) (.bool b):Sem Value).run P E.w=.ok (.bool (!(a==b))) E.w:=by
    simp only [eqGuard,binOp,Sem.run_bind];simp [he]
   simp only [execOp,h,e1,e2,Sem.run_bind] at this ⊢
   rw [this];rfl
def unV (op:UnOp):Value→Option Value
 | .int k n=>match op with | .neg=>some (.int k (k.wrap (0-n)))|_=>none
 | .bool b=>match op with | .not=>some (.bool (!b))|_=>none
 | .float k b=>match op with | .neg=>some (.float k (Op.negFloat k b))|_=>none
 | _=>none
theorem ok_un {op:UnOp} {xt:TypeId} {x:Operand} {a r:Value} (h:o.op=.unOp op xt x) (hx:opv σ x=.v a) (hr:unV op a=some r):OpOk P o σ ⟨.v r,[],[]⟩ :=
 OpOk.pure fun q E hs _ _=>by
  have e1:=hs x;rw [hx] at e1;have e1:=sees_v e1
  cases a<;>simp only [unV,reduceCtorEq] at hr<;>cases op<;>simp only [Option.some.injEq,reduceCtorEq] at hr<;>subst hr <;>
   exact ⟨_,by simp [execOp,h,e1,Op.unary,Op.intArith],rfl,rfl⟩
def convV (P:Program) (src dst:TypeId) (x:Value):Option Value :=
 match P.underlying src,P.underlying dst,x with
 | some _,some (.int k),.int _ n=>some (.int k (k.wrap n))
 | some _,some (.float k),.int _ n=>some (.float k (k.nearest n))
 | some _,some .string,.string s=>some (.string s)
 | _,_,_=>none
theorem ok_conv {src dst:TypeId} {x:Operand} {a r:Value} (h:o.op=.convert src dst x) (hx:opv σ x=.v a) (hr:convV P src dst a=some r):OpOk P o σ ⟨.v r,[],[]⟩ :=
 OpOk.pure fun q E hs _ _=>by
  have e1:=hs x;rw [hx] at e1
  unfold convV at hr
  split at hr
  ·rename_i e1
   injection hr with hr;subst hr
   have e1:=sees_v e1
   exact ⟨_,by simp [execOp,h,e1,convert,run_underlying ‹P.underlying src=some _›,run_underlying ‹P.underlying dst=some _›,Conv.intToInt],rfl,rfl⟩
  ·rename_i e1
   injection hr with hr;subst hr
   have e1:=sees_v e1
   exact ⟨_,by simp [execOp,h,e1,convert,run_underlying ‹P.underlying src=some _›,run_underlying ‹P.underlying dst=some _›,Conv.intToFloat],rfl,rfl⟩
  ·rename_i e1
   injection hr with hr;subst hr
   have e1:=sees_v e1
   exact ⟨_,by simp [execOp,h,e1,convert,run_underlying ‹P.underlying src=some _›,run_underlying ‹P.underlying dst=some _›],rfl,rfl⟩
  ·cases hr
def lenA (ob:Nat→Option AObj):AV→Option Nat
 | .lst n _=>some n
 | .row o ver=>match ob o with|some (.row _ _ n k _)=>if k=ver then some n else none|_=>none
 | .v (.slice _ n _)=>some n
 | _=>none
def lenV (P:Program) (ob:Nat→Option AObj) (t:TypeId) (x:AV):Option Nat :=
 match P.underlying t with
 | some (.slice _)=>lenA ob x
 | some .string=>match x with | .v (.string s)=>some s.size|_=>none
 | _=>none
theorem lenA_sees {M:Cx} {w0:World} {E:Env} (hm:Mem M w0 E) {x:AV} {u:Value} {n:Nat} (h:lenA E.ob x=some n) (hs:Sees E x u):∃ A c,u=.slice A n c:=by
 cases x with
 | lst n' cs =>
   injection h with h;subst h
   cases hs with
   | nil A c hc=>exact ⟨A,c,rfl⟩
   | lst _ c _ ad us hn hc hm' hF hl h1' hu' hr=>exact ⟨_,c,rfl⟩
 | row q ver =>
   simp only [lenA] at h
   split at h
   ·rename_i z e2 s2 n2 k2 c2 h2
    split at h
    ·rename_i hk;injection h with h;subst h
     have e3:=(hs.2 _ _ _ _ _ h2).2 hk.symm
     obtain ⟨us,hb,_⟩:=hm.row h2
     obtain ⟨A,c,hv,_⟩:=own_form hb
     exact ⟨A,c,by rw [e3,hv]⟩
    ·cases h
   ·cases h
 | v y =>
   obtain ⟨e,_⟩:=hs
   subst e
   cases u with
   | slice A n' c=>injection h with h;subst h;exact ⟨A,c,rfl⟩
   | _=>cases h
 | _=>cases h
theorem ok_len {y:Operand} {t:TypeId} {n:Nat} (h:o.op=.call { callee:=.builtin .len,args:=#[y],argTypes:=#[t] }) (hn:lenV P (lo σ.O) t (opv σ y)=some n):OpOk P o σ ⟨.v (.int .i64 n),[],[]⟩ :=
 OpOk.pure fun q E hs hob ⟨M,w0,hm⟩=>by
  have e:=hs y
  rw [←hob] at hn
  refine ⟨_,?_,rfl,rfl⟩
  unfold lenV at hn
  split at hn
  ·rename_i e' h1
   obtain ⟨A,c,hu⟩:=lenA_sees hm hn e
   simp [execOp,h,resolve,invoke,builtin,Builtin.len_,run_underlying h1,hu,goInt]
  ·rename_i h1
   split at hn
   ·rename_i s hs'
    injection hn with hn;subst hn
    rw [hs'] at e
    have e3:=sees_v e
    simp [execOp,h,resolve,invoke,builtin,Builtin.len_,run_underlying h1,e3,goInt]
   ·cases hn
  ·cases hn
end
def upd {α:Type} (f:Nat→α) (d:Nat) (x:α) (o:Nat):α:=if o=d then x else f o
theorem upd_eq {α:Type} (f:Nat→α) (d:Nat) (x:α):upd f d x d=x:=if_pos rfl
theorem upd_ne {α:Type} (f:Nat→α) {d o:Nat} (x:α) (h:¬o=d):upd f d x o=f o:=if_neg h
theorem lo_eq (O:List (Nat×AObj)) (d:Nat) (x:AObj):lo ((d,x)::O) d=some x:=by unfold lo;rw [if_pos rfl]
theorem lo_ne (O:List (Nat×AObj)) {d o:Nat} (x:AObj) (h:¬o=d):lo ((d,x)::O) o=lo O o:=by conv=>lhs;unfold lo;rw [if_neg (fun e=>h e.symm)]
section
variable {M:Cx} {w0:World} {E:Env} {O:List (Nat×AObj)} {d:Nat}
theorem Mem.newCells (h:Mem M w0 E) (ho:E.ob=lo O) (hn:lo O d=none) (t:TypeId) {cs:List AV} {us:List Value} (hl:Leafs E cs us) :
 Mem M w0 ⟨E.w.alloc (.cells us.toArray t),E.F,upd E.β d E.w.heap.size,E.ν,lo ((d,.cells t cs)::O)⟩∧After E ⟨E.w.alloc (.cells us.toArray t),E.F,upd E.β d E.w.heap.size,E.ν,lo ((d,.cells t cs)::O)⟩:=by
 refine h.step (·=d) rfl rfl rfl (by simp) (fun b hb _=>Below.heap_alloc _ _ _ hb) (fun _ h=>h) (fun _ h=>.inl h) (fun o hX=>?_) (fun o hX h0=>?_) (fun ha o x hX hx=>?_) (fun o b hX hb=>?_) (fun o o' b hX hX' _ _=>hX.trans hX'.symm)
 ·exact ⟨by rw [ho];exact lo_ne _ _ hX,upd_ne _ _ hX,rfl⟩
 ·subst hX;rw [ho] at h0;exact absurd hn h0
 ·subst hX
  simp only [lo_eq,Option.some.injEq] at hx
  subst hx
  exact ⟨us,by simp only [upd_eq];exact Blk.new _ _ _,hl.after ha⟩
 ·subst hX
  unfold bk at hb
  simp only [lo_eq,upd_eq,Option.some.injEq] at hb
  subst hb
  exact ⟨fun hf=>by have:=h.fz _ hf;omega,by simp,.inl (Nat.le_refl _)⟩
theorem Mem.setCells (h:Mem M w0 E) (ho:E.ob=lo O) {te:TypeId} {cs cs':List AV} (hd:lo O d=some (.cells te cs)) {us':List Value} (hl:Leafs E cs' us') :
 Mem M w0 ⟨E.w.setRow (E.β d) us'.toArray,E.F,E.β,E.ν,lo ((d,.cells te cs')::O)⟩∧After E ⟨E.w.setRow (E.β d) us'.toArray,E.F,E.β,E.ν,lo ((d,.cells te cs')::O)⟩:=by
 have hdo:E.ob d=some (.cells te cs):=by rw [ho];exact hd
 have hbd:bk E d=some (E.β d):=by unfold bk;rw [hdo]
 obtain ⟨us,hb,_⟩:=h.ok d _ hdo
 refine h.step (·=d) rfl rfl rfl (by simp) (fun b _ hne=>setRow_other _ _ _ _ (fun e=>hne d rfl (by rw [hbd,e]))) (fun _ h=>h) (fun _ h=>.inl h) (fun o hX=>?_) (fun o hX h0=>?_) (fun ha o x hX hx=>?_) (fun o b hX hb=>?_) (fun o o' b hX hX' _ _=>hX.trans hX'.symm)
 ·exact ⟨by rw [ho];exact lo_ne _ _ hX,rfl,rfl⟩
 ·subst hX
  exact ⟨by simp [lo_eq],fun t c _=>⟨⟨_,_,hdo⟩,rfl⟩,fun e s n k c hc=>by simp [lo_eq] at hc⟩
 ·subst hX
  simp only [lo_eq,Option.some.injEq] at hx
  subst hx
  exact ⟨us',setRow_heap _ _ _ _ _ _ hb,hl.after ha⟩
 ·subst hX
  unfold bk at hb
  simp only [lo_eq,Option.some.injEq] at hb
  subst hb
  obtain ⟨h1,h2,_⟩:=h.live o _ hbd
  exact ⟨h1,by simpa using h2,.inr ⟨_,rfl,hbd⟩⟩
theorem Mem.newRow (h:Mem M w0 E) (ho:E.ob=lo O) (hn:lo O d=none) {w':World} (hb:Below E.w.heap.size E.w w') {e:TypeId} {s n k:Nat} {v:Value} {cs:List AV} {us:List Value} (hs:0<s) (hown:w'.ownsRow E.w.heap.size e s v n us) (hl:us.length=cs.length)
 (hr:∀ (j:Nat) (x:AV) (u:Value),cs[j]?=some x→us[j]?=some u→Rep E.w E.F x u) :
 Mem M w0 ⟨w',E.F,E.β,upd E.ν d v,lo ((d,.row e s n k cs)::O)⟩∧After E ⟨w',E.F,E.β,upd E.ν d v,lo ((d,.row e s n k cs)::O)⟩:=by
 refine h.step (·=d) hb.os hb.tape hb.output hb.size (fun b hlt _=>hb.block b hlt) (fun _ h=>h) (fun _ h=>.inl h) (fun o hX=>?_) (fun o hX h0=>?_) (fun ha o x hX hx=>?_) (fun o b hX hbk=>?_) (fun o o' b hX hX' _ _=>hX.trans hX'.symm)
 ·exact ⟨by rw [ho];exact lo_ne _ _ hX,rfl,upd_ne _ _ hX⟩
 ·subst hX;rw [ho] at h0;exact absurd hn h0
 ·subst hX
  simp only [lo_eq,Option.some.injEq] at hx
  subst hx
  exact ⟨us,by simp only [upd_eq];exact own_mono hown (Nat.zero_le _),hs,hl,fun j x u h1 h2=>(hr j x u h1 h2).mono ha.sub ha.old⟩
 ·subst hX
  unfold bk at hbk
  simp only [lo_eq,upd_eq] at hbk
  obtain ⟨h1,h2⟩:=hown.lt b hbk
  exact ⟨fun hf=>by have:=h.fz _ hf;omega,h2,.inl h1⟩
theorem Mem.growRow (h:Mem M w0 E) (ho:E.ob=lo O) {e:TypeId} {s n k:Nat} {cs:List AV} (hd:lo O d=some (.row e s n k cs)) {w':World} {v:Value} {n':Nat} {cs':List AV} {us':List Value} (hg:E.w.grownBy w' (E.ν d).ownBlock) (hown:w'.ownsRow 0 e s v n' us')
 (hv:v.ownBlock=(E.ν d).ownBlock∨v.ownBlock=some E.w.heap.size) (hl:us'.length=cs'.length) (hr:∀ (j:Nat) (x:AV) (u:Value),cs'[j]?=some x→us'[j]?=some u→Rep E.w E.F x u) :
 Mem M w0 ⟨w',E.F,E.β,upd E.ν d v,lo ((d,.row e s n' (k+1) cs')::O)⟩∧After E ⟨w',E.F,E.β,upd E.ν d v,lo ((d,.row e s n' (k+1) cs')::O)⟩:=by
 have hdo:E.ob d=some (.row e s n k cs):=by rw [ho];exact hd
 have hbd:bk E d=(E.ν d).ownBlock:=by unfold bk;rw [hdo]
 obtain ⟨us,_,hs,_⟩:=h.row hdo
 refine h.step (·=d) hg.os hg.tape hg.output hg.size (fun b hlt hne=>hg.block b hlt (fun e=>hne d rfl (by rw [hbd,e]))) (fun _ h=>h) (fun _ h=>.inl h) (fun o hX=>?_) (fun o hX h0=>?_) (fun ha o x hX hx=>?_) (fun o b hX hbk=>?_) (fun o o' b hX hX' _ _=>hX.trans hX'.symm)
 ·exact ⟨by rw [ho];exact lo_ne _ _ hX,rfl,upd_ne _ _ hX⟩
 ·subst hX
  refine ⟨by simp [lo_eq],fun t c hc=>by simp [lo_eq] at hc,fun e2 s2 n2 k2 c2 hc=>⟨_,_,_,_,_,hdo,?_⟩⟩
  simp only [lo_eq,Option.some.injEq,AObj.row.injEq] at hc
  obtain ⟨rfl,rfl,rfl,rfl,rfl⟩:=hc
  exact ⟨by omega,fun hk=>by omega⟩
 ·subst hX
  simp only [lo_eq,Option.some.injEq] at hx
  subst hx
  exact ⟨us',by simp only [upd_eq];exact hown,hs,hl,fun j x u h1 h2=>(hr j x u h1 h2).mono ha.sub ha.old⟩
 ·subst hX
  unfold bk at hbk
  simp only [lo_eq,upd_eq] at hbk
  obtain ⟨_,h2⟩:=hown.lt b hbk
  rcases hv with hv|hv
  ·rw [hv] at hbk
   have hbo:bk E o=some b:=by rw [hbd,hbk]
   exact ⟨(h.live o b hbo).1,h2,.inr ⟨_,rfl,hbo⟩⟩
  ·rw [hv] at hbk;injection hbk with hbk;subst hbk
   exact ⟨fun hf=>by have:=h.fz _ hf;omega,h2,.inl (Nat.le_refl _)⟩
theorem Mem.grow (h:Mem M w0 E) {w':World} (hb:Below E.w.heap.size E.w w') (F':Nat→Prop) (hF:∀ b,F' b→E.F b∨(E.w.heap.size≤b∧b<w'.heap.size)) (hsub:∀ b,E.F b→F' b) :
 Mem M w0 ⟨w',F',E.β,E.ν,E.ob⟩∧After E ⟨w',F',E.β,E.ν,E.ob⟩:=by
 refine h.step (fun _=>False) hb.os hb.tape hb.output hb.size (fun b hlt _=>hb.block b hlt) hsub (fun b hx=>?_) (fun o _=>⟨rfl,rfl,rfl⟩) (fun o hX=>hX.elim) (fun _ o x hX=>hX.elim) (fun o b hX=>hX.elim) (fun o o' b hX=>hX.elim)
 rcases hF b hx with h1|⟨h1,h2⟩
 ·exact .inl h1
 ·exact .inr ⟨h2,.inl h1⟩
end
def oneB (ob:Nat→Option AObj):AV→Bool
 | .v x=>true
 | .fk _=>true
 | .lst _ _=>true
 | .fptr _ _=>true
 | .ptr o _=>match ob o with|some (.cells _ _)=>true|_=>false
 | .row o ver=>match ob o with|some (.row _ _ _ k _)=>k==ver|_=>false
 | .rptr o ver _=>match ob o with|some (.row _ _ _ k _)=>k==ver|_=>false
 | _=>false
def cellsA (ob:Nat→Option AObj):AV→Option (List AV)
 | .agg cs=>some cs
 | x=>bif oneB ob x then some [x] else none
theorem one_of {M:Cx} {w0:World} {E:Env} (hm:Mem M w0 E) {x:AV} {u:Value} (h:oneB E.ob x=true) (hs:Leaf E x u):u.oneCell'=true:=by
 cases x with
 | v x=>obtain ⟨rfl,h⟩:=hs;exact h
 | lst n cs=>exact Rep.one hs
 | fptr cs off=>obtain ⟨a,us,rfl,_⟩:=hs;rfl
 | fk k=>obtain ⟨b,rfl,_⟩:=hs;rfl
 | ptr o off =>
   simp only [oneB] at h
   split at h
   ·rename_i t cs ho;rw [hs.2 _ _ ho];rfl
   ·cases h
 | row o ver =>
   simp only [oneB] at h
   split at h
   ·rename_i e s n k cs ho
    obtain ⟨us,hb,_⟩:=hm.row ho
    obtain ⟨A,c,hv,_⟩:=own_form hb
    rw [(hs.2 _ _ _ _ _ ho).2 (by have:=beq_iff_eq.1 h;omega),hv];rfl
   ·cases h
 | rptr o ver off =>
   simp only [oneB] at h
   split at h
   ·rename_i e s n k cs ho
    obtain ⟨g,c,_,e2⟩:=(hs.2 _ _ _ _ _ ho).2 (by have:=beq_iff_eq.1 h;omega)
    rw [e2];rfl
   ·cases h
 | _=>cases h
theorem cellsA_sees {M:Cx} {w0:World} {E:Env} (hm:Mem M w0 E) {x:AV} {u:Value} {cs:List AV} (h:cellsA E.ob x=some cs) (hs:Sees E x u):Leafs E cs u.cells.toList:=by
 cases x with
 | agg cs' =>
   injection h with h;subst h
   obtain ⟨us,rfl,hl⟩:=hs
   simpa [Value.cells] using hl
 | tup l=>cases h
 | opt=>cases h
 | junk=>cases h
 | _ =>
   simp only [cellsA,Bool.cond_eq_ite] at h
   split at h
   ·rename_i hb
    injection h with h;subst h
    have h1:=one_of hm hb (show Leaf E _ _ from hs)
    have hc:u.cells=#[u]:=by cases u<;>first|rfl|cases h1
    rw [hc]
    refine ⟨rfl,fun j x u' hx hu=>?_⟩
    cases j with
    | zero =>
      simp only [List.getElem?_cons_zero,Option.some.injEq] at hx hu
      subst hx;subst hu;exact ⟨hs,h1⟩
    | succ j=>simp at hx
   ·cases h
section
variable {P:Program} {o:Oper} {σ:AS}
theorem ok_box {e:TypeId} {y:Operand} {d:Nat} {cs:List AV} (h:o.op=.box e y) (hc:cellsA (lo σ.O) (opv σ y)=some cs) (hn:lo σ.O d=none):OpOk P o σ ⟨.ptr d 0,[(d,.cells e cs)],[]⟩:=by
 intro M w0 a E hN K Q hK
 rw [←hN.ob] at hc
 have hl:=cellsA_sees hN.mem hc (hN.op y)
 obtain ⟨hm,ha⟩:=hN.mem.newCells hN.ob hn e hl
 have hr:(execOp a.eval o).run P E.w=.ok (.value (.pointer (some ⟨E.w.heap.size,0,none⟩))) (E.w.alloc (.cells (a.eval y).cells e)):=by
  simp [execOp,h,Instr.box,newVar,newRow]
 unfold Oper.wp
 rw [hr]
 rw [Array.toArray_toList] at hm ha
 refine hK _ _ rfl hm ha ⟨by simp [lo_eq],fun t c _=>?_⟩
 simp only [upd_eq]
def zeroA (P:Program) (e:TypeId):Option (List Value) :=
 match P.info? e with
 | some i=>match i.zero with
   | some z=>if z.cells.toList.all (·.oneCell') then some z.cells.toList else none
   | none=>none
 | none=>none
theorem ok_alloc {e:TypeId} {d:Nat} {zs:List Value} (h:o.op=.alloc e) (hz:zeroA P e=some zs) (hn:lo σ.O d=none):OpOk P o σ ⟨.ptr d 0,[(d,.cells e (zs.map .v))],[]⟩:=by
 intro M w0 a E hN K Q hK
 unfold zeroA at hz
 split at hz
 ·rename_i i hi
  split at hz
  ·rename_i z hzz
   split at hz
   ·rename_i h1
    injection hz with hz;subst hz
    obtain ⟨hm,ha⟩:=hN.mem.newCells hN.ob hn e (leafs_v E _ h1)
    have hr:(execOp a.eval o).run P E.w=.ok (.value (.pointer (some ⟨E.w.heap.size,0,none⟩))) (E.w.alloc (.cells z.cells e)):=by
     simp [execOp,h,Instr.alloc,zeroValue,typeInfo,hi,hzz,newVar,newRow]
    unfold Oper.wp
    rw [hr]
    rw [Array.toArray_toList] at hm ha
    refine hK _ _ rfl hm ha ⟨by simp [lo_eq],fun t c _=>?_⟩
    simp only [upd_eq]
   ·cases hz
  ·cases hz
 ·cases hz
theorem Leafs.splice {E:Env} {cs xs:List AV} {us vs:List Value} (h:Leafs E cs us) (k:Leafs E xs vs) (i:Nat) (hi:i+xs.length≤cs.length):Leafs E (cs.take i++xs++cs.drop (i+xs.length)) (us.take i++vs++us.drop (i+vs.length)):=by
 have e1:=h.1;have e2:=k.1
 refine ⟨by simp only [List.length_append,List.length_take,List.length_drop];omega,fun j x u hx hu=>?_⟩
 rw [List.append_assoc,List.getElem?_append] at hx hu
 have l1:(cs.take i).length=i:=by rw [List.length_take];omega
 have l2:(us.take i).length=i:=by rw [List.length_take];omega
 rw [l1] at hx;rw [l2] at hu
 by_cases h1:j<i
 ·rw [if_pos h1,List.getElem?_take,if_pos h1] at hx hu;exact h.2 j x u hx hu
 ·rw [if_neg h1,List.getElem?_append] at hx hu
  by_cases h2:j-i<xs.length
  ·rw [if_pos h2] at hx;rw [if_pos (by omega)] at hu;exact k.2 _ x u hx hu
  ·rw [if_neg h2,List.getElem?_drop] at hx;rw [if_neg (by omega),List.getElem?_drop] at hu
   rw [e2] at hu
   exact h.2 _ x u hx hu
theorem ok_store {t te:TypeId} {y x:Operand} {b:Bool} {q off k:Nat} {cs xs:List AV} (h:o.op=.store t y x) (ht:tyB P t=some (b,k)) (hy:opv σ y=.ptr q off) (hq:lo σ.O q=some (.cells te cs)) (hx:cellsA (lo σ.O) (opv σ x)=some xs) (hk:xs.length=k) (hl:off+xs.length≤cs.length) :
 OpOk P o σ ⟨.junk,[(q,.cells te (cs.take off++xs++cs.drop (off+xs.length)))],[]⟩:=by
 intro M w0 a E hN K Q hK
 rw [←hN.ob] at hx
 have hxs:=cellsA_sees hN.mem hx (hN.op x)
 have hqo:E.ob q=some (.cells te cs):=by rw [hN.ob];exact hq
 have hp:=hN.op y;rw [hy] at hp
 have hp:=hp.2 _ _ hqo
 obtain ⟨us,hb,hus⟩:=hN.mem.ok q _ hqo
 have hsp:=hus.splice hxs off hl
 obtain ⟨hm,ha⟩:=hN.mem.setCells hN.ob hq hsp
 have hr:(execOp a.eval o).run P E.w=.ok .skip (E.w.setRow (E.β q) (us.take off++(a.eval x).cells.toList++us.drop (off+(a.eval x).cells.toList.length)).toArray):=by
  have hz:=(run_isAggB ht E.w).2
  have hlen:(a.eval x).cells.size=k:=by rw [←hk,←hxs.1,Array.length_toList]
  have hst:=run_storeCells_at (P:=P) (E.β q) off te (a.eval x).cells.toList 0 us.toArray E.w hb (by simp only [Nat.add_zero,hxs.1,List.size_toArray,hus.1];exact hl) (fun v hv=>by
   obtain ⟨j,hj,rfl⟩:=List.getElem_of_mem hv
   exact (hxs.2 j _ _ (List.getElem?_eq_getElem (by rw [←hxs.1];exact hj)) (List.getElem?_eq_getElem hj)).2)
  simp only [Nat.add_zero] at hst
  simp only [execOp,h,Instr.storeAt,hp,Instr.sureAddr,storeVar,Sem.run_bind,Sem.run_pure,Result.andThen_ok,hz,hlen,ne_eq,not_true_eq_false,if_false,hst]
 unfold Oper.wp
 rw [hr]
 exact hK _ _ rfl hm ha trivial
end
def srcA (ob:Nat→Option AObj):AV→Option (Nat×List AV)
 | .lst n cs=>some (n,cs)
 | .row o ver=>match ob o with|some (.row _ _ n k cs)=>if k=ver then some (n,cs) else none|_=>none
 | .v (.slice none 0 _)=>some (0,[])
 | _=>none
theorem src_sees {M:Cx} {w0:World} {E:Env} (hm:Mem M w0 E) {x:AV} {u:Value} {n:Nat} {cs:List AV} (h:srcA E.ob x=some (n,cs)) (hs:Sees E x u) :
 ∃ (A:Option Addr) (c:Nat) (us:List Value),u=.slice A n c∧us.length=cs.length∧(∀ u∈us,u.oneCell'=true)∧(∀ (j:Nat) (x:AV) (u:Value),cs[j]?=some x→us[j]?=some u→Rep E.w E.F x u) ∧
  (cs≠[]→∃ a,A=some a∧∀ (j:Nat) (u:Value),us[j]?=some u→E.w.cell? (a.add j)=some u):=by
 cases x with
 | lst n' cs' =>
   injection h with h;injection h with h1 h2;subst h1;subst h2
   cases hs with
   | nil A c hc=>exact ⟨A,c,[],rfl,rfl,(fun u hu=>by cases hu),(fun j x u hx _=>by simp at hx),fun hh=>absurd rfl hh⟩
   | lst _ c _ ad us hn hc hm' hF hl h1 hu hr=>exact ⟨some ad,c,us,rfl,hl,h1,hr,fun _=>⟨ad,rfl,hu⟩⟩
 | row o ver =>
   simp only [srcA] at h
   split at h
   ·rename_i z e s n' k cs' ho
    split at h
    ·rename_i hk
     injection h with h;injection h with h1 h2;subst h1;subst h2
     obtain ⟨us,hb,_,hl,hr⟩:=hm.row ho
     have e3:=(hs.2 _ _ _ _ _ ho).2 hk.symm
     obtain ⟨A,c,hv,_⟩:=own_form hb
     refine ⟨A,c,us,by rw [e3,hv],hl,fun u hu=>?_,hr,fun hne=>?_⟩
     ·obtain ⟨j,hj,rfl⟩:=List.getElem_of_mem hu
      exact (hr j _ _ (List.getElem?_eq_getElem (by rw [←hl];exact hj)) (List.getElem?_eq_getElem hj)).one
     ·rcases hb.2 with ⟨_,h0⟩|⟨g,cap,cur,hv',_⟩
      ·have:=hb.1;rw [h0,Nat.zero_mul,hl] at this;exact absurd (List.eq_nil_of_length_eq_zero this) hne
      ·rw [hv] at hv';injection hv' with hA;subst hA
       exact ⟨_,rfl,hb.cells (g:=g) (by rw [hv];rfl)⟩
    ·cases h
   ·cases h
 | v x =>
   obtain ⟨rfl,_⟩:=hs
   unfold srcA at h
   split at h
   ·rename_i e;cases e
   ·rename_i e;cases e
   ·rename_i c e
    injection e with e;subst e
    injection h with h;injection h with h1 h2;subst h1;subst h2
    exact ⟨none,c,[],rfl,rfl,(fun u hu=>by cases hu),(fun j x u hx _=>by simp at hx),fun hh=>absurd rfl hh⟩
   ·cases h
 | _=>cases h
def inB (P:Program) (t:TypeId):Option (TypeId×Nat×Nat) :=
 match P.underlying t with
 | some (.slice e)=>match P.info? e with
   | some i=>match i.zero with
     | some z=>if z.cells.size=i.size∧0<i.size then some (e,i.size,i.bytes) else none
     | none=>none
   | none=>none
 | _=>none
theorem inB_spec {P:Program} {t e:TypeId} {s by_:Nat} (h:inB P t=some (e,s,by_)):P.underlying t=some (.slice e)∧0<s∧∃ i z,P.info? e=some i∧i.zero=some z∧z.cells.size=s∧i.size=s∧i.bytes=by_:=by
 unfold inB at h
 split at h
 ·rename_i e' hu
  split at h
  ·rename_i i hi
   split at h
   ·rename_i z hz
    split at h
    ·rename_i hh
     injection h with h;injection h with h1 h2;injection h2 with h2 h3
     subst h1;subst h2;subst h3
     exact ⟨hu,hh.2,i,z,hi,hz,hh.1,rfl,rfl⟩
    ·cases h
   ·cases h
  ·cases h
 ·cases h
theorem run_app {P:Program} {w:World} {base:Nat} {t ty e:TypeId} {s by_:Nat} (ht:inB P t=some (e,s,by_)) {v:Value} {n:Nat} {xs:List Value} (hown:w.ownsRow base e s v n xs) {A:Option Addr} {m c:Nat} {us:List Value} (hl:us.length=m*s)
 (ha:us≠[]→∃ a,A=some a∧∀ (j:Nat) (u:Value),us[j]?=some u→w.cell? (a.add j)=some u) (h1:∀ u∈us,u.oneCell'=true) (hby:(n+m)*by_≤140737488355328) (h63:n+m≤maxLen) (hbase:base≤w.heap.size) :
 ∃ v' w',(Builtin.append_ #[t,t] ty #[v,.slice A m c]).run P w=.ok v' w'∧w'.ownsRow base e s v' (n+m) (xs++us)∧w.grownBy w' v.ownBlock∧(v'.ownBlock=v.ownBlock∨v'.ownBlock=some w.heap.size):=by
 obtain ⟨hu,hs,i,z,hi,hz,hzs,his,hib⟩:=inB_spec ht
 cases A with
 | some a =>
   have hc:∀ (j:Nat) (u:Value),us[j]?=some u→w.cell? (a.add j)=some u:=fun j u hj=>by
    obtain ⟨a',e',h⟩:=ha (fun h0=>by subst h0;simp at hj)
    injection e' with e';subst e';exact h j u hj
   obtain ⟨v',w',h2,h3,h4,_,h5⟩:=run_append_own_at (P:=P) w base t ty e i z s by_ hu hi hz his hib hzs hs v n xs hown a m c us hl hc h1 h63 hby hbase
   exact ⟨v',w',h2,h3,h4,h5⟩
 | none =>
   have h0:us=[]:=by
    apply Classical.byContradiction
    intro hne
    obtain ⟨a',e',_⟩:=ha hne
    cases e'
   subst h0
   have hm:m=0:=by
    have h2:m*s=0:=by simpa using hl.symm
    rcases Nat.mul_eq_zero.1 h2 with h2|h2
    ·exact h2
    ·omega
   subst hm
   refine ⟨v,w,?_,by simpa using hown,World.grownBy.refl w _,.inl rfl⟩
   rcases hown.2 with ⟨rfl,rfl⟩|⟨g,cap,cur,rfl,_,_,hnc,_⟩
   ·simp [Builtin.append_,run_underlying hu,sizeOf,typeInfo,hi,Builtin.lenOf,Builtin.firstCells]
   ·simp [Builtin.append_,run_underlying hu,sizeOf,typeInfo,hi,Builtin.lenOf,Builtin.firstCells,hnc,storeCells]
section
variable {P:Program} {o:Oper} {σ:AS}
theorem app_reps {E:Env} {cs cs2:List AV} {us us2:List Value} (hl:us.length=cs.length) (h:∀ (j:Nat) (x:AV) (u:Value),cs[j]?=some x→us[j]?=some u→Rep E.w E.F x u) (hl2:us2.length=cs2.length)
 (h2:∀ (j:Nat) (x:AV) (u:Value),cs2[j]?=some x→us2[j]?=some u→Rep E.w E.F x u):∀ (j:Nat) (x:AV) (u:Value),(cs++cs2)[j]?=some x→(us++us2)[j]?=some u→Rep E.w E.F x u:=by
 intro j x u hx hu
 rw [List.getElem?_append] at hx hu
 by_cases hj:j<cs.length
 ·rw [if_pos hj] at hx;rw [if_pos (by omega)] at hu;exact h j x u hx hu
 ·rw [if_neg hj] at hx;rw [if_neg (by omega),hl] at hu;exact h2 _ x u hx hu
theorem ok_app {t e e':TypeId} {s by_ s':Nat} {y x:Operand} {q ver n m:Nat} {cs cs2:List AV} (h:o.op=.call { callee:=.builtin .append,args:=#[y,x],argTypes:=#[t,t] }) (ht:inB P t=some (e,s,by_)) (hy:opv σ y=.row q ver) (hq:lo σ.O q=some (.row e' s' n ver cs))
 (he:e'=e∧s'=s) (hx:srcA (lo σ.O) (opv σ x)=some (m,cs2)) (hm:cs2.length=m*s) (hby:(n+m)*by_≤140737488355328∧n+m≤140737488355328):OpOk P o σ ⟨.row q (ver+1),[(q,.row e s (n+m) (ver+1) (cs++cs2))],[]⟩:=by
 obtain ⟨rfl,rfl⟩:=he
 intro M w0 a E hN K Q hK
 rw [←hN.ob] at hx
 obtain ⟨A,c,us2,e2,hl2,h1,hr2,ha2⟩:=src_sees hN.mem hx (hN.op x)
 have hqo:E.ob q=some (.row e' s' n ver cs):=by rw [hN.ob];exact hq
 obtain ⟨us,hb,_,hl,hr⟩:=hN.mem.row hqo
 have e3:=hN.op y;rw [hy] at e3
 have e3:=(e3.2 _ _ _ _ _ hqo).2 rfl
 obtain ⟨v',w',hrun,hown,hg,hv⟩:=run_app (P:=P) (ty:=o.type) (c:=c) ht hb (us:=us2) (m:=m) (by rw [hl2,hm]) (fun hne=>ha2 (fun h0=>hne (List.eq_nil_of_length_eq_zero (by rw [hl2,h0];rfl)))) h1 hby.1 (by unfold maxLen;omega) (Nat.zero_le _)
 obtain ⟨hm',ha'⟩:=hN.mem.growRow hN.ob hq hg hown hv (cs':=cs++cs2) (by simp [hl,hl2]) (app_reps hl hr hl2 hr2)
 have hrr:(execOp a.eval o).run P E.w=.ok (.value v') w':=by
  simp only [execOp,h,resolve,invoke,builtin,Sem.run_bind,Sem.run_pure,Result.andThen_ok,List.map_toArray,List.map_cons,List.map_nil,e3,e2,hrun]
 unfold Oper.wp
 rw [hrr]
 refine hK _ _ rfl hm' ha' ⟨by simp [lo_eq],fun e4 s4 n4 k4 c4 h4=>?_⟩
 simp only [lo_eq,Option.some.injEq,AObj.row.injEq] at h4
 obtain ⟨rfl,rfl,rfl,rfl,rfl⟩:=h4
 exact ⟨Nat.le_refl _,fun _=>by simp only [upd_eq]⟩
theorem ok_app0 {t e:TypeId} {s by_:Nat} {y x:Operand} {d m:Nat} {cs2:List AV} (h:o.op=.call { callee:=.builtin .append,args:=#[y,x],argTypes:=#[t,t] }) (ht:inB P t=some (e,s,by_)) (hy:opv σ y=.v (.slice none 0 0)) (hn:lo σ.O d=none)
 (hx:srcA (lo σ.O) (opv σ x)=some (m,cs2)) (hm:cs2.length=m*s) (hby:m*by_≤140737488355328∧m≤140737488355328):OpOk P o σ ⟨.row d 0,[(d,.row e s m 0 cs2)],[]⟩:=by
 intro M w0 a E hN K Q hK
 rw [←hN.ob] at hx
 obtain ⟨_,hs,_⟩:=inB_spec ht
 obtain ⟨A,c,us2,e2,hl2,h1,hr2,ha2⟩:=src_sees hN.mem hx (hN.op x)
 have e3:=hN.op y;rw [hy] at e3;have e3:=sees_v e3
 obtain ⟨v',w',hrun,hown,hg,hv⟩:=run_app (P:=P) (ty:=o.type) (c:=c) ht (World.ownsRow_nil E.w E.w.heap.size e s) (us:=us2) (m:=m) (by rw [hl2,hm]) (fun hne=>ha2 (fun h0=>hne (List.eq_nil_of_length_eq_zero (by rw [hl2,h0];rfl)))) h1 (by rw [Nat.zero_add];exact hby.1) (by unfold maxLen;omega) (Nat.le_refl _)
 rw [Nat.zero_add,List.nil_append] at hown
 have hbl:Below E.w.heap.size E.w w':=(Below.refl _ _).grown hg (Nat.le_refl _) fun k hk=>by cases hk
 obtain ⟨hm',ha'⟩:=hN.mem.newRow hN.ob hn hbl (k:=0) hs hown hl2 hr2
 have hrr:(execOp a.eval o).run P E.w=.ok (.value v') w':=by
  simp only [execOp,h,resolve,invoke,builtin,Sem.run_bind,Sem.run_pure,Result.andThen_ok,List.map_toArray,List.map_cons,List.map_nil,e3,e2,hrun]
 unfold Oper.wp
 rw [hrr]
 refine hK _ _ rfl hm' ha' ⟨by simp [lo_eq],fun e4 s4 n4 k4 c4 h4=>?_⟩
 simp only [lo_eq,Option.some.injEq,AObj.row.injEq] at h4
 obtain ⟨rfl,rfl,rfl,rfl,rfl⟩:=h4
 exact ⟨Nat.le_refl _,fun _=>by simp only [upd_eq]⟩
end
theorem fold_set:∀ (l:List Value) (cs:Array Value) (off k:Nat),off+k+l.length≤cs.size →
 (l.zipIdx k).foldl (fun cs (x:Value×Nat)=>cs.setIfInBounds (off+x.2) x.1) cs=(cs.toList.take (off+k)++l++cs.toList.drop (off+k+l.length)).toArray
 | [],cs,off,k,_=>by simp
 | v::l,cs,off,k,h=>by
   simp only [List.zipIdx_cons,List.foldl_cons]
   rw [fold_set l (cs.setIfInBounds (off+k) v) off (k+1) (by simp at h ⊢;omega)]
   have e:=list_seg_step cs.toList (off+k) v l (by simp at h ⊢;omega)
   simp only [Array.toList_setIfInBounds,←Nat.add_assoc] at e ⊢
   rw [e]
   simp [Nat.add_assoc]
def fillA (place:Nat→Option (Nat×Nat)) (cs:List AV):List (Nat×List AV)→Option (List AV)
 | []=>some cs
 | (i,xs)::rest=>match place i with
   | some (off,size)=>if xs.length=size∧off+xs.length≤cs.length then fillA place (cs.take off++xs++cs.drop (off+xs.length)) rest else none
   | none=>none
inductive Parts (E:Env):List (Nat×List AV)→List (Nat×Value)→Prop
 | nil:Parts E [] []
 | cons (i:Nat) (xs:List AV) (v:Value) (l:List (Nat×List AV)) (m:List (Nat×Value)) (h:Leafs E xs v.cells.toList) (k:Parts E l m):Parts E ((i,xs)::l) ((i,v)::m)
theorem fill_sees {E:Env} {place:Nat→Option (Nat×Nat)} {l:List (Nat×List AV)} {m:List (Nat×Value)} (hp:Parts E l m):∀ {cs:List AV} {us:List Value} {r:List AV},Leafs E cs us→fillA place cs l=some r →
 ∃ vs:List Value,Instr.fill place us.toArray m=some vs.toArray∧Leafs E r vs:=by
 induction hp with
 | nil=>intro cs us r h hr;injection hr with hr;subst hr;exact ⟨us,rfl,h⟩
 | cons i xs v l m hx hp ih =>
   intro cs us r h hr
   simp only [fillA] at hr
   split at hr
   ·rename_i off size hpl
    split at hr
    ·rename_i hc
     obtain ⟨h1,h2⟩:=hc
     have e1:v.cells.size=xs.length:=by rw [←hx.1,Array.length_toList]
     obtain ⟨vs,h3,h4⟩:=ih (h.splice hx off h2) hr
     refine ⟨vs,?_,h4⟩
     simp only [Instr.fill,hpl]
     rw [if_neg (by simp only [e1,h1,List.size_toArray,h.1];simp;omega)]
     rw [←h3]
     congr 1
     rw [←Array.foldl_toList,Array.toList_zipIdx]
     have:=fold_set v.cells.toList us.toArray off 0 (by simp only [Nat.add_zero,Array.length_toList,e1,List.size_toArray,h.1];exact h2)
     simpa using this
    ·cases hr
   ·cases hr
theorem fillA_len {place:Nat→Option (Nat×Nat)}:∀ {l:List (Nat×List AV)} {cs r:List AV},fillA place cs l=some r→r.length=cs.length
 | [],cs,r,h=>by injection h with h;rw [h]
 | (i,xs)::l,cs,r,h=>by
   simp only [fillA] at h
   split at h
   ·split at h
    ·rename_i hc
     rw [fillA_len h];simp only [List.length_append,List.length_take,List.length_drop];omega
    ·cases h
   ·cases h
def partsA (ob:Nat→Option AObj) (g:Operand→AV):List (Nat×Operand)→Option (List (Nat×List AV))
 | []=>some []
 | (i,x)::l=>match cellsA ob (g x),partsA ob g l with
   | some xs,some r=>some ((i,xs)::r)
   | _,_=>none
theorem parts_sees {M:Cx} {w0:World} {E:Env} (hm:Mem M w0 E) {σ:AS} {a:Act} (hs:∀ y,Sees E (opv σ y) (a.eval y)):∀ {l:List (Nat×Operand)} {r:List (Nat×List AV)},partsA E.ob (opv σ) l=some r→Parts E r (l.map fun x=>(x.1,a.eval x.2))
 | [],r,h=>by injection h with h;subst h;exact .nil
 | (i,x)::l,r,h=>by
   simp only [partsA] at h
   split at h
   ·rename_i xs q h1 h2
    injection h with h;subst h
    exact .cons i xs _ _ _ (cellsA_sees hm h1 (hs x)) (parts_sees hm hs h2)
   ·cases h
def placeB (P:Program) (t:TypeId):Option ((Nat→Option (Nat×Nat))×List Value) :=
 match P.info? t,P.underlying t with
 | some it,some (.array _ e) =>
   match it.zero,P.info? e with
   | some z,some ie=>if z.cells.toList.all (·.oneCell') then some (fun i=>some (i*ie.size,ie.size),z.cells.toList) else none
   | _,_=>none
 | some it,some (.struct fields) =>
   match it.zero,fields.toList.mapM (fun f=>(P.info? f.type).map fun i=>(f.offset,i.size)) with
   | some z,some places=>if z.cells.toList.all (·.oneCell') then some ((places.toArray[·]?),z.cells.toList) else none
   | _,_=>none
 | _,_=>none
theorem built_of {P:Program} {t:TypeId} {pl:Nat→Option (Nat×Nat)} {z:List Value} (h:placeB P t=some (pl,z)) (parts:List (Nat×Value)):P.built t parts=Instr.fill pl z.toArray parts∧z.all (·.oneCell')=true:=by
 unfold placeB at h
 unfold Program.built
 split at h
 ·rename_i it n e h1 h2
  split at h
  ·rename_i zz ie h3 h4
   split at h
   ·rename_i h5
    injection h with h;injection h with h6 h7;subst h6;subst h7
    simp only [h1,h2,h3,h4,Array.toArray_toList]
    exact ⟨trivial,h5⟩
   ·cases h
  ·cases h
 ·rename_i it fs h1 h2
  split at h
  ·rename_i zz pls h3 h4
   split at h
   ·rename_i h5
    injection h with h;injection h with h6 h7;subst h6;subst h7
    simp only [h1,h2,h3,h4,Array.toArray_toList]
    exact ⟨trivial,h5⟩
   ·cases h
  ·cases h
 ·cases h
section
variable {P:Program} {o:Oper} {σ:AS}
theorem ok_build {t:TypeId} {parts:Array (Nat×Operand)} {pl:Nat→Option (Nat×Nat)} {z:List Value} {r:List (Nat×List AV)} {cs:List AV} (h:o.op=.build t parts) (hp:placeB P t=some (pl,z)) (hr:partsA (lo σ.O) (opv σ) parts.toList=some r) (hc:fillA pl (z.map .v) r=some cs) :
 OpOk P o σ ⟨.agg cs,[],[]⟩ :=
 OpOk.pure fun a E hs hob ⟨M,w0,hm⟩=>by
  rw [←hob] at hr
  obtain ⟨h1,h2⟩:=built_of hp (parts.toList.map fun x=>(x.1,a.eval x.2))
  obtain ⟨vs,h3,h4⟩:=fill_sees (parts_sees hm hs hr) (leafs_v E z h2) hc
  rw [h3] at h1
  have:=run_build (P:=P) E.w t (parts.map fun x=>(x.1,a.eval x.2)) vs.toArray (by rw [Array.toList_map];exact h1)
  refine ⟨.agg vs.toArray,?_,vs,rfl,h4⟩
  simp only [execOp,h,Sem.run_bind,this,Result.andThen_ok,Sem.run_pure]
def frozB:AV→Bool
 | .v _=>true
 | .lst _ _=>true
 | .fk _=>true
 | _=>false
theorem rep_of {E:Env} {x:AV} {u:Value} (h:frozB x=true) (hs:Leaf E x u):Rep E.w E.F x u:=by
 cases x with
 | v x=>obtain ⟨rfl,h⟩:=hs;exact .v _ h
 | lst n cs=>exact hs
 | fk k=>obtain ⟨b,rfl,h1,h2⟩:=hs;exact .fk k b h1 h2
 | _=>cases h
theorem ok_buildSlice {t e:TypeId} {s by_ len d:Nat} {parts:Array (Nat×Operand)} {z:List Value} {r:List (Nat×List AV)} {cs:List AV} (h:o.op=.buildSlice t len parts) (ht:inB P t=some (e,s,by_)) (hz:zeroA P e=some z) (hd:lo σ.O d=none)
 (hr:partsA (lo σ.O) (opv σ) parts.toList=some r) (hc:fillA (fun i=>some (i*s,s)) ((List.range (len*s)).map fun i=>.v (z.toArray[i%z.length]!)) r=some cs) (hf:cs.all frozB=true) (hlen:len*s≤16777216):OpOk P o σ ⟨.row d 0,[(d,.row e s len 0 cs)],[]⟩:=by
 intro M w0 a E hN K Q hK
 rw [←hN.ob] at hr
 obtain ⟨hu,hs,i,zv,hi,hzv,hzs,his,hib⟩:=inB_spec ht
 have hz':zv.cells.toList=z∧z.all (·.oneCell')=true:=by
  unfold zeroA at hz;rw [hi] at hz;simp only [hzv] at hz
  split at hz
  ·rename_i h1;injection hz with hz;subst hz;exact ⟨rfl,h1⟩
  ·cases hz
 have hzl:z.length=s:=by rw [←hz'.1,Array.length_toList,hzs]
 have hl0:Leafs E ((List.range (len*s)).map fun i=>.v (z.toArray[i%z.length]!)) ((List.range (len*s)).map fun i=>z.toArray[i%z.length]!):=by
  refine ⟨by simp,fun j x u hx hu'=>?_⟩
  rw [List.getElem?_map] at hx hu'
  cases hj:(List.range (len*s))[j]? with
  | none=>rw [hj] at hx;cases hx
  | some q =>
    rw [hj] at hx hu'
    injection hx with hx;injection hu' with hu';subst hx;subst hu'
    have h1:(z.toArray[q%z.length]!).oneCell'=true:=by
     have hlt:q%z.length<z.length:=Nat.mod_lt _ (by omega)
     have:z.toArray[q%z.length]! = z[q%z.length]:=by simp [hlt]
     rw [this];exact List.all_eq_true.1 hz'.2 _ (List.getElem_mem hlt)
    exact ⟨⟨rfl,h1⟩,h1⟩
 obtain ⟨vs,h3,h4⟩:=fill_sees (parts_sees hN.mem hN.op hr) hl0 hc
 have hvl:vs.length=len*s:=by
  rw [h4.1,fillA_len hc];simp
 have hrun:(execOp a.eval o).run P E.w=.ok (.value (.slice (some ⟨E.w.heap.size,0,none⟩) len len)) (E.w.alloc (.cells vs.toArray e)):=by
  have h3':Instr.fill (fun i=>some (i*s,s)) ((Array.range (len*s)).map fun i=>zv.cells[i%zv.cells.size]!) (parts.toList.map fun x=>(x.1,a.eval x.2))=some vs.toArray:=by
   rw [←h3];congr 1
   rw [←hz'.1]
   apply Array.toList_inj.1
   simp [Array.toList_range]
  have hnot:¬len*s>2^24:=by omega
  simp only [execOp,h,Instr.buildSlice,Sem.run_bind,run_underlying hu,Result.andThen_ok,sizeOf,typeInfo]
  by_cases h0:len*s=0
  ·have h3'':Instr.fill (fun i=>some (i*s,s)) ((Array.range (len*s)).map fun i=>(#[]:Array Value)[i%(#[]:Array Value).size]!) (parts.toList.map fun x=>(x.1,a.eval x.2))=some vs.toArray:=by
    rw [←h3',h0];congr 1;apply Array.toList_inj.1;simp [Array.toList_range]
   rw [h0] at h3''
   simp [hi,his,h0,newRow]
   simp at h3''
   rw [h3''];simp
  ·simp [hi,his,hnot,h0,zeroValue,typeInfo,hzv,newRow]
   rw [h3'];simp
 have hown:(E.w.alloc (.cells vs.toArray e)).ownsRow E.w.heap.size e s (.slice (some ⟨E.w.heap.size,0,none⟩) len len) len vs :=
  ⟨hvl,.inr ⟨E.w.heap.size,len,vs.toArray,rfl,Nat.le_refl _,heap_alloc_new _ _,Nat.le_refl _,by unfold maxLen;have:len≤len*s:=Nat.le_mul_of_pos_right _ hs;omega,by simp [hvl],by rw [←hvl];simp⟩⟩
 obtain ⟨hm',ha'⟩:=hN.mem.newRow hN.ob hd (belA (belR E.w) (.cells vs.toArray e)) (k:=0) hs hown h4.1 (fun j x u hx hu=>rep_of (List.all_eq_true.1 hf x (List.mem_of_getElem? hx)) (h4.2 j x u hx hu).1)
 unfold Oper.wp
 rw [hrun]
 refine hK _ _ rfl hm' ha' ⟨by simp [lo_eq],fun e4 s4 n4 k4 c4 h4=>?_⟩
 simp only [lo_eq,Option.some.injEq,AObj.row.injEq] at h4
 obtain ⟨rfl,rfl,rfl,rfl,rfl⟩:=h4
 exact ⟨Nat.le_refl _,fun _=>by simp only [upd_eq]⟩
end
end Go.Proofs.YtfhmaincnlaapaaGreat.Sy
