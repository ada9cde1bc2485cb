/- ONE OPERATION, COMPUTED. -/
import Derived.Laws.Pointers
import Derived.Test.YtfhmaincnlaapaaGreatTrSy8
namespace Go.Proofs.YtfhmaincnlaapaaGreat.Sy
open Go.ChangeShapes Go.WideShapes Go.ChangeAt Go.RowKit
set_option linter.unusedVariables false
inductive Hint
 | val (x:AV)
 | call (I:Inst)
 | any (r:Value)
 | gd
 | gdv (x:AV)
 | gdc (I:Inst)
def hintOf:List (Nat×Hint)→Nat→Option Hint
 | [],_=>none
 | (k,x)::r,t=>if k=t then some x else hintOf r t
def avEq:AV→AV→Prop
 | .v (.int k a),.v (.int k' b)=>if k=k' then a=b else False
 | .v (.bool a),.v (.bool b)=>a=b
 | .lst n cs,.lst m ds=>n=m∧cs=ds
 | .agg cs,.agg ds=>cs=ds
 | .row o k,.row p m=>o=p∧k=m
 | .ptr o k,.ptr p m=>o=p∧k=m
 | x,y=>x=y
theorem avEq_eq {x y:AV} (h:avEq x y):x=y:=by
 unfold avEq at h
 split at h
 ·split at h
  ·rename_i hk;subst hk;subst h;rfl
  ·exact h.elim
 ·subst h;rfl
 ·obtain ⟨rfl,rfl⟩:=h;rfl
 ·subst h;rfl
 ·obtain ⟨rfl,rfl⟩:=h;rfl
 ·obtain ⟨rfl,rfl⟩:=h;rfl
 ·exact h
def obEq:AObj→AObj→Prop
 | .cells t cs,.cells t' ds=>if t=t' then cs=ds else False
 | .row e s n k cs,.row e' s' m j ds=>if e=e'∧s=s' then n=m∧k=j∧cs=ds else False
 | x,y=>x=y
theorem obEq_eq {x y:AObj} (h:obEq x y):x=y:=by
 unfold obEq at h
 split at h
 ·split at h
  ·rename_i hk;subst hk;subst h;rfl
  ·exact h.elim
 ·split at h
  ·rename_i hk;obtain ⟨rfl,rfl⟩:=hk;obtain ⟨rfl,rfl,rfl⟩:=h;rfl
  ·exact h.elim
 ·exact h
def opEq {α:Type} (r:α→α→Prop):Option α→α→Prop
 | some x,y=>r x y
 | none,_=>False
theorem opOb_eq {x:Option AObj} {y:AObj} (h:opEq obEq x y):x=some y:=by
 cases x with
 | none=>exact h.elim
 | some x=>rw [obEq_eq h]
def lsEq:List AV→List AV→Prop
 | [],[]=>True
 | x::l,y::m=>avEq x y∧lsEq l m
 | _,_=>False
theorem lsEq_eq:∀ {l m:List AV},lsEq l m→l=m
 | [],[],_=>rfl
 | x::l,y::m,h=>by rw [avEq_eq h.1,lsEq_eq h.2]
 | [],_::_,h=>h.elim
 | _::_,[],h=>h.elim
def sVal (h:Option Hint) (x:AV) (vc:List Prop):Option Res :=
 match h with
 | some (.val y)=>some ⟨y,[],avEq x y::vc⟩
 | _=>some ⟨x,[],vc⟩
def sRd (h:Option Hint) (r:Option AV):Option Res :=
 match h with
 | some (.val y)=>some ⟨y,[],[r=some y]⟩
 | _=>match r with
   | some x=>some ⟨x,[],[]⟩
   | none=>none
def opt {α β:Type} (x:Option α) (f:α→Option β):Option β:=match x with|some y=>f y|none=>none
def sIdx (P:Program) (ob:Nat→Option AObj) (t:TypeId) (y i:AV):Option Res :=
 match elB P t,i with
 | some (e,s),.v (.int k z) =>
   match y with
   | .lst n cs=>some ⟨.fptr cs (z.toNat*s),[],[0≤z∧z<n]⟩
   | .row q ver=>match ob q with
     | some (.row _ _ n k' cs)=>if k'=ver then some ⟨.rptr q ver (z.toNat*s),[],[0≤z∧z<n]⟩ else none
     | _=>none
   | _=>none
 | none,.v (.int k z)=>(match arB P t,viewOf ob y with
   | some (n,s),some _=>if 0≤z∧z<n then some ⟨shift y (z.toNat*s),[],[]⟩ else none
   | _,_=>none)
 | _,_=>none
def sStr (P:Program) (h:Option Hint) (t:TypeId) (y i:AV):Option Res :=
 match P.underlying t,y,i,h with
 | some .string,.v (.string s),.v (.int k z),some (.val (.v (.int .u8 b)))=>some ⟨.v (.int .u8 b),[],[0≤z∧∃ c:UInt8,s[z.toNat]?=some c∧b=c.toNat]⟩
 | _,_,_,_=>none
def fnOf:AV→Option FuncId
 | .v (.func (.func f) a b)=>bif a.isEmpty&&b.isEmpty then some f else none
 | _=>none
theorem fnOf_eq {x:AV} {f:FuncId} (h:fnOf x=some f):x=.v (.func (.func f) #[] #[]):=by
 unfold fnOf at h
 split at h
 ·rw [Bool.cond_eq_ite] at h
  split at h
  ·rename_i hb
   injection h with h;subst h
   rw [Bool.and_eq_true,Array.isEmpty_iff,Array.isEmpty_iff] at hb
   rw [hb.1,hb.2]
  ·cases h
 ·cases h
def nilP (ob:Nat→Option AObj) (x:AV):Option Bool :=
 match x with
 | .v (.pointer none)=>some true
 | x=>match viewOf ob x with|some _=>some false|none=>none
def ptrB (P:Program) (t:TypeId):Bool:=match P.underlying t with|some (.pointer _)=>true|_=>false
def sNil (P:Program) (ob:Nat→Option AObj) (h:Option Hint) (op:BinOp) (xt:TypeId) (x:AV):Option Res :=
 bif ptrB P xt then (match nilP ob x,op with
  | some b,.eql=>sVal h (.v (.bool b)) []
  | some b,.neq=>sVal h (.v (.bool (!b))) []
  | _,_=>none) else none
def sBin (P:Program) (ob:Nat→Option AObj) (h:Option Hint) (op:BinOp) (xt:TypeId) (x y:AV):Option Res :=
 match x,y with
 | x,.v (.pointer none)=>sNil P ob h op xt x
 | .v (.bool a),.v (.bool b)=>match P.underlying xt,op with
   | some .bool,.eql=>sVal h (.v (.bool (a==b))) []
   | some .bool,.neq=>sVal h (.v (.bool (!(a==b)))) []
   | _,_=>none
 | .v a,.v b=>match binV op a b with
   | some (r,vc)=>bif r.oneCell' then sVal h (.v r) vc else none
   | none=>none
 | _,_=>none
def sUn (h:Option Hint) (op:UnOp) (x:AV):Option Res :=
 match x with
 | .v a=>match unV op a with|some r=>sVal h (.v r) []|none=>none
 | _=>none
def bytesB (P:Program) (t:TypeId):Bool :=
 match P.underlying t with
 | some (.slice e)=>match P.underlying e with|some (.int .u8)=>true|_=>false
 | _=>false
def bytesU (P:Program) (src dst:TypeId):Bool:=match P.underlying src,P.underlying dst with
 | some .string,some (.slice e)=>(match P.underlying e with|some (.int .u8)=>true|_=>false)
 | _,_=>false
theorem bytesU_spec {P:Program} {src dst:TypeId} (h:bytesU P src dst=true):P.underlying src=some .string∧∃ e,P.underlying dst=some (.slice e)∧P.underlying e=some (.int .u8):=by
 unfold bytesU at h
 split at h
 ·rename_i e h1 h2
  split at h
  ·rename_i h3;exact ⟨h1,e,h2,h3⟩
  ·cases h
 ·cases h
def sConv (P:Program) (ob:Nat→Option AObj) (h:Option Hint) (src dst:TypeId) (x:AV):Option Res :=
 match x with
 | .v (.int k n)=>match convV P src dst (.int k n) with|some r=>sVal h (.v r) []|none=>none
 | .v (.string s)=>match convV P src dst (.string s) with
   | some r=>sVal h (.v r) []
   | none=>bif bytesU P src dst then (match h with
     | none=>bif Nat.ble s.data.toList.length maxLen then some ⟨.lst s.data.toList.length (byL s.data.toList),[],[]⟩ else none
     | some _=>some ⟨.lst s.data.toList.length (byL s.data.toList),[],[s.data.toList.length≤maxLen]⟩) else none
 | x=>match h,srcA ob x,P.underlying dst with
   | some (.val (.v (.string s))),some (n,cs),some .string=>bif bytesB P src then some ⟨.v (.string s),[],[n=s.data.toList.length,cs=byL s.data.toList]⟩ else none
   | _,_,_=>none
def sCut (P:Program) (ob:Nat→Option AObj) (t:TypeId) (y:AV) (lo hi:Option AV):Option Res :=
 match y with
 | .lst n cs=>match elB P t,loN lo,hiN n hi with
   | some (_,s),some l,some h=>some ⟨.lst (h.toNat-l.toNat) ((cs.drop (l.toNat*s)).take ((h.toNat-l.toNat)*s)),[],[0≤l∧l≤h∧h≤n]⟩
   | _,_,_=>none
 | .row q ver=>match ob q with
   | some (.row e s n k cs)=>match elB P t,loN lo,hiN n hi with
     | some _,some l,some h=>if k=ver then some ⟨.row q (ver+1),[(q,.row e s h.toNat (ver+1) (cs.take (h.toNat*s)))],[l=0∧0≤h∧h≤n]⟩ else none
     | _,_,_=>none
   | _=>none
 | .v (.string s)=>match P.underlying t,loN lo,hiN s.size hi with
   | some .string,some l,some h=>some ⟨.v (.string (s.extract l.toNat h.toNat)),[],[0≤l∧l≤h∧h≤s.size]⟩
   | _,_,_=>none
 | _=>none
def sMake (P:Program) (ob:Nat→Option AObj) (d:Option Nat) (t:TypeId) (y z:AV):Option Res :=
 match inB P t,d,y,z with
 | some (e,s,by_),some d,.v (.int k a),.v (.int k' b)=>match zeroA P e,ob d with
   | some zs,none=>some ⟨.row d 0,[(d,.row e s a.toNat 0 (repA a.toNat zs))],[b=a,0≤a∧a*by_≤140737488355328∧a≤140737488355328]⟩
   | _,_=>none
 | _,_,_,_=>none
def sMin (mx:Bool) (h:Option Hint) (x y:AV):Option Res :=
 match x,y with
 | .v (.int k a),.v (.int k' b)=>if k=k' then sVal h (.v (.int k (bif mx then (if a<b then b else a) else (if b<a then b else a)))) [] else none
 | _,_=>none
def sApp (P:Program) (ob:Nat→Option AObj) (d:Option Nat) (t:TypeId) (y x:AV):Option Res :=
 match inB P t,srcA ob x with
 | some (e,s,by_),some (m,cs2) =>
   match y with
   | .row q ver=>match ob q with
     | some (.row e' s' n k cs)=>if k=ver∧e'=e∧s'=s then some ⟨.row q (ver+1),[(q,.row e s (n+m) (ver+1) (cs++cs2))],[cs2.length=m*s,(n+m)*by_≤140737488355328∧n+m≤140737488355328]⟩ else none
     | _=>none
   | .v (.slice none 0 0)=>match d with
     | some d=>match ob d with
       | none=>some ⟨.row d 0,[(d,.row e s m 0 cs2)],[cs2.length=m*s,m*by_≤140737488355328∧m≤140737488355328]⟩
       | some _=>none
     | none=>none
   | _=>none
 | _,_=>none
def preVc (ob:Nat→Option AObj):List (Nat×AObj)→List Prop
 | []=>[]
 | (q,x)::l=>opEq obEq (ob q) x::preVc ob l
def callBs (ob:Nat→Option AObj) (args:List AV) (I:Inst):Bool :=
 args.all plainB &&
 I.post.all (fun p=>(lo I.pre p.1).isSome||(ob p.1).isNone) &&
 I.pre.all (fun p=>match p.2 with | .cells _ cs=>(cs.all fun y=>(refsOf1 y).all fun p=>(lo I.pre p).isSome)|_=>true) &&
 args.all (fun x=>(ptrsOf x).all fun p=>(lo I.pre p).isSome) &&
 args.all (fun x=>(rowsOf x).all fun p=>(lo I.pre p).isNone)
def keepB (args:List AV) (I:Inst):Bool:=args.all (fun x=>(rowsOf x).isEmpty)||(I.post.isEmpty&&scal I.res)
def sCall (P:Program) (ob:Nat→Option AObj) (f:FuncId) (h:Option Hint) (args:List AV):Option Res :=
 match h with
 | some (.call I)=>bif callB P f&&callBs ob args I then some ⟨I.res,I.post++(bif keepB args I then [] else gonesOf args),lsEq (args.map (adapt ob)) I.args::FnOk P f I::preVc ob I.pre⟩ else none
 | _=>none
def sBox (ob:Nat→Option AObj) (d:Option Nat) (e:TypeId) (x:AV):Option Res :=
 match d,cellsA ob x with
 | some d,some cs=>match ob d with|none=>some ⟨.ptr d 0,[(d,.cells e cs)],[]⟩|some _=>none
 | _,_=>none
def sAlloc (P:Program) (ob:Nat→Option AObj) (d:Option Nat) (e:TypeId):Option Res :=
 match d,zeroA P e with
 | some d,some zs=>match ob d with|none=>some ⟨.ptr d 0,[(d,.cells e (zs.map .v))],[]⟩|some _=>none
 | _,_=>none
def sStore (P:Program) (ob:Nat→Option AObj) (t:TypeId) (y x:AV):Option Res :=
 match tyB P t,y,cellsA ob x with
 | some (b,k),.rptr q ver off,some xs=>match ob q with
   | some (.row e s n k' cs)=>if k'=ver∧xs.all frozB=true∧xs.length=k then some ⟨.junk,[(q,.row e s n k' (cs.take off++xs++cs.drop (off+xs.length)))],[off+xs.length≤cs.length]⟩ else none
   | _=>none
 | some (b,k),.ptr q off,some xs=>match ob q with
   | some (.cells te cs)=>if xs.length=k∧off+xs.length≤cs.length then some ⟨.junk,[(q,.cells te (cs.take off++xs++cs.drop (off+xs.length)))],[]⟩ else none
   | _=>none
 | _,_,_=>none
def sBuild (P:Program) (ob:Nat→Option AObj) (g:Operand→AV) (t:TypeId) (parts:List (Nat×Operand)):Option Res :=
 match placeB P t,partsA ob g parts with
 | some (pl,z),some r=>match fillA pl (z.map .v) r with|some cs=>some ⟨.agg cs,[],[]⟩|none=>none
 | _,_=>none
def sBuildSlice (P:Program) (ob:Nat→Option AObj) (g:Operand→AV) (d:Option Nat) (t:TypeId) (len:Nat) (parts:List (Nat×Operand)):Option Res :=
 match inB P t,d with
 | some (e,s,_),some d=>match zeroA P e,partsA ob g parts,ob d with
   | some z,some r,none=>match fillA (fun i=>some (i*s,s)) ((List.range (len*s)).map fun i=>.v (z.toArray[i%z.length]!)) r with
     | some cs=>if cs.all frozB=true∧len*s≤16777216 then some ⟨.row d 0,[(d,.row e s len 0 cs)],[]⟩ else none
     | none=>none
   | _,_,_=>none
 | _,_=>none
def stepE (P:Program) (o:Oper) (h:Option Hint) (g:Operand→AV) (ob:Nat→Option AObj):Option Res :=
 match o.op with
 | .move x=>sVal h (g x) []
 | .assign x=>sVal h (g x) []
 | .pick c x y=>(match g c with | .v (.bool t)=>sVal h (bif t then g x else g y) []|_=>none)
 | .load t y=>(match tyB P t,viewOf ob (g y) with|some (b,k),some (cs,off)=>sRd h (rd1 b k cs off)|_,_=>none)
 | .store t y x=>sStore P ob t (g y) (g x)
 | .fieldAddr s y f=>(match fldB P s f,viewOf ob (g y) with|some fo,some _=>some ⟨shift (g y) fo,[],[]⟩|_,_=>none)
 | .indexAddr t y i=>sIdx P ob t (g y) (g i)
 | .index t y i=>sStr P h t (g y) (g i)
 | .nilCheck y=>(match viewOf ob (g y) with|some _=>some ⟨g y,[],[]⟩|none=>none)
 | .field s y f=>(match fdB P s f,g y with|some (b,k,off),.agg cs=>sRd h (rd1 b k cs off)|_,_=>none)
 | .extract y i=>(match g y with | .tup l=>(match l[i]? with|some x=>sVal h x []|none=>none)|_=>none)
 | .binOp op xt x y _=>sBin P ob h op xt (g x) (g y)
 | .unOp op _ x=>sUn h op (g x)
 | .convert src dst x=>sConv P ob h src dst (g x)
 | .slice t y lo hi none=>sCut P ob t (g y) (lo.map g) (hi.map g)
 | .makeSlice t y z=>sMake P ob o.dst t (g y) (g z)
 | .box e x=>sBox ob o.dst e (g x)
 | .alloc e=>sAlloc P ob o.dst e
 | .build t parts=>sBuild P ob g t parts.toList
 | .buildSlice t len parts=>sBuildSlice P ob g o.dst t len parts.toList
 | .call c=>(match c.callee,c.args.toList,c.argTypes.toList with
   | .builtin .len,[y],[t]=>(match lenV P ob t (g y) with|some n=>sVal h (.v (.int .i64 n)) []|none=>none)
   | .builtin .min,[x,y],_=>sMin false h (g x) (g y)
   | .builtin .max,[x,y],_=>sMin true h (g x) (g y)
   | .builtin .append,[y,x],[t,t']=>if t=t' then sApp P ob o.dst t (g y) (g x) else none
   | .value (.func f),args,_=>sCall P ob f h (args.map g)
   | .value (.tmp t),args,_=>(match fnOf (g (.tmp t)) with|some f=>sCall P ob f h (args.map g)|none=>none)
   | _,_,_=>none)
 | _=>none
section
variable {P:Program} {o:Oper} {σ:AS} {ob:Nat→Option AObj}
theorem viewOf_mono (H:∀ q x,ob q=some x→lo σ.O q=some x) {x:AV} {r:List AV×Nat} (h:viewOf ob x=some r):viewOf (lo σ.O) x=some r:=by
 cases x with
 | ptr q off =>
   simp only [viewOf] at h ⊢
   split at h
   ·rename_i z t cs hq;rw [H _ _ hq];exact h
   ·cases h
 | rptr q ver off =>
   simp only [viewOf] at h ⊢
   split at h
   ·rename_i z e s n k cs hq;rw [H _ _ hq];exact h
   ·cases h
 | fptr cs off=>exact h
 | _=>cases h
theorem oneB_mono (H:∀ q x,ob q=some x→lo σ.O q=some x) {x:AV} (h:oneB ob x=true):oneB (lo σ.O) x=true:=by
 cases x with
 | ptr q off =>
   simp only [oneB] at h ⊢
   split at h
   ·rename_i t cs hq;rw [H _ _ hq]
   ·cases h
 | row q ver =>
   simp only [oneB] at h ⊢
   split at h
   ·rename_i e s n k cs hq;rw [H _ _ hq];exact h
   ·cases h
 | rptr q ver off =>
   simp only [oneB] at h ⊢
   split at h
   ·rename_i e s n k cs hq;rw [H _ _ hq];exact h
   ·cases h
 | _=>exact h
theorem cellsA_mono (H:∀ q x,ob q=some x→lo σ.O q=some x) {x:AV} {cs:List AV} (h:cellsA ob x=some cs):cellsA (lo σ.O) x=some cs:=by
 cases x with
 | agg l=>exact h
 | _ =>
   simp only [cellsA,Bool.cond_eq_ite] at h ⊢
   split at h
   ·rename_i hb;rw [if_pos (oneB_mono H hb)];exact h
   ·cases h
theorem srcA_mono (H:∀ q x,ob q=some x→lo σ.O q=some x) {x:AV} {r:Nat×List AV} (h:srcA ob x=some r):srcA (lo σ.O) x=some r:=by
 cases x with
 | row q ver =>
   simp only [srcA] at h ⊢
   split at h
   ·rename_i z e s n k cs hq;rw [H _ _ hq];exact h
   ·cases h
 | v y =>
   cases y<;>(try exact h)
   rename_i a n c
   cases a<;>cases n<;>exact h
 | _=>exact h
theorem lenA_mono (H:∀ q x,ob q=some x→lo σ.O q=some x) {x:AV} {n:Nat} (h:lenA ob x=some n):lenA (lo σ.O) x=some n:=by
 cases x with
 | row q ver =>
   simp only [lenA] at h ⊢
   split at h
   ·rename_i z e s n k cs hq;rw [H _ _ hq];exact h
   ·cases h
 | v y=>cases y<;>exact h
 | _=>exact h
theorem lenV_mono (H:∀ q x,ob q=some x→lo σ.O q=some x) {t:TypeId} {x:AV} {n:Nat} (h:lenV P ob t x=some n):lenV P (lo σ.O) t x=some n:=by
 unfold lenV at h ⊢
 split at h
 ·rename_i hu;exact lenA_mono H h
 ·rename_i hu;exact h
 ·cases h
theorem partsA_mono (H:∀ q x,ob q=some x→lo σ.O q=some x) {g:Operand→AV}:∀ {l:List (Nat×Operand)} {r:List (Nat×List AV)},(∀ x∈l,g x.2=opv σ x.2)→partsA ob g l=some r→partsA (lo σ.O) (opv σ) l=some r
 | [],r,_,h=>h
 | (i,x)::l,r,hg,h=>by
   simp only [partsA] at h ⊢
   split at h
   ·rename_i xs q h1 h2
    rw [hg (i,x) (by simp)] at h1
    rw [cellsA_mono H h1,partsA_mono H (fun y hy=>hg y (by simp [hy])) h2];exact h
   ·cases h
theorem preVc_spec {l:List (Nat×AObj)} (h:allP (preVc ob l)):∀ q x,lo l q=some x→ob q=some x:=by
 induction l with
 | nil=>intro q x hx;cases hx
 | cons a l ih =>
   obtain ⟨k,y⟩:=a
   obtain ⟨h1,h2⟩:=h
   intro q x hx
   by_cases hk:q=k
   ·subst hk;rw [lo_eq] at hx;injection hx with hx;rw [←hx];exact opOb_eq h1
   ·rw [lo_ne _ _ hk] at hx;exact ih h2 q x hx
theorem mem_of_lo {l:List (Nat×AObj)} {q:Nat} {x:AObj} (h:lo l q=some x):(q,x)∈l:=by
 induction l with
 | nil=>cases h
 | cons a l ih =>
   obtain ⟨k,y⟩:=a
   by_cases hk:q=k
   ·subst hk;rw [lo_eq] at h;injection h with h;rw [h];simp
   ·rw [lo_ne _ _ hk] at h;simp [ih h]
theorem OpOk.cast {x y:AV} {w:List (Nat×AObj)} {v v':List Prop} (h:OpOk P o σ ⟨x,w,v⟩) (e:x=y):OpOk P o σ ⟨y,w,v'⟩:=by subst e;exact h
theorem sVal_ok {h:Option Hint} {x:AV} {vc:List Prop} {r:Res} (hr:sVal h x vc=some r) (hv:allP r.vc) (k:allP vc→OpOk P o σ ⟨x,[],[]⟩):OpOk P o σ r:=by
 unfold sVal at hr
 split at hr
 ·injection hr with hr;subst hr;exact (k hv.2).cast (avEq_eq hv.1)
 ·injection hr with hr;subst hr;exact (k hv).cast rfl
theorem sRd_ok {h:Option Hint} {q:Option AV} {r:Res} (hr:sRd h q=some r) (hv:allP r.vc) (k:∀ x,q=some x→OpOk P o σ ⟨x,[],[]⟩):OpOk P o σ r:=by
 unfold sRd at hr
 split at hr
 ·injection hr with hr;subst hr;exact (k _ hv.1).cast rfl
 ·split at hr
  ·rename_i x;injection hr with hr;subst hr;exact k _ rfl
  ·cases hr
theorem ok_nil (H:∀ q x,ob q=some x→lo σ.O q=some x) {op:BinOp} {xt yt:TypeId} {x y:Operand} {b:Bool} (h:o.op=.binOp op xt x y yt) (ht:ptrB P xt=true) (hx:nilP ob (opv σ x)=some b) (hy:opv σ y=.v (.pointer none)) (hop:op=.eql∨op=.neq):OpOk P o σ ⟨.v (.bool (if op=.eql then b else !b)),[],[]⟩ :=
 OpOk.pure fun q E hs hob ⟨M,w0,hm⟩=>by
  have hu:P.underlying xt=some (.pointer (P.pointee xt)):=by
   unfold ptrB at ht
   split at ht
   ·rename_i e he;rw [he];simp [Program.pointee,he]
   ·cases ht
  have e2:=hs y;rw [hy] at e2;have e2:=sees_v e2
  have e1:∃ p:Option Addr,q.eval x=.pointer p∧p.isNone=b:=by
   have e:=hs x
   unfold nilP at hx
   split at hx
   ·rename_i hxx;rw [hxx] at e;injection hx with hx;subst hx;exact ⟨none,sees_v e,rfl⟩
   ·split at hx
    ·rename_i r hr
     injection hx with hx;subst hx
     obtain ⟨cs,off⟩:=r
     have hv:=viewOf_mono H hr
     rw [←hob] at hv
     have hl:Leaf E (opv σ x) (q.eval x):=by
      generalize opv σ x=z at hv e
      cases z<;>first|(cases hv;done)|exact e
     obtain ⟨A,us,e3,_⟩:=viewOf_at hm hv hl
     exact ⟨_,e3,rfl⟩
    ·cases hx
  obtain ⟨p,e1,hp⟩:=e1
  refine ⟨_,?_,rfl,rfl⟩
  rcases hop with rfl|rfl
  ·have:=run_eql_pointer_nil (P:=P) E.w xt p hu
   simp only [execOp,h,e1,e2,eqGuard,Sem.run_bind]
   simp [this,hp]
  ·have:=run_neq_pointer_nil (P:=P) E.w xt p hu
   simp only [execOp,h,e1,e2,eqGuard,Sem.run_bind]
   simp [this,hp]
theorem sCall_ok {o:Oper} {σ:AS} {ob:Nat→Option AObj} {h:Option Hint} {g:Operand→AV} {r:Res} {c:Call} {y0:Operand} {f:FuncId} (H:∀ q x,ob q=some x→lo σ.O q=some x) (hd:∀ d,(o.dst=some d∨∃ I,h=some (.call I)∧∃ x,lo I.post d=some x)→ob d=none→lo σ.O d=none) (hv:allP r.vc)
 (ho:o.op=.call c) (h1:c.callee=.value y0) (hy0:opv σ y0=.v (.func (.func f) #[] #[])) (hga:∀ y∈c.args.toList,g y=opv σ y) (hr:sCall P ob f h (c.args.toList.map g)=some r):OpOk P o σ r:=by
 obtain ⟨callee,args,ts⟩:=c
 simp only at h1
 subst h1
 unfold sCall at hr
 split at hr
 ·rename_i I
  rw [Bool.cond_eq_ite] at hr
  split at hr
  ·rename_i hb;injection hr with hr;subst hr
   simp only [Bool.and_eq_true] at hb
   obtain ⟨hf,hb⟩:=hb
   unfold callBs at hb
   simp only [Bool.and_eq_true] at hb
   obtain ⟨⟨⟨⟨b1,b2⟩,b3⟩,b4⟩,b5⟩:=hb
   have hgm:args.toList.map g=args.toList.map (opv σ):=List.map_congr_left hga
   rw [hgm] at b1 b4 b5 ⊢
   obtain ⟨v1,v2,v3⟩:=hv
   rw [hgm] at v1
   have v1:=lsEq_eq v1
   have hpre:=preVc_spec v3
   have hmapA:args.toList.map (fun x=>adapt ob (opv σ x))=I.args:=by rw [←v1,List.map_map];rfl
   have hall:∀ {p:AV→Bool},(args.toList.map (opv σ)).all p=true→∀ x∈args.toList,p (opv σ x)=true:=fun hp x hx=>List.all_eq_true.1 hp _ (List.mem_map.2 ⟨x,hx,rfl⟩)
   refine (ok_call H ho hy0 hf v2 hmapA (hall b1) (fun q x hx=>H q x (hpre q x hx)) (fun q x hx hn=>?_) (fun q x hx=>List.all_eq_true.1 b3 _ (mem_of_lo hx)) (fun x hx p hp=>List.all_eq_true.1 (hall b4 x hx) p hp) (fun x hx p hp=>Option.isNone_iff_eq_none.1 (List.all_eq_true.1 (hall b5 x hx) p hp)) ?_).cast rfl
   ·have hq:=List.all_eq_true.1 b2 _ (mem_of_lo hx)
    simp only [hn,Option.isSome_none,Bool.false_or,Option.isNone_iff_eq_none] at hq
    exact hd q (.inr ⟨I,rfl,x,hx⟩) hq
   ·cases b6:keepB (args.toList.map (opv σ)) I with
    | false=>exact .inr rfl
    | true =>
      unfold keepB at b6
      refine .inl ⟨rfl,?_⟩
      rcases Bool.or_eq_true_iff.1 b6 with b6|b6
      ·exact .inl fun x hx=>List.isEmpty_iff.1 (hall b6 x hx)
      ·rw [Bool.and_eq_true] at b6
       exact .inr ⟨List.isEmpty_iff.1 b6.1,b6.2⟩
  ·cases hr
 ·cases hr
theorem stepE_ok {h:Option Hint} {g:Operand→AV} {r:Res} (hr:stepE P o h g ob=some r) (hg:∀ y∈o.op.operands.toList,g y=opv σ y) (H:∀ q x,ob q=some x→lo σ.O q=some x)
 (hd:∀ d,(o.dst=some d∨∃ I,h=some (.call I)∧∃ x,lo I.post d=some x)→ob d=none→lo σ.O d=none) (hv:allP r.vc):OpOk P o σ r:=by
 unfold stepE at hr
 split at hr
 ·rename_i x ho
  rw [hg x (by simp [ho,Op.operands])] at hr
  exact sVal_ok hr hv fun _=>ok_move (.inl ho)
 ·rename_i x ho
  rw [hg x (by simp [ho,Op.operands])] at hr
  exact sVal_ok hr hv fun _=>ok_move (.inr ho)
 ·rename_i c x y ho
  rw [hg c (by simp [ho,Op.operands]),hg x (by simp [ho,Op.operands]),hg y (by simp [ho,Op.operands])] at hr
  split at hr
  ·rename_i t hc;exact sVal_ok hr hv fun _=>ok_pick ho hc
  ·cases hr
 ·rename_i t y ho
  rw [hg y (by simp [ho,Op.operands])] at hr
  split at hr
  ·rename_i b k cs off ht hvw;exact sRd_ok hr hv fun x hx=>ok_load ho ht (viewOf_mono H hvw) hx
  ·cases hr
 ·rename_i t y x ho
  rw [hg y (by simp [ho,Op.operands]),hg x (by simp [ho,Op.operands])] at hr
  unfold sStore at hr
  split at hr
  ·rename_i b k q ver off xs ht hy hx
   split at hr
   ·rename_i e s n k' cs hq
    split at hr
    ·rename_i hh;obtain ⟨hk,hf,hl⟩:=hh;subst hk;injection hr with hr;subst hr
     exact (ok_storeR ho ht hy (H _ _ hq) (cellsA_mono H hx) hf hl hv.1).cast rfl
    ·cases hr
   ·cases hr
  ·rename_i b k q off xs ht hy hx
   split at hr
   ·rename_i te cs hq
    split at hr
    ·rename_i hh;injection hr with hr;subst hr
     exact (ok_store ho ht hy (H _ _ hq) (cellsA_mono H hx) hh.1 hh.2).cast rfl
    ·cases hr
   ·cases hr
  ·cases hr
 ·rename_i s y f ho
  rw [hg y (by simp [ho,Op.operands])] at hr
  split at hr
  ·rename_i fo z hf hvw;injection hr with hr;subst hr
   obtain ⟨cs,off⟩:=z
   exact ok_fieldAddr ho hf (viewOf_mono H hvw)
  ·cases hr
 ·rename_i t y i ho
  rw [hg y (by simp [ho,Op.operands]),hg i (by simp [ho,Op.operands])] at hr
  unfold sIdx at hr
  split at hr
  ·rename_i e s k z ht hi
   split at hr
   ·rename_i n cs hy;injection hr with hr;subst hr
    exact (ok_index_lst ho ht hy hi hv.1).cast rfl
   ·rename_i q ver hy
    split at hr
    ·rename_i e' s' n k' cs hq
     split at hr
     ·rename_i hk;subst hk;injection hr with hr;subst hr
      exact (ok_index_row ho ht hy (H _ _ hq) hi hv.1).cast rfl
     ·cases hr
    ·cases hr
   ·cases hr
  ·rename_i k z ht hi
   split at hr
   ·rename_i n s w ha hvw
    split at hr
    ·rename_i hz;injection hr with hr;subst hr
     obtain ⟨cs,off⟩:=w
     exact (ok_index_arr ho ha (viewOf_mono H hvw) hi hz).cast rfl
    ·cases hr
   ·cases hr
  ·cases hr
 ·rename_i t y i ho
  rw [hg y (by simp [ho,Op.operands]),hg i (by simp [ho,Op.operands])] at hr
  unfold sStr at hr
  split at hr
  ·rename_i s k z b ht hy hi
   injection hr with hr;subst hr
   obtain ⟨h0,c,hc,rfl⟩:=hv.1
   exact (ok_index_str ho ht hy hi h0 hc).cast rfl
  ·cases hr
 ·rename_i y ho
  rw [hg y (by simp [ho,Op.operands])] at hr
  split at hr
  ·rename_i z hvw;injection hr with hr;subst hr
   obtain ⟨cs,off⟩:=z
   exact ok_nilCheck ho (viewOf_mono H hvw)
  ·cases hr
 ·rename_i s y f ho
  rw [hg y (by simp [ho,Op.operands])] at hr
  split at hr
  ·rename_i b k off cs hf hy;exact sRd_ok hr hv fun x hx=>ok_field ho hf hy hx
  ·cases hr
 ·rename_i y i ho
  rw [hg y (by simp [ho,Op.operands])] at hr
  split at hr
  ·rename_i l hy
   split at hr
   ·rename_i x hx;exact sVal_ok hr hv fun _=>ok_extract ho hy hx
   ·cases hr
  ·cases hr
 ·rename_i op t x y t' ho
  rw [hg x (by simp [ho,Op.operands]),hg y (by simp [ho,Op.operands])] at hr
  unfold sBin at hr
  split at hr
  ·rename_i hy
   unfold sNil at hr
   rw [Bool.cond_eq_ite] at hr
   split at hr
   ·rename_i hp
    split at hr
    ·rename_i b hb;exact sVal_ok hr hv fun _=>(ok_nil H ho hp hb hy (.inl rfl)).cast rfl
    ·rename_i b hb;exact sVal_ok hr hv fun _=>(ok_nil H ho hp hb hy (.inr rfl)).cast rfl
    ·cases hr
   ·cases hr
  ·rename_i a b _ hx hy
   split at hr
   ·rename_i ht;exact sVal_ok hr hv fun _=>(ok_binB ho ht hx hy (.inl rfl)).cast rfl
   ·rename_i ht;exact sVal_ok hr hv fun _=>(ok_binB ho ht hx hy (.inr rfl)).cast rfl
   ·cases hr
  ·rename_i a b _ _ hx hy
   split at hr
   ·rename_i q vc hq
    rw [Bool.cond_eq_ite] at hr
    split at hr
    ·rename_i h1;exact sVal_ok hr hv fun hvc=>ok_bin ho hx hy hq hvc h1 []
    ·cases hr
   ·cases hr
  ·cases hr
 ·rename_i op t x ho
  rw [hg x (by simp [ho,Op.operands])] at hr
  unfold sUn at hr
  split at hr
  ·rename_i a hx
   split at hr
   ·rename_i q hq;exact sVal_ok hr hv fun _=>ok_un ho hx hq
   ·cases hr
  ·cases hr
 ·rename_i src dst x ho
  rw [hg x (by simp [ho,Op.operands])] at hr
  unfold sConv at hr
  split at hr
  ·rename_i k n hx
   split at hr
   ·rename_i q hq;exact sVal_ok hr hv fun _=>ok_conv ho hx hq
   ·cases hr
  ·rename_i s hx
   split at hr
   ·rename_i q hq;exact sVal_ok hr hv fun _=>ok_conv ho hx hq
   ·rw [Bool.cond_eq_ite] at hr
    split at hr
    ·rename_i hb
     obtain ⟨b1,e,b2,b3⟩:=bytesU_spec hb
     split at hr
     ·rw [Bool.cond_eq_ite] at hr
      split at hr
      ·rename_i hl
       injection hr with hr;subst hr
       exact ok_bytes ho b1 b2 b3 hx (Nat.le_of_ble_eq_true hl)
      ·cases hr
     ·injection hr with hr;subst hr
      exact (ok_bytes ho b1 b2 b3 hx hv.1).cast rfl
    ·cases hr
  ·split at hr
   ·rename_i s n cs hsrc hud
    rw [Bool.cond_eq_ite] at hr
    split at hr
    ·rename_i hb
     injection hr with hr;subst hr
     unfold bytesB at hb
     split at hb
     ·rename_i e hu
      split at hb
      ·rename_i hue
       exact (ok_str (l:=s.data.toList) ho hu hue hud (srcA_mono H hsrc) hv.1 hv.2.1).cast (by simp)
      ·cases hb
     ·cases hb
    ·cases hr
   ·cases hr
 ·rename_i t y lo hi ho
  have hglo:lo.map g=lo.map (opv σ):=by cases lo with
   | none=>rfl
   | some z=>simp only [Option.map_some];rw [hg z (by simp [ho,Op.operands])]
  have hghi:hi.map g=hi.map (opv σ):=by cases hi with
   | none=>rfl
   | some z=>simp only [Option.map_some];rw [hg z (by simp [ho,Op.operands])]
  rw [hg y (by simp [ho,Op.operands]),hglo,hghi] at hr
  unfold sCut at hr
  split at hr
  ·rename_i n cs hy
   split at hr
   ·rename_i e s l h' ht hl hh;injection hr with hr;subst hr
    exact (ok_cut ho ht hy hl hh hv.1).cast rfl
   ·cases hr
  ·rename_i q ver hy
   split at hr
   ·rename_i e s n k cs hq
    split at hr
    ·rename_i z l h' ht hl hh
     split at hr
     ·rename_i hk;subst hk;injection hr with hr;subst hr
      obtain ⟨z1,z2⟩:=z
      exact (ok_front ho ht hy (H _ _ hq) hl hh hv.1).cast rfl
     ·cases hr
    ·cases hr
   ·cases hr
  ·rename_i s hy
   split at hr
   ·rename_i l h' ht hl hh;injection hr with hr;subst hr
    exact (ok_cutS ho ht hy hl hh hv.1).cast rfl
   ·cases hr
  ·cases hr
 ·rename_i t y z ho
  rw [hg y (by simp [ho,Op.operands]),hg z (by simp [ho,Op.operands])] at hr
  unfold sMake at hr
  split at hr
  ·rename_i e s by_ d k a k' b ht hdd hy hz
   split at hr
   ·rename_i zs hzs hn;injection hr with hr;subst hr
    have hba:=hv.1
    subst hba
    exact (ok_make ho ht hzs (hd d (.inl hdd) hn) hy hz hv.2.1).cast rfl
   ·cases hr
  ·cases hr
 ·rename_i e x ho
  rw [hg x (by simp [ho,Op.operands])] at hr
  unfold sBox at hr
  split at hr
  ·rename_i d cs hdd hc
   split at hr
   ·rename_i hq;injection hr with hr;subst hr
    exact ok_box ho (cellsA_mono H hc) (hd d (.inl hdd) hq)
   ·cases hr
  ·cases hr
 ·rename_i e ho
  unfold sAlloc at hr
  split at hr
  ·rename_i d zs hdd hz
   split at hr
   ·rename_i hq;injection hr with hr;subst hr
    exact ok_alloc ho hz (hd d (.inl hdd) hq)
   ·cases hr
  ·cases hr
 ·rename_i t parts ho
  unfold sBuild at hr
  split at hr
  ·rename_i pl z q hp hq
   split at hr
   ·rename_i cs hc;injection hr with hr;subst hr
    exact ok_build ho hp (partsA_mono H (fun x hx=>hg x.2 (by simp only [ho,Op.operands,List.mem_map];exact ⟨x,hx,rfl⟩)) hq) hc
   ·cases hr
  ·cases hr
 ·rename_i t len parts ho
  unfold sBuildSlice at hr
  split at hr
  ·rename_i e s by_ d ht hdd
   split at hr
   ·rename_i z q hz hq hn
    split at hr
    ·rename_i cs hc
     split at hr
     ·rename_i hh;injection hr with hr;subst hr
      exact ok_buildSlice ho ht hz (hd d (.inl hdd) hn) (partsA_mono H (fun x hx=>hg x.2 (by simp only [ho,Op.operands,List.mem_map];exact ⟨x,hx,rfl⟩)) hq) hc hh.1 hh.2
     ·cases hr
    ·cases hr
   ·cases hr
  ·cases hr
 ·rename_i c ho
  obtain ⟨callee,args,ts⟩:=c
  have hga:∀ y∈args.toList,g y=opv σ y:=fun y hy=>hg y (by simp only [ho,Op.operands,Call.operands,Array.toList_append];exact List.mem_append.2 (.inr hy))
  simp only at hr
  split at hr
  ·rename_i y t h2 h3
   obtain rfl:args=#[y]:=Array.toList_inj.1 h2
   obtain rfl:ts=#[t]:=Array.toList_inj.1 h3
   rw [hga y (by simp)] at hr
   split at hr
   ·rename_i n hn;exact sVal_ok hr hv fun _=>ok_len ho (lenV_mono H hn)
   ·cases hr
  ·rename_i x y h2
   obtain rfl:args=#[x,y]:=Array.toList_inj.1 h2
   rw [hga x (by simp),hga y (by simp)] at hr
   unfold sMin at hr
   split at hr
   ·rename_i k a k' b hx hy
    split at hr
    ·rename_i hk;subst hk;exact sVal_ok hr hv fun _=>ok_min ho hx hy
    ·cases hr
   ·cases hr
  ·rename_i x y h2
   obtain rfl:args=#[x,y]:=Array.toList_inj.1 h2
   rw [hga x (by simp),hga y (by simp)] at hr
   unfold sMin at hr
   split at hr
   ·rename_i k a k' b hx hy
    split at hr
    ·rename_i hk;subst hk;exact sVal_ok hr hv fun _=>ok_max ho hx hy
    ·cases hr
   ·cases hr
  ·rename_i y x t t' h2 h3
   obtain rfl:args=#[y,x]:=Array.toList_inj.1 h2
   obtain rfl:ts=#[t,t']:=Array.toList_inj.1 h3
   rw [hga y (by simp),hga x (by simp)] at hr
   split at hr
   ·rename_i htt;subst htt
    unfold sApp at hr
    split at hr
    ·rename_i e s by_ m cs2 ht hx
     split at hr
     ·rename_i q ver hy
      split at hr
      ·rename_i e' s' n k cs hq
       split at hr
       ·rename_i hh;obtain ⟨rfl,hh⟩:=hh;injection hr with hr;subst hr
        exact (ok_app ho ht hy (H _ _ hq) hh (srcA_mono H hx) hv.1 hv.2.1).cast rfl
       ·cases hr
      ·cases hr
     ·rename_i hy
      split at hr
      ·rename_i d hdd
       split at hr
       ·rename_i hn;injection hr with hr;subst hr
        exact (ok_app0 ho ht hy (hd d (.inl hdd) hn) (srcA_mono H hx) hv.1 hv.2.1).cast rfl
       ·cases hr
      ·cases hr
     ·cases hr
    ·cases hr
   ·cases hr
  ·exact sCall_ok H hd hv ho rfl rfl hga hr
  ·rename_i t0
   split at hr
   ·rename_i f hf
    have hgt:g (.tmp t0)=opv σ (.tmp t0):=hg _ (by simp only [ho,Op.operands,Call.operands,Array.toList_append];exact List.mem_append.2 (.inl (by simp)))
    exact sCall_ok H hd hv ho rfl (hgt▸fnOf_eq hf) hga hr
   ·cases hr
  ·cases hr
 ·cases hr
end
end Go.Proofs.YtfhmaincnlaapaaGreat.Sy
