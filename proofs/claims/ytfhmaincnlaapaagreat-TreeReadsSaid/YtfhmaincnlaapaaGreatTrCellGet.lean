/- What agg.Get comes to; what is put of a right cell is got. -/
import Derived.StillTailTactics
import Derived.Deep.RegionHeld3
import Derived.Deep.DeepCutAuto
import Derived.Deep.RegionLawGrows
import Derived.Test.YtfhmaincnlaapaaGreatTrSy2
import Derived.Test.YtfhmaincnlaapaaGreatTrGetWalks
import Derived.Test.YtfhmaincnlaapaaGreatTrGetFWalks
import Derived.Test.YtfhmaincnlaapaaGreatTrRefReadI
import Derived.Test.YtfhmaincnlaapaaGreatTrBufSmall
import Derived.Test.YtfhmaincnlaapaaGreatTrFnOld
import Derived.Test.YtfhmaincnlaapaaGreatTrBufOutKeep
import Derived.Test.YtfhmaincnlaapaaGreatTrRefCheck
namespace Go.Proofs.YtfhmaincnlaapaaGreat
open Go.ChangeShapes Go.WideShapes Go.ChangeAt Go.RowKit
set_option linter.unusedVariables false
def FactAt (w:World) (B:Nat) (v:Value) (F:FactS):Prop:=∃ v0 v1 v2,v=.agg #[v0,v1,v2]∧FactV w B F v0 v1 v2
theorem FactV.keep {w w':World} {B B':Nat} {F:FactS} {v0 v1 v2:Value} (h:FactV w B F v0 v1 v2) (hb:Below B w w') (hB:B≤B'):FactV w' B' F v0 v1 v2:=by
 obtain ⟨A0,c0,A1,c1,A2,c2,e0,e1,e2,r0,r1,r2,b⟩:=h
 exact ⟨A0,c0,A1,c1,A2,c2,e0,e1,e2,(r0.below hb).more hB,(r1.below hb).more hB,(r2.below hb).more hB,b⟩
theorem SchAt.keep {w w':World} {B B':Nat} {v:Value} {S:Sch} (h:SchAt w B v S) (hb:Below B w w') (hB:B≤B'):SchAt w' B' v S:=by
 obtain ⟨A0,c0,A1,c1,A2,c2,A3,c3,e,r0,r1,r2,r3,b⟩:=h
 exact ⟨A0,c0,A1,c1,A2,c2,A3,c3,e,(r0.below hb).more hB,(r1.below hb).more hB,(r2.below hb).more hB,(r3.below hb).more hB,b⟩
theorem FactAt.keep {w w':World} {B:Nat} {v:Value} {F:FactS} (h:FactAt w B v F) (hb:Below B w w'):FactAt w' B v F:=by
 obtain ⟨v0,v1,v2,e,hv⟩:=h
 exact ⟨v0,v1,v2,e,hv.keep hb (Nat.le_refl _)⟩
def codeAt (F:FactS) (k:Nat):Int:=F.codes.getD k 0
theorem Rd.i64 {w:World} {B:Nat} {A:Option Addr} {l:List Int} (h:Rd w B 1 A l.length (i64s l)) {k:Nat} (hk:k<l.length):∃ a,A=some a∧a.block<B∧w.cell? (a.add k)=some (.int .i64 (l.getD k 0)):=by
 obtain ⟨a,u,rfl,hb,hx,hc⟩:=h.at1 hk
 refine ⟨a,rfl,hb,?_⟩
 rw [show (i64s l)[k]?=some (.int .i64 (l.getD k 0)) from by simp [i64s,List.getD,hk]] at hx
 rw [hc];exact hx.symm
def codeOk (S:Sch) (F:FactS) (k:Nat):Bool:=decide (0≤codeAt F k)&&decide (codeAt F k<szAt S k)
def codesTo (S:Sch) (F:FactS) (k:Nat):Bool:=(List.range k).all (codeOk S F)
def lensOk (S:Sch) (F:FactS):Prop:=F.codes.length=S.dims.length∧F.ints.length=S.ints.length∧F.nums.length=S.nums.length
instance (S:Sch) (F:FactS):Decidable (lensOk S F):=by unfold lensOk;infer_instance
def fitsN (S:Sch) (F:FactS):Nat:=if lensOk S F then (if codesTo S F F.codes.length=true then 0 else 2) else 3
def fitsAt (S:Sch) (l:List FactS) (k:Nat):Nat:=fitsN S (l.getD k ⟨[],[],[]⟩)
theorem i64_ne0 {n:Nat} (h:n≠0):((n:Int) != 0)=true:=by rw [bne_iff_ne];omega
def okTo (S:Sch) (l:List FactS) (k:Nat):Prop:=∀ j,j<k→fitsAt S l j=0
theorem okTo.snoc {S:Sch} {l:List FactS} {k:Nat} (h:okTo S l k) (hk:fitsAt S l k=0):okTo S l (k+1):=fun j hj=>by
 by_cases e:j=k
 ·subst e;exact hk
 ·exact h j (by omega)
def eqTo {α:Type} (z:α) (l m:List α) (k:Nat):Prop:=∀ j,j<k→l.getD j z=m.getD j z
theorem eqTo.snoc {α:Type} {z:α} {l m:List α} {k:Nat} (h:eqTo z l m k) (hk:l.getD k z=m.getD k z):eqTo z l m (k+1):=fun j hj=>by
 by_cases e:j=k
 ·subst e;exact hk
 ·exact h j (by omega)
theorem eqTo.all {α:Type} {z:α} {l m:List α} (hl:l.length=m.length) (h:eqTo z l m l.length):l=m:=by
 apply List.ext_getElem hl
 intro j h1 h2
 have:=h j h1
 simpa [List.getD,h1,h2] using this
theorem Rd.f64 {w:World} {B:Nat} {A:Option Addr} {l:List Nat} (h:Rd w B 1 A l.length (f64s l)) {k:Nat} (hk:k<l.length):∃ a,A=some a∧a.block<B∧w.cell? (a.add k)=some (.float .f64 (l.getD k 0)):=by
 obtain ⟨a,u,rfl,hb,hx,hc⟩:=h.at1 hk
 refine ⟨a,rfl,hb,?_⟩
 rw [show (f64s l)[k]?=some (.float .f64 (l.getD k 0)) from by simp [f64s,List.getD,hk]] at hx
 rw [hc];exact hx.symm
def vd:List Nat→Nat
 | []=>0
 | d::l=>d+1000*vd l
theorem vd_cons (d:Nat) (l:List Nat):vd (d::l)=d+1000*vd l:=rfl
def dig (n:Nat):List Nat:=if h:n=0 then [] else n%1000::dig (n/1000)
termination_by n
decreasing_by exact Nat.div_lt_self (by omega) (by decide)
theorem dig_zero:dig 0=[]:=by rw [dig];simp
theorem dig_pos {n:Nat} (h:n≠0):dig n=n%1000::dig (n/1000):=by rw [dig];simp [h]
theorem vd_dig (n:Nat):vd (dig n)=n:=by
 induction n using Nat.strongRecOn with
 | ind n ih =>
   by_cases h:n=0
   ·subst h;rw [dig_zero];rfl
   ·rw [dig_pos h]
    unfold vd
    rw [ih (n/1000) (by omega)]
    omega
theorem dig_lt (n:Nat):∀ d∈dig n,d<1000:=by
 induction n using Nat.strongRecOn with
 | ind n ih =>
   by_cases h:n=0
   ·subst h;rw [dig_zero];intro d hd;cases hd
   ·rw [dig_pos h]
    intro d hd
    rcases List.mem_cons.1 hd with rfl|hd
    ·omega
    ·exact ih (n/1000) (by omega) d hd
theorem vd_app (l m:List Nat):vd (l++m)=vd l+1000^l.length*vd m:=by
 induction l with
 | nil=>simp [vd]
 | cons d l ih =>
   rw [List.cons_append,vd_cons,vd_cons,ih,List.length_cons,Nat.pow_succ,Nat.mul_add,←Nat.mul_assoc,Nat.mul_comm 1000 (1000^l.length)]
   omega
theorem vd_lt (l:List Nat) (h:∀ d∈l,d<1000):vd l<1000^l.length:=by
 induction l with
 | nil=>simp [vd]
 | cons d l ih =>
   unfold vd
   have h1:=h d (by simp)
   have h2:=ih (fun x hx=>h x (by simp [hx]))
   rw [List.length_cons,Nat.pow_succ]
   omega
def tsz:List Nat→Nat
 | []=>0
 | d::l=>if tsz l=0 then (if d=0 then 0 else 1) else tsz l+1
theorem tsz_le (l:List Nat):tsz l≤l.length:=by
 induction l with
 | nil=>simp [tsz]
 | cons d l ih=>unfold tsz;rw [List.length_cons];split<;>(try split)<;>omega
theorem tsz_zero (l:List Nat):tsz l=0↔vd l=0:=by
 induction l with
 | nil=>simp [tsz,vd]
 | cons d l ih =>
   unfold tsz vd
   split
   ·rename_i h
    have:=ih.1 h
    split<;>omega
   ·rename_i h
    have:vd l≠0:=fun e=>h (ih.2 e)
    omega
theorem take_tsz (l:List Nat) (h:∀ d∈l,d<1000):l.take (tsz l)=dig (vd l):=by
 induction l with
 | nil=>simp [tsz,vd,dig_zero]
 | cons d l ih =>
   have hd:=h d (by simp)
   have hl:=ih (fun x hx=>h x (by simp [hx]))
   unfold tsz vd
   split
   ·rename_i h0
    have hz:=(tsz_zero l).1 h0
    split
    ·rename_i hd0;subst hd0;rw [hz];simp [dig_zero]
    ·rename_i hd0
     rw [hz,Nat.mul_zero,Nat.add_zero,dig_pos hd0,Nat.mod_eq_of_lt hd,Nat.div_eq_of_lt hd,dig_zero];simp
   ·rename_i h0
    have hz:vd l≠0:=fun e=>h0 ((tsz_zero l).2 e)
    have e1:(d+1000*vd l)%1000=d:=by omega
    have e2:(d+1000*vd l)/1000=vd l:=by omega
    rw [List.take_succ_cons,hl,dig_pos (n:=d+1000*vd l) (by omega),e1,e2]
theorem tsz_last (l:List Nat) (d:Nat):tsz (l ++ [d])=if d=0 then tsz l else l.length+1:=by
 induction l with
 | nil=>simp [tsz]
 | cons x l ih =>
   rw [List.cons_append]
   unfold tsz
   rw [ih]
   by_cases hd:d=0
   ·rw [if_pos hd,if_pos hd]
   ·rw [if_neg hd,if_neg hd,if_neg (by omega),List.length_cons]
theorem vd_pow (l:List Nat) (k:Nat):vd (List.replicate k 0++l)=1000^k*vd l:=by
 rw [vd_app,List.length_replicate]
 have:vd (List.replicate k 0)=0:=by
  induction k with
  | zero=>rfl
  | succ k ih=>rw [List.replicate_succ];unfold vd;rw [ih]
 omega
theorem dig_len {n k:Nat} (h:n<1000^k):(dig n).length≤k:=by
 induction k generalizing n with
 | zero=>have:n=0:=by simpa using h
         subst this;rw [dig_zero];simp
 | succ k ih =>
   by_cases h0:n=0
   ·subst h0;rw [dig_zero];simp
   ·rw [dig_pos h0,List.length_cons]
    have:=ih (n:=n/1000) (by rw [Nat.pow_succ] at h;omega)
    omega
def dg (l:List Nat) (j:Nat):Nat:=l.getD j 0
theorem dg_get (l:List Nat) (j:Nat) (h:j<l.length):l[j]=dg l j:=by simp [dg,List.getD,h]
theorem dg_far (l:List Nat) (j:Nat) (h:l.length≤j):dg l j=0:=by simp [dg,List.getD,h]
theorem dg_lt (l:List Nat) (j:Nat) (h:∀ d∈l,d<1000):dg l j<1000:=by
 rcases Nat.lt_or_ge j l.length with hj|hj
 ·rw [←dg_get l j hj];exact h _ (List.getElem_mem hj)
 ·rw [dg_far l j hj];decide
theorem vd_nil:vd []=0:=rfl
theorem vd_drop (l:List Nat) (i:Nat):vd (l.drop i)=dg l i+1000*vd (l.drop (i+1)):=by
 rcases Nat.lt_or_ge i l.length with hi|hi
 ·rw [List.drop_eq_getElem_cons hi,vd_cons,dg_get l i hi]
 ·rw [List.drop_eq_nil_of_le hi,List.drop_eq_nil_of_le (by omega),dg_far l i hi];rfl
theorem vd_drop_far (l:List Nat) (i:Nat) (h:l.length≤i):vd (l.drop i)=0:=by rw [List.drop_eq_nil_of_le h];rfl
theorem vd_snoc (l:List Nat) (d:Nat):vd (l ++ [d])=vd l+1000^l.length*d:=by rw [vd_app,vd_cons,vd_nil];simp
theorem vd_less {a b:List Nat} (ha:∀ d∈a,d<1000) (hb:∀ d∈b,d<1000) {i:Nat} (h:vd (a.drop (i+1))=vd (b.drop (i+1))) (hl:dg a i<dg b i):vd a<vd b:=by
 have e1:=vd_drop a i
 have e2:=vd_drop b i
 have hlt:vd (a.drop i)<vd (b.drop i):=by omega
 clear e1 e2 h hl
 induction i with
 | zero=>simpa using hlt
 | succ i ih =>
   apply ih
   have e1:=vd_drop a i
   have e2:=vd_drop b i
   have h1:=dg_lt a i ha
   have h2:=dg_lt b i hb
   omega
def SumR (a b out:List Nat) (i carry:Nat):Prop:=out.length=i∧carry≤1∧(∀ d∈out,d<1000)∧vd out+1000^i*(carry+vd (a.drop i)+vd (b.drop i))=vd a+vd b
theorem SumR.zero (a b:List Nat):SumR a b [] 0 0:=⟨rfl,by decide,fun d hd=>(by cases hd),by simp [vd_nil]⟩
theorem SumR.succ {a b out:List Nat} {i carry:Nat} (ha:∀ d∈a,d<1000) (hb:∀ d∈b,d<1000) (h:SumR a b out i carry):SumR a b (out ++ [(dg a i+dg b i+carry)%1000]) (i+1) ((dg a i+dg b i+carry)/1000):=by
 obtain ⟨h1,h2,h3,h4⟩:=h
 have x1:=dg_lt a i ha
 have x2:=dg_lt b i hb
 refine ⟨by simp [h1],by omega,fun d hd=>?_,?_⟩
 ·rcases List.mem_append.1 hd with hd|hd
  ·exact h3 d hd
  ·obtain rfl:=List.mem_singleton.1 hd;exact Nat.mod_lt _ (by decide)
 ·rw [vd_snoc,h1,←h4,vd_drop a i,vd_drop b i,Nat.pow_succ]
  generalize 1000^i=P
  generalize vd (a.drop (i+1))=x
  generalize vd (b.drop (i+1))=y
  obtain ⟨s,hs⟩:∃ s,dg a i+dg b i+carry=s:=⟨_,rfl⟩
  have e1:carry+(dg a i+1000*x)+(dg b i+1000*y)=s%1000+1000*(s/1000+x+y):=by omega
  rw [hs,e1,Nat.mul_add P (s%1000),Nat.mul_assoc P 1000,Nat.add_assoc]
theorem SumR.end_ {a b out:List Nat} {i carry:Nat} (h:SumR a b out i carry) (h1:a.length≤i) (h2:b.length≤i):vd (out ++ [carry])=vd a+vd b∧∀ d∈out ++ [carry],d<1000:=by
 obtain ⟨g1,g2,g3,g4⟩:=h
 rw [vd_drop_far a i h1,vd_drop_far b i h2] at g4
 refine ⟨by rw [vd_snoc,g1,←g4];simp,fun d hd=>?_⟩
 rcases List.mem_append.1 hd with hd|hd
 ·exact g3 d hd
 ·obtain rfl:=List.mem_singleton.1 hd;omega
def RestR (a b out:List Nat) (i borrow:Nat):Prop:=out.length=i∧borrow≤1∧(∀ d∈out,d<1000)∧(vd out:Int)+(1000^i:Nat)*((vd (a.drop i):Int)-vd (b.drop i)-borrow)=(vd a:Int)-vd b
theorem RestR.zero (a b:List Nat):RestR a b [] 0 0:=⟨rfl,by decide,fun d hd=>(by cases hd),by simp [vd_nil]⟩
theorem RestR.step {a b out:List Nat} {i borrow d borrow':Nat} (hd:d<1000) (hb':borrow'≤1) (h:RestR a b out i borrow) (he:(dg a i:Int)-dg b i-borrow=(d:Int)-1000*borrow'):RestR a b (out ++ [d]) (i+1) borrow':=by
 obtain ⟨h1,h2,h3,h4⟩:=h
 refine ⟨by simp [h1],hb',fun x hx=>?_,?_⟩
 ·rcases List.mem_append.1 hx with hx|hx
  ·exact h3 x hx
  ·obtain rfl:=List.mem_singleton.1 hx;exact hd
 ·rw [vd_snoc,h1,←h4,vd_drop a i,vd_drop b i,Nat.pow_succ]
  generalize 1000^i=P
  generalize vd (a.drop (i+1))=x
  generalize vd (b.drop (i+1))=y
  have e1:((dg a i+1000*x:Nat):Int)-((dg b i+1000*y:Nat):Int)-borrow=d+1000*((x:Int)-y-borrow'):=by omega
  rw [e1,Int.mul_add]
  simp only [Int.natCast_add,Int.natCast_mul]
  rw [Int.mul_assoc (P:Int),Int.add_assoc]
  rfl
theorem RestR.end_ {a b out:List Nat} (h:∃ borrow,RestR a b out a.length borrow) (hle:vd b≤vd a):vd out=vd a-vd b∧∀ d∈out,d<1000:=by
 obtain ⟨borrow,g1,g2,g3,g4⟩:=h
 refine ⟨?_,g3⟩
 rw [vd_drop_far a _ (Nat.le_refl _)] at g4
 have hlt:=vd_lt out g3
 rw [g1] at hlt
 generalize 1000^a.length=P at *
 generalize hx:vd (b.drop a.length)=x at *
 have hz:x+borrow=0:=by
  rcases Nat.eq_zero_or_pos (x+borrow) with h0|h0
  ·exact h0
  ·exfalso
   have e:(P:Int)*((0:Nat)-(x:Int)-borrow)=-((P*(x+borrow):Nat):Int):=by push_cast;rw [show ((0:Int)-x-borrow)=-((x:Int)+borrow) from by omega,Int.mul_neg]
   rw [e] at g4
   have:P*1≤P*(x+borrow):=Nat.mul_le_mul_left _ h0
   omega
 obtain ⟨rfl,rfl⟩:x=0∧borrow=0:=by omega
 simp at g4
 omega
theorem vd_set (l:List Nat) (j x:Nat) (h:j<l.length):vd (l.set j x)+1000^j*dg l j=vd l+1000^j*x:=by
 induction l generalizing j with
 | nil=>simp at h
 | cons d l ih =>
   cases j with
   | zero=>simp [vd_cons,dg];omega
   | succ j =>
     have:=ih j (by simpa using h)
     rw [List.set_cons_succ,vd_cons,vd_cons,Nat.pow_succ]
     have e:dg (d::l) (j+1)=dg l j:=by simp [dg]
     rw [e,Nat.mul_comm (1000^j) 1000,Nat.mul_assoc,Nat.mul_assoc]
     omega
theorem dg_set_self (l:List Nat) (j x:Nat) (h:j<l.length):dg (l.set j x) j=x:=by simp [dg,List.getD,h]
theorem dg_set_ne (l:List Nat) (j k x:Nat) (h:j≠k):dg (l.set j x) k=dg l k:=by simp [dg,List.getD,List.getElem?_set_ne h]
theorem vd_repl (k:Nat):vd (List.replicate k 0)=0:=by have:=vd_pow [] k;simpa [vd_nil] using this
def MulR (a b out:List Nat) (i:Nat):Prop:=out.length=a.length+b.length+1∧(∀ d∈out,d<1000)∧(∀ j,i+b.length≤j→dg out j=0)∧vd out=vd (a.take i)*vd b
def MulI (a b out:List Nat) (i k carry:Nat):Prop:=out.length=a.length+b.length+1∧(∀ d∈out,d<1000)∧(∀ j,i+b.length≤j→dg out j=0)∧carry<1000∧vd out+1000^(i+k)*carry=vd (a.take i)*vd b+1000^i*(dg a i*vd (b.take k))
theorem mem_set_lt {l:List Nat} {j x:Nat} (h:∀ d∈l,d<1000) (hx:x<1000):∀ d∈l.set j x,d<1000:=fun d hd=>by
 rcases List.mem_or_eq_of_mem_set hd with hd|rfl
 ·exact h d hd
 ·exact hx
theorem vd_take_succ (l:List Nat) (k:Nat) (h:k<l.length):vd (l.take (k+1))=vd (l.take k)+1000^k*dg l k:=by
 rw [List.take_succ_eq_append_getElem h,vd_snoc,List.length_take,dg_get l k h,Nat.min_eq_left (by omega)]
theorem MulR.zero (a b:List Nat):MulR a b (List.replicate (a.length+b.length+1) 0) 0:=by
 refine ⟨by simp,fun d hd=>?_,fun j _=>?_,?_⟩
 ·have:=List.eq_of_mem_replicate hd;omega
 ·unfold dg List.getD;rw [List.getElem?_replicate];split<;>rfl
 ·rw [vd_repl];simp [vd_nil]
theorem MulR.start {a b out:List Nat} {i:Nat} (h:MulR a b out i):MulI a b out i 0 0:=⟨h.1,h.2.1,h.2.2.1,by decide,by rw [h.2.2.2];simp [vd_nil]⟩
theorem prod_bd {x y z c:Nat} (hx:x<1000) (hy:y<1000) (hz:z<1000) (hc:c<1000):z+x*y+c<1000000:=by
 have:x*y≤999*999:=Nat.mul_le_mul (by omega) (by omega)
 omega
theorem MulI.succ {a b out:List Nat} {i k carry:Nat} (ha:∀ d∈a,d<1000) (hb:∀ d∈b,d<1000) (h:MulI a b out i k carry) (hi:i<a.length) (hk:k<b.length) :
 MulI a b (out.set (i+k) ((dg out (i+k)+dg a i*dg b k+carry)%1000)) i (k+1) ((dg out (i+k)+dg a i*dg b k+carry)/1000):=by
 obtain ⟨h1,h2,h3,h4,h5⟩:=h
 have x1:=dg_lt a i ha
 have x2:=dg_lt b k hb
 have x3:=dg_lt out (i+k) h2
 have hbd:=prod_bd x1 x2 x3 h4
 have hs:=vd_set out (i+k) ((dg out (i+k)+dg a i*dg b k+carry)%1000) (by omega)
 refine ⟨by simp [h1],mem_set_lt h2 (Nat.mod_lt _ (by decide)),fun j hj=>by rw [dg_set_ne _ _ _ _ (by omega)];exact h3 j hj,by omega,?_⟩
 rw [vd_take_succ b k hk,Nat.mul_add,Nat.mul_add,←Nat.add_assoc (vd (a.take i)*vd b),←h5,←Nat.add_assoc i k 1,Nat.pow_succ]
 generalize dg out (i+k)=o at *
 generalize dg a i=p at *
 generalize dg b k=q at *
 have e1:1000^i*(p*(1000^k*q))=1000^(i+k)*(p*q):=by rw [Nat.pow_add,←Nat.mul_assoc p,Nat.mul_comm p,Nat.mul_assoc (1000^k),←Nat.mul_assoc (1000^i)]
 rw [e1]
 generalize vd (out.set (i+k) ((o+p*q+carry)%1000))=V' at *
 generalize vd out=V at *
 generalize 1000^(i+k)=P at *
 obtain ⟨s,hss⟩:∃ s,o+p*q+carry=s:=⟨_,rfl⟩
 rw [hss] at hs ⊢
 have e2:P*s=P*o+P*(p*q)+P*carry:=by rw [←hss,Nat.mul_add,Nat.mul_add]
 have e3:P*s=P*(s%1000)+P*1000*(s/1000):=by
  rw [Nat.mul_assoc,←Nat.mul_add,Nat.mod_add_div]
 omega
theorem MulI.end_ {a b out:List Nat} {i carry:Nat} (h:MulI a b out i b.length carry) (hi:i<a.length):MulR a b (out.set (i+b.length) carry) (i+1):=by
 obtain ⟨h1,h2,h3,h4,h5⟩:=h
 have hs:=vd_set out (i+b.length) carry (by omega)
 have h0:=h3 (i+b.length) (Nat.le_refl _)
 refine ⟨by simp [h1],mem_set_lt h2 h4,fun j hj=>by rw [dg_set_ne _ _ _ _ (by omega)];exact h3 j (by omega),?_⟩
 rw [h0,Nat.mul_zero,Nat.add_zero] at hs
 rw [hs,h5,vd_take_succ a i hi,List.take_length,Nat.add_mul,Nat.mul_assoc]
theorem MulR.all {a b out:List Nat} (h:MulR a b out a.length):vd out=vd a*vd b∧∀ d∈out,d<1000:=by
 obtain ⟨_,h2,_,h4⟩:=h
 rw [List.take_length] at h4
 exact ⟨h4,h2⟩
def nd (z:Int):Nat:=(dig z.natAbs).length
theorem dig_len2 {n k:Nat} (h:n<2^k):(dig n).length≤k:=dig_len (Nat.lt_of_lt_of_le h (Nat.pow_le_pow_left (by decide) k))
theorem ldiv_step {b r d:Nat} (hb:0<b) (hr:r<b) (hd:d<1000):(d+1000*r)/b<1000:=by
 rw [Nat.div_lt_iff_lt_mul hb]
 have:1000*r+1000≤1000*b:=by omega
 rw [Nat.mul_comm];omega
def DivR (a q:List Nat) (b i r:Nat):Prop:=q.length=a.length∧(∀ d∈q,d<1000)∧(∀ j,j<i→dg q j=0)∧r<b∧vd (q.drop i)*b+r=vd (a.drop i)
theorem DivR.start (a:List Nat) (b:Nat) (hb:0<b):DivR a (List.replicate a.length 0) b a.length 0:=by
 refine ⟨by simp,fun d hd=>?_,fun j _=>?_,hb,?_⟩
 ·have:=List.eq_of_mem_replicate hd;omega
 ·unfold dg List.getD;rw [List.getElem?_replicate];split<;>rfl
 ·rw [vd_drop_far _ _ (by simp),vd_drop_far _ _ (Nat.le_refl _)];simp
theorem drop_set_le (l:List Nat) (i x:Nat):(l.set i x).drop (i+1)=l.drop (i+1):=by rw [List.drop_set_of_lt (by omega)]
theorem DivR.step {a q:List Nat} {b i r:Nat} (ha:∀ d∈a,d<1000) (h:DivR a q b (i+1) r) (hi:i<a.length):DivR a (q.set i ((dg a i+1000*r)/b)) b i ((dg a i+1000*r)%b):=by
 obtain ⟨h1,h2,h3,h4,h5⟩:=h
 have hb:0<b:=by omega
 have hd:=ldiv_step hb h4 (dg_lt a i ha)
 refine ⟨by simp [h1],mem_set_lt h2 hd,fun j hj=>by rw [dg_set_ne _ _ _ _ (by omega)];exact h3 j (by omega),Nat.mod_lt _ hb,?_⟩
 rw [vd_drop (q.set i _) i,vd_drop a i,dg_set_self _ _ _ (by omega),drop_set_le,←h5,Nat.add_mul]
 have e:=Nat.div_add_mod (dg a i+1000*r) b
 rw [Nat.mul_comm b] at e
 rw [Nat.mul_add,←Nat.mul_assoc]
 generalize (dg a i+1000*r)/b*b=x at *
 generalize (dg a i+1000*r)%b=y at *
 generalize 1000*vd (List.drop (i+1) q)*b=z
 omega
theorem set_zero {q:List Nat} {i:Nat} (h:dg q i=0):q.set i 0=q:=by
 apply List.ext_getElem?
 intro j
 rw [List.getElem?_set]
 split
 ·rename_i e;subst e
  split
  ·rename_i hl
   rw [List.getElem?_eq_getElem hl,dg_get q _ hl,h]
  ·rename_i hl
   rw [List.getElem?_eq_none (by omega)]
 ·rfl
theorem DivR.less {a q:List Nat} {b i r:Nat} (ha:∀ d∈a,d<1000) (h:DivR a q b (i+1) r) (hi:i<a.length) (hl:dg a i+1000*r<b):DivR a q b i (dg a i+1000*r):=by
 have h':=h.step ha hi
 rw [Nat.div_eq_of_lt hl,Nat.mod_eq_of_lt hl,set_zero (h.2.2.1 i (by omega))] at h'
 exact h'
theorem DivR.all {a q:List Nat} {b r:Nat} (h:DivR a q b 0 r):vd q=vd a/b∧(∀ d∈q,d<1000):=by
 obtain ⟨_,h2,_,h4,h5⟩:=h
 refine ⟨?_,h2⟩
 rw [List.drop_zero,List.drop_zero] at h5
 rw [←h5,Nat.add_comm,Nat.add_mul_div_right _ _ (by omega),Nat.div_eq_of_lt h4];omega
theorem quot_of {b r q:Nat} (h1:q*b≤r) (h2:r<(q+1)*b):r/b=q:=by
 have hb:0<b:=by
  rcases Nat.eq_zero_or_pos b with h0|h0
  ·subst h0;omega
  ·exact h0
 apply Nat.le_antisymm
 ·exact Nat.le_of_lt_succ ((Nat.div_lt_iff_lt_mul hb).2 h2)
 ·exact (Nat.le_div_iff_mul_le hb).2 h1
def pk (kd:Int) (b:Nat) (st:Pst) (l:List (List UInt8×Bool)):Pst:=l.foldl (fun st x=>pput kd b st x.1 x.2) st
def encSq (l:List Nat):List UInt8:=l.flatMap encU
def encWhole (x:WholeS):List UInt8:=encI x.sum++encI x.abs++encU x.sq.length++encSq x.sq++encI x.mn++encI x.mx
def encReal (x:RealS):List UInt8:=encU x.sum.length++x.sum++be 8 (keyB x.mn)++be 8 (keyB x.mx)
def encWholes (l:List WholeS):List UInt8:=l.flatMap encWhole
def encReals (l:List RealS):List UInt8:=l.flatMap encReal
def hd (b:List UInt8) (i:Nat):Nat:=(b.getD i 0).toNat
def headE (b:List UInt8):Nat :=
 if 0<b.length∧(63<hd b 0∨(hd b 0/32%2=1∧hd b 0/16%2=0)) then 6
 else if 1<b.length∧(69<hd b 1∨(0<hd b 1∧hd b 0/16%2=0)) then 6
 else if 2<b.length∧(70<hd b 1+hd b 2∨(0<hd b 2∧hd b 0/16%2=0)∨(hd b 2=0∧(0<hd b 1∨hd b 0/32%2=1))) then 6
 else 0
def wordB (b:List UInt8) (i:Nat):Nat:=bv ((b.drop (3+4*i)).take 4)
def wordsE (b:List UInt8) (n:Nat):Nat→Nat
 | 0=>if 3+4*n<b.length then 7 else 0
 | k+1=>if b.length<3+4*(n-(k+1))+4 then 5 else if (n-(k+1)=0∨k=0)∧wordB b (n-(k+1))=0 then 6 else wordsE b n k
def readE (b:List UInt8):Nat:=if headE b≠0 then headE b else if b.length<3 then 5 else wordsE b (hd b 2) (hd b 2)
def fullP (S:Sch):Nat:=if checkN S=0 then fullN S else 0
def keysP (S:Sch) (mask:Nat):Nat→Nat
 | 0=>1
 | k+1=>if mask.testBit k then keysP S mask k*(szAt S k).toNat else keysP S mask k
def keysOf (S:Sch) (mask:Nat):Option Nat:=if checkN S=0∧mask<p2 S.dims.length then some (keysP S mask S.dims.length) else none
def okW (x:WholeS):Bool:=decide (0≤x.abs)&&decide (x.sum≤x.abs)&&decide (-x.abs≤x.sum)&&decide (x.mn≤x.mx)&&decide (x.sq.length≤7)&&decide (tsz x.sq=x.sq.length)
def okR (x:RealS):Bool:=decide (readE x.sum=0)&&decide (keyB x.mn≤keyB x.mx)
def rightC (S:Sch) (mask:Nat) (C:CellS):Bool :=
 match keysOf S mask with
 | none=>false
 | some n=>decide (C.key<n)&&decide (1≤C.count)&&decide (C.ints.length=S.ints.length)&&decide (C.nums.length=S.nums.length)&&C.ints.all okW&&C.nums.all okR
def risingC:List CellS→Bool
 | []=>true
 | [_]=>true
 | C::D::l=>decide (C.key<D.key)&&risingC (D::l)
theorem and_hi (a n:Nat) (hn:n≤31) (ha:a<4294967296):a &&& (4294967295-(p2 n-1))=a/p2 n*p2 n:=by
 have e:4294967295-(p2 n-1)=(p2 (32-n)-1)*p2 n:=by
  have h1:p2 (32-n)*p2 n=4294967296:=by
   unfold p2;rw [←Nat.pow_add,show 32-n+n=32 from by omega]
  have:=p2_pos n
  rw [Nat.sub_mul,h1,Nat.one_mul];omega
 rw [e]
 unfold p2
 apply Nat.eq_of_testBit_eq;intro i
 rw [Nat.testBit_and,Nat.testBit_mul_two_pow,Nat.testBit_mul_two_pow,Nat.testBit_two_pow_sub_one,Nat.testBit_div_two_pow]
 by_cases hi:n≤i
 ·by_cases h32:i<32
  ·have h1:decide (i-n<32-n)=true:=decide_eq_true (by omega)
   rw [h1,show i-n+n=i from by omega]
   simp [hi]
  ·have h0:a.testBit i=false:=Nat.testBit_lt_two_pow (Nat.lt_of_lt_of_le ha (by have:=Nat.pow_le_pow_right (show 0<2 by decide) (show 32≤i by omega);simpa using this))
   rw [show i-n+n=i from by omega,h0]
   simp
 ·simp [hi]
theorem bit_of (x i:Nat):(x/p2 i)%2=if x.testBit i then 1 else 0:=by
 rw [Nat.testBit_eq_decide_div_mod_eq]
 unfold p2
 by_cases h:x/2^i%2=1
 ·simp [h]
 ·have:x/2^i%2=0:=by omega
  simp [this]
theorem and32:∀ x:Fin 256,x.val &&& 32=x.val/32%2*32:=by decide +kernel
theorem and16:∀ x:Fin 256,x.val &&& 16=x.val/16%2*16:=by decide +kernel
theorem not32:∀ x:Fin 256,x.val &&& (255-32)=x.val-x.val/32%2*32:=by decide +kernel
theorem or_byte32 (X b:Nat) (hb:b<256):X*256 ||| b=X*256+b:=by
 have:=Nat.shiftLeft_add_eq_or_of_lt (show b<2^8 from hb) X
 rw [Nat.shiftLeft_eq] at this
 exact this.symm
def magP (g:Nat→Nat) (m i:Nat):List Nat:=List.replicate (m-i) 0++((List.range i).map g).reverse
theorem magP_len (g:Nat→Nat) (m i:Nat) (h:i≤m):(magP g m i).length=m:=by unfold magP;simp;omega
theorem magP_succ (g:Nat→Nat) (m i:Nat) (h:i<m):(magP g m i).set (m-1-i) (g i)=magP g m (i+1):=by
 unfold magP
 obtain ⟨k,hk⟩:∃ k,m-i=k+1:=⟨m-i-1,by omega⟩
 have h1:m-1-i=k:=by omega
 have h2:m-(i+1)=k:=by omega
 rw [hk,h1,h2,List.range_succ,List.map_append,List.reverse_append]
 rw [List.replicate_succ',List.append_assoc,List.set_append_right _ _ (by simp)]
 simp
theorem magP_get (g:Nat→Nat) (m i p:Nat) (h:i<m):((magP g m i).set (m-1-i) p)[m-1-i]?=some p:=by
 rw [List.getElem?_set_self (by rw [magP_len g m i (by omega)];omega)]
theorem magP_cur (g:Nat→Nat) (m i:Nat) (h:i<m):(magP g m i)[m-1-i]?=some 0:=by
 unfold magP
 rw [List.getElem?_append_left (by simp;omega),List.getElem?_replicate,if_pos (by omega)]
theorem magP_at (g:Nat→Nat) (m i j:Nat) (h:j<i) (hi:i≤m):(magP g m i)[m-1-j]?=some (g j):=by
 unfold magP
 rw [List.getElem?_append_right (by simp;omega)]
 rw [List.length_replicate,show m-1-j-(m-i)=i-1-j from by omega,List.getElem?_reverse (by simp;omega)]
 simp only [List.length_map,List.length_range]
 rw [show i-1-(i-1-j)=j from by omega]
 simp [h]
theorem all_take_succ {α:Type} (p:α→Bool) (l:List α) (k:Nat) (h:k<l.length):(l.take (k+1)).all p=((l.take k).all p&&p l[k]):=by
 rw [List.take_succ_eq_append_getElem h,List.all_append];simp
theorem all_no {α:Type} (p:α→Bool) (l:List α) (k:Nat) (h:k<l.length) (hp:p l[k]=false):l.all p=false:=by
 rw [List.all_eq_false];exact ⟨l[k],List.getElem_mem h,by simp [hp]⟩
def kyC (l:List CellS) (j:Nat):Nat:=(l.map CellS.key).getD j 0
theorem kyC_get (l:List CellS) (j:Nat) (h:j<l.length):l[j].key=kyC l j:=by simp [kyC,List.getD,h]
theorem risingC_iff:∀ l:List CellS,risingC l=true ↔ ∀ j,j+1<l.length→kyC l j<kyC l (j+1)
 | []=>by simp [risingC]
 | [_]=>by simp [risingC]
 | C::D::l=>by
   have ih:=risingC_iff (D::l)
   unfold risingC
   rw [Bool.and_eq_true,decide_eq_true_iff,ih]
   constructor
   ·rintro ⟨h1,h2⟩ j hj
    cases j with
    | zero=>exact h1
    | succ j=>exact h2 j (by simpa using hj)
   ·intro h
    exact ⟨h 0 (by simp),fun j hj=>h (j+1) (by simpa using hj)⟩
theorem rightC_none (S:Sch) (mask:Nat) (C:CellS) (h:keysOf S mask=none):rightC S mask C=false:=by unfold rightC;rw [h]
theorem rightC_some (S:Sch) (mask n:Nat) (C:CellS) (h:keysOf S mask=some n):rightC S mask C=(decide (C.key<n)&&decide (1≤C.count)&&decide (C.ints.length=S.ints.length)&&decide (C.nums.length=S.nums.length)&&C.ints.all okW&&C.nums.all okR):=by unfold rightC;rw [h]
theorem headE_ok {b:List UInt8} (h0:headE b=0) (h3:3≤b.length):hd b 1+hd b 2≤70∧hd b 0≤63∧(hd b 2=0→hd b 1=0):=by
 unfold headE at h0
 (repeat' split at h0)<;>first|(cases h0;done)|(refine ⟨?_,?_,?_⟩<;>omega)
theorem readE_head {b:List UInt8} (h:headE b≠0):readE b=headE b:=if_pos h
theorem readE_short {b:List UInt8} (h:headE b=0) (h3:¬3≤b.length):readE b=5:=by unfold readE;rw [if_neg (by omega),if_pos (by omega)]
theorem readE_words {b:List UInt8} (h:headE b=0) (h3:3≤b.length):readE b=wordsE b (hd b 2) (hd b 2):=by unfold readE;rw [if_neg (by omega),if_neg (by omega)]
theorem factR_mk {w:World} {B:Nat} {F:FactS} {v0 v1 v2:Value} (h:FactV w B F v0 v1 v2) (ho:FactOk F):factR.rep w B F [v0,v1,v2]:=by
 obtain ⟨A0,c0,A1,c1,A2,c2,rfl,rfl,rfl,r0,r1,r2,⟨b0,b0'⟩,⟨b1,b1'⟩,b2,b2'⟩:=h
 refine ⟨[_],[_,_],rfl,⟨A0,c0,_,rfl,b0,b0',r0,chunk_val.2 ⟨rfl,fun x hx=>?_⟩⟩,[_],[_],rfl,⟨A1,c1,_,rfl,b1,b1',r1,chunk_val.2 ⟨rfl,fun x hx=>?_⟩⟩,A2,c2,_,rfl,b2,b2',r2,chunk_val.2 ⟨rfl,ho.nums⟩⟩
 ·exact WalkArith.wf_i64 (ho.codes x hx)
 ·exact WalkArith.wf_i64 (ho.ints x hx)
def lightF (F:FactS):Bool:=decide (F.codes.length≤20)&&decide (F.ints.length≤20)&&decide (F.nums.length≤20)
def lightFs (l:List FactS):Bool:=l.all lightF
def lightTo (l:List FactS) (k:Nat):Prop:=∀ j (hj:j<l.length),j<k→lightF l[j]=true
theorem lightTo.snoc {l:List FactS} {k:Nat} (h:lightTo l k) (hk:k<l.length) (hx:lightF l[k]=true):lightTo l (k+1):=fun j hj hjk=>by
 by_cases e:j=k
 ·subst e;exact hx
 ·exact h j hj (by omega)
theorem lightTo.all {l:List FactS} (h:lightTo l l.length):lightFs l=true:=by
 unfold lightFs;rw [List.all_eq_true]
 intro x hx
 obtain ⟨j,hj,rfl⟩:=List.getElem_of_mem hx
 exact h j hj hj
def runN {V:Type} (f:Nat→Nat→Nat→List V×Nat×Nat) (p e:Nat):Nat→List V×Nat×Nat
 | 0=>([],p,e)
 | k+1=>((runN f p e k).1++(f k (runN f p e k).2.1 (runN f p e k).2.2).1,(f k (runN f p e k).2.1 (runN f p e k).2.2).2)
theorem runN_succ {V:Type} (f:Nat→Nat→Nat→List V×Nat×Nat) (p e k:Nat):runN f p e (k+1)=((runN f p e k).1++(f k (runN f p e k).2.1 (runN f p e k).2.2).1,(f k (runN f p e k).2.1 (runN f p e k).2.2).2):=rfl
theorem runN_len {V:Type} {f:Nat→Nat→Nat→List V×Nat×Nat} (h:∀ k p e,(f k p e).1.length=1) (p e k:Nat):(runN f p e k).1.length=k:=by
 induction k with
 | zero=>rfl
 | succ k ih=>rw [runN_succ,List.length_append,ih,h]
theorem runN_all {V:Type} {P:V→Prop} {f:Nat→Nat→Nat→List V×Nat×Nat} (h:∀ k p e,∀ x∈(f k p e).1,P x) (p e k:Nat):∀ x∈(runN f p e k).1,P x:=by
 induction k with
 | zero=>intro x hx;cases hx
 | succ k ih =>
   rw [runN_succ];intro x hx
   rcases List.mem_append.1 hx with hx|hx
   ·exact ih x hx
   ·exact h _ _ _ x hx
theorem inU_le (t:List UInt8) (p e most:Nat):(inU t p e most).1≤most:=by
 unfold inU
 simp only
 unfold stepV
 split
 ·rename_i h
  unfold stepE at h
  split at h
  ·omega
  ·split at h
   ·omega
   ·unfold overE at h;split at h<;>omega
 ·omega
theorem getI_bounds (t:List UInt8):-9223372036854775808≤(getI t).1∧(getI t).1≤9223372036854775807:=by
 cases t with
 | nil=>simp [getI]
 | cons c t =>
   unfold getI
   simp only
   split
   ·simp
   ·rename_i h1
    split
    ·simp
    ·rename_i h2
     split
     ·have:=numB_lt63 (prt c t) (sgn c).1 (by omega) (fun h=>by
       by_cases hh:127<((prt c t).headD 0).toNat
       ·exact absurd ⟨h,hh⟩ h2
       ·omega)
      split<;>(simp only;omega)
     ·simp
theorem getF_lt (t:List UInt8):(getF t).1<18446744073709551616:=by
 obtain ⟨h1,h2,h3⟩:=getF_doc t
 by_cases h:(rgetF t).2=0
 ·exact (h3 h).2.2
 ·rw [h2 h];show 0<_;decide
theorem rd_new (w:World) (t:TypeId) (u:Value):Rd (w.alloc (.cells #[u] t)) (w.heap.size+1) 1 (some ⟨w.heap.size,0,none⟩) 1 [u] :=
 ⟨rfl,fun _=>⟨_,rfl,Nat.lt_succ_self _,fun j x hj=>by
  cases j with
  | zero=>rw [add_zero',World.cell?_alloc_mark w #[u] t (0,0) 0];simpa using hj
  | succ j=>simp at hj⟩⟩
structure OneRel (w wr:World) (g:Nat) (t:List UInt8) (SV:Array Value) (v0 v1 v2:Value) (a b:List Int) (c:List Nat) (p e:Nat):Prop where
 s:Blk wr w.heap.size 26 SV
 r:Blk wr (w.heap.size+1) 86 #[.slice none 0 0,.slice none 0 0,.slice none 0 0]
 f:Blk wr (w.heap.size+1+1) 86 #[v0,v1,v2]
 o0:wr.ownsRow (w.heap.size+1+1+1) 3 1 v0 a.length (i64s a)
 o1:wr.ownsRow (w.heap.size+1+1+1) 2 1 v1 b.length (i64s b)
 o2:wr.ownsRow (w.heap.size+1+1+1) 57 1 v2 c.length (f64s c)
 i:InS wr g t p e
 n:Only g w wr
section
variable {w wr w2 w3:World} {g:Nat} {t:List UInt8} {SV:Array Value} {v0 v1 v2 v':Value} {a b:List Int} {c:List Nat} {p e p' e':Nat}
theorem OneRel.lt (h:OneRel w wr g t SV v0 v1 v2 a b c p e):w.heap.size+1+1+1≤wr.heap.size:=h.f.lt
theorem OneRel.drew (h:OneRel w wr g t SV v0 v1 v2 a b c p e):OneRel w wr.drew g t SV v0 v1 v2 a b c p e :=
 ⟨h.s,h.r,h.f,own_drewN h.o0 1,own_drewN h.o1 1,own_drewN h.o2 1,h.i,h.n.drew⟩
theorem OneRel.alloc (h:OneRel w wr g t SV v0 v1 v2 a b c p e) (o:Obj):OneRel w (wr.alloc o) g t SV v0 v1 v2 a b c p e :=
 ⟨h.s.alloc o,h.r.alloc o,h.f.alloc o,h.o0.alloc o,h.o1.alloc o,h.o2.alloc o,h.i.below (belA (belR wr) o) h.i.lt,h.n.alloc o⟩
theorem own_far {w:World} {base n g:Nat} {e:TypeId} {size:Nat} {v:Value} {xs:List Value} (h:w.ownsRow base e size v n xs) (hg:g<base):v.ownBlock≠some g:=fun he=>by have:=(h.lt g he).1;omega
theorem OneRel.only (h:OneRel w wr g t SV v0 v1 v2 a b c p e) (hg:g<w.heap.size) (k:Only g wr w2) (hi:InS w2 g t p' e'):OneRel w w2 g t SV v0 v1 v2 a b c p' e' :=
 ⟨k.blk h.s (by omega),k.blk h.r (by omega),k.blk h.f (by omega),k.own h.o0 (own_far h.o0 (by omega)),k.own h.o1 (own_far h.o1 (by omega)),k.own h.o2 (own_far h.o2 (by omega)),hi,h.n.trans k⟩
theorem OneRel.appd (h:OneRel w wr g t SV v0 v1 v2 a b c p e) (hg:g<w.heap.size) {u:Value} (k:Appd wr w3 u v') (hu:∀ j,u.ownBlock=some j→w.heap.size+1+1+1≤j) :
 Blk w3 w.heap.size 26 SV∧Blk w3 (w.heap.size+1) 86 #[.slice none 0 0,.slice none 0 0,.slice none 0 0]∧Blk w3 (w.heap.size+1+1) 86 #[v0,v1,v2]∧InS w3 g t p e∧Only g w w3:=by
 have hb:Below (w.heap.size+1+1+1) wr w3:=(Below.refl _ _).grown k.1 h.lt hu
 exact ⟨h.s.below hb (by omega),h.r.below hb (by omega),h.f.below hb (by omega),h.i.below hb (by omega),h.n.appd k fun j hj=>.inr (by have:=hu j hj;omega)⟩
theorem OneRel.put2 (h:OneRel w wr g t SV v0 v1 v2 a b c p e) (hg:g<w.heap.size) (x:Nat) (ho:w3.ownsRow (w.heap.size+1+1+1) 57 1 v' (c.length+1) (f64s c ++ [.float .f64 x])) (k:Appd wr w3 v2 v') :
 Blk w3 (w.heap.size+1+1) 86 #[v0,v1,v2]∧OneRel w (w3.setCell ⟨w.heap.size+1+1,2,none⟩ v') g t SV v0 v1 v' a b (c ++ [x]) p e:=by
 obtain ⟨hs,hr,hf,hi,hn⟩:=h.appd hg k fun j hj=>(h.o2.lt j hj).1
 have h1:=k.kept h.o0 (own_own_ne h.o0 h.o2 (by decide));have h2:=k.kept h.o1 (own_own_ne h.o1 h.o2 (by decide))
 have hset:=Only.set1 w3 (w.heap.size+1+1) 2 v'
 have hbel:Below (w.heap.size+1+1) w3 (w3.setCell ⟨w.heap.size+1+1,2,none⟩ v'):=(Below.refl (w.heap.size+1+1) w3).setCell (p:=⟨w.heap.size+1+1,2,none⟩) (Nat.le_refl _) v'
 refine ⟨hf,hset.blk hs (by omega),hset.blk hr (by omega),by simpa using hf.set_ 2 v',hset.own h1 (own_far h1 (by omega)),hset.own h2 (own_far h2 (by omega)),?_,hi.below hbel (by omega),hn.set_ (.inr (by simp only;omega)) _⟩
 have:=hset.own ho (own_far ho (by omega))
 simpa [f64s] using this
theorem OneRel.fin (h:OneRel w wr g t SV v0 v1 v2 a b c p e) (hg:g<w.heap.size) :
 (((wr.setCell ⟨w.heap.size+1,0,none⟩ v0).setCell ⟨w.heap.size+1,1,none⟩ v1).setCell ⟨w.heap.size+1,2,none⟩ v2).ownsRow w.heap.size 3 1 v0 a.length (i64s a) ∧
 (((wr.setCell ⟨w.heap.size+1,0,none⟩ v0).setCell ⟨w.heap.size+1,1,none⟩ v1).setCell ⟨w.heap.size+1,2,none⟩ v2).ownsRow w.heap.size 2 1 v1 b.length (i64s b) ∧
 (((wr.setCell ⟨w.heap.size+1,0,none⟩ v0).setCell ⟨w.heap.size+1,1,none⟩ v1).setCell ⟨w.heap.size+1,2,none⟩ v2).ownsRow w.heap.size 57 1 v2 c.length (f64s c) ∧
 InS (((wr.setCell ⟨w.heap.size+1,0,none⟩ v0).setCell ⟨w.heap.size+1,1,none⟩ v1).setCell ⟨w.heap.size+1,2,none⟩ v2) g t p e ∧
 Only g w (((wr.setCell ⟨w.heap.size+1,0,none⟩ v0).setCell ⟨w.heap.size+1,1,none⟩ v1).setCell ⟨w.heap.size+1,2,none⟩ v2):=by
 have hset:=((Only.set1 wr (w.heap.size+1) 0 v0).trans (Only.set1 (wr.setCell ⟨w.heap.size+1,0,none⟩ v0) (w.heap.size+1) 1 v1)).trans (Only.set1 ((wr.setCell ⟨w.heap.size+1,0,none⟩ v0).setCell ⟨w.heap.size+1,1,none⟩ v1) (w.heap.size+1) 2 v2)
 have hz:=h.lt
 exact ⟨own_mono (hset.own h.o0 (own_far h.o0 (by omega))) (by omega),own_mono (hset.own h.o1 (own_far h.o1 (by omega))) (by omega),own_mono (hset.own h.o2 (own_far h.o2 (by omega))) (by omega),
  h.i.below (hset.below (B:=w.heap.size+1) (Nat.le_refl _) (by omega)) (by omega),((h.n.set_ (.inr (by simp only;omega)) _).set_ (.inr (by simp only;omega)) _).set_ (.inr (by simp only;omega)) _⟩
end
def inB_ (t:List UInt8) (p e:Nat):List UInt8×Nat×Nat:=if e=0 then ((rdB 283 (t.drop p)).t,p+(rdB 283 (t.drop p)).n,(rdB 283 (t.drop p)).e) else ([],p,e)
def inI_ (t:List UInt8) (p e:Nat):Int×Nat×Nat:=(stepV (0:Int) (getI (t.drop p)).1 (stepE e (getI (t.drop p)).2.2 0),stepP p (getI (t.drop p)).2.1 (stepE e (getI (t.drop p)).2.2 0),stepE e (getI (t.drop p)).2.2 0)
def inF_ (t:List UInt8) (p e:Nat):Nat×Nat×Nat:=(stepV (0:Nat) (getF (t.drop p)).1 (stepE e (getF (t.drop p)).2.2 0),stepP p (getF (t.drop p)).2.1 (stepE e (getF (t.drop p)).2.2 0),stepE e (getF (t.drop p)).2.2 0)
def sqF (t:List UInt8) (_ p e:Nat):List Nat×Nat×Nat:=([(inU t p e 4294967295).1],(inU t p e 4294967295).2)
def meaA (t:List UInt8) (p e:Nat):Int×Nat×Nat:=inI_ t p e
def meaB (t:List UInt8) (p e:Nat):Int×Nat×Nat:=inI_ t (meaA t p e).2.1 (meaA t p e).2.2
def meaN (t:List UInt8) (p e:Nat):Nat×Nat×Nat:=inU t (meaB t p e).2.1 (meaB t p e).2.2 7
def meaQ (t:List UInt8) (p e:Nat):List Nat×Nat×Nat:=runN (sqF t) (meaN t p e).2.1 (meaN t p e).2.2 (meaN t p e).1
def meaL (t:List UInt8) (p e:Nat):Int×Nat×Nat:=inI_ t (meaQ t p e).2.1 (meaQ t p e).2.2
def meaH (t:List UInt8) (p e:Nat):Int×Nat×Nat:=inI_ t (meaL t p e).2.1 (meaL t p e).2.2
def meaS (t:List UInt8) (p e:Nat):WholeS×Nat×Nat:=(⟨(meaA t p e).1,(meaB t p e).1,(meaQ t p e).1,(meaL t p e).1,(meaH t p e).1⟩,(meaH t p e).2)
def meaF (t:List UInt8) (_ p e:Nat):List WholeS×Nat×Nat:=([(meaS t p e).1],(meaS t p e).2)
def reaA (t:List UInt8) (p e:Nat):List UInt8×Nat×Nat:=inB_ t p e
def reaB (t:List UInt8) (p e:Nat):Nat×Nat×Nat:=inF_ t (reaA t p e).2.1 (reaA t p e).2.2
def reaC (t:List UInt8) (p e:Nat):Nat×Nat×Nat:=inF_ t (reaB t p e).2.1 (reaB t p e).2.2
def reaS (t:List UInt8) (p e:Nat):RealS×Nat×Nat:=(⟨(reaA t p e).1,(reaB t p e).1,(reaC t p e).1⟩,(reaC t p e).2)
def reaF (t:List UInt8) (_ p e:Nat):List RealS×Nat×Nat:=([(reaS t p e).1],(reaS t p e).2)
def celK (t:List UInt8):Nat×Nat×Nat:=inU t 0 0 18446744073709551615
def celN (t:List UInt8):Int×Nat×Nat:=inI_ t (celK t).2.1 (celK t).2.2
def celW (S:Sch) (t:List UInt8) (k:Nat):List WholeS×Nat×Nat:=runN (meaF t) (celN t).2.1 (celN t).2.2 k
def celR (S:Sch) (t:List UInt8) (k:Nat):List RealS×Nat×Nat:=runN (reaF t) (celW S t S.ints.length).2.1 (celW S t S.ints.length).2.2 k
def celS (S:Sch) (t:List UInt8):CellS×Nat×Nat:=(⟨(celK t).1,(celN t).1,(celW S t S.ints.length).1,(celR S t S.nums.length).1⟩,(celR S t S.nums.length).2)
def zeroC:CellS:=⟨0,0,[],[]⟩
def getC (S:Sch) (mask:Nat) (t:List UInt8):CellS×Nat×Nat :=
 if checkN S≠0 then (zeroC,0,1) else if (keysOf S mask).isNone=true then (zeroC,0,11)
 else if (celS S t).2.2≠0 then (zeroC,0,(celS S t).2.2) else if rightC S mask (celS S t).1=true then ((celS S t).1,(celS S t).2.1,0) else (zeroC,0,6)
def sameW (x y:WholeS):Bool:=decide (x.sum=y.sum)&&decide (x.abs=y.abs)&&decide (x.mn=y.mn)&&decide (x.mx=y.mx)&&decide (x.sq=y.sq)
def sameR (x y:RealS):Bool:=decide (x.sum=y.sum)&&decide (keyB x.mn=keyB y.mn)&&decide (keyB x.mx=keyB y.mx)
def sameWs:List WholeS→List WholeS→Bool
 | [],[]=>true
 | x::l,y::m=>sameW x y&&sameWs l m
 | _,_=>false
def sameRs:List RealS→List RealS→Bool
 | [],[]=>true
 | x::l,y::m=>sameR x y&&sameRs l m
 | _,_=>false
def sameC (C D:CellS):Bool:=decide (C.key=D.key)&&decide (C.count=D.count)&&sameWs C.ints D.ints&&sameRs C.nums D.nums
theorem sameW_eq {x y:WholeS} (h:sameW x y=true):x=y:=by
 unfold sameW at h
 simp only [Bool.and_eq_true,decide_eq_true_iff] at h
 obtain ⟨⟨⟨⟨h1,h2⟩,h3⟩,h4⟩,h5⟩:=h
 cases x;cases y;simp only at h1 h2 h3 h4 h5;subst h1 h2 h3 h4 h5;rfl
theorem sameW_self (x:WholeS):sameW x x=true:=by unfold sameW;simp
theorem sameR_self (x:RealS):sameR x x=true:=by unfold sameR;simp
theorem sameWs_eq {l m:List WholeS} (h:sameWs l m=true):l=m:=by
 induction l generalizing m with
 | nil=>cases m with
   | nil=>rfl
   | cons y m=>cases h
 | cons x l ih=>cases m with
   | nil=>cases h
   | cons y m =>
     unfold sameWs at h
     rw [Bool.and_eq_true] at h
     rw [sameW_eq h.1,ih h.2]
theorem sameWs_self:∀ l:List WholeS,sameWs l l=true
 | []=>rfl
 | x::l=>by unfold sameWs;rw [sameW_self,sameWs_self l];rfl
theorem sameRs_self:∀ l:List RealS,sameRs l l=true
 | []=>rfl
 | x::l=>by unfold sameRs;rw [sameR_self,sameRs_self l];rfl
theorem sameC_self (C:CellS):sameC C C=true:=by unfold sameC;rw [sameWs_self,sameRs_self];simp
theorem sameRs_len {l m:List RealS} (h:sameRs l m=true):l.length=m.length:=by
 induction l generalizing m with
 | nil=>cases m with
   | nil=>rfl
   | cons y m=>cases h
 | cons x l ih=>cases m with
   | nil=>cases h
   | cons y m =>
     unfold sameRs at h
     rw [Bool.and_eq_true] at h
     rw [List.length_cons,List.length_cons,ih h.2]
theorem sameRs_snoc {l m:List RealS} {x y:RealS} (h:sameRs l m=true) (k:sameR x y=true):sameRs (l ++ [x]) (m ++ [y])=true:=by
 induction l generalizing m with
 | nil=>cases m with
   | nil=>show (sameR x y&&sameRs [] [])=true;rw [k];rfl
   | cons y m=>cases h
 | cons x l ih=>cases m with
   | nil=>cases h
   | cons y m =>
     unfold sameRs at h
     rw [Bool.and_eq_true] at h
     rw [List.cons_append,List.cons_append]
     unfold sameRs
     rw [h.1,ih h.2];rfl
def wholeOk (x:WholeS):Prop:=(-9223372036854775808≤x.sum∧x.sum≤9223372036854775807)∧(-9223372036854775808≤x.abs∧x.abs≤9223372036854775807)∧(-9223372036854775808≤x.mn∧x.mn≤9223372036854775807)∧(-9223372036854775808≤x.mx∧x.mx≤9223372036854775807)∧∀ n∈x.sq,n<4294967296
structure CellOk (C:CellS):Prop where
 key:C.key<18446744073709551616
 count:-9223372036854775808≤C.count∧C.count≤9223372036854775807
 ints:∀ x∈C.ints,wholeOk x
theorem inI_bounds (t:List UInt8) (p e:Nat):-9223372036854775808≤(inI_ t p e).1∧(inI_ t p e).1≤9223372036854775807:=by
 unfold inI_ stepV
 simp only
 split
 ·exact getI_bounds _
 ·decide
theorem inF_lt (t:List UInt8) (p e:Nat):(inF_ t p e).1<18446744073709551616:=by
 unfold inF_ stepV
 simp only
 split
 ·exact getF_lt _
 ·decide
theorem meaS_ok (t:List UInt8) (p e:Nat):wholeOk (meaS t p e).1:=by
 refine ⟨inI_bounds t p e,inI_bounds t _ _,inI_bounds t _ _,inI_bounds t _ _,runN_all (P:=fun x=>x<4294967296) (fun k p e x hx=>?_) _ _ _⟩
 obtain rfl:=List.mem_singleton.1 hx
 have:=inU_le t p e 4294967295
 omega
theorem celS_ok (S:Sch) (t:List UInt8):CellOk (celS S t).1:=by
 refine ⟨?_,inI_bounds t _ _,runN_all (P:=wholeOk) (fun k p e x hx=>?_) _ _ _⟩
 ·have:=inU_le t 0 0 18446744073709551615
  show (celK t).1<_
  unfold celK;omega
 ·obtain rfl:=List.mem_singleton.1 hx
  exact meaS_ok t p e
theorem celS_nums (S:Sch) (t:List UInt8):∀ x∈(celS S t).1.nums,x.mn<18446744073709551616∧x.mx<18446744073709551616:=by
 refine runN_all (P:=fun x:RealS=>x.mn<18446744073709551616∧x.mx<18446744073709551616) (fun k p e x hx=>?_) _ _ _
 obtain rfl:=List.mem_singleton.1 hx
 exact ⟨inF_lt t _ _,inF_lt t _ _⟩
theorem zeroC_ok:CellOk zeroC:=⟨by decide,by decide,fun x hx=>by cases hx⟩
theorem getC_ok (S:Sch) (mask:Nat) (t:List UInt8):CellOk (getC S mask t).1:=by
 unfold getC
 (repeat' split)<;>first|exact zeroC_ok|exact celS_ok S t
theorem rdB_len (t:List UInt8):(rdB 283 t).t.length≤283:=by
 unfold rdB got0S
 have hm:mx 283=283:=by decide
 rw [hm]
 (repeat' split)<;>simp only [List.length_nil,List.length_take]<;>omega
end Go.Proofs.YtfhmaincnlaapaaGreat
