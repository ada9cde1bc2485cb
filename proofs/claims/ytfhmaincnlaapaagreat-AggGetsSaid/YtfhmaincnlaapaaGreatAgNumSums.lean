/- bushelref01: sum, rest, Nat. -/
import Derived.Deep.DeepCutAuto
import Derived.Test.YtfhmaincnlaapaaGreatAgFactLight
import Derived.Test.YtfhmaincnlaapaaGreatAgAggPut
namespace Go.Proofs.YtfhmaincnlaapaaGreat
open Go.ChangeShapes Go.WideShapes Go.ChangeAt Go.RowKit
set_option linter.unusedVariables false
def vw:List Nat→Nat
 | []=>0
 | d :: l=>d+4294967296*vw l
theorem vd_consW (d:Nat) (l:List Nat):vw (d :: l)=d+4294967296*vw l:=rfl
theorem vd_appW (l m:List Nat):vw (l++m)=vw l+4294967296^l.length*vw m:=by
 induction l with
 | nil=>simp [vw]
 | cons d l ih =>
   rw [List.cons_append,vd_consW,vd_consW,ih,List.length_cons,Nat.pow_succ,Nat.mul_add,← Nat.mul_assoc,Nat.mul_comm 4294967296 (4294967296^l.length)]
   omega
theorem vd_ltW (l:List Nat) (h:∀ d ∈ l,d<4294967296):vw l<4294967296^l.length:=by
 induction l with
 | nil=>simp [vw]
 | cons d l ih =>
   unfold vw
   have h1:=h d (by simp)
   have h2:=ih (fun x hx=>h x (by simp [hx]))
   rw [List.length_cons,Nat.pow_succ]
   omega
theorem vd_powW (l:List Nat) (k:Nat):vw (List.replicate k 0++l)=4294967296^k*vw l:=by
 rw [vd_appW,List.length_replicate]
 have:vw (List.replicate k 0)=0:=by
  induction k with
  | zero=>rfl
  | succ k ih=>rw [List.replicate_succ];unfold vw;rw [ih]
 omega
theorem dg_ltW (l:List Nat) (j:Nat) (h:∀ d ∈ l,d<4294967296):dg l j<4294967296:=by
 rcases Nat.lt_or_ge j l.length with hj|hj
 ·rw [← dg_get l j hj];exact h _ (List.getElem_mem hj)
 ·rw [dg_far l j hj];decide
theorem vd_nilW:vw []=0:=rfl
theorem vd_dropW (l:List Nat) (i:Nat):vw (l.drop i)=dg l i+4294967296*vw (l.drop (i+1)):=by
 rcases Nat.lt_or_ge i l.length with hi|hi
 ·rw [List.drop_eq_getElem_cons hi,vd_consW,dg_get l i hi]
 ·rw [List.drop_eq_nil_of_le hi,List.drop_eq_nil_of_le (by omega),dg_far l i hi];rfl
theorem vd_drop_farW (l:List Nat) (i:Nat) (h:l.length≤i):vw (l.drop i)=0:=by rw [List.drop_eq_nil_of_le h];rfl
theorem vd_snocW (l:List Nat) (d:Nat):vw (l ++ [d])=vw l+4294967296^l.length*d:=by rw [vd_appW,vd_consW,vd_nilW];simp
def SumRW (a b out:List Nat) (i carry:Nat):Prop:=out.length=i∧carry≤1∧(∀ d ∈ out,d<4294967296)∧vw out+4294967296^i*(carry+vw (a.drop i)+vw (b.drop i))=vw a+vw b
theorem SumRW.zero (a b:List Nat):SumRW a b [] 0 0:=⟨rfl,by decide,fun d hd=>(by cases hd),by simp [vd_nilW]⟩
theorem SumRW.succ {a b out:List Nat} {i carry:Nat} (ha:∀ d ∈ a,d<4294967296) (hb:∀ d ∈ b,d<4294967296) (h:SumRW a b out i carry):SumRW a b (out ++ [(dg a i+dg b i+carry)%4294967296]) (i+1) ((dg a i+dg b i+carry)/4294967296):=by
 obtain ⟨h1,h2,h3,h4⟩:=h
 have x1:=dg_ltW a i ha
 have x2:=dg_ltW b i hb
 refine ⟨by simp [h1],by omega,fun d hd=>?_,?_⟩
 ·rcases List.mem_append.1 hd with hd|hd
  ·exact h3 d hd
  ·obtain rfl:=List.mem_singleton.1 hd;exact Nat.mod_lt _ (by decide)
 ·rw [vd_snocW,h1,← h4,vd_dropW a i,vd_dropW b i,Nat.pow_succ]
  generalize 4294967296^i=P
  generalize vw (a.drop (i+1))=x
  generalize vw (b.drop (i+1))=y
  obtain ⟨s,hs⟩:∃ s,dg a i+dg b i+carry=s:=⟨_,rfl⟩
  have e1:carry+(dg a i+4294967296*x)+(dg b i+4294967296*y)=s%4294967296+4294967296*(s/4294967296+x+y):=by omega
  rw [hs,e1,Nat.mul_add P (s%4294967296),Nat.mul_assoc P 4294967296,Nat.add_assoc]
theorem SumRW.end_ {a b out:List Nat} {i carry:Nat} (h:SumRW a b out i carry) (h1:a.length≤i) (h2:b.length≤i):vw (out ++ [carry])=vw a+vw b∧∀ d ∈ out ++ [carry],d<4294967296:=by
 obtain ⟨g1,g2,g3,g4⟩:=h
 rw [vd_drop_farW a i h1,vd_drop_farW b i h2] at g4
 refine ⟨by rw [vd_snocW,g1,← g4];simp,fun d hd=>?_⟩
 rcases List.mem_append.1 hd with hd|hd
 ·exact g3 d hd
 ·obtain rfl:=List.mem_singleton.1 hd;omega
def RestRW (a b out:List Nat) (i borrow:Nat):Prop:=out.length=i∧borrow≤1∧(∀ d ∈ out,d<4294967296)∧(vw out:Int)+(4294967296^i:Nat)*((vw (a.drop i):Int)-vw (b.drop i)-borrow)=(vw a:Int)-vw b
theorem RestRW.zero (a b:List Nat):RestRW a b [] 0 0:=⟨rfl,by decide,fun d hd=>(by cases hd),by simp [vd_nilW]⟩
theorem RestRW.step {a b out:List Nat} {i borrow d borrow':Nat} (hd:d<4294967296) (hb':borrow'≤1) (h:RestRW a b out i borrow) (he:(dg a i:Int)-dg b i-borrow=(d:Int)-4294967296*borrow'):RestRW a b (out ++ [d]) (i+1) borrow':=by
 obtain ⟨h1,h2,h3,h4⟩:=h
 refine ⟨by simp [h1],hb',fun x hx=>?_,?_⟩
 ·rcases List.mem_append.1 hx with hx|hx
  ·exact h3 x hx
  ·obtain rfl:=List.mem_singleton.1 hx;exact hd
 ·rw [vd_snocW,h1,← h4,vd_dropW a i,vd_dropW b i,Nat.pow_succ]
  generalize 4294967296^i=P
  generalize vw (a.drop (i+1))=x
  generalize vw (b.drop (i+1))=y
  have e1:((dg a i+4294967296*x:Nat):Int)-((dg b i+4294967296*y:Nat):Int)-borrow=d+4294967296*((x:Int)-y-borrow'):=by omega
  rw [e1,Int.mul_add]
  simp only [Int.natCast_add,Int.natCast_mul]
  rw [Int.mul_assoc (P:Int),Int.add_assoc]
  rfl
theorem RestRW.end_ {a b out:List Nat} (h:∃ borrow,RestRW a b out a.length borrow) (hle:vw b≤vw a):vw out=vw a-vw b∧∀ d ∈ out,d<4294967296:=by
 obtain ⟨borrow,g1,g2,g3,g4⟩:=h
 refine ⟨?_,g3⟩
 rw [vd_drop_farW a _ (Nat.le_refl _)] at g4
 have hlt:=vd_ltW out g3
 rw [g1] at hlt
 generalize 4294967296^a.length=P at *
 generalize hx:vw (b.drop a.length)=x at *
 have hz:x+borrow=0:=by
  rcases Nat.eq_zero_or_pos (x+borrow) with h0|h0
  ·exact h0
  ·exfalso
   have e:(P:Int)*((0:Nat)-(x:Int)-borrow)=-((P*(x+borrow):Nat):Int):=by push_cast;rw [show ((0:Int)-x-borrow)=-((x:Int)+borrow) from by omega,Int.mul_neg]
   rw [e] at g4
   have:P*1≤P*(x+borrow):=Nat.mul_le_mul_left _ h0
   omega
 obtain ⟨rfl,rfl⟩:x=0∧borrow=0:=by omega
 simp at g4
 omega
theorem vd_setW (l:List Nat) (j x:Nat) (h:j<l.length):vw (l.set j x)+4294967296^j*dg l j=vw l+4294967296^j*x:=by
 induction l generalizing j with
 | nil=>simp at h
 | cons d l ih =>
   cases j with
   | zero=>simp [vd_consW,dg];omega
   | succ j =>
     have:=ih j (by simpa using h)
     rw [List.set_cons_succ,vd_consW,vd_consW,Nat.pow_succ]
     have e:dg (d :: l) (j+1)=dg l j:=by simp [dg]
     rw [e,Nat.mul_comm (4294967296^j) 4294967296,Nat.mul_assoc,Nat.mul_assoc]
     omega
theorem vd_replW (k:Nat):vw (List.replicate k 0)=0:=by have:=vd_powW [] k;simpa [vd_nilW] using this
def MulRW (a b out:List Nat) (i:Nat):Prop:=out.length=a.length+b.length+1∧(∀ d ∈ out,d<4294967296)∧(∀ j,i+b.length≤j→dg out j=0)∧vw out=vw (a.take i)*vw b
def MulIW (a b out:List Nat) (i k carry:Nat):Prop:=out.length=a.length+b.length+1∧(∀ d ∈ out,d<4294967296)∧(∀ j,i+b.length≤j→dg out j=0)∧carry<4294967296∧vw out+4294967296^(i+k)*carry=vw (a.take i)*vw b+4294967296^i*(dg a i*vw (b.take k))
theorem mem_set_ltW {l:List Nat} {j x:Nat} (h:∀ d ∈ l,d<4294967296) (hx:x<4294967296):∀ d ∈ l.set j x,d<4294967296:=fun d hd=>by
 rcases List.mem_or_eq_of_mem_set hd with hd|rfl
 ·exact h d hd
 ·exact hx
theorem vd_take_succW (l:List Nat) (k:Nat) (h:k<l.length):vw (l.take (k+1))=vw (l.take k)+4294967296^k*dg l k:=by
 rw [List.take_succ_eq_append_getElem h,vd_snocW,List.length_take,dg_get l k h,Nat.min_eq_left (by omega)]
theorem MulRW.zero (a b:List Nat):MulRW a b (List.replicate (a.length+b.length+1) 0) 0:=by
 refine ⟨by simp,fun d hd=>?_,fun j _=>?_,?_⟩
 ·have:=List.eq_of_mem_replicate hd;omega
 ·unfold dg List.getD;rw [List.getElem?_replicate];split <;> rfl
 ·rw [vd_replW];simp [vd_nilW]
theorem MulRW.start {a b out:List Nat} {i:Nat} (h:MulRW a b out i):MulIW a b out i 0 0:=⟨h.1,h.2.1,h.2.2.1,by decide,by rw [h.2.2.2];simp [vd_nilW]⟩
theorem prod_bdW {x y z c:Nat} (hx:x<4294967296) (hy:y<4294967296) (hz:z<4294967296) (hc:c<4294967296):z+x*y+c<18446744073709551616:=by
 have:x*y≤4294967295*4294967295:=Nat.mul_le_mul (by omega) (by omega)
 omega
theorem MulIW.succ {a b out:List Nat} {i k carry:Nat} (ha:∀ d ∈ a,d<4294967296) (hb:∀ d ∈ b,d<4294967296) (h:MulIW a b out i k carry) (hi:i<a.length) (hk:k<b.length) :
 MulIW a b (out.set (i+k) ((dg out (i+k)+dg a i*dg b k+carry)%4294967296)) i (k+1) ((dg out (i+k)+dg a i*dg b k+carry)/4294967296):=by
 obtain ⟨h1,h2,h3,h4,h5⟩:=h
 have x1:=dg_ltW a i ha
 have x2:=dg_ltW b k hb
 have x3:=dg_ltW out (i+k) h2
 have hbd:=prod_bdW x1 x2 x3 h4
 have hs:=vd_setW out (i+k) ((dg out (i+k)+dg a i*dg b k+carry)%4294967296) (by omega)
 refine ⟨by simp [h1],mem_set_ltW h2 (Nat.mod_lt _ (by decide)),fun j hj=>by rw [dg_set_ne _ _ _ _ (by omega)];exact h3 j hj,by omega,?_⟩
 rw [vd_take_succW b k hk,Nat.mul_add,Nat.mul_add,← Nat.add_assoc (vw (a.take i)*vw b),← h5,← Nat.add_assoc i k 1,Nat.pow_succ]
 generalize dg out (i+k)=o at *
 generalize dg a i=p at *
 generalize dg b k=q at *
 have e1:4294967296^i*(p*(4294967296^k*q))=4294967296^(i+k)*(p*q):=by rw [Nat.pow_add,← Nat.mul_assoc p,Nat.mul_comm p,Nat.mul_assoc (4294967296^k),← Nat.mul_assoc (4294967296^i)]
 rw [e1]
 generalize vw (out.set (i+k) ((o+p*q+carry)%4294967296))=V' at *
 generalize vw out=V at *
 generalize 4294967296^(i+k)=P at *
 obtain ⟨s,hss⟩:∃ s,o+p*q+carry=s:=⟨_,rfl⟩
 rw [hss] at hs ⊢
 have e2:P*s=P*o+P*(p*q)+P*carry:=by rw [← hss,Nat.mul_add,Nat.mul_add]
 have e3:P*s=P*(s%4294967296)+P*4294967296*(s/4294967296):=by
  rw [Nat.mul_assoc,← Nat.mul_add,Nat.mod_add_div]
 omega
theorem MulIW.end_ {a b out:List Nat} {i carry:Nat} (h:MulIW a b out i b.length carry) (hi:i<a.length):MulRW a b (out.set (i+b.length) carry) (i+1):=by
 obtain ⟨h1,h2,h3,h4,h5⟩:=h
 have hs:=vd_setW out (i+b.length) carry (by omega)
 have h0:=h3 (i+b.length) (Nat.le_refl _)
 refine ⟨by simp [h1],mem_set_ltW h2 h4,fun j hj=>by rw [dg_set_ne _ _ _ _ (by omega)];exact h3 j (by omega),?_⟩
 rw [h0,Nat.mul_zero,Nat.add_zero] at hs
 rw [hs,h5,vd_take_succW a i hi,List.take_length,Nat.add_mul,Nat.mul_assoc]
theorem MulRW.all {a b out:List Nat} (h:MulRW a b out a.length):vw out=vw a*vw b∧∀ d ∈ out,d<4294967296:=by
 obtain ⟨_,h2,_,h4⟩:=h
 rw [List.take_length] at h4
 exact ⟨h4,h2⟩
theorem ldiv_stepW {b r d:Nat} (hb:0<b) (hr:r<b) (hd:d<4294967296):(d+4294967296*r)/b<4294967296:=by
 rw [Nat.div_lt_iff_lt_mul hb]
 have:4294967296*r+4294967296≤4294967296*b:=by omega
 rw [Nat.mul_comm];omega
def DivRW (a q:List Nat) (b i r:Nat):Prop:=q.length=a.length∧(∀ d ∈ q,d<4294967296)∧(∀ j,j<i→dg q j=0)∧r<b∧vw (q.drop i)*b+r=vw (a.drop i)
theorem DivRW.start (a:List Nat) (b:Nat) (hb:0<b):DivRW a (List.replicate a.length 0) b a.length 0:=by
 refine ⟨by simp,fun d hd=>?_,fun j _=>?_,hb,?_⟩
 ·have:=List.eq_of_mem_replicate hd;omega
 ·unfold dg List.getD;rw [List.getElem?_replicate];split <;> rfl
 ·rw [vd_drop_farW _ _ (by simp),vd_drop_farW _ _ (Nat.le_refl _)];simp
theorem DivRW.step {a q:List Nat} {b i r:Nat} (ha:∀ d ∈ a,d<4294967296) (h:DivRW a q b (i+1) r) (hi:i<a.length):DivRW a (q.set i ((dg a i+4294967296*r)/b)) b i ((dg a i+4294967296*r)%b):=by
 obtain ⟨h1,h2,h3,h4,h5⟩:=h
 have hb:0<b:=by omega
 have hd:=ldiv_stepW hb h4 (dg_ltW a i ha)
 refine ⟨by simp [h1],mem_set_ltW h2 hd,fun j hj=>by rw [dg_set_ne _ _ _ _ (by omega)];exact h3 j (by omega),Nat.mod_lt _ hb,?_⟩
 rw [vd_dropW (q.set i _) i,vd_dropW a i,dg_set_self _ _ _ (by omega),drop_set_le,← h5,Nat.add_mul]
 have e:=Nat.div_add_mod (dg a i+4294967296*r) b
 rw [Nat.mul_comm b] at e
 rw [Nat.mul_add,← Nat.mul_assoc]
 generalize (dg a i+4294967296*r)/b*b=x at *
 generalize (dg a i+4294967296*r)%b=y at *
 generalize 4294967296*vw (List.drop (i+1) q)*b=z
 omega
theorem DivRW.less {a q:List Nat} {b i r:Nat} (ha:∀ d ∈ a,d<4294967296) (h:DivRW a q b (i+1) r) (hi:i<a.length) (hl:dg a i+4294967296*r<b):DivRW a q b i (dg a i+4294967296*r):=by
 have h':=h.step ha hi
 rw [Nat.div_eq_of_lt hl,Nat.mod_eq_of_lt hl,set_zero (h.2.2.1 i (by omega))] at h'
 exact h'
theorem DivRW.all {a q:List Nat} {b r:Nat} (h:DivRW a q b 0 r):vw q=vw a/b∧(∀ d ∈ q,d<4294967296):=by
 obtain ⟨_,h2,_,h4,h5⟩:=h
 refine ⟨?_,h2⟩
 rw [List.drop_zero,List.drop_zero] at h5
 rw [← h5,Nat.add_comm,Nat.add_mul_div_right _ _ (by omega),Nat.div_eq_of_lt h4];omega
theorem vw_bits (l:List Nat) (h:∀ d ∈ l,d<4294967296):vw l<2^(32*l.length):=by
 have:=vd_ltW l h
 rwa [Nat.pow_mul]
theorem mul_bits {x q:Nat} (h:x<2^q):x*4294967296<2^(q+32):=by
 rw [Nat.pow_add];exact Nat.mul_lt_mul_of_pos_right h (by decide)
abbrev i64n (l:List Nat):List Value:=l.map (fun n:Nat=>Value.int .i64 (n:Int))
theorem i64n_app (l m:List Nat):i64n (l++m)=i64n l++i64n m:=by simp [i64n]
theorem i64n_one (l:List Nat):∀ u ∈ i64n l,u.oneCell'=true:=by intro u hu;obtain ⟨x,_,rfl⟩:=List.mem_map.1 hu;rfl
structure NumV (w:World) (B:Nat) (b:Bool) (A:Option Addr) (n c:Nat) (z:Int):Prop where
 sgn:b=decide (z<0)
 len:n=(dig z.natAbs).length
 rd:Rd w B 1 A n (i64n (dig z.natAbs))
 hc:n≤c
 hm:c≤maxLen
theorem NumV.keep {w w':World} {B B':Nat} {b:Bool} {A:Option Addr} {n c:Nat} {z:Int} (h:NumV w B b A n c z) (hb:Below B w w') (hB:B≤B'):NumV w' B' b A n c z:=⟨h.sgn,h.len,(h.rd.below hb).more hB,h.hc,h.hm⟩
theorem NumV.nd {w:World} {B:Nat} {b:Bool} {A:Option Addr} {n c:Nat} {z:Int} (h:NumV w B b A n c z):n=nd z:=h.len
theorem NumV.zero (w:World) (B:Nat):NumV w B false none 0 0 0:=⟨rfl,by rw [show (0:Int).natAbs=0 from rfl,dig_zero];rfl,by rw [show (0:Int).natAbs=0 from rfl,dig_zero];exact Rd.nil,Nat.le_refl _,by simp [maxLen]⟩
def sgZ (b:Bool) (x:Nat):Int:=if b then -(x:Int) else x
theorem sgZ_abs (b:Bool) (x:Nat):(sgZ b x).natAbs=x:=by unfold sgZ;split <;> omega
theorem sgZ_neg (b:Bool) (x:Nat):decide (sgZ b x<0)=(b&&decide (0<x)):=by
 unfold sgZ
 cases b
 ·simp
 ·simp
theorem Rd.i64n {w:World} {B:Nat} {A:Option Addr} {l:List Nat} (h:Rd w B 1 A l.length (i64n l)) {k:Nat} (hk:k<l.length):∃ a,A=some a∧a.block<B∧w.cell? (a.add k)=some (.int .i64 ((dg l k:Nat):Int)):=by
 obtain ⟨a,u,e,hb,hx,hc⟩:=h.at1 hk
 refine ⟨a,e,hb,?_⟩
 rw [hc]
 simp [hk] at hx
 rw [← dg_get l k hk,← hx]
theorem tsz_take_dg (l:List Nat) (m:Nat) (h:m<l.length):tsz (l.take (m+1))=if dg l m=0 then tsz (l.take m) else m+1:=tsz_take l m h
theorem info_i64n:(Tryz.prog.info? 3).map (fun i=>(i.zero,i.size,i.bytes))=some (some (.int .i64 0),1,8):=by kernel_rfl
theorem made_num {w:World} {B:Nat} {A:Option Addr} {c:Nat} {l:List Nat} (b:Bool) (hR:Rd w B 1 A l.length (i64n l)) (hd:∀ d ∈ l,d<1000) (hc:l.length≤c) (hm:c≤maxLen):NumV w B (b&&decide (0<tsz l)) A (tsz l) c (sgZ b (vd l)):=by
 have ht:=tsz_le l
 have e:=take_tsz l hd
 have e2:tsz l=(dig (vd l)).length:=by rw [← e,List.length_take];omega
 refine ⟨?_,by rw [sgZ_abs];exact e2,?_,by omega,hm⟩
 ·rw [sgZ_neg]
  congr 1
  have:=tsz_zero l
  by_cases h:vd l=0
  ·have h2:=this.2 h;simp [h,h2]
  ·have h2:tsz l≠0:=fun h3=>h (this.1 h3)
   have h4:0<tsz l:=by omega
   have h5:0<vd l:=by omega
   rw [decide_eq_true h4,decide_eq_true h5]
 ·rw [sgZ_abs,← e]
  have:=rd_take1 hR ht
  rw [show (i64n l).take (tsz l)=i64n (l.take (tsz l)) from by simp [i64n,List.map_take]] at this
  exact this
def RetNum (w:World) (z:Int) (y:Ending) (w':World):Prop:=∃ b A n c,y=.returned (.agg #[.bool b,.slice A n c])∧NumV w' w'.heap.size b A n c z∧Below w.heap.size w w'
theorem RetNum.mk {w w':World} {B n c:Nat} {b:Bool} {A:Option Addr} {z:Int} (h:NumV w B b A n c z) (hb:Below w.heap.size w w') (hB:B≤w.heap.size):RetNum w z (.returned (.agg #[.bool b,.slice A n c])) w' :=
 ⟨b,A,n,c,rfl,h.keep (hb.mono hB) (Nat.le_trans hB hb.size),hb⟩
def RetMade (w:World) (z:Int) (A:Option Addr) (y:Ending) (w':World):Prop:=∃ b n c,y=.returned (.agg #[.bool b,.slice A n c])∧NumV w' w'.heap.size b A n c z∧Below w.heap.size w w'
theorem RetMade.mk {w w':World} {B n c:Nat} {b:Bool} {A:Option Addr} {z:Int} (h:NumV w B b A n c z) (hb:Below w.heap.size w w') (hB:B≤w.heap.size):RetMade w z A (.returned (.agg #[.bool b,.slice A n c])) w' :=
 ⟨b,n,c,rfl,h.keep (hb.mono hB) (Nat.le_trans hB hb.size),hb⟩
set_option maxRecDepth 20000 in
set_option maxHeartbeats 4000000 in
theorem made_at (w:World) (B:Nat) (A:Option Addr) (c:Nat) (l:List Nat) (b:Bool) (hR:Rd w B 1 A l.length (i64n l)) (hd:∀ d ∈ l,d<1000) (hc:l.length≤c) (hm:c≤maxLen) (hB:B≤w.heap.size) :
 Calls Tryz.prog 187 #[.bool b,.slice A l.length c] w fun y w'=>RetMade w (sgZ b (vd l)) A y w':=by
 have hn:=made_num b hR hd hc hm
 have ht:=tsz_le l
 have HN:=Lib.hid hn;have HR:=Lib.hid (hR.alloc hB (.cells #[.bool false,.slice none 0 0] 134))
 have hcc:=hm
 unfold maxLen at hcc
 clear hn hR hd
 generalize sgZ b (vd l)=z at *
 go_enter Tryz.func187,Tryz.ntmps187
 go_wp2
 go_loop [5] (fun i=>∃ m:Nat,m≤l.length∧i=.int .i64 (m:Int)∧Hid (tsz (l.take m)=tsz l)) (fun i=>(intOf i).toNat)
 case atStart=>exact ⟨l.length,Nat.le_refl _,rfl,by rw [List.take_length];exact Lib.hid rfl⟩
 case round =>
  obtain ⟨m,hmm,rfl,HT⟩:=hrel
  cases m with
  | zero =>
    have hz:tsz l=0:=by have:=HT.out;rw [List.take_zero] at this;rw [← this];rfl
    have hn:=HN.out
    rw [hz] at hn
    simp only [show ((0:Nat):Int)=0 from rfl]
    clear HT hz HN
    cases b <;>
    ·have HN:=Lib.hid hn
     clear hn
     go_wp2
     exact bodyPost_ret (v:=.agg #[.bool false,.slice A 0 c]) (by simp [results,Tryz.results187,go_sem]) rfl (RetMade.mk HN.out (belA (belR w) _) hB)
  | succ m =>
    obtain ⟨a,rfl,hab,x0⟩:=HR.out.i64n (k:=m) (by omega)
    have htk:=tsz_take_dg l m (by omega)
    rw [HT.out] at htk
    have q1:(0:Int)≤(m:Int):=by omega
    have q2:(m:Int)<(l.length:Int):=by omega
    have e1:((m+1:Nat):Int)-1=(m:Int):=by omega
    have g1:decide ((0:Int)<((m+1:Nat):Int))=true:=decide_eq_true (by omega)
    have w1:IntKind.i64.wrap (m:Int)=(m:Int):=IntWalk.i64_in _ (by omega)
    generalize dg l m=x at *
    by_cases hx:x=0
    ·subst hx
     rw [if_pos rfl] at htk
     have HT2:=Lib.hid htk
     simp only [show ((0:Nat):Int)=0 from rfl] at x0
     clear htk
     go_wp2
     go_round
     case rel=>exact ⟨m,by omega,(by first|rfl|rw [w1]|go_num),HT2.out.symm⟩
     case measure=>first|(simp [intOf];done)|simp [intOf,w1]
    ·rw [if_neg hx] at htk
     have hn:=HN.out
     rw [htk,decide_eq_true (show 0<m+1 by omega)] at hn
     have t0:((x:Int)==0)=false:=by rw [beq_eq_false_iff_ne];omega
     have hle:((m+1:Nat):Int)≤(c:Int):=by omega
     clear htk hx HN
     cases b <;>
     ·have HN:=Lib.hid hn
      clear hn
      go_wp2
      exact bodyPost_ret (v:=.agg #[.bool _,.slice (some a) (m+1) c]) (by simp [results,Tryz.results187,go_sem]) rfl (RetMade.mk HN.out (belA (belR w) _) hB)
theorem made_any (w:World) (B:Nat) (A:Option Addr) (c:Nat) (l:List Nat) (b:Bool) (hR:Rd w B 1 A l.length (i64n l)) (hd:∀ d ∈ l,d<1000) (hc:l.length≤c) (hm:c≤maxLen) (hB:B≤w.heap.size) :
 Calls Tryz.prog 187 #[.bool b,.slice A l.length c] w fun y w'=>RetNum w (sgZ b (vd l)) y w' :=
 (made_at w B A c l b hR hd hc hm hB).mono fun y w' ⟨b',n,c',e,h1,h2⟩=>⟨b',A,n,c',e,h1,h2⟩
theorem digit_any (w:World) (B:Nat) (A:Option Addr) (c:Nat) (l:List Nat) (i:Nat) (hR:Rd w B 1 A l.length (i64n l)) (hi:i≤9223372036854775807) :
 Calls Tryz.prog 217 #[.slice A l.length c,.int .i64 (i:Int)] w fun y w'=>y=.returned (.int .i64 (dg l i:Int))∧w=w':=by
 by_cases h:i<l.length
 ·obtain ⟨a,rfl,hab,x0⟩:=hR.i64n h
  have q1:(0:Int)≤(i:Int):=by omega
  have q2:(i:Int)<(l.length:Int):=by omega
  clear hR
  generalize dg l i=x at *
  go_enter Tryz.func217,Tryz.ntmps217
  go_wp2
  go_ret
  exact ⟨rfl,rfl⟩
 ·rw [dg_far l i (by omega)]
  have q2:¬ (i:Int)<(l.length:Int):=by omega
  clear hR
  go_enter Tryz.func217,Tryz.ntmps217
  go_wp2
  go_ret
  exact ⟨rfl,rfl⟩
def cmpN (x y:Nat):Int:=if x<y then -1 else if y<x then 1 else 0
set_option maxRecDepth 20000 in
set_option maxHeartbeats 4000000 in
theorem less01_any (w:World) (B:Nat) (A A':Option Addr) (c c':Nat) (l l':List Nat) (hR:Rd w B 1 A l.length (i64n l)) (hR':Rd w B 1 A' l'.length (i64n l')) (hd:∀ d ∈ l,d<1000) (hd':∀ d ∈ l',d<1000) (hn:l.length≤maxLen) (hn':l'.length≤maxLen) :
 Calls Tryz.prog 209 #[.slice A l.length c,.slice A' l'.length c'] w fun y w'=>y=.returned (.int .i64 (cmpN (vd l) (vd l')))∧w=w':=by
 unfold maxLen at hn hn'
 have HD:=Lib.hid (fun i (hi:i≤9223372036854775807)=>digit_any w B A c l i hR hi)
 have HD':=Lib.hid (fun i (hi:i≤9223372036854775807)=>digit_any w B A' c' l' i hR' hi)
 have HL:=Lib.hid (fun i h1 h2=>vd_less (i:=i) hd hd' h1 h2)
 have HG:=Lib.hid (fun i h1 h2=>vd_less (i:=i) hd' hd h1 h2)
 clear hR hR' hd hd'
 have hmx:∃ m:Nat,max l.length l'.length=m∧l.length≤m∧l'.length≤m∧m≤9223372036854775807:=⟨_,rfl,by omega,by omega,by omega⟩
 obtain ⟨m,hm,hm1,hm2,hm3⟩:=hmx
 have e1:(max (l.length:Int) (l'.length:Int))=(m:Int):=by omega
 have e2:IntKind.i64.wrap ((m:Int)-1)=(m:Int)-1:=IntWalk.i64_in _ (by omega)
 clear hm
 go_enter Tryz.func209,Tryz.ntmps209
 go_wp2
 all_goals
  go_loop [5] (fun i=>∃ k:Nat,k≤m∧i=.int .i64 ((k:Int)-1)∧Hid (vd (l.drop k)=vd (l'.drop k))) (fun i=>(intOf i+1).toNat)
  case atStart=>first|exact ⟨l'.length,hm2,rfl,Lib.hid (by rw [vd_drop_far l _ (by omega),vd_drop_far l' _ (by omega)])⟩|exact ⟨l.length,hm1,rfl,Lib.hid (by rw [vd_drop_far l _ (by omega),vd_drop_far l' _ (by omega)])⟩
  case round =>
   obtain ⟨k,hk,rfl,HE⟩:=hrel
   cases k with
   | zero =>
     have he:=HE.out
     rw [List.drop_zero,List.drop_zero] at he
     have hc:cmpN (vd l) (vd l')=0:=by unfold cmpN;rw [if_neg (by omega),if_neg (by omega)]
     have HC:=Lib.hid hc
     simp only [show ((0:Nat):Int)-1=-1 from rfl]
     clear he hc
     go_wp2
     go_ret
     exact ⟨by rw [HC.out] <;> rfl,rfl⟩
   | succ k =>
     have hl:=HL.out k HE.out
     have hg:=HG.out k HE.out.symm
     have v1:=vd_drop l k
     have v2:=vd_drop l' k
     rw [HE.out] at v1
     have hdk:=HD.out k (by omega)
     have hdk':=HD'.out k (by omega)
     have e3:((k+1:Nat):Int)-1=(k:Int):=by omega
     have q1:(0:Int)≤(k:Int):=by omega
     rw [e3]
     generalize dg l k=x at *
     generalize dg l' k=x' at *
     rcases Nat.lt_trichotomy x x' with h|h|h
     ·have hc:cmpN (vd l) (vd l')=-1:=by unfold cmpN;rw [if_pos (hl h)]
      have t1:((x:Int) != (x':Int))=true:=by rw [bne_iff_ne];omega
      have t2:decide ((x:Int)<(x':Int))=true:=decide_eq_true (by omega)
      have t2n:decide (x<x')=true:=decide_eq_true (by omega)
      have HC:=Lib.hid hc;have HDK:=Lib.hid hdk;have HDK':=Lib.hid hdk'
      clear hc hl hg v1 v2 hdk hdk' h e3
      go_wp2_with (first|(go_at_call 217;(with_reducible refine HDK.out.mono ?_);rintro y w1 ⟨rfl,rfl⟩)|(go_at_call 217;(with_reducible refine HDK'.out.mono ?_);rintro y w1 ⟨rfl,rfl⟩))
      go_ret
      exact ⟨by rw [HC.out] <;> rfl,rfl⟩
     ·subst h
      have t1:((x:Int) != (x:Int))=false:=by simp
      have HE2:Hid (vd (l.drop k)=vd (l'.drop k)):=Lib.hid (by omega)
      have HDK:=Lib.hid hdk;have HDK':=Lib.hid hdk'
      clear hl hg v1 v2 hdk hdk' e3
      go_wp2_with (first|(go_at_call 217;(with_reducible refine HDK.out.mono ?_);rintro y w1 ⟨rfl,rfl⟩)|(go_at_call 217;(with_reducible refine HDK'.out.mono ?_);rintro y w1 ⟨rfl,rfl⟩))
      go_round
      case rel=>exact ⟨k,by omega,rfl,HE2⟩
      case measure=>first|(simp [intOf];done)|(simp [intOf];omega)
     ·have hc:cmpN (vd l) (vd l')=1:=by unfold cmpN;rw [if_neg (by have:=hg h;omega),if_pos (hg h)]
      have t1:((x:Int) != (x':Int))=true:=by rw [bne_iff_ne];omega
      have t2:decide ((x:Int)<(x':Int))=false:=decide_eq_false (by omega)
      have t2n:decide (x<x')=false:=decide_eq_false (by omega)
      have HC:=Lib.hid hc;have HDK:=Lib.hid hdk;have HDK':=Lib.hid hdk'
      clear hc hl hg v1 v2 hdk hdk' h e3
      go_wp2_with (first|(go_at_call 217;(with_reducible refine HDK.out.mono ?_);rintro y w1 ⟨rfl,rfl⟩)|(go_at_call 217;(with_reducible refine HDK'.out.mono ?_);rintro y w1 ⟨rfl,rfl⟩))
      go_ret
      exact ⟨by rw [HC.out] <;> rfl,rfl⟩
def RetDig (w:World) (P:List Nat→Prop) (y:Ending) (w':World):Prop:=∃ A c L,y=.returned (.slice A L.length c)∧w'.ownsRow w.heap.size 3 1 (.slice A L.length c) L.length (i64n L)∧L.length≤c∧c≤maxLen∧P L∧Below w.heap.size w w'
theorem RetDig.mk {w w':World} {P:List Nat→Prop} {L:List Nat} {v:Value} (ho:w'.ownsRow w.heap.size 3 1 v L.length (i64n L)) (hP:P L) (hb:Below w.heap.size w w'):RetDig w P (.returned v) w':=by
 obtain ⟨A,c,rfl,h1,h2,_⟩:=own_form ho
 exact ⟨A,c,L,rfl,ho,h1,h2,hP,hb⟩
def SumB (l l' L:List Nat):Prop:=vd L=vd l+vd l'∧(∀ d ∈ L,d<1000)∧L.length=max l.length l'.length+1
set_option maxRecDepth 20000 in
set_option maxHeartbeats 8000000 in
theorem sum01_any (w:World) (B:Nat) (A A':Option Addr) (c c':Nat) (l l':List Nat) (hR:Rd w B 1 A l.length (i64n l)) (hR':Rd w B 1 A' l'.length (i64n l')) (hd:∀ d ∈ l,d<1000) (hd':∀ d ∈ l',d<1000) (hn:l.length≤1000000) (hn':l'.length≤1000000) (hB:B≤w.heap.size) :
 Calls Tryz.prog 208 #[.slice A l.length c,.slice A' l'.length c'] w fun y w'=>RetDig w (SumB l l') y w':=by
 have HD:=Lib.hid (fun W i (hW:Below w.heap.size w W) (hi:i≤9223372036854775807)=>digit_any W B A c l i (hR.below (hW.mono hB)) hi)
 have HD':=Lib.hid (fun W i (hW:Below w.heap.size w W) (hi:i≤9223372036854775807)=>digit_any W B A' c' l' i (hR'.below (hW.mono hB)) hi)
 have HS:=Lib.hid (fun out i carry (h:SumR l l' out i carry)=>h.succ hd hd')
 have HLT:=Lib.hid (fun i=>(⟨dg_lt l i hd,dg_lt l' i hd'⟩:dg l i<1000∧dg l' i<1000))
 have HN:=Lib.hid (World.ownsRow_nil w w.heap.size 3 1)
 clear hR hR' hd hd'
 rcases Nat.lt_or_ge l.length l'.length with hx|hx
 all_goals
  try replace hx:¬ l.length<l'.length:=by omega
  obtain ⟨m,hm1,hm2,hm3,hm4⟩:∃ m:Nat,l.length≤m∧l'.length≤m∧m≤1000000∧(∀ i:Nat,i<m↔i<max l.length l'.length):=⟨max l.length l'.length,by omega,by omega,by omega,fun _=>Iff.rfl⟩
  have HM:Hid (max l.length l'.length=m):=Lib.hid (by have h1:=hm4 m;have h2:=hm4 (max l.length l'.length);omega)
  clear hm4
  go_enter Tryz.func208,Tryz.ntmps208
  go_wp2
  go_loopw [5,6,7] (fun vo vc vi wr=>∃ (i carry:Nat) (out:List Nat),i≤m∧vi=.int .i64 (i:Int)∧vc=.int .i64 (carry:Int)∧carry≤1∧Hid (SumR l l' out i carry)∧Hid (wr.ownsRow w.heap.size 3 1 vo i (i64n out))∧Hid (Below w.heap.size w wr)) (fun _ _ vi _=>m-(intOf vi).toNat)
  case atStart=>exact ⟨0,0,[],by omega,rfl,rfl,by omega,SumR.zero l l',HN.out,belR w⟩
  case round =>
   obtain ⟨i,carry,out,hi,rfl,rfl,hcar,HR,HO,HB⟩:=hrel
   have hlen:=HR.out.1
   by_cases hlt:i<m
   ·obtain ⟨A5,c5,rfl,hc5,hc5m,_⟩:=own_form HO.out
    have hs:=HS.out _ _ _ HR.out
    have hdi:=HD.out wr i HB.out (by omega)
    have hdi':=HD'.out wr i HB.out (by omega)
    have hlt2:=HLT.out i
    have gm:i<l.length∨i<l'.length:=by have:=HM.out;omega
    have gmx:(¬ l.length<l'.length→i<l.length)∧(l.length<l'.length→i<l'.length):=by omega
    generalize dg l i=x at *
    generalize dg l' i=x' at *
    obtain ⟨s,hs1⟩:∃ s,x+x'+carry=s:=⟨_,rfl⟩
    rw [hs1] at hs
    obtain ⟨b1,b2⟩:=hlt2
    have HE1:Hid (((x:Int)+x'+carry)%1000=((s%1000:Nat):Int)):=Lib.hid (by omega)
    have HE2:Hid (((x:Int)+x'+carry)/1000=((s/1000:Nat):Int)):=Lib.hid (by omega)
    have a5:s/1000≤1:=by omega
    obtain ⟨g1,g2⟩:=gmx
    have HSS:=Lib.hid hs;have HDI:=Lib.hid hdi;have HDI':=Lib.hid hdi'
    first
    | (have g3:=g1 hx;have q1:(i:Int)<(l.length:Int):=(by omega);clear g3)
    | (have g3:=g2 hx;have q1:(i:Int)<(l'.length:Int):=(by omega);clear g3)
    clear hs hdi hdi' g1 g2 hs1 gm
    go_wp2_with (first
     | (go_at_call 217;(with_reducible refine HDI.out.mono ?_);rintro y w1 ⟨rfl,rfl⟩)
     | (go_at_call 217;(with_reducible refine HDI'.out.mono ?_);rintro y w1 ⟨rfl,rfl⟩)
     | (at_builtin;refine wpList_app1 wr (.int .i64 (((x:Int)+x'+carry)%1000)) rfl rfl _ _ 82 rfl w.heap.size 3 _ 8 info_i64n rfl Tryz.underlying82 (.slice A5 i c5) i (i64n out) HO.out (by rfl) (by rfl) ?_ ?_ ?_ ?_;omega;omega;exact HB.out.size;intro v6 w6 ho6 hap6;have HO6:=Lib.hid ho6;have HB6:=Lib.hid (HB.out.trans (hap6.below HB.out.size HO.out));clear ho6 hap6))
    go_roundw
    case rel=>exact ⟨i+1,s/1000,out ++ [s%1000],by omega,by go_num,by rw [HE2.out],a5,HSS.out,by have h:=HO6.out;rw [HE1.out] at h;rw [i64n_app];exact h,HB6.out⟩
    case measure=>simp [intOf];omega
   ·obtain rfl:i=m:=by omega
    obtain ⟨A5,c5,rfl,hc5,hc5m,_⟩:=own_form HO.out
    obtain ⟨he1,he2⟩:=HR.out.end_ hm1 hm2
    have HF:Hid (SumB l l' (out ++ [carry])):=Lib.hid ⟨he1,he2,by rw [List.length_append,hlen,List.length_singleton,HM.out]⟩
    have gmx:(¬ l.length<l'.length→l.length=i)∧(l.length<l'.length→l'.length=i):=by have:=HM.out;omega
    obtain ⟨g1,g2⟩:=gmx
    first
    | (have g3:=g1 hx;have q1:¬ (i:Int)<(l.length:Int):=(by omega);clear g3)
    | (have g3:=g2 hx;have q1:¬ (i:Int)<(l'.length:Int):=(by omega);clear g3)
    clear he1 he2 g1 g2
    go_wp2_with (at_builtin;refine wpList_app1 wr (.int .i64 ((carry:Nat):Int)) rfl rfl _ _ 82 rfl w.heap.size 3 _ 8 info_i64n rfl Tryz.underlying82 (.slice A5 i c5) i (i64n out) HO.out (by rfl) (by rfl) ?_ ?_ ?_ ?_;omega;omega;exact HB.out.size;intro v6 w6 ho6 hap6;have HO6:=Lib.hid ho6;have HB6:=Lib.hid (HB.out.trans (hap6.below HB.out.size HO.out));clear ho6 hap6)
    go_ret
    refine RetDig.mk (L:=out ++ [carry]) ?_ HF.out HB6.out
    have h:=HO6.out
    rw [i64n_app,List.length_append,hlen];exact h
def RestB (l l' L:List Nat):Prop:=vd L=vd l-vd l'∧(∀ d ∈ L,d<1000)∧L.length=l.length
set_option maxRecDepth 20000 in
set_option maxHeartbeats 8000000 in
theorem rest01_any (w:World) (B:Nat) (A A':Option Addr) (c c':Nat) (l l':List Nat) (hR:Rd w B 1 A l.length (i64n l)) (hR':Rd w B 1 A' l'.length (i64n l')) (hd:∀ d ∈ l,d<1000) (hd':∀ d ∈ l',d<1000) (hn:l.length≤1000000) (hn':l'.length≤1000000) (hB:B≤w.heap.size) (hle:vd l'≤vd l) :
 Calls Tryz.prog 210 #[.slice A l.length c,.slice A' l'.length c'] w fun y w'=>RetDig w (RestB l l') y w':=by
 have HD:=Lib.hid (fun W i (hW:Below w.heap.size w W) (hi:i≤9223372036854775807)=>digit_any W B A c l i (hR.below (hW.mono hB)) hi)
 have HD':=Lib.hid (fun W i (hW:Below w.heap.size w W) (hi:i≤9223372036854775807)=>digit_any W B A' c' l' i (hR'.below (hW.mono hB)) hi)
 have HLT:=Lib.hid (fun i=>(⟨dg_lt l i hd,dg_lt l' i hd'⟩:dg l i<1000∧dg l' i<1000))
 have HN:=Lib.hid (World.ownsRow_nil w w.heap.size 3 1)
 have HE:=Lib.hid hle
 clear hR hR' hd hd' hle
 go_enter Tryz.func210,Tryz.ntmps210
 go_wp2
 go_loopw [5,6,7] (fun vo vc vi wr=>∃ (i carry:Nat) (out:List Nat),i≤l.length∧vi=.int .i64 (i:Int)∧vc=.int .i64 (carry:Int)∧carry≤1∧Hid (RestR l l' out i carry)∧Hid (wr.ownsRow w.heap.size 3 1 vo i (i64n out))∧Hid (Below w.heap.size w wr)) (fun _ _ vi _=>l.length-(intOf vi).toNat)
 case atStart=>exact ⟨0,0,[],by omega,rfl,rfl,by omega,RestR.zero l l',HN.out,belR w⟩
 case round =>
  obtain ⟨i,carry,out,hi,rfl,rfl,hcar,HR,HO,HB⟩:=hrel
  have hlen:=HR.out.1
  by_cases hlt:i<l.length
  ·obtain ⟨A5,c5,rfl,hc5,hc5m,_⟩:=own_form HO.out
   have hdi:=HD.out wr i HB.out (by omega)
   have hdi':=HD'.out wr i HB.out (by omega)
   obtain ⟨b1,b2⟩:=HLT.out i
   have hst:=fun d cb (h1:d<1000) (h2:cb≤1) he=>RestR.step h1 h2 HR.out he (d:=d) (borrow':=cb)
   have q1:(i:Int)<(l.length:Int):=by omega
   generalize dg l i=x at *
   generalize dg l' i=x' at *
   by_cases hs:(x:Int)-x' - carry<0
   ·have t1:decide ((x:Int)-x' - carry<0)=true:=decide_eq_true hs
    obtain ⟨d,hd⟩:∃ d:Nat,(x:Int)-x' - carry+1000=d:=⟨((x:Int)-x' - carry+1000).toNat,by omega⟩
    have HS:=Lib.hid (hst d 1 (by omega) (by omega) (by omega));have HDI:=Lib.hid hdi;have HDI':=Lib.hid hdi';have HDD:=Lib.hid hd
    clear hst hdi hdi' hd
    go_wp2_with (first
     | (go_at_call 217;(with_reducible refine HDI.out.mono ?_);rintro y w1 ⟨rfl,rfl⟩)
     | (go_at_call 217;(with_reducible refine HDI'.out.mono ?_);rintro y w1 ⟨rfl,rfl⟩)
     | (at_builtin;refine wpList_app1 wr (.int .i64 ((x:Int)-x' - carry+1000)) rfl rfl _ _ 82 rfl w.heap.size 3 _ 8 info_i64n rfl Tryz.underlying82 (.slice A5 i c5) i (i64n out) HO.out (by rfl) (by rfl) ?_ ?_ ?_ ?_;omega;omega;exact HB.out.size;intro v6 w6 ho6 hap6;have HO6:=Lib.hid ho6;have HB6:=Lib.hid (HB.out.trans (hap6.below HB.out.size HO.out));clear ho6 hap6))
    go_roundw
    case rel=>exact ⟨i+1,1,out ++ [d],by omega,by go_num,rfl,by omega,HS.out,by have h:=HO6.out;rw [HDD.out] at h;rw [i64n_app];exact h,HB6.out⟩
    case measure=>simp [intOf];omega
   ·have t1:decide ((x:Int)-x' - carry<0)=false:=decide_eq_false hs
    obtain ⟨d,hd⟩:∃ d:Nat,(x:Int)-x' - carry=d:=⟨((x:Int)-x' - carry).toNat,by omega⟩
    have HS:=Lib.hid (hst d 0 (by omega) (by omega) (by omega));have HDI:=Lib.hid hdi;have HDI':=Lib.hid hdi';have HDD:=Lib.hid hd
    clear hst hdi hdi' hd
    go_wp2_with (first
     | (go_at_call 217;(with_reducible refine HDI.out.mono ?_);rintro y w1 ⟨rfl,rfl⟩)
     | (go_at_call 217;(with_reducible refine HDI'.out.mono ?_);rintro y w1 ⟨rfl,rfl⟩)
     | (at_builtin;refine wpList_app1 wr (.int .i64 ((x:Int)-x' - carry)) rfl rfl _ _ 82 rfl w.heap.size 3 _ 8 info_i64n rfl Tryz.underlying82 (.slice A5 i c5) i (i64n out) HO.out (by rfl) (by rfl) ?_ ?_ ?_ ?_;omega;omega;exact HB.out.size;intro v6 w6 ho6 hap6;have HO6:=Lib.hid ho6;have HB6:=Lib.hid (HB.out.trans (hap6.below HB.out.size HO.out));clear ho6 hap6))
    go_roundw
    case rel=>exact ⟨i+1,0,out ++ [d],by omega,by go_num,rfl,by omega,HS.out,by have h:=HO6.out;rw [HDD.out] at h;rw [i64n_app];exact h,HB6.out⟩
    case measure=>simp [intOf];omega
  ·obtain rfl:i=l.length:=by omega
   obtain ⟨he1,he2⟩:=RestR.end_ ⟨carry,HR.out⟩ HE.out
   have HF:Hid (RestB l l' out):=Lib.hid ⟨he1,he2,hlen⟩
   have q1:¬ (l.length:Int)<(l.length:Int):=by omega
   clear he1 he2
   go_wp2
   go_ret
   exact RetDig.mk (L:=out) (by rw [hlen];exact HO.out) HF.out HB.out
theorem own_set_low {w:World} {base n:Nat} {e:TypeId} {size:Nat} {v:Value} {xs:List Value} (h:w.ownsRow base e size v n xs) {p:Addr} (hp:p.block<base) (u:Value):(w.setCell p u).ownsRow base e size v n xs:=by
 have hg:w.grownBy (w.setCell p u) (some p.block):=⟨rfl,rfl,rfl,by simp,fun k _ hk=>Below.heap_setCell w p u k (fun e=>hk (by rw [e]))⟩
 refine h.kept hg ?_
 cases hv:v.ownBlock with
 | none=>exact .inl rfl
 | some k=>exact .inr fun q=>by injection q with q;have:=(h.lt k hv).1;omega
theorem dig_snoc_step (x:Nat) (h:x≠0) (pre:List Nat):(pre ++ [x%1000])++dig (x/1000)=pre++dig x:=by rw [dig_pos h];simp
set_option maxRecDepth 20000 in
set_option maxHeartbeats 4000000 in
theorem nat01_any (w:World) (x:Nat) (hx:x<18446744073709551616) :
 Calls Tryz.prog 114 #[.int .u64 (x:Int)] w fun y w'=>RetNum w (x:Int) y w':=by
 have hn:=World.ownsRow_nil (w.alloc (.cells #[.bool false,.slice none 0 0] 134)) (w.heap.size+1) 3 1
 have HN:=Lib.hid hn
 have hlen:(dig x).length≤64:=dig_len2 (k:=64) (by simpa using hx)
 clear hn
 go_enter Tryz.func114,Tryz.ntmps114
 go_wp2
 go_loopw [0,3] (fun vx vo wr=>∃ (z i:Nat) (pre:List Nat),z<18446744073709551616∧vx=.int .u64 (z:Int)∧Hid (pre++dig z=dig x)∧Hid (pre.length=i)∧Hid (wr.ownsRow (w.heap.size+1) 3 1 vo i (i64n pre))∧Hid (Below (w.heap.size+1) (w.alloc (.cells #[.bool false,.slice none 0 0] 134)) wr)) (fun vx _ _=>(intOf vx).toNat)
 case atStart=>exact ⟨x,0,[],hx,rfl,Lib.hid rfl,Lib.hid rfl,HN.out,Lib.hid (by have h:=belR (w.alloc (.cells #[.bool false,.slice none 0 0] 134));simpa using h)⟩
 case round =>
  obtain ⟨z,i,pre,hz,rfl,HP,HI,HO,HB⟩:=hrel
  obtain ⟨A5,c5,rfl,hc5,hc5m,_⟩:=own_form HO.out
  have hsz:w.heap.size+1≤wr.heap.size:=by have:=HB.out.size;simpa using this
  have hil:i≤64:=by have h1:=HP.out;have h2:=HI.out;have h3:=congrArg List.length h1;rw [List.length_append] at h3;omega
  by_cases h0:z=0
  ·subst h0
   have hp:=HP.out
   rw [dig_zero,List.append_nil] at hp
   have hk:=(Blk.new w 134 #[.bool false,.slice none 0 0]).below HB.out (by omega)
   have HK:=Lib.hid hk
   simp only [show ((0:Nat):Int)=0 from rfl]
   have hbw:Below w.heap.size w wr:=(belA (belR w) _).trans (HB.out.mono (by omega))
   have HBW:=Lib.hid hbw
   have hi2:=HI.out
   rw [hp] at hi2
   have hnum:∀ u1 u2,NumV ((wr.setCell ⟨w.heap.size,0,none⟩ u1).setCell ⟨w.heap.size,1,none⟩ u2) wr.heap.size false A5 i c5 (x:Int):=fun u1 u2=>⟨by simp,by rw [Int.natAbs_natCast];exact hi2.symm,by rw [Int.natAbs_natCast,← hp];have h:=Rd.own (own_set_low (own_set_low HO.out (p:=⟨w.heap.size,0,none⟩) (Nat.lt_succ_self _) u1) (p:=⟨w.heap.size,1,none⟩) (Nat.lt_succ_self _) u2);simpa using h,hc5,hc5m⟩
   have HNUM:=Lib.hid hnum
   have hcell0:=HK.out.cell 0;have hcell1:=HK.out.cell 1
   have hf0:=HK.out.frozen 0;have hf1:=HK.out.frozen 1
   simp at hcell0 hcell1
   clear hk hbw hp hi2 hnum
   go_wp2
   refine bodyPost_ret (v:=.agg #[.bool false,.slice A5 i c5]) (by simp [results,Tryz.results114,go_sem, *]) rfl ?_
   exact ⟨false,A5,i,c5,rfl,by have h:=HNUM.out (.bool false) (.slice A5 i c5);simpa using h,(HBW.out.setCell (Nat.le_refl _) _).setCell (Nat.le_refl _) _⟩
  ·have t1:decide ((0:Int)<(z:Int))=true:=decide_eq_true (by omega)
   have t1n:decide (0<z)=true:=decide_eq_true (by omega)
   have hst:=dig_snoc_step z h0 pre
   rw [HP.out] at hst
   have HST:=Lib.hid hst;have H0:=Lib.hid h0
   have wm:IntKind.i64.wrap ((z:Int)%1000)=(z:Int)%1000:=IntWalk.i64_in _ (by omega)
   clear hst h0
   go_wp2_with (at_builtin;refine wpList_app1 wr (.int .i64 ((z:Int)%1000)) rfl rfl _ _ 82 rfl (w.heap.size+1) 3 _ 8 info_i64n rfl Tryz.underlying82 (.slice A5 i c5) i (i64n pre) HO.out (by rfl) (by rfl) ?_ ?_ ?_ ?_;omega;omega;exact hsz;intro v6 w6 ho6 hap6;have HO6:=Lib.hid ho6;have HB6:=Lib.hid (HB.out.trans (hap6.below hsz HO.out));clear ho6 hap6)
   go_roundw
   case rel=>exact ⟨z/1000,i+1,pre ++ [z%1000],by omega,by go_num,HST.out,Lib.hid (by rw [List.length_append,HI.out];rfl),by have h:=HO6.out;rw [i64n_app];exact h,HB6.out⟩
   case measure=>have:=H0.out;simp [intOf];omega
end Go.Proofs.YtfhmaincnlaapaaGreat
