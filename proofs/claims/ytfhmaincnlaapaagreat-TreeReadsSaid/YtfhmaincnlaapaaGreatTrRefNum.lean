/- bushelref02.Num: words of 32 bits to a number. -/
import Derived.Test.YtfhmaincnlaapaaGreatTrCellGet
import Derived.Test.YtfhmaincnlaapaaGreatTrExactRead
import Derived.Test.YtfhmaincnlaapaaGreatTrNumFits
namespace Go.Proofs.YtfhmaincnlaapaaGreat
open Go.ChangeShapes Go.WideShapes Go.ChangeAt Go.RowKit
set_option linter.unusedVariables false
def vw:List Nat→Nat
 | []=>0
 | d::l=>d+4294967296*vw l
theorem vd_consW (d:Nat) (l:List Nat):vw (d::l)=d+4294967296*vw l:=rfl
theorem vd_appW (l m:List Nat):vw (l++m)=vw l+4294967296^l.length*vw m:=by
 induction l with
 | nil=>simp [vw]
 | cons d l ih =>
   rw [List.cons_append,vd_consW,vd_consW,ih,List.length_cons,Nat.pow_succ,Nat.mul_add,←Nat.mul_assoc,Nat.mul_comm 4294967296 (4294967296^l.length)]
   omega
theorem vd_ltW (l:List Nat) (h:∀ d∈l,d<4294967296):vw l<4294967296^l.length:=by
 induction l with
 | nil=>simp [vw]
 | cons d l ih =>
   unfold vw
   have h1:=h d (by simp)
   have h2:=ih (fun x hx=>h x (by simp [hx]))
   rw [List.length_cons,Nat.pow_succ]
   omega
theorem vd_powW (l:List Nat) (k:Nat):vw (List.replicate k 0++l)=4294967296^k*vw l:=by
 rw [vd_appW,List.length_replicate]
 have:vw (List.replicate k 0)=0:=by
  induction k with
  | zero=>rfl
  | succ k ih=>rw [List.replicate_succ];unfold vw;rw [ih]
 omega
theorem dg_ltW (l:List Nat) (j:Nat) (h:∀ d∈l,d<4294967296):dg l j<4294967296:=by
 rcases Nat.lt_or_ge j l.length with hj|hj
 ·rw [←dg_get l j hj];exact h _ (List.getElem_mem hj)
 ·rw [dg_far l j hj];decide
theorem vd_nilW:vw []=0:=rfl
theorem vd_dropW (l:List Nat) (i:Nat):vw (l.drop i)=dg l i+4294967296*vw (l.drop (i+1)):=by
 rcases Nat.lt_or_ge i l.length with hi|hi
 ·rw [List.drop_eq_getElem_cons hi,vd_consW,dg_get l i hi]
 ·rw [List.drop_eq_nil_of_le hi,List.drop_eq_nil_of_le (by omega),dg_far l i hi];rfl
theorem vd_drop_farW (l:List Nat) (i:Nat) (h:l.length≤i):vw (l.drop i)=0:=by rw [List.drop_eq_nil_of_le h];rfl
theorem vd_snocW (l:List Nat) (d:Nat):vw (l ++ [d])=vw l+4294967296^l.length*d:=by rw [vd_appW,vd_consW,vd_nilW];simp
def SumRW (a b out:List Nat) (i carry:Nat):Prop:=out.length=i∧carry≤1∧(∀ d∈out,d<4294967296)∧vw out+4294967296^i*(carry+vw (a.drop i)+vw (b.drop i))=vw a+vw b
theorem SumRW.zero (a b:List Nat):SumRW a b [] 0 0:=⟨rfl,by decide,fun d hd=>(by cases hd),by simp [vd_nilW]⟩
theorem SumRW.succ {a b out:List Nat} {i carry:Nat} (ha:∀ d∈a,d<4294967296) (hb:∀ d∈b,d<4294967296) (h:SumRW a b out i carry):SumRW a b (out ++ [(dg a i+dg b i+carry)%4294967296]) (i+1) ((dg a i+dg b i+carry)/4294967296):=by
 obtain ⟨h1,h2,h3,h4⟩:=h
 have x1:=dg_ltW a i ha
 have x2:=dg_ltW b i hb
 refine ⟨by simp [h1],by omega,fun d hd=>?_,?_⟩
 ·rcases List.mem_append.1 hd with hd|hd
  ·exact h3 d hd
  ·obtain rfl:=List.mem_singleton.1 hd;exact Nat.mod_lt _ (by decide)
 ·rw [vd_snocW,h1,←h4,vd_dropW a i,vd_dropW b i,Nat.pow_succ]
  generalize 4294967296^i=P
  generalize vw (a.drop (i+1))=x
  generalize vw (b.drop (i+1))=y
  obtain ⟨s,hs⟩:∃ s,dg a i+dg b i+carry=s:=⟨_,rfl⟩
  have e1:carry+(dg a i+4294967296*x)+(dg b i+4294967296*y)=s%4294967296+4294967296*(s/4294967296+x+y):=by omega
  rw [hs,e1,Nat.mul_add P (s%4294967296),Nat.mul_assoc P 4294967296,Nat.add_assoc]
theorem SumRW.end_ {a b out:List Nat} {i carry:Nat} (h:SumRW a b out i carry) (h1:a.length≤i) (h2:b.length≤i):vw (out ++ [carry])=vw a+vw b∧∀ d∈out ++ [carry],d<4294967296:=by
 obtain ⟨g1,g2,g3,g4⟩:=h
 rw [vd_drop_farW a i h1,vd_drop_farW b i h2] at g4
 refine ⟨by rw [vd_snocW,g1,←g4];simp,fun d hd=>?_⟩
 rcases List.mem_append.1 hd with hd|hd
 ·exact g3 d hd
 ·obtain rfl:=List.mem_singleton.1 hd;omega
def RestRW (a b out:List Nat) (i borrow:Nat):Prop:=out.length=i∧borrow≤1∧(∀ d∈out,d<4294967296)∧(vw out:Int)+(4294967296^i:Nat)*((vw (a.drop i):Int)-vw (b.drop i)-borrow)=(vw a:Int)-vw b
theorem RestRW.zero (a b:List Nat):RestRW a b [] 0 0:=⟨rfl,by decide,fun d hd=>(by cases hd),by simp [vd_nilW]⟩
theorem RestRW.step {a b out:List Nat} {i borrow d borrow':Nat} (hd:d<4294967296) (hb':borrow'≤1) (h:RestRW a b out i borrow) (he:(dg a i:Int)-dg b i-borrow=(d:Int)-4294967296*borrow'):RestRW a b (out ++ [d]) (i+1) borrow':=by
 obtain ⟨h1,h2,h3,h4⟩:=h
 refine ⟨by simp [h1],hb',fun x hx=>?_,?_⟩
 ·rcases List.mem_append.1 hx with hx|hx
  ·exact h3 x hx
  ·obtain rfl:=List.mem_singleton.1 hx;exact hd
 ·rw [vd_snocW,h1,←h4,vd_dropW a i,vd_dropW b i,Nat.pow_succ]
  generalize 4294967296^i=P
  generalize vw (a.drop (i+1))=x
  generalize vw (b.drop (i+1))=y
  have e1:((dg a i+4294967296*x:Nat):Int)-((dg b i+4294967296*y:Nat):Int)-borrow=d+4294967296*((x:Int)-y-borrow'):=by omega
  rw [e1,Int.mul_add]
  simp only [Int.natCast_add,Int.natCast_mul]
  rw [Int.mul_assoc (P:Int),Int.add_assoc]
  rfl
theorem RestRW.end_ {a b out:List Nat} (h:∃ borrow,RestRW a b out a.length borrow) (hle:vw b≤vw a):vw out=vw a-vw b∧∀ d∈out,d<4294967296:=by
 obtain ⟨borrow,g1,g2,g3,g4⟩:=h
 refine ⟨?_,g3⟩
 rw [vd_drop_farW a _ (Nat.le_refl _)] at g4
 have hlt:=vd_ltW out g3
 rw [g1] at hlt
 generalize 4294967296^a.length=P at *
 generalize hx:vw (b.drop a.length)=x at *
 have hz:x+borrow=0:=by
  rcases Nat.eq_zero_or_pos (x+borrow) with h0|h0
  ·exact h0
  ·exfalso
   have e:(P:Int)*((0:Nat)-(x:Int)-borrow)=-((P*(x+borrow):Nat):Int):=by push_cast;rw [show ((0:Int)-x-borrow)=-((x:Int)+borrow) from by omega,Int.mul_neg]
   rw [e] at g4
   have:P*1≤P*(x+borrow):=Nat.mul_le_mul_left _ h0
   omega
 obtain ⟨rfl,rfl⟩:x=0∧borrow=0:=by omega
 simp at g4
 omega
theorem vd_setW (l:List Nat) (j x:Nat) (h:j<l.length):vw (l.set j x)+4294967296^j*dg l j=vw l+4294967296^j*x:=by
 induction l generalizing j with
 | nil=>simp at h
 | cons d l ih =>
   cases j with
   | zero=>simp [vd_consW,dg];omega
   | succ j =>
     have:=ih j (by simpa using h)
     rw [List.set_cons_succ,vd_consW,vd_consW,Nat.pow_succ]
     have e:dg (d::l) (j+1)=dg l j:=by simp [dg]
     rw [e,Nat.mul_comm (4294967296^j) 4294967296,Nat.mul_assoc,Nat.mul_assoc]
     omega
theorem vd_replW (k:Nat):vw (List.replicate k 0)=0:=by have:=vd_powW [] k;simpa [vd_nilW] using this
def MulRW (a b out:List Nat) (i:Nat):Prop:=out.length=a.length+b.length+1∧(∀ d∈out,d<4294967296)∧(∀ j,i+b.length≤j→dg out j=0)∧vw out=vw (a.take i)*vw b
def MulIW (a b out:List Nat) (i k carry:Nat):Prop:=out.length=a.length+b.length+1∧(∀ d∈out,d<4294967296)∧(∀ j,i+b.length≤j→dg out j=0)∧carry<4294967296∧vw out+4294967296^(i+k)*carry=vw (a.take i)*vw b+4294967296^i*(dg a i*vw (b.take k))
theorem mem_set_ltW {l:List Nat} {j x:Nat} (h:∀ d∈l,d<4294967296) (hx:x<4294967296):∀ d∈l.set j x,d<4294967296:=fun d hd=>by
 rcases List.mem_or_eq_of_mem_set hd with hd|rfl
 ·exact h d hd
 ·exact hx
theorem vd_take_succW (l:List Nat) (k:Nat) (h:k<l.length):vw (l.take (k+1))=vw (l.take k)+4294967296^k*dg l k:=by
 rw [List.take_succ_eq_append_getElem h,vd_snocW,List.length_take,dg_get l k h,Nat.min_eq_left (by omega)]
theorem MulRW.zero (a b:List Nat):MulRW a b (List.replicate (a.length+b.length+1) 0) 0:=by
 refine ⟨by simp,fun d hd=>?_,fun j _=>?_,?_⟩
 ·have:=List.eq_of_mem_replicate hd;omega
 ·unfold dg List.getD;rw [List.getElem?_replicate];split<;>rfl
 ·rw [vd_replW];simp [vd_nilW]
theorem MulRW.start {a b out:List Nat} {i:Nat} (h:MulRW a b out i):MulIW a b out i 0 0:=⟨h.1,h.2.1,h.2.2.1,by decide,by rw [h.2.2.2];simp [vd_nilW]⟩
theorem prod_bdW {x y z c:Nat} (hx:x<4294967296) (hy:y<4294967296) (hz:z<4294967296) (hc:c<4294967296):z+x*y+c<18446744073709551616:=by
 have:x*y≤4294967295*4294967295:=Nat.mul_le_mul (by omega) (by omega)
 omega
theorem MulIW.succ {a b out:List Nat} {i k carry:Nat} (ha:∀ d∈a,d<4294967296) (hb:∀ d∈b,d<4294967296) (h:MulIW a b out i k carry) (hi:i<a.length) (hk:k<b.length) :
 MulIW a b (out.set (i+k) ((dg out (i+k)+dg a i*dg b k+carry)%4294967296)) i (k+1) ((dg out (i+k)+dg a i*dg b k+carry)/4294967296):=by
 obtain ⟨h1,h2,h3,h4,h5⟩:=h
 have x1:=dg_ltW a i ha
 have x2:=dg_ltW b k hb
 have x3:=dg_ltW out (i+k) h2
 have hbd:=prod_bdW x1 x2 x3 h4
 have hs:=vd_setW out (i+k) ((dg out (i+k)+dg a i*dg b k+carry)%4294967296) (by omega)
 refine ⟨by simp [h1],mem_set_ltW h2 (Nat.mod_lt _ (by decide)),fun j hj=>by rw [dg_set_ne _ _ _ _ (by omega)];exact h3 j hj,by omega,?_⟩
 rw [vd_take_succW b k hk,Nat.mul_add,Nat.mul_add,←Nat.add_assoc (vw (a.take i)*vw b),←h5,←Nat.add_assoc i k 1,Nat.pow_succ]
 generalize dg out (i+k)=o at *
 generalize dg a i=p at *
 generalize dg b k=q at *
 have e1:4294967296^i*(p*(4294967296^k*q))=4294967296^(i+k)*(p*q):=by rw [Nat.pow_add,←Nat.mul_assoc p,Nat.mul_comm p,Nat.mul_assoc (4294967296^k),←Nat.mul_assoc (4294967296^i)]
 rw [e1]
 generalize vw (out.set (i+k) ((o+p*q+carry)%4294967296))=V' at *
 generalize vw out=V at *
 generalize 4294967296^(i+k)=P at *
 obtain ⟨s,hss⟩:∃ s,o+p*q+carry=s:=⟨_,rfl⟩
 rw [hss] at hs ⊢
 have e2:P*s=P*o+P*(p*q)+P*carry:=by rw [←hss,Nat.mul_add,Nat.mul_add]
 have e3:P*s=P*(s%4294967296)+P*4294967296*(s/4294967296):=by
  rw [Nat.mul_assoc,←Nat.mul_add,Nat.mod_add_div]
 omega
theorem MulIW.end_ {a b out:List Nat} {i carry:Nat} (h:MulIW a b out i b.length carry) (hi:i<a.length):MulRW a b (out.set (i+b.length) carry) (i+1):=by
 obtain ⟨h1,h2,h3,h4,h5⟩:=h
 have hs:=vd_setW out (i+b.length) carry (by omega)
 have h0:=h3 (i+b.length) (Nat.le_refl _)
 refine ⟨by simp [h1],mem_set_ltW h2 h4,fun j hj=>by rw [dg_set_ne _ _ _ _ (by omega)];exact h3 j (by omega),?_⟩
 rw [h0,Nat.mul_zero,Nat.add_zero] at hs
 rw [hs,h5,vd_take_succW a i hi,List.take_length,Nat.add_mul,Nat.mul_assoc]
theorem MulRW.all {a b out:List Nat} (h:MulRW a b out a.length):vw out=vw a*vw b∧∀ d∈out,d<4294967296:=by
 obtain ⟨_,h2,_,h4⟩:=h
 rw [List.take_length] at h4
 exact ⟨h4,h2⟩
theorem ldiv_stepW {b r d:Nat} (hb:0<b) (hr:r<b) (hd:d<4294967296):(d+4294967296*r)/b<4294967296:=by
 rw [Nat.div_lt_iff_lt_mul hb]
 have:4294967296*r+4294967296≤4294967296*b:=by omega
 rw [Nat.mul_comm];omega
def DivRW (a q:List Nat) (b i r:Nat):Prop:=q.length=a.length∧(∀ d∈q,d<4294967296)∧(∀ j,j<i→dg q j=0)∧r<b∧vw (q.drop i)*b+r=vw (a.drop i)
theorem DivRW.start (a:List Nat) (b:Nat) (hb:0<b):DivRW a (List.replicate a.length 0) b a.length 0:=by
 refine ⟨by simp,fun d hd=>?_,fun j _=>?_,hb,?_⟩
 ·have:=List.eq_of_mem_replicate hd;omega
 ·unfold dg List.getD;rw [List.getElem?_replicate];split<;>rfl
 ·rw [vd_drop_farW _ _ (by simp),vd_drop_farW _ _ (Nat.le_refl _)];simp
theorem DivRW.step {a q:List Nat} {b i r:Nat} (ha:∀ d∈a,d<4294967296) (h:DivRW a q b (i+1) r) (hi:i<a.length):DivRW a (q.set i ((dg a i+4294967296*r)/b)) b i ((dg a i+4294967296*r)%b):=by
 obtain ⟨h1,h2,h3,h4,h5⟩:=h
 have hb:0<b:=by omega
 have hd:=ldiv_stepW hb h4 (dg_ltW a i ha)
 refine ⟨by simp [h1],mem_set_ltW h2 hd,fun j hj=>by rw [dg_set_ne _ _ _ _ (by omega)];exact h3 j (by omega),Nat.mod_lt _ hb,?_⟩
 rw [vd_dropW (q.set i _) i,vd_dropW a i,dg_set_self _ _ _ (by omega),drop_set_le,←h5,Nat.add_mul]
 have e:=Nat.div_add_mod (dg a i+4294967296*r) b
 rw [Nat.mul_comm b] at e
 rw [Nat.mul_add,←Nat.mul_assoc]
 generalize (dg a i+4294967296*r)/b*b=x at *
 generalize (dg a i+4294967296*r)%b=y at *
 generalize 4294967296*vw (List.drop (i+1) q)*b=z
 omega
theorem DivRW.less {a q:List Nat} {b i r:Nat} (ha:∀ d∈a,d<4294967296) (h:DivRW a q b (i+1) r) (hi:i<a.length) (hl:dg a i+4294967296*r<b):DivRW a q b i (dg a i+4294967296*r):=by
 have h':=h.step ha hi
 rw [Nat.div_eq_of_lt hl,Nat.mod_eq_of_lt hl,set_zero (h.2.2.1 i (by omega))] at h'
 exact h'
theorem DivRW.all {a q:List Nat} {b r:Nat} (h:DivRW a q b 0 r):vw q=vw a/b∧(∀ d∈q,d<4294967296):=by
 obtain ⟨_,h2,_,h4,h5⟩:=h
 refine ⟨?_,h2⟩
 rw [List.drop_zero,List.drop_zero] at h5
 rw [←h5,Nat.add_comm,Nat.add_mul_div_right _ _ (by omega),Nat.div_eq_of_lt h4];omega
theorem vw_bits (l:List Nat) (h:∀ d∈l,d<4294967296):vw l<2^(32*l.length):=by
 have:=vd_ltW l h
 rwa [Nat.pow_mul]
theorem mul_bits {x q:Nat} (h:x<2^q):x*4294967296<2^(q+32):=by
 rw [Nat.pow_add];exact Nat.mul_lt_mul_of_pos_right h (by decide)
theorem nat01_big (w:World):Calls Tryz.prog 114 #[.int .u64 4294967296] w fun y w'=>RetNum w ((4294967296:Nat):Int) y w':=nat01_any w 4294967296 (by decide)
theorem NumV.put {w:World} {g B n c n0 c0:Nat} {b b0:Bool} {A A0:Option Addr} {z:Int} (h:NumV w B b A n c z) (hk:Blk w g 134 #[.bool b0,.slice A0 n0 c0]) (hB:B≤w.heap.size) :
 NumV ((w.setCell ⟨g,0,none⟩ (.bool b)).setCell ⟨g,1,none⟩ (.slice A n c)) ((w.setCell ⟨g,0,none⟩ (.bool b)).setCell ⟨g,1,none⟩ (.slice A n c)).heap.size b A n c z∧Blk ((w.setCell ⟨g,0,none⟩ (.bool b)).setCell ⟨g,1,none⟩ (.slice A n c)) g 134 #[.bool b,.slice A n c]:=by
 have h1:=h.rd.farB hk (i64n_not_bool _ _ _ _ _) 0 (.bool b)
 have h2:=h1.farB (hk.set_ 0 (.bool b)) (i64n_not_bool _ _ _ _ _) 1 (.slice A n c)
 exact ⟨⟨h.sgn,h.len,h2.more (by simpa using hB),h.hc,h.hm⟩,(hk.set_ 0 (.bool b)).set_ 1 (.slice A n c)⟩
def NumRel (w wr:World) (z:Int):Prop:=∃ b A n c,Blk wr (w.heap.size+1) 134 #[.bool b,.slice A n c]∧Blk wr w.heap.size 134 #[.bool false,.slice none 0 0]∧NumV wr wr.heap.size b A n c z∧Below w.heap.size w wr
set_option maxRecDepth 20000 in
set_option maxHeartbeats 4000000 in
theorem num02_any (w:World) (B:Nat) (A:Option Addr) (c:Nat) (L:List Nat) (hR:Rd w B 1 A L.length (u32n L)) (hd:∀ d∈L,d<4294967296) (hn:L.length≤1000) (hB:B≤w.heap.size) :
 Calls Tryz.prog 137 #[.slice A L.length c] w fun y w'=>RetNum w ((vw L:Nat):Int) y w':=by
 have HR:=Lib.hid hR;have HD:=Lib.hid hd
 clear hR hd
 go_enter Tryz.func137,Tryz.ntmps137
 go_wp2
 go_loopg [4] L.length (fun g i wr=>∃ k:Nat,k≤L.length∧g=k∧i=.int .i64 ((k:Int)-1)∧NumRel w wr ((vw (L.drop k):Nat):Int))
 case atStart =>
  refine ⟨L.length,Nat.le_refl _,rfl,by go_num,?_⟩
  rw [List.drop_length]
  have K1:=Blk.new (w.alloc (.cells #[.bool false,.slice none 0 0] 134)) 134 #[.bool false,.slice none 0 0]
  rw [show (w.alloc (.cells #[.bool false,.slice none 0 0] 134)).heap.size=w.heap.size+1 from by simp] at K1
  exact ⟨false,none,0,0,K1,(Blk.new w 134 #[.bool false,.slice none 0 0]).alloc _,NumV.zero _ _,belA (belA (belR w) _) _⟩
 case round =>
  obtain ⟨_,hk,rfl,rfl,b,A1,n1,c1,hkk,hk0,hv,hb⟩:=hrel
  have x0:wr.cell? ⟨w.heap.size+1,0,none⟩=some (.bool b):=hkk.cell 0
  have x1:wr.cell? ⟨w.heap.size+1,1,none⟩=some (.slice A1 n1 c1):=hkk.cell 1
  cases gk with
  | zero =>
    rw [List.drop_zero] at hv
    have r0:wr.cell? ⟨w.heap.size,0,none⟩=some (.bool false):=hk0.cell 0;have r1:wr.cell? ⟨w.heap.size,1,none⟩=some (.slice none 0 0):=hk0.cell 1;have f0:wr.frozen? ⟨w.heap.size,0,none⟩=false:=hk0.frozen 0;have f1:wr.frozen? ⟨w.heap.size,1,none⟩=false:=hk0.frozen 1
    have HV:=Lib.hid hv;have HK:=Lib.hid hk0;have HB:=Lib.hid hb
    clear hv hk0 hb hkk
    simp only [show ((0:Nat):Int)-1=-1 from rfl]
    go_wp2
    exact bodyPost_ret (v:=.agg #[.bool b,.slice A1 n1 c1]) (by simp [results,Tryz.results137,go_sem, *]) rfl (RetNum.store HV.out HK.out HB.out (Nat.le_refl _) (Nat.le_refl _))
  | succ k =>
    obtain ⟨a,rfl,hab,xx⟩:=(HR.out.below (hb.mono hB)).u32n (k:=k) (by omega)
    have x2:wr.cell? (a.add k)=some (.int .u32 ((dg L k:Nat):Int)):=xx
    clear xx
    have hdk:=dg_ltW L k HD.out
    have hv1:=vd_dropW L k
    have hbt:=vw_bits (L.drop (k+1)) (fun d h=>HD.out d (List.mem_of_mem_drop h))
    rw [List.length_drop] at hbt
    have hmt:=mul_bits hbt
    obtain ⟨V,hV⟩:∃ V,vw (L.drop (k+1))=V:=⟨_,rfl⟩
    rw [hV] at hv hv1 hbt hmt
    obtain ⟨D,hD⟩:∃ D,dg L k=D:=⟨_,rfl⟩
    rw [hD] at x2 hdk hv1
    have hn1:n1≤1000000:=by have:=hv.len_le (k:=32*(L.length-(k+1))) (by rw [Int.natAbs_natCast];exact hbt);omega
    have wD:IntKind.u64.wrap (D:Int)=(D:Int):=by rw [IntKind.wrap_u64];omega
    have e3:((k+1:Nat):Int)-1=(k:Int):=by omega
    have q1:(0:Int)≤(k:Int):=by omega
    have q2:(k:Int)<(L.length:Int):=by omega
    have HBIG:=Lib.hid (fun W=>nat01_big W)
    have HND:=Lib.hid (fun W=>nat01_any W D (by omega))
    have HK:=Lib.hid hkk.drew;have HK0:=Lib.hid hk0.drew;have HV:=Lib.hid (hv.keep (belR wr).drew (Nat.le_refl _));have HB:=Lib.hid hb;have HV1:=Lib.hid hv1;have HMT:=Lib.hid hmt
    have hlt:=hkk.lt
    rw [e3]
    clear hkk hk0 hv hb hv1 hbt hmt hV hD e3 HR HD
    go_wp2_with fail
    go_region_with (first
     | (go_at_call 114;(with_reducible refine (HBIG.out _).mono ?_);rintro y w1 ⟨b2,A2,n2,c2,rfl,hv2,hb2⟩;have K1:=HK.out.below hb2 hlt;have y0:w1.cell? ⟨w.heap.size+1,0,none⟩=some (.bool b):=K1.cell 0;have y1:w1.cell? ⟨w.heap.size+1,1,none⟩=some (.slice A1 n1 c1):=K1.cell 1;have y2:=(hb2.cell (p:=a.add k) (by rw [block_add];exact Nat.lt_of_lt_of_le hab (by show B≤wr.heap.size;omega))).trans x2;have HM:=Lib.hid (mul01_any w1 w1.heap.size b A1 n1 c1 _ b2 A2 n2 c2 _ (HV.out.keep hb2 hb2.size) hv2 (Nat.le_refl _) hn1 (by have:=hv2.len_le (k:=33) (by decide);omega));have HB2:=Lib.hid hb2;have HK1:=Lib.hid K1;clear hv2 hb2 K1)
     | (go_at_call 186;(with_reducible refine HM.out.mono ?_);rintro y w2 ⟨b3,A3,n3,c3,rfl,hv3,hb3⟩;have z2:=(hb3.cell (p:=a.add k) (by have:=HB2.out.size;rw [block_add];exact Nat.lt_of_lt_of_le hab (by have:wr.drew.heap.size=wr.heap.size:=rfl;omega))).trans y2;have HV3:=Lib.hid hv3;have HB3:=Lib.hid (HB2.out.trans (hb3.mono HB2.out.size));clear hv3 hb3)
     | (go_at_call 114;(with_reducible refine (HND.out _).mono ?_);rintro y w3 ⟨b4,A4,n4,c4,rfl,hv4,hb4⟩;have HA:=Lib.hid (add01_any w3 w3.heap.size b3 A3 n3 c3 _ b4 A4 n4 c4 _ (HV3.out.keep hb4 hb4.size) hv4 (Nat.le_refl _) (by have:=HV3.out.len_le (by rw [←Int.natCast_mul,Int.natAbs_natCast];exact HMT.out);omega) (by have:=hv4.len_le (k:=64) (by rw [Int.natAbs_natCast];omega);omega));have HB4:=Lib.hid (HB3.out.trans (hb4.mono HB3.out.size));clear hv4 hb4)
     | (go_at_call 185;(with_reducible refine HA.out.mono ?_);rintro y w4 ⟨b5,A5,n5,c5,rfl,hv5,hb5⟩;have hb6:=HB4.out.trans (hb5.mono HB4.out.size);have hk6:=HK.out.below hb6 hlt;have hk7:=HK0.out.below hb6 (by have:wr.drew.heap.size=wr.heap.size:=rfl;omega);have g0:w4.frozen? ⟨w.heap.size+1,0,none⟩=false:=hk6.frozen 0;have g1:w4.frozen? ⟨w.heap.size+1,1,none⟩=false:=hk6.frozen 1;have t0:w4.cell? ⟨w.heap.size+1,0,none⟩=some (.bool b):=hk6.cell 0;have t1:w4.cell? ⟨w.heap.size+1,1,none⟩=some (.slice A1 n1 c1):=hk6.cell 1;have HV5:=Lib.hid hv5;have HK6:=Lib.hid hk6;have HK7:=Lib.hid hk7;have HB6:=Lib.hid ((belD HB.out 1).trans (hb6.mono (by have:wr.drew.heap.size=wr.heap.size:=rfl;have:=HB.out.size;omega)));clear hv5 hb6 hk6 hk7 hb5))
    all_goals
     have hz:(V:Int)*((4294967296:Nat):Int)+(D:Int)=((vw (L.drop k):Nat):Int):=by rw [HV1.out];omega
     have hp:=(hz▸HV5.out).put HK6.out (Nat.le_refl _)
     have hk9:=(HK7.out.far (p:=⟨w.heap.size+1,0,none⟩) (by simp only [ne_eq];omega) (.bool b5)).far (p:=⟨w.heap.size+1,1,none⟩) (by simp only [ne_eq];omega) (.slice A5 n5 c5)
     have hb9:=(HB6.out.setCell (p:=⟨w.heap.size+1,0,none⟩) (Nat.le_succ _) (.bool b5)).setCell (p:=⟨w.heap.size+1,1,none⟩) (Nat.le_succ _) (.slice A5 n5 c5)
     have HP:=Lib.hid hp;have HK9:=Lib.hid hk9;have HB9:=Lib.hid hb9
     clear hz hp hk9 hb9
     go_wp2
     go_roundg k
     case measure=>omega
     case rel=>exact ⟨k,by omega,rfl,by go_num,b5,A5,n5,c5,HP.out.2,HK9.out,HP.out.1,HB9.out⟩
end Go.Proofs.YtfhmaincnlaapaaGreat
