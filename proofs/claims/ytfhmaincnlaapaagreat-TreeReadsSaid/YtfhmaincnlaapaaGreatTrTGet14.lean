/- bushelref14.Read and Get on trees. -/
import Derived.Test.YtfhmaincnlaapaaGreatTrVcs
import Derived.Test.YtfhmaincnlaapaaGreatTrFnSch
import Derived.Test.YtfhmaincnlaapaaGreatTrTRight
namespace Go.Proofs.YtfhmaincnlaapaaGreat.Sy
open Go.ChangeShapes Go.WideShapes Go.ChangeAt Go.RowKit
set_option linter.unusedVariables false
set_option linter.unusedSimpArgs false
theorem LoopOk.freeze {P:Program} {c:Code} {σ σ':AS} {e:Exit} (h:LoopOk P c σ e σ') (q:Nat):LoopOk P c σ e (Sy.freeze q σ'):=fun M w0 a w Q hs k=>h M w0 a w Q hs fun a' w' h'=>k a' w' (h'.freeze q)
theorem LoopOk.weak {P:Program} {c:Code} {σ σ1 σ':AS} {e:Exit} (h:LoopOk P c σ e σ1) (hn:σ'.nt=σ1.nt) (hp:σ'.pk=σ1.pk) (hb:wkB σ'=true) (hS:allP (wkVc σ1 σ'.S)) (hO:allP (wkVcO σ1 σ'.O)):LoopOk P c σ e σ':=fun M w0 a w Q hs k=>h M w0 a w Q hs fun a' w' h'=>k a' w' (h'.weaken hn hp hb hS hO)
def boxO (q:Nat) (sc:ScD):Nat×AObj:=(q,.cells 26 sc.l)
def clO (q:Nat) (cs:List AV):Nat×AObj:=(q,.cells 53 cs)
def whO (q:Nat) (cs:List AV):Nat×AObj:=(q,.cells 122 cs)
def rowW5 (q n:Nat) (cs:List AV):Nat×AObj:=(q,.row 122 5 n 0 cs)
def rowR3 (q n:Nat) (cs:List AV):Nat×AObj:=(q,.row 60 3 n 0 cs)
def rowU (q n:Nat) (cs:List AV):Nat×AObj:=(q,.row 39 1 n 0 cs)
def nilS:AV:=.v (.slice none 0 0)
def zC:List AV:=[uz 0,iz 0,nilS,nilS]
def whI (sc:ScD) (t:List UInt8) (K:Nat) (N:Int) (c:List WholeS×Nat×Nat) (i:Nat):AS:=⟨[(1,.ptr 1000 0),(2,.ptr 2 0),(4,.ptr 4 0),(5,.ptr 5 0),(6,iz (i:Nat))],[rdrO 1000 t c.2.1 c.2.2,boxO 2 sc,clO 4 zC,clO 5 [uz (K:Nat),iz N,.row 57 0,nilS],rowW5 57 i (c.1.flatMap encWh)],85,[1000]⟩
def whE (sc:ScD) (t:List UInt8) (K:Nat) (N:Int) (c:List WholeS×Nat×Nat) (n:Nat):AS:=⟨[(1,.ptr 1000 0),(2,.ptr 2 0),(4,.ptr 4 0),(5,.ptr 5 0)],[rdrO 1000 t c.2.1 c.2.2,boxO 2 sc,clO 4 zC,clO 5 [uz (K:Nat),iz N,.row 57 0,nilS],rowW5 57 n (c.1.flatMap encWh)],85,[1000]⟩
def reI (sc:ScD) (t:List UInt8) (K:Nat) (N:Int) (W:List WholeS) (n:Nat) (c:List RealS×Nat×Nat) (i:Nat):AS:=⟨[(1,.ptr 1000 0),(2,.ptr 2 0),(4,.ptr 4 0),(5,.ptr 5 0),(10,iz (i:Nat))],[rdrO 1000 t c.2.1 c.2.2,boxO 2 sc,clO 4 zC,clO 5 [uz (K:Nat),iz N,.row 57 0,.row 82 0],rowW5 57 n (W.flatMap encWh),rowR3 82 i (c.1.flatMap encReK)],85,[1000]⟩
def reE (sc:ScD) (t:List UInt8) (K:Nat) (N:Int) (W:List WholeS) (n:Nat) (c:List RealS×Nat×Nat) (m:Nat):AS:=⟨[(1,.ptr 1000 0),(2,.ptr 2 0),(4,.ptr 4 0),(5,.ptr 5 0)],[rdrO 1000 t c.2.1 c.2.2,boxO 2 sc,clO 4 zC,clO 5 [uz (K:Nat),iz N,.row 57 0,.row 82 0],rowW5 57 n (W.flatMap encWh),rowR3 82 m (c.1.flatMap encReK)],85,[1000]⟩
def sqO (sc:ScD) (t:List UInt8) (K:Nat) (N:Int) (i:Nat) (W:List WholeS) (p e:Nat) (x:List AV):List (Nat×AObj):=[rdrO 1000 t p e,boxO 2 sc,clO 4 zC,clO 5 [uz (K:Nat),iz N,.row 57 0,nilS],rowW5 57 i (W.flatMap encWh),whO 7 x]
def sqS (i:Nat):List (Nat×AV):=[(1,.ptr 1000 0),(2,.ptr 2 0),(4,.ptr 4 0),(5,.ptr 5 0),(6,iz (i:Nat)),(7,.ptr 7 0)]
def sqI (sc:ScD) (t:List UInt8) (K:Nat) (N:Int) (i:Nat) (W:List WholeS) (a b:Int) (n:Nat) (c:List Nat×Nat×Nat) (k:Nat):AS:=⟨(8,iz (n:Nat))::(9,iz (k:Nat))::sqS i,rowU 45 k (c.1.flatMap encU32n)::sqO sc t K N i W c.2.1 c.2.2 [iz a,iz b,.row 45 0,iz 0,iz 0],85,[1000]⟩
def sqM (sc:ScD) (t:List UInt8) (K:Nat) (N:Int) (i:Nat) (W:List WholeS) (a b:Int) (n:Nat) (c:List Nat×Nat×Nat):AS:=⟨sqS i,rowU 45 n (c.1.flatMap encU32n)::sqO sc t K N i W c.2.1 c.2.2 [iz a,iz b,.row 45 0,iz 0,iz 0],85,[1000]⟩
def sqE (sc:ScD) (t:List UInt8) (K:Nat) (N:Int) (i:Nat) (W:List WholeS) (a b:Int) (n:Nat) (c:List Nat×Nat×Nat):AS:=⟨sqS i,sqO sc t K N i W c.2.1 c.2.2 [iz a,iz b,.lst n (c.1.flatMap encU32n),iz 0,iz 0],85,[1000]⟩
theorem flat_u8 (l:List UInt8):l.flatMap encU8=byL l:=by
 induction l with
 | nil=>rfl
 | cons x l ih=>rw [List.flatMap_cons,ih];rfl
theorem reK_len (l:List RealS):(l.flatMap encReK).length=l.length*3:=by
 induction l with
 | nil=>rfl
 | cons x l ih=>rw [List.flatMap_cons,List.length_append,ih,List.length_cons,Nat.succ_mul];show 3+_=_;omega
section
variable {S:Sch} {sc:ScD} {t:List UInt8} (ht:t.length≤1000000) (K:Nat) (N:Int)
include ht
theorem sq_loop (i:Nat) (W:List WholeS) (a b:Int) (n:Nat) (hn:n≤7) {p0 e0:Nat} (hp:p0≤t.length) {c:List Nat×Nat×Nat} (hc:runN (sqF t) p0 e0 n=c):LoopOk Tryz.prog (loopBody Tryz.f92 10) (sqI sc t K N i W a b n ([],p0,e0) 0) (.exit 2) (sqE sc t K N i W a b n c):=by
 have h:LoopOk Tryz.prog (loopBody Tryz.f92 10) (sqI sc t K N i W a b n ([],p0,e0) 0) (.exit 2) (sqM sc t K N i W a b n c):=by
  refine LoopOk.of hmo (fun x:{x:Nat×List Nat×Nat×Nat // x.1≤n∧runN (sqF t) p0 e0 x.1=x.2}=>sqI sc t K N i W a b n x.1.2 x.1.1) (fun x=>n-x.1.1) (fun x=>?_) ⟨(0,[],p0,e0),Nat.zero_le _,rfl⟩
  obtain ⟨⟨k,Q,p,e⟩,hk,hx⟩:=x
  simp only at hk hx
  have hl:(runN (sqF t) p0 e0 k).1.length=k:=runN_len (fun _ _ _=>rfl) _ _ _
  have hp':(runN (sqF t) p0 e0 k).2.1≤t.length:=runN_in (fun _ p e h=>inU_in t p e _ h) _ _ _ hp
  rw [hx] at hl hp'
  simp only at hl hp'
  rcases Nat.lt_or_eq_of_le hk with hlt|rfl
  ·have hs:runN (sqF t) p0 e0 (k+1)=(Q ++ [(inU t p e 4294967295).1],(inU t p e 4294967295).2):=by rw [runN_succ,hx];rfl
   have hu:=readU_fn (e:=e) (mu:=4294967295) hp' ht (by decide)
   have hb:=inU_le t p e 4294967295
   have hlen:(Q.flatMap encU32n).length=k:=by
    rw [show Q.flatMap encU32n=(Q.map fun n:Nat=>Value.int .u32 (n:Int)).map .v from flat_v _ _]
    simp [hl]
   generalize inU t p e 4294967295=r at *
   obtain ⟨q,p',e'⟩:=r
   simp only at hs hu hb
   have hfin:Q.flatMap encU32n ++ [.v (.int .u32 (q:Int))]=(Q ++ [q]).flatMap encU32n:=by rw [List.flatMap_append];rfl
   clear hl hp
   refine Round.on [(36,.val (bz true)),(42,.call (Inst.mk [AV.ptr (1000:Nat) (0:Nat),uz (↑(4294967295:Nat):Int)] [rdrO (1000:Nat) t p e] (uz (↑q:Int)) [rdrO (1000:Nat) t p' e'])),(43,.val (AV.v (Value.int IntKind.u32 (↑q:Int)))),(38,.val (iz (↑(k+(1:Nat)):Int)))] [] ⟨(k+1,Q ++ [q],p',e'),hlt,hs⟩ [(↑n:Int)=(↑n:Int),(↑(k+(1:Nat)):Int)=(↑(k+(1:Nat),Q ++ [q],p',e').fst:Int),(1000:Nat)=(1000:Nat)∧(0:Nat)=(0:Nat),(2:Nat)=(2:Nat)∧(0:Nat)=(0:Nat),(4:Nat)=(4:Nat)∧(0:Nat)=(0:Nat),(5:Nat)=(5:Nat)∧(0:Nat)=(0:Nat),(↑i:Int)=(↑i:Int),(7:Nat)=(7:Nat)∧(0:Nat)=(0:Nat),(k,Q,p,e).fst+(1:Nat)=(k+(1:Nat),Q ++ [q],p',e').fst∧(0:Nat)=(0:Nat)∧List.flatMap encU32n (Q,p,e).fst ++ [AV.v (Value.int IntKind.u32 (↑q:Int))]=List.flatMap encU32n (Q ++ [q],p',e').fst,[AV.lst t.length (byL t),iz p',iz e']=[AV.lst t.length (byL t),iz (↑(Q ++ [q],p',e').snd.fst:Int),iz (↑(Q ++ [q],p',e').snd.snd:Int)],[AV.lst sc.n0 sc.l0,AV.lst sc.n1 sc.l1,AV.lst sc.n2 sc.l2,AV.lst sc.n3 sc.l3]=[AV.lst sc.n0 sc.l0,AV.lst sc.n1 sc.l1,AV.lst sc.n2 sc.l2,AV.lst sc.n3 sc.l3],[uz (0:Int),iz (0:Int),AV.v (Value.slice none (0:Nat) (0:Nat)),AV.v (Value.slice none (0:Nat) (0:Nat))]=[uz (0:Int),iz (0:Int),AV.v (Value.slice none (0:Nat) (0:Nat)),AV.v (Value.slice none (0:Nat) (0:Nat))],[uz K,iz N,AV.row (57:Nat) (0:Nat),AV.v (Value.slice none (0:Nat) (0:Nat))]=[uz K,iz N,AV.row (57:Nat) (0:Nat),AV.v (Value.slice none (0:Nat) (0:Nat))],i=i∧(0:Nat)=(0:Nat)∧List.flatMap encWh W=List.flatMap encWh W,[iz a,iz b,AV.row (45:Nat) (0:Nat),iz (0:Int),iz (0:Int)]=[iz a,iz b,AV.row (45:Nat) (0:Nat),iz (0:Int),iz (0:Int)],decide ((↑(k,Q,p,e).fst:Int)<(↑n:Int))=true,((1000:Nat)=(1000:Nat)∧(0:Nat)=(0:Nat))∧(4294967295:Int)=(↑(4294967295:Nat):Int)∧True,FnOk Tryz.prog (46:Nat) (Inst.mk [AV.ptr (1000:Nat) (0:Nat),uz (↑(4294967295:Nat):Int)] [((1000:Nat),AObj.cells (98:TypeId) [AV.lst t.length (byL t),iz p,iz e])] (uz q) [((1000:Nat),AObj.cells (98:TypeId) [AV.lst t.length (byL t),iz p',iz e'])]),[AV.lst t.length (byL t),iz (↑(Q,p,e).snd.fst:Int),iz (↑(Q,p,e).snd.snd:Int)]=[AV.lst t.length (byL t),iz p,iz e],IntKind.u32.wrap (↑q:Int)=(↑q:Int),[AV.v (Value.int IntKind.u32 (↑q:Int))].length=(1:Nat),((k,Q,p,e).fst+(1:Nat))*(4:Nat)≤(140737488355328:Nat)∧(k,Q,p,e).fst+(1:Nat)≤(140737488355328:Nat),IntKind.i64.wrap ((↑(k,Q,p,e).fst:Int)+(1:Int))=(↑(k+(1:Nat)):Int)] (by kernel_rfl) (by show n-(k+1)<n-k;omega) ?_
   ((repeat' refine And.intro ?_ ?_);(iterate 15 (with_reducible rfl));(with_reducible assumption);(iterate 8 (with_reducible rfl));((with_reducible refine Dt ?_;omega));(iterate 2 (with_reducible rfl));(omega);(exact True.intro);((show FnOk _ _ _;assumption));(with_reducible rfl);((rw [IntKind.wrap_u32];omega));(exact List.length_singleton);(iterate 2 (omega));(exact Wi _ (by omega));(exact True.intro))
   all_goals exact hfin
  ·obtain rfl:=hx.symm.trans hc
   refine Round.out [(36,.val (bz false))] [] [(1000:Nat)=(1000:Nat)∧(0:Nat)=(0:Nat),(2:Nat)=(2:Nat)∧(0:Nat)=(0:Nat),(4:Nat)=(4:Nat)∧(0:Nat)=(0:Nat),(5:Nat)=(5:Nat)∧(0:Nat)=(0:Nat),(↑i:Int)=(↑i:Int),(7:Nat)=(7:Nat)∧(0:Nat)=(0:Nat),(k,Q,p,e).fst=k∧(0:Nat)=(0:Nat)∧List.flatMap encU32n (Q,p,e).fst=List.flatMap encU32n Q,[AV.lst t.length (byL t),iz (↑(Q,p,e).snd.fst:Int),iz (↑(Q,p,e).snd.snd:Int)]=[AV.lst t.length (byL t),iz (↑(p,e).fst:Int),iz (↑(p,e).snd:Int)],[AV.lst sc.n0 sc.l0,AV.lst sc.n1 sc.l1,AV.lst sc.n2 sc.l2,AV.lst sc.n3 sc.l3]=[AV.lst sc.n0 sc.l0,AV.lst sc.n1 sc.l1,AV.lst sc.n2 sc.l2,AV.lst sc.n3 sc.l3],[uz (0:Int),iz (0:Int),AV.v (Value.slice none (0:Nat) (0:Nat)),AV.v (Value.slice none (0:Nat) (0:Nat))]=[uz (0:Int),iz (0:Int),AV.v (Value.slice none (0:Nat) (0:Nat)),AV.v (Value.slice none (0:Nat) (0:Nat))],[uz K,iz N,AV.row (57:Nat) (0:Nat),AV.v (Value.slice none (0:Nat) (0:Nat))]=[uz K,iz N,AV.row (57:Nat) (0:Nat),AV.v (Value.slice none (0:Nat) (0:Nat))],i=i∧(0:Nat)=(0:Nat)∧List.flatMap encWh W=List.flatMap encWh W,[iz a,iz b,AV.row (45:Nat) (0:Nat),iz (0:Int),iz (0:Int)]=[iz a,iz b,AV.row (45:Nat) (0:Nat),iz (0:Int),iz (0:Int)],decide ((↑(k,Q,p,e).fst:Int)<(↑k:Int))=false] (by kernel_rfl) ?_
   ((repeat' refine And.intro ?_ ?_);(iterate 22 (with_reducible rfl));((with_reducible refine Df ?_;omega));(exact True.intro))
 refine (h.freeze 45).weak rfl rfl (by kernel_rfl) ?_ ?_
 ·refine ⟨?_,?_,?_,?_,?_,?_,trivial⟩<;>first|exact ⟨rfl,rfl⟩|exact rfl
 ·refine ⟨?_,?_,?_,?_,?_,?_,trivial⟩<;>first|exact rfl|exact ⟨rfl,rfl,rfl⟩
theorem wh_loop (hd1:sc.n1=S.ints.length) (hL:S.ints.length≤1000) {c0 c:List WholeS×Nat×Nat} (h0:celW S t 0=c0) (hc:celW S t S.ints.length=c):LoopOk Tryz.prog (loopBody Tryz.f92 4) (whI sc t K N c0 0) (.exit 0) (whE sc t K N c S.ints.length):=by
 refine LoopOk.of hmo (fun x:{x:Nat×List WholeS×Nat×Nat // x.1≤S.ints.length∧celW S t x.1=x.2}=>whI sc t K N x.1.2 x.1.1) (fun x=>S.ints.length-x.1.1) (fun x=>?_) ⟨(0,c0),Nat.zero_le _,h0⟩
 obtain ⟨⟨i,W,p,e⟩,hi,hx⟩:=x
 simp only at hi hx
 have hl:(celW S t i).1.length=i:=runN_len (fun _ _ _=>rfl) _ _ _
 have hp0:(celW S t i).2.1≤t.length:=runN_in (f:=meaF t) (fun k p e h=>by unfold meaF;exact meaS_in t p e h) _ _ _ (inI_in t _ _ (inU_in t 0 0 _ (Nat.zero_le _)))
 rw [hx] at hl hp0
 simp only at hl hp0
 have hz:(W.flatMap encWh).length=i*5:=by
  have:=enc_wh.flat_len W
  rw [hl] at this;exact this
 rcases Nat.lt_or_eq_of_le hi with hlt|rfl
 ·have hs:celW S t (i+1)=(W ++ [(meaS t p e).1],(meaS t p e).2):=by
   rw [show celW S t (i+1)=((celW S t i).1++(meaF t i (celW S t i).2.1 (celW S t i).2.2).1,(meaF t i (celW S t i).2.1 (celW S t i).2.2).2) from rfl,hx];rfl
  have k1:=readI_fn (e:=e) hp0 ht
  have q1:=inI_in t p e hp0
  have m0:meaS t p e=(⟨(inI_ t p e).1,(inI_ t (inI_ t p e).2.1 (inI_ t p e).2.2).1,(meaQ t p e).1,(meaL t p e).1,(meaH t p e).1⟩,(meaH t p e).2):=rfl
  have e4:runN (sqF t) (inU t (inI_ t (inI_ t p e).2.1 (inI_ t p e).2.2).2.1 (inI_ t (inI_ t p e).2.1 (inI_ t p e).2.2).2.2 7).2.1 (inU t (inI_ t (inI_ t p e).2.1 (inI_ t p e).2.2).2.1 (inI_ t (inI_ t p e).2.1 (inI_ t p e).2.2).2.2 7).2.2 (inU t (inI_ t (inI_ t p e).2.1 (inI_ t p e).2.2).2.1 (inI_ t (inI_ t p e).2.1 (inI_ t p e).2.2).2.2 7).1=meaQ t p e:=rfl
  have e5:meaL t p e=inI_ t (meaQ t p e).2.1 (meaQ t p e).2.2:=rfl
  have e6:meaH t p e=inI_ t (meaL t p e).2.1 (meaL t p e).2.2:=rfl
  have l4:(meaQ t p e).1.length=(inU t (inI_ t (inI_ t p e).2.1 (inI_ t p e).2.2).2.1 (inI_ t (inI_ t p e).2.1 (inI_ t p e).2.2).2.2 7).1:=runN_len (fun k p e=>rfl) _ _ _
  generalize meaQ t p e=r4 at *
  generalize meaL t p e=r5 at *
  generalize meaH t p e=r6 at *
  rw [m0] at hs
  clear m0
  generalize inI_ t p e=r1 at *
  obtain ⟨v1,p1,e1⟩:=r1
  simp only at q1 k1 e4 l4 hs
  have k2:=readI_fn (e:=e1) q1 ht
  have q2:=inI_in t p1 e1 q1
  generalize inI_ t p1 e1=r2 at *
  obtain ⟨v2,p2,e2⟩:=r2
  simp only at q2 k2 e4 l4 hs
  have k3:=readU_fn (e:=e2) (mu:=7) q2 ht (by decide)
  have q3:=inU_in t p2 e2 7 q2
  have b3:=inU_le t p2 e2 7
  generalize inU t p2 e2 7=r3 at *
  obtain ⟨v3,p3,e3⟩:=r3
  simp only at q3 k3 e4 l4 b3
  have k4:=sq_loop (sc:=sc) ht K N i W v1 v2 v3 b3 q3 e4
  have q4:r4.2.1≤t.length:=by rw [←e4];exact runN_in (fun _ p e h=>inU_in t p e _ h) _ _ _ q3
  clear e4
  obtain ⟨v4,p4,f4⟩:=r4
  simp only at q4 l4 hs e5
  have k5:=readI_fn (e:=f4) q4 ht
  have q5:=inI_in t p4 f4 q4
  rw [←e5] at k5 q5
  clear e5
  obtain ⟨v5,p5,f5⟩:=r5
  simp only at q5 k5 hs e6
  have k6:=readI_fn (e:=f5) q5 ht
  rw [←e6] at k6
  clear e6
  obtain ⟨v6,p6,f6⟩:=r6
  simp only at k6 hs
  clear q1 q2 q3 q4 q5 hp0
  have hfin:W.flatMap encWh ++ [iz v1,iz v2,.lst v3 (v4.flatMap encU32n),iz v5,iz v6]=(W ++ [(⟨v1,v2,v4,v5,v6⟩:WholeS)]).flatMap encWh:=by
   rw [List.flatMap_append,←l4];rfl
  clear l4
  refine Round.on [(22,.val (bz true)),(26,.call (Inst.mk [AV.ptr (1000:Nat) (0:Nat)] [rdrO (1000:Nat) t p e] (iz v1) [rdrO (1000:Nat) t p1 e1])),(29,.call (Inst.mk [AV.ptr (1000:Nat) (0:Nat)] [rdrO (1000:Nat) t p1 e1] (iz v2) [rdrO (1000:Nat) t p2 e2])),(32,.call (Inst.mk [AV.ptr (1000:Nat) (0:Nat),uz (↑(7:Nat):Int)] [rdrO (1000:Nat) t p2 e2] (uz (↑v3:Int)) [rdrO (1000:Nat) t p3 e3])),(33,.val (iz v3)),(48,.call (Inst.mk [AV.ptr (1000:Nat) (0:Nat)] [rdrO (1000:Nat) t p4 f4] (iz v5) [rdrO (1000:Nat) t p5 f5])),(51,.call (Inst.mk [AV.ptr (1000:Nat) (0:Nat)] [rdrO (1000:Nat) t p5 f5] (iz v6) [rdrO (1000:Nat) t p6 f6])),(24,.val (iz (↑(i+(1:Nat)):Int)))] [(10,⟨.exit 2,sqI sc t K N i W v1 v2 v3 ([],p3,e3) 0,sqE sc t K N i W v1 v2 v3 (v4,p4,f4)⟩)] ⟨(i+1,W ++ [(⟨v1,v2,v4,v5,v6⟩:WholeS)],p6,f6),hlt,hs⟩ [(1000:Nat)=(1000:Nat)∧(0:Nat)=(0:Nat),(2:Nat)=(2:Nat)∧(0:Nat)=(0:Nat),(4:Nat)=(4:Nat)∧(0:Nat)=(0:Nat),(5:Nat)=(5:Nat)∧(0:Nat)=(0:Nat),(↑(i+(1:Nat)):Int)=(↑(i+(1:Nat),W ++ [WholeS.mk v1 v2 v4 v5 v6],p6,f6).fst:Int),[AV.lst t.length (byL t),iz p6,iz f6]=[AV.lst t.length (byL t),iz (↑(W ++ [WholeS.mk v1 v2 v4 v5 v6],p6,f6).snd.fst:Int),iz (↑(W ++ [WholeS.mk v1 v2 v4 v5 v6],p6,f6).snd.snd:Int)],[AV.lst sc.n0 sc.l0,AV.lst sc.n1 sc.l1,AV.lst sc.n2 sc.l2,AV.lst sc.n3 sc.l3]=[AV.lst sc.n0 sc.l0,AV.lst sc.n1 sc.l1,AV.lst sc.n2 sc.l2,AV.lst sc.n3 sc.l3],[uz (0:Int),iz (0:Int),AV.v (Value.slice none (0:Nat) (0:Nat)),AV.v (Value.slice none (0:Nat) (0:Nat))]=[uz (0:Int),iz (0:Int),AV.v (Value.slice none (0:Nat) (0:Nat)),AV.v (Value.slice none (0:Nat) (0:Nat))],[uz K,iz N,AV.row (57:Nat) (0:Nat),AV.v (Value.slice none (0:Nat) (0:Nat))]=[uz K,iz N,AV.row (57:Nat) (0:Nat),AV.v (Value.slice none (0:Nat) (0:Nat))],i+(1:Nat)=(i+(1:Nat),W ++ [WholeS.mk v1 v2 v4 v5 v6],p6,f6).fst∧(0:Nat)=(0:Nat)∧List.flatMap encWh W ++ [iz v1,iz v2,AV.lst v3 (List.flatMap encU32n v4),iz v5,iz v6]=List.flatMap encWh (W ++ [WholeS.mk v1 v2 v4 v5 v6],p6,f6).fst,decide ((↑(i,W,p,e).fst:Int)<(↑sc.n1:Int))=true,((1000:Nat)=(1000:Nat)∧(0:Nat)=(0:Nat))∧True,FnOk Tryz.prog (151:Nat) (Inst.mk [AV.ptr (1000:Nat) (0:Nat)] [((1000:Nat),AObj.cells (98:TypeId) [AV.lst t.length (byL t),iz p,iz e])] (iz v1) [((1000:Nat),AObj.cells (98:TypeId) [AV.lst t.length (byL t),iz p1,iz e1])]),[AV.lst t.length (byL t),iz (↑(W,p,e).snd.fst:Int),iz (↑(W,p,e).snd.snd:Int)]=[AV.lst t.length (byL t),iz p,iz e],((1000:Nat)=(1000:Nat)∧(0:Nat)=(0:Nat))∧True,FnOk Tryz.prog (151:Nat) (Inst.mk [AV.ptr (1000:Nat) (0:Nat)] [((1000:Nat),AObj.cells (98:TypeId) [AV.lst t.length (byL t),iz p1,iz e1])] (iz v2) [((1000:Nat),AObj.cells (98:TypeId) [AV.lst t.length (byL t),iz p2,iz e2])]),[AV.lst t.length (byL t),iz p1,iz e1]=[AV.lst t.length (byL t),iz p1,iz e1],((1000:Nat)=(1000:Nat)∧(0:Nat)=(0:Nat))∧(7:Int)=(↑(7:Nat):Int)∧True,FnOk Tryz.prog (46:Nat) (Inst.mk [AV.ptr (1000:Nat) (0:Nat),uz (↑(7:Nat):Int)] [((1000:Nat),AObj.cells (98:TypeId) [AV.lst t.length (byL t),iz p2,iz e2])] (uz v3) [((1000:Nat),AObj.cells (98:TypeId) [AV.lst t.length (byL t),iz p3,iz e3])]),[AV.lst t.length (byL t),iz p2,iz e2]=[AV.lst t.length (byL t),iz p2,iz e2],IntKind.i64.wrap (↑v3:Int)=(↑v3:Int),LoopOk Tryz.prog (loopBody Tryz.f92 (10:Nat)) (sqI sc t K N i W v1 v2 v3 ([],p3,e3) (0:Nat)) (Exit.exit (2:Nat)) (sqE sc t K N i W v1 v2 v3 (v4,p4,f4)),(↑v3:Int)=(↑v3:Int),(0:Int)=(↑(0:Nat):Int),(1000:Nat)=(1000:Nat)∧(0:Nat)=(0:Nat),(2:Nat)=(2:Nat)∧(0:Nat)=(0:Nat),(4:Nat)=(4:Nat)∧(0:Nat)=(0:Nat),(5:Nat)=(5:Nat)∧(0:Nat)=(0:Nat),(↑(i,W,p,e).fst:Int)=(↑i:Int),(7:Nat)=(7:Nat)∧(0:Nat)=(0:Nat),(0:Nat)=(0:Nat)∧(0:Nat)=(0:Nat)∧([]:List AV)=[],[AV.lst t.length (byL t),iz p3,iz e3]=[AV.lst t.length (byL t),iz (↑(p3,e3).fst:Int),iz (↑(p3,e3).snd:Int)],[AV.lst sc.n0 sc.l0,AV.lst sc.n1 sc.l1,AV.lst sc.n2 sc.l2,AV.lst sc.n3 sc.l3]=[AV.lst sc.n0 sc.l0,AV.lst sc.n1 sc.l1,AV.lst sc.n2 sc.l2,AV.lst sc.n3 sc.l3],[uz (0:Int),iz (0:Int),AV.v (Value.slice none (0:Nat) (0:Nat)),AV.v (Value.slice none (0:Nat) (0:Nat))]=[uz (0:Int),iz (0:Int),AV.v (Value.slice none (0:Nat) (0:Nat)),AV.v (Value.slice none (0:Nat) (0:Nat))],[uz K,iz N,AV.row (57:Nat) (0:Nat),AV.v (Value.slice none (0:Nat) (0:Nat))]=[uz K,iz N,AV.row (57:Nat) (0:Nat),AV.v (Value.slice none (0:Nat) (0:Nat))],(i,W,p,e).fst=i∧(0:Nat)=(0:Nat)∧List.flatMap encWh (W,p,e).fst=List.flatMap encWh W,[iz v1,iz v2,AV.row (45:Nat) (0:Nat),iz (0:Int),iz (0:Int)]=[iz v1,iz v2,AV.row (45:Nat) (0:Nat),iz (0:Int),iz (0:Int)],((1000:Nat)=(1000:Nat)∧(0:Nat)=(0:Nat))∧True,FnOk Tryz.prog (151:Nat) (Inst.mk [AV.ptr (1000:Nat) (0:Nat)] [((1000:Nat),AObj.cells (98:TypeId) [AV.lst t.length (byL t),iz p4,iz f4])] (iz v5) [((1000:Nat),AObj.cells (98:TypeId) [AV.lst t.length (byL t),iz p5,iz f5])]),[AV.lst t.length (byL t),iz (↑(p4,f4).fst:Int),iz (↑(p4,f4).snd:Int)]=[AV.lst t.length (byL t),iz p4,iz f4],((1000:Nat)=(1000:Nat)∧(0:Nat)=(0:Nat))∧True,FnOk Tryz.prog (151:Nat) (Inst.mk [AV.ptr (1000:Nat) (0:Nat)] [((1000:Nat),AObj.cells (98:TypeId) [AV.lst t.length (byL t),iz p5,iz f5])] (iz v6) [((1000:Nat),AObj.cells (98:TypeId) [AV.lst t.length (byL t),iz p6,iz f6])]),[AV.lst t.length (byL t),iz p5,iz f5]=[AV.lst t.length (byL t),iz p5,iz f5],[iz v1,iz v2,AV.lst v3 (List.flatMap encU32n v4),iz v5,iz v6].length=(5:Nat),(i+(1:Nat))*(56:Nat)≤(140737488355328:Nat)∧i+(1:Nat)≤(140737488355328:Nat),IntKind.i64.wrap ((↑i:Int)+(1:Int))=(↑(i+(1:Nat)):Int)] (by kernel_rfl) (by show S.ints.length-(i+1)<S.ints.length-i;omega) ?_
  ((repeat' refine And.intro ?_ ?_);(iterate 15 (with_reducible rfl));((show (_:List AV)=_;assumption));((with_reducible refine Dt ?_;omega));(iterate 2 (with_reducible rfl));(exact True.intro);((show FnOk _ _ _;assumption));(iterate 3 (with_reducible rfl));(exact True.intro);((show FnOk _ _ _;assumption));(iterate 3 (with_reducible rfl));(omega);(exact True.intro);((show FnOk _ _ _;assumption));(with_reducible rfl);(exact Wi _ (by omega));(with_reducible assumption);(with_reducible rfl);(omega);(iterate 24 (with_reducible rfl));(exact True.intro);((show FnOk _ _ _;assumption));(iterate 3 (with_reducible rfl));(exact True.intro);((show FnOk _ _ _;assumption));(with_reducible rfl);(exact rfl);(iterate 2 (omega));(exact Wi _ (by omega));(exact True.intro))
  all_goals exact hfin
 ·obtain rfl:=hx.symm.trans hc
  refine Round.out [(22,.val (bz false))] [] [(1000:Nat)=(1000:Nat)∧(0:Nat)=(0:Nat),(2:Nat)=(2:Nat)∧(0:Nat)=(0:Nat),(4:Nat)=(4:Nat)∧(0:Nat)=(0:Nat),(5:Nat)=(5:Nat)∧(0:Nat)=(0:Nat),[AV.lst t.length (byL t),iz (↑(W,p,e).snd.fst:Int),iz (↑(W,p,e).snd.snd:Int)]=[AV.lst t.length (byL t),iz (↑(p,e).fst:Int),iz (↑(p,e).snd:Int)],[AV.lst sc.n0 sc.l0,AV.lst sc.n1 sc.l1,AV.lst sc.n2 sc.l2,AV.lst sc.n3 sc.l3]=[AV.lst sc.n0 sc.l0,AV.lst sc.n1 sc.l1,AV.lst sc.n2 sc.l2,AV.lst sc.n3 sc.l3],[uz (0:Int),iz (0:Int),AV.v (Value.slice none (0:Nat) (0:Nat)),AV.v (Value.slice none (0:Nat) (0:Nat))]=[uz (0:Int),iz (0:Int),AV.v (Value.slice none (0:Nat) (0:Nat)),AV.v (Value.slice none (0:Nat) (0:Nat))],[uz K,iz N,AV.row (57:Nat) (0:Nat),AV.v (Value.slice none (0:Nat) (0:Nat))]=[uz K,iz N,AV.row (57:Nat) (0:Nat),AV.v (Value.slice none (0:Nat) (0:Nat))],(S.ints.length,W,p,e).fst=S.ints.length∧(0:Nat)=(0:Nat)∧List.flatMap encWh (W,p,e).fst=List.flatMap encWh W,decide ((↑(S.ints.length,W,p,e).fst:Int)<(↑sc.n1:Int))=false] (by kernel_rfl) ?_
  ((repeat' refine And.intro ?_ ?_);(iterate 15 (with_reducible rfl));((with_reducible refine Df ?_;omega));(exact True.intro))
theorem re_loop (hd2:sc.n2=S.nums.length) (hL:S.nums.length≤1000) (W:List WholeS) (n:Nat) {c0 c:List RealS×Nat×Nat} (h0:celR S t 0=c0) (hc:celR S t S.nums.length=c):LoopOk Tryz.prog (loopBody Tryz.f92 17) (reI sc t K N W n c0 0) (.exit 4) (reE sc t K N W n c S.nums.length):=by
 refine LoopOk.of hmo (fun x:{x:Nat×List RealS×Nat×Nat // x.1≤S.nums.length∧celR S t x.1=x.2}=>reI sc t K N W n x.1.2 x.1.1) (fun x=>S.nums.length-x.1.1) (fun x=>?_) ⟨(0,c0),Nat.zero_le _,h0⟩
 obtain ⟨⟨i,R,p,e⟩,hi,hx⟩:=x
 simp only at hi hx
 have hl:(celR S t i).1.length=i:=runN_len (fun _ _ _=>rfl) _ _ _
 have hw0:(celW S t S.ints.length).2.1≤t.length:=runN_in (f:=meaF t) (fun k p e h=>by unfold meaF;exact meaS_in t p e h) _ _ _ (inI_in t _ _ (inU_in t 0 0 _ (Nat.zero_le _)))
 have hp0:(celR S t i).2.1≤t.length:=runN_in (f:=reaF t) (fun k p e h=>by unfold reaF;exact reaS_in t p e h) _ _ _ hw0
 rw [hx] at hl hp0
 simp only at hl hp0
 have hz:=reK_len R
 rw [hl] at hz
 rcases Nat.lt_or_eq_of_le hi with hlt|rfl
 ·have hs:celR S t (i+1)=(R ++ [(reaS t p e).1],(reaS t p e).2):=by
   rw [show celR S t (i+1)=((celR S t i).1++(reaF t i (celR S t i).2.1 (celR S t i).2.2).1,(reaF t i (celR S t i).2.1 (celR S t i).2.2).2) from rfl,hx];rfl
  obtain ⟨G,hG,k1⟩:=askB_fn (e:=e) hp0 ht
  have q1:=inB_in t p e hp0
  have b1:G.t.length≤283:=by
   rw [hG];unfold inB_;split
   ·exact rdB_len _
   ·exact Nat.zero_le _
  have m0:reaS t p e=(⟨(inB_ t p e).1,(inF_ t (inB_ t p e).2.1 (inB_ t p e).2.2).1,(inF_ t (inF_ t (inB_ t p e).2.1 (inB_ t p e).2.2).2.1 (inF_ t (inB_ t p e).2.1 (inB_ t p e).2.2).2.2).1⟩,(inF_ t (inF_ t (inB_ t p e).2.1 (inB_ t p e).2.2).2.1 (inF_ t (inB_ t p e).2.1 (inB_ t p e).2.2).2.2).2):=rfl
  rw [m0] at hs
  clear m0 hw0
  generalize inB_ t p e=r1 at *
  obtain ⟨v1,p1,e1⟩:=r1
  simp only at q1 k1 hG hs
  have k2:=readF_fn (e:=e1) q1 ht
  have q2:=inF_in t p1 e1 q1
  generalize inF_ t p1 e1=r2 at *
  obtain ⟨v2,p2,e2⟩:=r2
  simp only at q2 k2 hs
  have k3:=readF_fn (e:=e2) q2 ht
  generalize inF_ t p2 e2=r3 at *
  obtain ⟨v3,p3,e3⟩:=r3
  simp only at k3 hs
  clear q1 q2 hp0
  have hfin:R.flatMap encReK ++ [.lst G.t.length (byL G.t),.fk (keyB v2),.fk (keyB v3)]=(R ++ [(⟨v1,v2,v3⟩:RealS)]).flatMap encReK:=by
   rw [List.flatMap_append,hG,←flat_u8];rfl
  have hmx:G.t.length≤maxLen:=Nat.le_trans b1 (by decide)
  generalize keyB v2=y2 at *
  generalize keyB v3=y3 at *
  refine Round.on [(63,.val (bz true)),(68,.call (Inst.mk [AV.ptr (1000:Nat) (0:Nat),askA (4:Int) (0:Nat) (283:Int)] [rdrO (1000:Nat) t p e] (gotA G) [rdrO (1000:Nat) t p1 e1])),(70,.val AV.junk),(73,.call (Inst.mk [AV.ptr (1000:Nat) (0:Nat)] [rdrO (1000:Nat) t p1 e1] (AV.fk y2) [rdrO (1000:Nat) t p2 e2])),(76,.call (Inst.mk [AV.ptr (1000:Nat) (0:Nat)] [rdrO (1000:Nat) t p2 e2] (AV.fk y3) [rdrO (1000:Nat) t p3 e3])),(65,.val (iz (↑(i+(1:Nat)):Int)))] [] ⟨(i+1,R ++ [(⟨v1,v2,v3⟩:RealS)],p3,e3),hlt,hs⟩ [(1000:Nat)=(1000:Nat)∧(0:Nat)=(0:Nat),(2:Nat)=(2:Nat)∧(0:Nat)=(0:Nat),(4:Nat)=(4:Nat)∧(0:Nat)=(0:Nat),(5:Nat)=(5:Nat)∧(0:Nat)=(0:Nat),(↑(i+(1:Nat)):Int)=(↑(i+(1:Nat),R ++ [RealS.mk v1 v2 v3],p3,e3).fst:Int),[AV.lst t.length (byL t),iz p3,iz e3]=[AV.lst t.length (byL t),iz (↑(R ++ [RealS.mk v1 v2 v3],p3,e3).snd.fst:Int),iz (↑(R ++ [RealS.mk v1 v2 v3],p3,e3).snd.snd:Int)],[AV.lst sc.n0 sc.l0,AV.lst sc.n1 sc.l1,AV.lst sc.n2 sc.l2,AV.lst sc.n3 sc.l3]=[AV.lst sc.n0 sc.l0,AV.lst sc.n1 sc.l1,AV.lst sc.n2 sc.l2,AV.lst sc.n3 sc.l3],[uz (0:Int),iz (0:Int),AV.v (Value.slice none (0:Nat) (0:Nat)),AV.v (Value.slice none (0:Nat) (0:Nat))]=[uz (0:Int),iz (0:Int),AV.v (Value.slice none (0:Nat) (0:Nat)),AV.v (Value.slice none (0:Nat) (0:Nat))],[uz K,iz N,AV.row (57:Nat) (0:Nat),AV.row (82:Nat) (0:Nat)]=[uz K,iz N,AV.row (57:Nat) (0:Nat),AV.row (82:Nat) (0:Nat)],n=n∧(0:Nat)=(0:Nat)∧List.flatMap encWh W=List.flatMap encWh W,(i,R,p,e).fst+(1:Nat)=(i+(1:Nat),R ++ [RealS.mk v1 v2 v3],p3,e3).fst∧(0:Nat)=(0:Nat)∧List.flatMap encReK (R,p,e).fst ++ [AV.lst (ByteArray.mk G.t.toArray).data.toList.length (byL (ByteArray.mk G.t.toArray).data.toList),AV.fk y2,AV.fk y3]=List.flatMap encReK (R ++ [RealS.mk v1 v2 v3],p3,e3).fst,decide ((↑(i,R,p,e).fst:Int)<(↑sc.n2:Int))=true,((1000:Nat)=(1000:Nat)∧(0:Nat)=(0:Nat))∧[iz (4:Int),uz (0:Int),iz (0:Int),AV.v (Value.float FloatKind.f64 (0:Nat)),AV.v (Value.string (ByteArray.mk #[])),iz (283:Int)]=[iz (4:Int),uz (↑(0:Nat):Int),iz (0:Int),AV.v (Value.float FloatKind.f64 (0:Nat)),AV.v (Value.string (ByteArray.mk #[])),iz (283:Int)]∧True,FnOk Tryz.prog (47:Nat) (Inst.mk [AV.ptr (1000:Nat) (0:Nat),AV.agg [iz (4:Int),uz (↑(0:Nat):Int),iz (0:Int),AV.v (Value.float FloatKind.f64 (0:Nat)),AV.v (Value.string (ByteArray.mk #[])),iz (283:Int)]] [((1000:Nat),AObj.cells (98:TypeId) [AV.lst t.length (byL t),iz p,iz e])] (AV.agg [uz (↑G.u:Int),iz G.i,AV.v (Value.string (ByteArray.mk G.t.toArray)),iz (↑G.n:Int),iz (↑G.e:Int)]) [((1000:Nat),AObj.cells (98:TypeId) [AV.lst t.length (byL t),iz p1,iz e1])]),[AV.lst t.length (byL t),iz (↑(R,p,e).snd.fst:Int),iz (↑(R,p,e).snd.snd:Int)]=[AV.lst t.length (byL t),iz p,iz e],(ByteArray.mk G.t.toArray).data.toList.length≤maxLen,((1000:Nat)=(1000:Nat)∧(0:Nat)=(0:Nat))∧True,FnOk Tryz.prog (152:Nat) (Inst.mk [AV.ptr (1000:Nat) (0:Nat)] [((1000:Nat),AObj.cells (98:TypeId) [AV.lst t.length (byL t),iz p1,iz e1])] (AV.fk y2) [((1000:Nat),AObj.cells (98:TypeId) [AV.lst t.length (byL t),iz p2,iz e2])]),[AV.lst t.length (byL t),iz p1,iz e1]=[AV.lst t.length (byL t),iz p1,iz e1],((1000:Nat)=(1000:Nat)∧(0:Nat)=(0:Nat))∧True,FnOk Tryz.prog (152:Nat) (Inst.mk [AV.ptr (1000:Nat) (0:Nat)] [((1000:Nat),AObj.cells (98:TypeId) [AV.lst t.length (byL t),iz p2,iz e2])] (AV.fk y3) [((1000:Nat),AObj.cells (98:TypeId) [AV.lst t.length (byL t),iz p3,iz e3])]),[AV.lst t.length (byL t),iz p2,iz e2]=[AV.lst t.length (byL t),iz p2,iz e2],[AV.lst (ByteArray.mk G.t.toArray).data.toList.length (byL (ByteArray.mk G.t.toArray).data.toList),AV.fk y2,AV.fk y3].length=(3:Nat),((i,R,p,e).fst+(1:Nat))*(40:Nat)≤(140737488355328:Nat)∧(i,R,p,e).fst+(1:Nat)≤(140737488355328:Nat),IntKind.i64.wrap ((↑(i,R,p,e).fst:Int)+(1:Int))=(↑(i+(1:Nat)):Int)] (by kernel_rfl) (by show S.nums.length-(i+1)<S.nums.length-i;omega) ?_
  ((repeat' refine And.intro ?_ ?_);(iterate 18 (with_reducible rfl));(with_reducible assumption);((with_reducible refine Dt ?_;omega));(iterate 2 (with_reducible rfl));(exact rfl);(exact True.intro);((show FnOk _ _ _;assumption));(with_reducible rfl);(with_reducible assumption);(iterate 2 (with_reducible rfl));(exact True.intro);((show FnOk _ _ _;assumption));(iterate 3 (with_reducible rfl));(exact True.intro);((show FnOk _ _ _;assumption));(with_reducible rfl);(exact rfl);(iterate 2 (omega));(exact Wi _ (by omega));(exact True.intro))
  all_goals first|exact hfin|exact hmx
 ·obtain rfl:=hx.symm.trans hc
  refine Round.out [(63,.val (bz false))] [] [(1000:Nat)=(1000:Nat)∧(0:Nat)=(0:Nat),(2:Nat)=(2:Nat)∧(0:Nat)=(0:Nat),(4:Nat)=(4:Nat)∧(0:Nat)=(0:Nat),(5:Nat)=(5:Nat)∧(0:Nat)=(0:Nat),[AV.lst t.length (byL t),iz (↑(R,p,e).snd.fst:Int),iz (↑(R,p,e).snd.snd:Int)]=[AV.lst t.length (byL t),iz (↑(p,e).fst:Int),iz (↑(p,e).snd:Int)],[AV.lst sc.n0 sc.l0,AV.lst sc.n1 sc.l1,AV.lst sc.n2 sc.l2,AV.lst sc.n3 sc.l3]=[AV.lst sc.n0 sc.l0,AV.lst sc.n1 sc.l1,AV.lst sc.n2 sc.l2,AV.lst sc.n3 sc.l3],[uz (0:Int),iz (0:Int),AV.v (Value.slice none (0:Nat) (0:Nat)),AV.v (Value.slice none (0:Nat) (0:Nat))]=[uz (0:Int),iz (0:Int),AV.v (Value.slice none (0:Nat) (0:Nat)),AV.v (Value.slice none (0:Nat) (0:Nat))],[uz K,iz N,AV.row (57:Nat) (0:Nat),AV.row (82:Nat) (0:Nat)]=[uz K,iz N,AV.row (57:Nat) (0:Nat),AV.row (82:Nat) (0:Nat)],n=n∧(0:Nat)=(0:Nat)∧List.flatMap encWh W=List.flatMap encWh W,(S.nums.length,R,p,e).fst=S.nums.length∧(0:Nat)=(0:Nat)∧List.flatMap encReK (R,p,e).fst=List.flatMap encReK R,decide ((↑(S.nums.length,R,p,e).fst:Int)<(↑sc.n2:Int))=false] (by kernel_rfl) ?_
  ((repeat' refine And.intro ?_ ?_);(iterate 18 (with_reducible rfl));((with_reducible refine Df ?_;omega));(exact True.intro))
theorem read14_fn (h1:S.ints.length≤1000) (h2:S.nums.length≤1000):FnOk Tryz.prog 92 ⟨[.agg (encSch S),.ptr 1000 0],[rdrO 1000 t 0 0],.agg (encClK (celS S t).1),[rdrO 1000 t (celS S t).2.1 (celS S t).2.2]⟩:=by
 have k1:FnOk Tryz.prog 46 ⟨[.ptr 1000 0,uz ((18446744073709551615:Nat):Nat)],[rdrO 1000 t 0 0],uz ((celK t).1:Nat),[rdrO 1000 t (celK t).2.1 (celK t).2.2]⟩:=readU_fn (p:=0) (e:=0) (mu:=18446744073709551615) (Nat.zero_le _) ht (by decide)
 have p1:(celK t).2.1≤t.length:=inU_in t 0 0 _ (Nat.zero_le _)
 have k2:FnOk Tryz.prog 151 ⟨[.ptr 1000 0],[rdrO 1000 t (celK t).2.1 (celK t).2.2],iz (celN t).1,[rdrO 1000 t (celN t).2.1 (celN t).2.2]⟩:=readI_fn p1 ht
 obtain ⟨d,hsc,hd1,hd2⟩:=scD_of S
 have w1:=wh_loop (S:=S) ht (celK t).1 (celN t).1 hd1 h1 rfl rfl
 have w2:=re_loop (S:=S) ht (celK t).1 (celN t).1 hd2 h2 (celW S t S.ints.length).1 S.ints.length rfl rfl
 have l1:(celW S t S.ints.length).1.length=S.ints.length:=runN_len (fun _ _ _=>rfl) _ _ _
 have l2:(celR S t S.nums.length).1.length=S.nums.length:=runN_len (fun _ _ _=>rfl) _ _ _
 have e1:celW S t 0=([],(celN t).2.1,(celN t).2.2):=rfl
 have e2:celR S t 0=([],(celW S t S.ints.length).2.1,(celW S t S.ints.length).2.2):=rfl
 have e3:celS S t=(⟨(celK t).1,(celN t).1,(celW S t S.ints.length).1,(celR S t S.nums.length).1⟩,(celR S t S.nums.length).2):=rfl
 rw [e1] at w1
 rw [e2] at w2
 rw [e3,hsc]
 clear e1 e2 e3 p1 hsc
 generalize celR S t S.nums.length=c4 at *
 obtain ⟨R,p4,e4⟩:=c4
 generalize celW S t S.ints.length=c3 at *
 obtain ⟨W,p3,e3⟩:=c3
 generalize celN t=c2 at *
 obtain ⟨N,p2,e2⟩:=c2
 generalize celK t=c1 at *
 obtain ⟨K,p1,e1⟩:=c1
 simp only at k1 k2 w1 w2 l1 l2 ⊢
 refine fn_go hmo Tryz.func92 (by kernel_rfl) [(13,.call (Inst.mk [AV.ptr (1000:Nat) (0:Nat),uz (↑(18446744073709551615:Nat):Int)] [rdrO (1000:Nat) t (0:Nat) (0:Nat)] (uz (↑K:Int)) [rdrO (1000:Nat) t p1 e1])),(16,.call (Inst.mk [AV.ptr (1000:Nat) (0:Nat)] [rdrO (1000:Nat) t p1 e1] (iz N) [rdrO (1000:Nat) t p2 e2]))] [(4,⟨.exit 0,whI d t K N ([],p2,e2) 0,whE d t K N (W,p3,e3) S.ints.length⟩),(17,⟨.exit 4,reI d t K N W S.ints.length ([],p3,e3) 0,reE d t K N W S.ints.length (R,p4,e4) S.nums.length⟩)] [[uz K,iz N,AV.lst S.ints.length (List.flatMap encWh W),AV.lst S.nums.length (List.flatMap encReK R)]=[uz (↑(CellS.mk K N W R).key:Int),iz (CellS.mk K N W R).count,AV.lst (CellS.mk K N W R).ints.length (List.flatMap encWh (CellS.mk K N W R).ints),AV.lst (CellS.mk K N W R).nums.length (List.flatMap encReK (CellS.mk K N W R).nums)],[AV.lst t.length (byL t),iz (↑(p4,e4).fst:Int),iz (↑(p4,e4).snd:Int)]=[AV.lst t.length (byL t),iz p4,iz e4],((1000:Nat)=(1000:Nat)∧(0:Nat)=(0:Nat))∧(18446744073709551615:Int)=(↑(18446744073709551615:Nat):Int)∧True,FnOk Tryz.prog (46:Nat) (Inst.mk [AV.ptr (1000:Nat) (0:Nat),uz (↑(18446744073709551615:Nat):Int)] [((1000:Nat),AObj.cells (98:TypeId) [AV.lst t.length (byL t),iz (↑(0:Nat):Int),iz (↑(0:Nat):Int)])] (uz K) [((1000:Nat),AObj.cells (98:TypeId) [AV.lst t.length (byL t),iz p1,iz e1])]),[AV.lst t.length (byL t),iz (↑(0:Nat):Int),iz (↑(0:Nat):Int)]=[AV.lst t.length (byL t),iz (↑(0:Nat):Int),iz (↑(0:Nat):Int)],((1000:Nat)=(1000:Nat)∧(0:Nat)=(0:Nat))∧True,FnOk Tryz.prog (151:Nat) (Inst.mk [AV.ptr (1000:Nat) (0:Nat)] [((1000:Nat),AObj.cells (98:TypeId) [AV.lst t.length (byL t),iz p1,iz e1])] (iz N) [((1000:Nat),AObj.cells (98:TypeId) [AV.lst t.length (byL t),iz p2,iz e2])]),[AV.lst t.length (byL t),iz p1,iz e1]=[AV.lst t.length (byL t),iz p1,iz e1],LoopOk Tryz.prog (loopBody Tryz.f92 (4:Nat)) (whI d t K N ([],p2,e2) (0:Nat)) (Exit.exit (0:Nat)) (whE d t K N (W,p3,e3) S.ints.length),(1000:Nat)=(1000:Nat)∧(0:Nat)=(0:Nat),(2:Nat)=(2:Nat)∧(0:Nat)=(0:Nat),(4:Nat)=(4:Nat)∧(0:Nat)=(0:Nat),(5:Nat)=(5:Nat)∧(0:Nat)=(0:Nat),(0:Int)=(↑(0:Nat):Int),[AV.lst t.length (byL t),iz p2,iz e2]=[AV.lst t.length (byL t),iz (↑(p2,e2).fst:Int),iz (↑(p2,e2).snd:Int)],[AV.lst d.n0 d.l0,AV.lst d.n1 d.l1,AV.lst d.n2 d.l2,AV.lst d.n3 d.l3]=[AV.lst d.n0 d.l0,AV.lst d.n1 d.l1,AV.lst d.n2 d.l2,AV.lst d.n3 d.l3],[uz (0:Int),iz (0:Int),AV.v (Value.slice none (0:Nat) (0:Nat)),AV.v (Value.slice none (0:Nat) (0:Nat))]=[uz (0:Int),iz (0:Int),AV.v (Value.slice none (0:Nat) (0:Nat)),AV.v (Value.slice none (0:Nat) (0:Nat))],[uz K,iz N,AV.row (57:Nat) (0:Nat),AV.v (Value.slice none (0:Nat) (0:Nat))]=[uz K,iz N,AV.row (57:Nat) (0:Nat),AV.v (Value.slice none (0:Nat) (0:Nat))],(0:Nat)=(0:Nat)∧(0:Nat)=(0:Nat)∧([]:List AV)=[],LoopOk Tryz.prog (loopBody Tryz.f92 (17:Nat)) (reI d t K N W S.ints.length ([],p3,e3) (0:Nat)) (Exit.exit (4:Nat)) (reE d t K N W S.ints.length (R,p4,e4) S.nums.length),(1000:Nat)=(1000:Nat)∧(0:Nat)=(0:Nat),(2:Nat)=(2:Nat)∧(0:Nat)=(0:Nat),(4:Nat)=(4:Nat)∧(0:Nat)=(0:Nat),(5:Nat)=(5:Nat)∧(0:Nat)=(0:Nat),(0:Int)=(↑(0:Nat):Int),[AV.lst t.length (byL t),iz (↑(p3,e3).fst:Int),iz (↑(p3,e3).snd:Int)]=[AV.lst t.length (byL t),iz (↑(p3,e3).fst:Int),iz (↑(p3,e3).snd:Int)],[AV.lst d.n0 d.l0,AV.lst d.n1 d.l1,AV.lst d.n2 d.l2,AV.lst d.n3 d.l3]=[AV.lst d.n0 d.l0,AV.lst d.n1 d.l1,AV.lst d.n2 d.l2,AV.lst d.n3 d.l3],[uz (0:Int),iz (0:Int),AV.v (Value.slice none (0:Nat) (0:Nat)),AV.v (Value.slice none (0:Nat) (0:Nat))]=[uz (0:Int),iz (0:Int),AV.v (Value.slice none (0:Nat) (0:Nat)),AV.v (Value.slice none (0:Nat) (0:Nat))],[uz K,iz N,AV.row (57:Nat) (0:Nat),AV.row (82:Nat) (0:Nat)]=[uz K,iz N,AV.row (57:Nat) (0:Nat),AV.row (82:Nat) (0:Nat)],S.ints.length=S.ints.length∧(0:Nat)=(0:Nat)∧List.flatMap encWh W=List.flatMap encWh W,(0:Nat)=(0:Nat)∧(0:Nat)=(0:Nat)∧([]:List AV)=[]] (by kernel_rfl) ?_
 ((repeat' refine And.intro ?_ ?_);rotate_left 1;(iterate 3 (with_reducible rfl));(omega);(exact True.intro);((show FnOk _ _ _;assumption));(iterate 3 (with_reducible rfl));(exact True.intro);((show FnOk _ _ _;assumption));(with_reducible rfl);(with_reducible assumption);(iterate 8 (with_reducible rfl));(omega);(iterate 7 (with_reducible rfl));(with_reducible assumption);(iterate 8 (with_reducible rfl));(omega);(iterate 10 (with_reducible rfl));(exact True.intro))
 all_goals (dsimp only;rw [l1,l2])
end
theorem smC_cel {S:Sch} (t:List UInt8) (h1:S.ints.length≤1000) (h2:S.nums.length≤1000):SmC (celS S t).1:=by
 have l1:(celS S t).1.ints.length=S.ints.length:=runN_len (fun _ _ _=>rfl) _ _ _
 have l2:(celS S t).1.nums.length=S.nums.length:=runN_len (fun _ _ _=>rfl) _ _ _
 refine ⟨by omega,by omega,runN_all (P:=fun X:WholeS=>X.sq.length≤1000∧-9223372036854775808≤X.abs∧X.abs≤9223372036854775807) (fun k p e x hx=>?_) _ _ _,runN_all (P:=fun X:RealS=>X.sum.length≤1000) (fun k p e x hx=>?_) _ _ _⟩
 ·obtain rfl:=List.mem_singleton.1 hx
  have h3:(meaQ t p e).1.length=(meaN t p e).1:=runN_len (fun k p e=>rfl) _ _ _
  have h4:(meaN t p e).1≤7:=inU_le t _ _ 7
  exact ⟨by show (meaQ t p e).1.length≤1000;omega,inI_bounds t _ _⟩
 ·obtain rfl:=List.mem_singleton.1 hx
  show (inB_ t p e).1.length≤1000
  unfold inB_;split
  ·exact Nat.le_trans (rdB_len _) (by decide)
  ·exact Nat.zero_le _
theorem get14_fn {S:Sch} {mask:Nat} {t:List UInt8} (hs:SchOk S) (hm:mask<4294967296) (ht:t.length≤1000000):FnOk Tryz.prog 34 ⟨[.agg (encSch S),.v (.int .u32 (mask:Int)),bysT t],[],.tup [.agg (encClK (getC S mask t).1),iz ((getC S mask t).2.1:Nat),iz ((getC S mask t).2.2:Nat)],[]⟩:=by
 have h1:=check_fn hs
 obtain ⟨d,hsc,hd1,hd2⟩:=scD_of S
 by_cases hc:checkN S=0
 ·obtain ⟨hmo',_⟩:=checkN_zero hc
  have hf1:=(fullN_le hmo'.1 hmo'.2.1).2
  have h2:=full_fn hs hc
  have h3:=sub_fn (a:=mask) (b:=fullN S) hm (by omega)
  rw [sub_keys hc hm] at h3
  rw [hc,hsc] at h1
  rw [hsc] at h2 ⊢
  cases hk:keysOf S mask with
  | none =>
    have e1:getC S mask t=(Go.Proofs.YtfhmaincnlaapaaGreat.zeroC,0,11):=by unfold getC;rw [if_neg (fun h=>h hc),hk];rfl
    rw [e1]
    rw [hk] at h3
    refine fn_go hmo Tryz.func34 (by kernel_rfl) [(12,.call (Inst.mk [AV.agg d.l] [] (iz (↑(0:Nat):Int)) [])),(17,.call (Inst.mk [AV.agg d.l] [] (AV.v (Value.int IntKind.u32 (↑(fullN S):Int))) [])),(18,.call (Inst.mk [AV.v (Value.int IntKind.u32 (↑mask:Int)),AV.v (Value.int IntKind.u32 (↑(fullN S):Int))] [] (AV.v (Value.bool (none:Option Nat).isSome)) []))] [] [[uz (0:Int),iz (0:Int),AV.lst (0:Nat) [],AV.lst (0:Nat) []]=[uz (↑(0:Nat):Int),iz zeroC.count,AV.lst (0:Nat) [],AV.lst (0:Nat) []]∧(0:Int)=(↑(0:Nat):Int)∧(11:Int)=(↑(11:Nat):Int)∧True,[AV.lst d.n0 d.l0,AV.lst d.n1 d.l1,AV.lst d.n2 d.l2,AV.lst d.n3 d.l3]=[AV.lst d.n0 d.l0,AV.lst d.n1 d.l1,AV.lst d.n2 d.l2,AV.lst d.n3 d.l3]∧True,FnOk Tryz.prog (45:Nat) (Inst.mk [AV.agg [AV.lst d.n0 d.l0,AV.lst d.n1 d.l1,AV.lst d.n2 d.l2,AV.lst d.n3 d.l3]] [] (iz (↑(0:Nat):Int)) []),[AV.lst d.n0 d.l0,AV.lst d.n1 d.l1,AV.lst d.n2 d.l2,AV.lst d.n3 d.l3]=[AV.lst d.n0 d.l0,AV.lst d.n1 d.l1,AV.lst d.n2 d.l2,AV.lst d.n3 d.l3]∧True,FnOk Tryz.prog (60:Nat) (Inst.mk [AV.agg [AV.lst d.n0 d.l0,AV.lst d.n1 d.l1,AV.lst d.n2 d.l2,AV.lst d.n3 d.l3]] [] (AV.v (Value.int IntKind.u32 (↑(fullN S):Int))) []),(↑mask:Int)=(↑mask:Int)∧(↑(fullN S):Int)=(↑(fullN S):Int)∧True,FnOk Tryz.prog (59:Nat) (Inst.mk [AV.v (Value.int IntKind.u32 (↑mask:Int)),AV.v (Value.int IntKind.u32 (↑(fullN S):Int))] [] (AV.v (Value.bool false)) [])] (by kernel_rfl) ?_
    ((repeat' refine And.intro ?_ ?_);(exact rfl);(iterate 2 (omega));(exact True.intro);(with_reducible rfl);(exact True.intro);((show FnOk _ _ _;assumption));(with_reducible rfl);(exact True.intro);((show FnOk _ _ _;assumption));(iterate 2 (with_reducible rfl));(exact True.intro);((show FnOk _ _ _;assumption));(exact True.intro))
  | some n =>
    have e0:getC S mask t=if (celS S t).2.2≠0 then (Go.Proofs.YtfhmaincnlaapaaGreat.zeroC,0,(celS S t).2.2) else if rightC S mask (celS S t).1=true then ((celS S t).1,(celS S t).2.1,0) else (Go.Proofs.YtfhmaincnlaapaaGreat.zeroC,0,6):=by
     unfold getC;rw [if_neg (fun h=>h hc),hk,if_neg (by simp)]
    rw [hk] at h3
    have h4:FnOk Tryz.prog 92 ⟨[.agg (encSch S),.ptr 23 0],[rdrO 23 t 0 0],.agg (encClK (celS S t).1),[rdrO 23 t (celS S t).2.1 (celS S t).2.2]⟩ :=
     FnOk.ren (ρ:=fun _=>23) (π:=fun _=>1000) (read14_fn (S:=S) ht (by have:=hmo'.2.2.1;omega) (by have:=hmo'.2.2.2.1;omega))
      (fun p hp=>by rw [List.mem_singleton.1 hp];rfl) (fun p hp=>by rw [List.mem_singleton.1 hp];rfl) rfl rfl
      (fun x hx o ho=>by
       rcases List.mem_cons.1 hx with rfl|hx
       ·cases ho
       ·rw [List.mem_singleton.1 hx] at ho
        obtain rfl:=List.mem_singleton.1 ho
        simp [lo,rdrO])
      (fun o ho=>by cases ho)
    have h5:=right_fnK (mask:=mask) hs (smC_cel (S:=S) t (by have:=hmo'.2.2.1;omega) (by have:=hmo'.2.2.2.1;omega)) (celS_ok S t).key (celS_ok S t).count hm
    rw [hsc] at h4 h5
    generalize celS S t=r at *
    obtain ⟨C,p,e⟩:=r
    simp only at e0 h4 h5
    by_cases he:e=0
    ·rw [if_neg (by omega)] at e0
     subst he
     cases hr:rightC S mask C with
     | true =>
       rw [hr] at h5 e0
       rw [e0]
       refine fn_go hmo Tryz.func34 (by kernel_rfl) [(12,.call (Inst.mk [AV.agg d.l] [] (iz (↑(0:Nat):Int)) [])),(17,.call (Inst.mk [AV.agg d.l] [] (AV.v (Value.int IntKind.u32 (↑(fullN S):Int))) [])),(18,.call (Inst.mk [AV.v (Value.int IntKind.u32 (↑mask:Int)),AV.v (Value.int IntKind.u32 (↑(fullN S):Int))] [] (AV.v (Value.bool (some n).isSome)) [])),(26,.call (Inst.mk [AV.agg d.l,AV.ptr (23:Nat) (0:Nat)] [rdrO (23:Nat) t (0:Nat) (0:Nat)] (AV.agg (encClK C)) [rdrO (23:Nat) t p (0:Nat)])),(30,.val (iz (0:Int))),(40,.call (Inst.mk [AV.agg d.l,AV.v (Value.int IntKind.u32 (↑mask:Int)),AV.agg (encClK C)] [] (bz true) []))] [] [[uz (↑C.key:Int),iz C.count,AV.lst C.ints.length (List.flatMap encWh C.ints),AV.lst C.nums.length (List.flatMap encReK C.nums)]=[uz (↑(C,p,(0:Nat)).fst.key:Int),iz (C,p,(0:Nat)).fst.count,AV.lst (C,p,(0:Nat)).fst.ints.length (List.flatMap encWh (C,p,(0:Nat)).fst.ints),AV.lst (C,p,(0:Nat)).fst.nums.length (List.flatMap encReK (C,p,(0:Nat)).fst.nums)]∧(↑p:Int)=(↑(C,p,(0:Nat)).snd.fst:Int)∧(0:Int)=(↑(C,p,(0:Nat)).snd.snd:Int)∧True,[AV.lst d.n0 d.l0,AV.lst d.n1 d.l1,AV.lst d.n2 d.l2,AV.lst d.n3 d.l3]=[AV.lst d.n0 d.l0,AV.lst d.n1 d.l1,AV.lst d.n2 d.l2,AV.lst d.n3 d.l3]∧True,FnOk Tryz.prog (45:Nat) (Inst.mk [AV.agg [AV.lst d.n0 d.l0,AV.lst d.n1 d.l1,AV.lst d.n2 d.l2,AV.lst d.n3 d.l3]] [] (iz (↑(0:Nat):Int)) []),[AV.lst d.n0 d.l0,AV.lst d.n1 d.l1,AV.lst d.n2 d.l2,AV.lst d.n3 d.l3]=[AV.lst d.n0 d.l0,AV.lst d.n1 d.l1,AV.lst d.n2 d.l2,AV.lst d.n3 d.l3]∧True,FnOk Tryz.prog (60:Nat) (Inst.mk [AV.agg [AV.lst d.n0 d.l0,AV.lst d.n1 d.l1,AV.lst d.n2 d.l2,AV.lst d.n3 d.l3]] [] (AV.v (Value.int IntKind.u32 (↑(fullN S):Int))) []),(↑mask:Int)=(↑mask:Int)∧(↑(fullN S):Int)=(↑(fullN S):Int)∧True,FnOk Tryz.prog (59:Nat) (Inst.mk [AV.v (Value.int IntKind.u32 (↑mask:Int)),AV.v (Value.int IntKind.u32 (↑(fullN S):Int))] [] (AV.v (Value.bool true)) []),[AV.lst d.n0 d.l0,AV.lst d.n1 d.l1,AV.lst d.n2 d.l2,AV.lst d.n3 d.l3]=[AV.lst d.n0 d.l0,AV.lst d.n1 d.l1,AV.lst d.n2 d.l2,AV.lst d.n3 d.l3]∧((23:Nat)=(23:Nat)∧(0:Nat)=(0:Nat))∧True,FnOk Tryz.prog (92:Nat) (Inst.mk [AV.agg [AV.lst d.n0 d.l0,AV.lst d.n1 d.l1,AV.lst d.n2 d.l2,AV.lst d.n3 d.l3],AV.ptr (23:Nat) (0:Nat)] [((23:Nat),AObj.cells (98:TypeId) [AV.lst t.length (byL t),iz (↑(0:Nat):Int),iz (↑(0:Nat):Int)])] (AV.agg [uz (↑C.key:Int),iz C.count,AV.lst C.ints.length (List.flatMap encWh C.ints),AV.lst C.nums.length (List.flatMap encReK C.nums)]) [((23:Nat),AObj.cells (98:TypeId) [AV.lst t.length (byL t),iz p,iz (↑(0:Nat):Int)])]),[AV.lst t.length (byL t),iz (0:Int),iz (0:Int)]=[AV.lst t.length (byL t),iz (↑(0:Nat):Int),iz (↑(0:Nat):Int)],some (iz (↑(0:Nat):Int))=some (iz (0:Int)),[AV.lst d.n0 d.l0,AV.lst d.n1 d.l1,AV.lst d.n2 d.l2,AV.lst d.n3 d.l3]=[AV.lst d.n0 d.l0,AV.lst d.n1 d.l1,AV.lst d.n2 d.l2,AV.lst d.n3 d.l3]∧(↑mask:Int)=(↑mask:Int)∧[uz (↑C.key:Int),iz C.count,AV.lst C.ints.length (List.flatMap encWh C.ints),AV.lst C.nums.length (List.flatMap encReK C.nums)]=[uz (↑C.key:Int),iz C.count,AV.lst C.ints.length (List.flatMap encWh C.ints),AV.lst C.nums.length (List.flatMap encReK C.nums)]∧True,FnOk Tryz.prog (25:Nat) (Inst.mk [AV.agg [AV.lst d.n0 d.l0,AV.lst d.n1 d.l1,AV.lst d.n2 d.l2,AV.lst d.n3 d.l3],AV.v (Value.int IntKind.u32 (↑mask:Int)),AV.agg [uz (↑C.key:Int),iz C.count,AV.lst C.ints.length (List.flatMap encWh C.ints),AV.lst C.nums.length (List.flatMap encReK C.nums)]] [] (AV.v (Value.bool true)) [])] (by kernel_rfl) ?_
       ((repeat' refine And.intro ?_ ?_);(iterate 2 (with_reducible rfl));((simp only [Bool.or_eq_true,Bool.and_eq_true,Bool.or_eq_false_iff,Bool.and_eq_false_iff,Bool.not_eq_true',Bool.not_eq_false',decide_eq_true_eq,decide_eq_false_iff_not,beq_iff_eq,beq_eq_false_iff_ne,bne_iff_ne,bne_eq_false_iff_eq,ne_eq,←decide_not,decide_eq_decide,Bool.cond_true_left,Bool.cond_false_right,reduceCtorEq,or_false,false_or,and_true,true_and,implies_true,Bool.false_or,Bool.or_false,Bool.true_or,Bool.or_true,Bool.and_false,Bool.false_and,Bool.and_true,Bool.true_and];omega));(exact True.intro);(with_reducible rfl);(exact True.intro);((show FnOk _ _ _;assumption));(with_reducible rfl);(exact True.intro);((show FnOk _ _ _;assumption));(iterate 2 (with_reducible rfl));(exact True.intro);((show FnOk _ _ _;assumption));(iterate 3 (with_reducible rfl));(exact True.intro);((show FnOk _ _ _;assumption));(exact rfl);(exact someI (by omega));(iterate 3 (with_reducible rfl));(exact True.intro);((show FnOk _ _ _;assumption));(exact True.intro))
     | false =>
       rw [hr] at h5 e0
       rw [e0]
       refine fn_go hmo Tryz.func34 (by kernel_rfl) [(12,.call (Inst.mk [AV.agg d.l] [] (iz (↑(0:Nat):Int)) [])),(17,.call (Inst.mk [AV.agg d.l] [] (AV.v (Value.int IntKind.u32 (↑(fullN S):Int))) [])),(18,.call (Inst.mk [AV.v (Value.int IntKind.u32 (↑mask:Int)),AV.v (Value.int IntKind.u32 (↑(fullN S):Int))] [] (AV.v (Value.bool (some n).isSome)) [])),(26,.call (Inst.mk [AV.agg d.l,AV.ptr (23:Nat) (0:Nat)] [rdrO (23:Nat) t (0:Nat) (0:Nat)] (AV.agg (encClK C)) [rdrO (23:Nat) t p (0:Nat)])),(30,.val (iz (0:Int))),(40,.call (Inst.mk [AV.agg d.l,AV.v (Value.int IntKind.u32 (↑mask:Int)),AV.agg (encClK C)] [] (bz false) []))] [] [[uz (0:Int),iz (0:Int),AV.lst (0:Nat) [],AV.lst (0:Nat) []]=[uz (↑(zeroC,(0:Nat),(6:Nat)).fst.key:Int),iz (zeroC,(0:Nat),(6:Nat)).fst.count,AV.lst (zeroC,(0:Nat),(6:Nat)).fst.ints.length [],AV.lst (zeroC,(0:Nat),(6:Nat)).fst.nums.length []]∧(0:Int)=(↑(zeroC,(0:Nat),(6:Nat)).snd.fst:Int)∧(6:Int)=(↑(zeroC,(0:Nat),(6:Nat)).snd.snd:Int)∧True,[AV.lst d.n0 d.l0,AV.lst d.n1 d.l1,AV.lst d.n2 d.l2,AV.lst d.n3 d.l3]=[AV.lst d.n0 d.l0,AV.lst d.n1 d.l1,AV.lst d.n2 d.l2,AV.lst d.n3 d.l3]∧True,FnOk Tryz.prog (45:Nat) (Inst.mk [AV.agg [AV.lst d.n0 d.l0,AV.lst d.n1 d.l1,AV.lst d.n2 d.l2,AV.lst d.n3 d.l3]] [] (iz (↑(0:Nat):Int)) []),[AV.lst d.n0 d.l0,AV.lst d.n1 d.l1,AV.lst d.n2 d.l2,AV.lst d.n3 d.l3]=[AV.lst d.n0 d.l0,AV.lst d.n1 d.l1,AV.lst d.n2 d.l2,AV.lst d.n3 d.l3]∧True,FnOk Tryz.prog (60:Nat) (Inst.mk [AV.agg [AV.lst d.n0 d.l0,AV.lst d.n1 d.l1,AV.lst d.n2 d.l2,AV.lst d.n3 d.l3]] [] (AV.v (Value.int IntKind.u32 (↑(fullN S):Int))) []),(↑mask:Int)=(↑mask:Int)∧(↑(fullN S):Int)=(↑(fullN S):Int)∧True,FnOk Tryz.prog (59:Nat) (Inst.mk [AV.v (Value.int IntKind.u32 (↑mask:Int)),AV.v (Value.int IntKind.u32 (↑(fullN S):Int))] [] (AV.v (Value.bool true)) []),[AV.lst d.n0 d.l0,AV.lst d.n1 d.l1,AV.lst d.n2 d.l2,AV.lst d.n3 d.l3]=[AV.lst d.n0 d.l0,AV.lst d.n1 d.l1,AV.lst d.n2 d.l2,AV.lst d.n3 d.l3]∧((23:Nat)=(23:Nat)∧(0:Nat)=(0:Nat))∧True,FnOk Tryz.prog (92:Nat) (Inst.mk [AV.agg [AV.lst d.n0 d.l0,AV.lst d.n1 d.l1,AV.lst d.n2 d.l2,AV.lst d.n3 d.l3],AV.ptr (23:Nat) (0:Nat)] [((23:Nat),AObj.cells (98:TypeId) [AV.lst t.length (byL t),iz (↑(0:Nat):Int),iz (↑(0:Nat):Int)])] (AV.agg [uz (↑C.key:Int),iz C.count,AV.lst C.ints.length (List.flatMap encWh C.ints),AV.lst C.nums.length (List.flatMap encReK C.nums)]) [((23:Nat),AObj.cells (98:TypeId) [AV.lst t.length (byL t),iz p,iz (↑(0:Nat):Int)])]),[AV.lst t.length (byL t),iz (0:Int),iz (0:Int)]=[AV.lst t.length (byL t),iz (↑(0:Nat):Int),iz (↑(0:Nat):Int)],some (iz (↑(0:Nat):Int))=some (iz (0:Int)),[AV.lst d.n0 d.l0,AV.lst d.n1 d.l1,AV.lst d.n2 d.l2,AV.lst d.n3 d.l3]=[AV.lst d.n0 d.l0,AV.lst d.n1 d.l1,AV.lst d.n2 d.l2,AV.lst d.n3 d.l3]∧(↑mask:Int)=(↑mask:Int)∧[uz (↑C.key:Int),iz C.count,AV.lst C.ints.length (List.flatMap encWh C.ints),AV.lst C.nums.length (List.flatMap encReK C.nums)]=[uz (↑C.key:Int),iz C.count,AV.lst C.ints.length (List.flatMap encWh C.ints),AV.lst C.nums.length (List.flatMap encReK C.nums)]∧True,FnOk Tryz.prog (25:Nat) (Inst.mk [AV.agg [AV.lst d.n0 d.l0,AV.lst d.n1 d.l1,AV.lst d.n2 d.l2,AV.lst d.n3 d.l3],AV.v (Value.int IntKind.u32 (↑mask:Int)),AV.agg [uz (↑C.key:Int),iz C.count,AV.lst C.ints.length (List.flatMap encWh C.ints),AV.lst C.nums.length (List.flatMap encReK C.nums)]] [] (AV.v (Value.bool false)) [])] (by kernel_rfl) ?_
       ((repeat' refine And.intro ?_ ?_);(exact rfl);(iterate 2 ((simp only [Bool.or_eq_true,Bool.and_eq_true,Bool.or_eq_false_iff,Bool.and_eq_false_iff,Bool.not_eq_true',Bool.not_eq_false',decide_eq_true_eq,decide_eq_false_iff_not,beq_iff_eq,beq_eq_false_iff_ne,bne_iff_ne,bne_eq_false_iff_eq,ne_eq,←decide_not,decide_eq_decide,Bool.cond_true_left,Bool.cond_false_right,reduceCtorEq,or_false,false_or,and_true,true_and,implies_true,Bool.false_or,Bool.or_false,Bool.true_or,Bool.or_true,Bool.and_false,Bool.false_and,Bool.and_true,Bool.true_and];omega)));(exact True.intro);(with_reducible rfl);(exact True.intro);((show FnOk _ _ _;assumption));(with_reducible rfl);(exact True.intro);((show FnOk _ _ _;assumption));(iterate 2 (with_reducible rfl));(exact True.intro);((show FnOk _ _ _;assumption));(iterate 3 (with_reducible rfl));(exact True.intro);((show FnOk _ _ _;assumption));(exact rfl);(exact someI (by omega));(iterate 3 (with_reducible rfl));(exact True.intro);((show FnOk _ _ _;assumption));(exact True.intro))
    ·rw [if_pos he] at e0
     rw [e0]
     clear h5
     refine fn_go hmo Tryz.func34 (by kernel_rfl) [(12,.call (Inst.mk [AV.agg d.l] [] (iz (↑(0:Nat):Int)) [])),(17,.call (Inst.mk [AV.agg d.l] [] (AV.v (Value.int IntKind.u32 (↑(fullN S):Int))) [])),(18,.call (Inst.mk [AV.v (Value.int IntKind.u32 (↑mask:Int)),AV.v (Value.int IntKind.u32 (↑(fullN S):Int))] [] (AV.v (Value.bool (some n).isSome)) [])),(26,.call (Inst.mk [AV.agg d.l,AV.ptr (23:Nat) (0:Nat)] [rdrO (23:Nat) t (0:Nat) (0:Nat)] (AV.agg (encClK C)) [rdrO (23:Nat) t p e])),(31,.val (bz true))] [] [[uz (0:Int),iz (0:Int),AV.lst (0:Nat) [],AV.lst (0:Nat) []]=[uz (↑zeroC.key:Int),iz zeroC.count,AV.lst zeroC.ints.length [],AV.lst zeroC.nums.length []]∧(0:Int)=(↑((0:Nat),e).fst:Int)∧(↑e:Int)=(↑((0:Nat),e).snd:Int)∧True,[AV.lst d.n0 d.l0,AV.lst d.n1 d.l1,AV.lst d.n2 d.l2,AV.lst d.n3 d.l3]=[AV.lst d.n0 d.l0,AV.lst d.n1 d.l1,AV.lst d.n2 d.l2,AV.lst d.n3 d.l3]∧True,FnOk Tryz.prog (45:Nat) (Inst.mk [AV.agg [AV.lst d.n0 d.l0,AV.lst d.n1 d.l1,AV.lst d.n2 d.l2,AV.lst d.n3 d.l3]] [] (iz (↑(0:Nat):Int)) []),[AV.lst d.n0 d.l0,AV.lst d.n1 d.l1,AV.lst d.n2 d.l2,AV.lst d.n3 d.l3]=[AV.lst d.n0 d.l0,AV.lst d.n1 d.l1,AV.lst d.n2 d.l2,AV.lst d.n3 d.l3]∧True,FnOk Tryz.prog (60:Nat) (Inst.mk [AV.agg [AV.lst d.n0 d.l0,AV.lst d.n1 d.l1,AV.lst d.n2 d.l2,AV.lst d.n3 d.l3]] [] (AV.v (Value.int IntKind.u32 (↑(fullN S):Int))) []),(↑mask:Int)=(↑mask:Int)∧(↑(fullN S):Int)=(↑(fullN S):Int)∧True,FnOk Tryz.prog (59:Nat) (Inst.mk [AV.v (Value.int IntKind.u32 (↑mask:Int)),AV.v (Value.int IntKind.u32 (↑(fullN S):Int))] [] (AV.v (Value.bool true)) []),[AV.lst d.n0 d.l0,AV.lst d.n1 d.l1,AV.lst d.n2 d.l2,AV.lst d.n3 d.l3]=[AV.lst d.n0 d.l0,AV.lst d.n1 d.l1,AV.lst d.n2 d.l2,AV.lst d.n3 d.l3]∧((23:Nat)=(23:Nat)∧(0:Nat)=(0:Nat))∧True,FnOk Tryz.prog (92:Nat) (Inst.mk [AV.agg [AV.lst d.n0 d.l0,AV.lst d.n1 d.l1,AV.lst d.n2 d.l2,AV.lst d.n3 d.l3],AV.ptr (23:Nat) (0:Nat)] [((23:Nat),AObj.cells (98:TypeId) [AV.lst t.length (byL t),iz (↑(0:Nat):Int),iz (↑(0:Nat):Int)])] (AV.agg [uz (↑C.key:Int),iz C.count,AV.lst C.ints.length (List.flatMap encWh C.ints),AV.lst C.nums.length (List.flatMap encReK C.nums)]) [((23:Nat),AObj.cells (98:TypeId) [AV.lst t.length (byL t),iz p,iz e])]),[AV.lst t.length (byL t),iz (0:Int),iz (0:Int)]=[AV.lst t.length (byL t),iz (↑(0:Nat):Int),iz (↑(0:Nat):Int)],((↑e:Int) != (0:Int))=true] (by kernel_rfl) ?_
     ((repeat' refine And.intro ?_ ?_);(exact rfl);(omega);(with_reducible rfl);(exact True.intro);(with_reducible rfl);(exact True.intro);((show FnOk _ _ _;assumption));(with_reducible rfl);(exact True.intro);((show FnOk _ _ _;assumption));(iterate 2 (with_reducible rfl));(exact True.intro);((show FnOk _ _ _;assumption));(iterate 3 (with_reducible rfl));(exact True.intro);((show FnOk _ _ _;assumption));(exact rfl);((with_reducible refine Ne ?_;omega));(exact True.intro))
 ·have e1:getC S mask t=(Go.Proofs.YtfhmaincnlaapaaGreat.zeroC,0,1):=by unfold getC;rw [if_pos hc]
  rw [hsc] at h1 ⊢
  rw [e1]
  refine fn_go hmo Tryz.func34 (by kernel_rfl) [(12,.call (Inst.mk [AV.agg d.l] [] (iz (↑(checkN S):Int)) [])),(13,.val (bz true))] [] [[uz (0:Int),iz (0:Int),AV.lst (0:Nat) [],AV.lst (0:Nat) []]=[uz (↑(0:Nat):Int),iz zeroC.count,AV.lst (0:Nat) [],AV.lst (0:Nat) []]∧(0:Int)=(↑(0:Nat):Int)∧(1:Int)=(↑(1:Nat):Int)∧True,[AV.lst d.n0 d.l0,AV.lst d.n1 d.l1,AV.lst d.n2 d.l2,AV.lst d.n3 d.l3]=[AV.lst d.n0 d.l0,AV.lst d.n1 d.l1,AV.lst d.n2 d.l2,AV.lst d.n3 d.l3]∧True,FnOk Tryz.prog (45:Nat) (Inst.mk [AV.agg [AV.lst d.n0 d.l0,AV.lst d.n1 d.l1,AV.lst d.n2 d.l2,AV.lst d.n3 d.l3]] [] (iz (↑(checkN S):Int)) []),((↑(checkN S):Int) != (0:Int))=true] (by kernel_rfl) ?_
  ((repeat' refine And.intro ?_ ?_);(exact rfl);(iterate 2 (omega));(exact True.intro);(with_reducible rfl);(exact True.intro);((show FnOk _ _ _;assumption));((with_reducible refine Ne ?_;omega));(exact True.intro))
end Go.Proofs.YtfhmaincnlaapaaGreat.Sy
