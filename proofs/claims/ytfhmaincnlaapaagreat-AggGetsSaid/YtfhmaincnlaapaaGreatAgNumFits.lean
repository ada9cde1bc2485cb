/- bushelref01: Sub, Fits, Int. -/
import Derived.Test.YtfhmaincnlaapaaGreatAgRefTwice
import Derived.Test.YtfhmaincnlaapaaGreatAgRefReadI
import Derived.Test.YtfhmaincnlaapaaGreatAgBufSmall
import Derived.Test.YtfhmaincnlaapaaGreatAgNumMul
import Derived.Test.YtfhmaincnlaapaaGreatAgFkCell
namespace Go.Proofs.YtfhmaincnlaapaaGreat.Sy
open Go.ChangeShapes Go.WideShapes Go.ChangeAt Go.RowKit
set_option linter.unusedVariables false
set_option linter.unusedSimpArgs false
theorem leafs_eq {E:Env} {cs us:List Value} (h:Leafs E (cs.map .v) us):us=cs:=by
 refine List.ext_getElem? fun j=>?_
 have hl:=h.1
 rw [List.length_map] at hl
 rcases Nat.lt_or_ge j cs.length with hj|hj
 ·obtain ⟨u,hu⟩:=getElem?_of (l:=us) (j:=j) (by omega)
  obtain ⟨rfl,_⟩:=(h.2 j (.v cs[j]) u (by rw [List.getElem?_map,List.getElem?_eq_getElem hj];rfl) hu).1
  rw [hu,List.getElem?_eq_getElem hj]
 ·rw [List.getElem?_eq_none hj,List.getElem?_eq_none (by omega)]
theorem agg_eq {E:Env} {cs:List Value} {u:Value} (h:Sees1 E (.agg (cs.map .v)) u):u=.agg cs.toArray:=by
 obtain ⟨us,rfl,hl⟩:=h
 rw [leafs_eq hl]
theorem bytes_openC {E:Env} {l:List UInt8} {u:Value} (hF:∀ b,E.F b→b<E.w.heap.size) (h:Sees1 E (.lst l.length (byL l)) u):∃ A c,u=.slice A l.length c∧Rd E.w E.w.heap.size 1 A l.length (u8s l)∧l.length≤c∧c≤maxLen:=by
 obtain ⟨A,c,rfl,hr⟩:=bytes_open hF h
 refine ⟨A,c,rfl,hr,?_⟩
 have hz:Rep E.w E.F (.lst l.length (byL l)) (.slice A l.length c):=h
 generalize l.length=n at hz
 generalize byL l=cs at hz
 cases hz with
 | nil _ _ h=>exact ⟨Nat.zero_le _,h⟩
 | lst _ _ _ a us h0 h1 h2=>exact ⟨h1,h2⟩
theorem u8s_rep {w:World} {F:Nat→Prop} (t:List UInt8) (j:Nat) (x:AV) (u:Value) (hx:(byL t)[j]?=some x) (hu:(u8s t)[j]?=some u):Rep w F x u:=by
 unfold byL at hx
 unfold u8s at hu
 rw [List.getElem?_map] at hx hu
 cases hc:t[j]? with
 | none=>rw [hc] at hx;cases hx
 | some z =>
   rw [hc] at hx hu
   injection hx with hx;injection hu with hu;subst hx;subst hu
   exact .v _ rfl
theorem bytes_see {E:Env} {B:Nat} {A:Option Addr} {c:Nat} {t:List UInt8} (hF:∀ b,b<B→E.F b) (hR:Rd E.w B 1 A t.length (u8s t)) (hc:t.length≤c) (hcm:c≤maxLen):Sees1 E (.lst t.length (byL t)) (.slice A t.length c):=by
 show Rep E.w E.F (.lst t.length (byL t)) (.slice A t.length c)
 rcases Nat.eq_zero_or_pos t.length with h0|h0
 ·obtain rfl:=List.eq_nil_of_length_eq_zero h0
  exact .nil A c hcm
 ·obtain ⟨a,rfl,hb,hcell⟩:=hR.2 h0
  exact .lst _ c _ a (u8s t) h0 hc hcm (hF _ hb) (by simp [u8s,byL]) (fun u hu=>(List.mem_map.1 hu).elim fun z hz=>by rw [← hz.2];rfl) hcell (u8s_rep t)
theorem FnOk.weak {P:Program} {f:FuncId} {args:List AV} {pre post:List (Nat×AObj)} {r s:AV} (h:FnOk P f ⟨args,pre,r,post⟩) (hs:∀ (E:Env) (v:Value),Sees E r v→Sees E s v):FnOk P f ⟨args,pre,s,post⟩:=by
 intro M w0 E vs hob hm hl hv
 refine (h M w0 E vs hob hm hl hv).mono ?_
 rintro y w' ⟨E',v,h1,h2,h3,h4,h5,h6⟩
 exact ⟨E',v,h1,h2,h3,h4,h5,hs E' v h6⟩
def bysT (l:List UInt8):AV:=.lst l.length (byL l)
def askA (d:Int) (mu:Nat) (ms:Int):AV:=.agg [iz d,uz (mu:Nat),iz 0,.v (.float .f64 0),.v (.string ⟨#[]⟩),iz ms]
def gotA (g:GotS):AV:=.agg [uz (g.u:Nat),iz g.i,.v (.string ⟨g.t.toArray⟩),iz (g.n:Nat),iz (g.e:Nat)]
def askC (d:Int) (mu:Nat) (ms:Int):List Value:=[.int .i64 d,.int .u64 (mu:Int),.int .i64 0,.float .f64 0,.string ⟨#[]⟩,.int .i64 ms]
theorem read08_0 {t:List UInt8} (mu:Nat):FnOk Tryz.prog 112 ⟨[askA 0 mu 0,bysT t],[],gotA (rdU mu t),[]⟩ :=
 FnOk.of_new fun E vs hF hl hs=>by
  obtain ⟨u,v,rfl⟩:=len2 hl
  obtain rfl:=agg_eq (cs:=askC 0 mu 0) (hs 0 _ u rfl rfl)
  obtain ⟨A,c,rfl,hr,h1,h2⟩:=bytes_openC hF (hs 1 _ v rfl rfl)
  refine (refRead0 mu 0 0 ⟨#[]⟩ 0 A t.length c E.w.heap.size t E.w hr (Nat.le_trans h1 h2) (Nat.le_refl _)).mono ?_
  rintro y w' ⟨rfl,hb⟩
  exact ⟨_,rfl,hb,_,rfl,leafs_v _ [_,_,_,_,_] rfl⟩
theorem read08_2 {t:List UInt8}:FnOk Tryz.prog 112 ⟨[askA 2 0 0,bysT t],[],gotA (rdF t),[]⟩ :=
 FnOk.of_new fun E vs hF hl hs=>by
  obtain ⟨u,v,rfl⟩:=len2 hl
  obtain rfl:=agg_eq (cs:=askC 2 0 0) (hs 0 _ u rfl rfl)
  obtain ⟨A,c,rfl,hr,h1,h2⟩:=bytes_openC hF (hs 1 _ v rfl rfl)
  refine (refRead2 0 0 0 ⟨#[]⟩ 0 A t.length c E.w.heap.size t E.w hr (Nat.le_trans h1 h2) (Nat.le_refl _)).mono ?_
  rintro y w' ⟨rfl,hb⟩
  exact ⟨_,rfl,hb,_,rfl,leafs_v _ [_,_,_,_,_] rfl⟩
section
variable {t:List UInt8} (ht:t.length≤1000000)
include ht
theorem read08_1:FnOk Tryz.prog 112 ⟨[askA 1 0 0,bysT t],[],gotA (rdI t),[]⟩ :=
 FnOk.of_new fun E vs hF hl hs=>by
  obtain ⟨u,v,rfl⟩:=len2 hl
  obtain rfl:=agg_eq (cs:=askC 1 0 0) (hs 0 _ u rfl rfl)
  obtain ⟨A,c,rfl,hr,h1,h2⟩:=bytes_openC hF (hs 1 _ v rfl rfl)
  refine (refRead1 0 0 0 ⟨#[]⟩ 0 A t.length c E.w.heap.size t E.w hr ht h1 h2 (Nat.le_refl _)).mono ?_
  rintro y w' ⟨rfl,hb⟩
  exact ⟨_,rfl,hb,_,rfl,leafs_v _ [_,_,_,_,_] rfl⟩
theorem read08_4:FnOk Tryz.prog 112 ⟨[askA 4 0 283,bysT t],[],gotA (rdB 283 t),[]⟩ :=
 FnOk.of_new fun E vs hF hl hs=>by
  obtain ⟨u,v,rfl⟩:=len2 hl
  obtain rfl:=agg_eq (cs:=askC 4 0 283) (hs 0 _ u rfl rfl)
  obtain ⟨A,c,rfl,hr,h1,h2⟩:=bytes_openC hF (hs 1 _ v rfl rfl)
  refine (refRead4 0 0 0 ⟨#[]⟩ 283 A t.length c E.w.heap.size t E.w hr ht h1 h2 (Nat.le_refl _) (by decide)).mono ?_
  rintro y w' ⟨rfl,hb⟩
  exact ⟨_,rfl,hb,_,rfl,leafs_v _ [_,_,_,_,_] rfl⟩
end
def rdrO (q:Nat) (t:List UInt8) (p e:Nat):Nat×AObj:=(q,.cells 98 [bysT t,iz (p:Nat),iz (e:Nat)])
def askR (G:GotS) (e:Nat):GotS:=if e=0 then G else got0S 0
theorem byL_drop (t:List UInt8) (p:Nat):(byL t).drop p=byL (t.drop p):=by unfold byL;rw [List.map_drop]
theorem byL_len (t:List UInt8):(byL t).length=t.length:=by unfold byL;rw [List.length_map]
theorem cut_byT (t:List UInt8) (p:Nat):List.take (((t.length:Int).toNat-(p:Int).toNat)*1) (List.drop ((p:Int).toNat*1) (byL t))=byL (List.drop p t):=by
 rw [Int.toNat_natCast,Int.toNat_natCast,Nat.mul_one,Nat.mul_one,byL_drop,List.take_of_length_le (by rw [byL_len,List.length_drop];exact Nat.le_refl _)]
theorem ask_ok {d:Int} {mu:Nat} {ms:Int} {t:List UInt8} {p e:Nat} {G:GotS} (hp:p≤t.length) (ht:t.length≤1000000) (hn:G.n≤t.length-p) (hr:e=0→FnOk Tryz.prog 112 ⟨[askA d mu ms,bysT (t.drop p)],[],gotA G,[]⟩) :
 FnOk Tryz.prog 47 ⟨[.ptr 1000 0,askA d mu ms],[rdrO 1000 t p e],gotA (askR G e),[rdrO 1000 t (nextP e p (askR G e)) (nextE e (askR G e))]⟩:=by
 have hl:=byL_len t
 by_cases he:e=0
 ·have h:=hr he
  subst he
  unfold nextP nextE askR
  simp only [if_true]
  have hd:(t.drop p).length=t.length-p:=List.length_drop
  refine fn_go hmo Tryz.func47 (by kernel_rfl) [(9,Hint.val (AV.v (Value.int IntKind.i64 (0:Int)))),(22,Hint.call (Inst.mk [askA d mu ms,bysT (List.drop p t)] [] (gotA G) [])),(35,Hint.val (AV.v (Value.int IntKind.i64 (↑(p+G.n):Int))))] [] [[AV.v (Value.int IntKind.u64 (↑G.u:Int)),AV.v (Value.int IntKind.i64 G.i),AV.v (Value.string (ByteArray.mk G.t.toArray)),AV.v (Value.int IntKind.i64 (↑G.n:Int)),AV.v (Value.int IntKind.i64 (↑G.e:Int))]=[AV.v (Value.int IntKind.u64 (↑G.u:Int)),AV.v (Value.int IntKind.i64 G.i),AV.v (Value.string (ByteArray.mk G.t.toArray)),AV.v (Value.int IntKind.i64 (↑G.n:Int)),AV.v (Value.int IntKind.i64 (↑G.e:Int))],[AV.lst t.length (byL t),AV.v (Value.int IntKind.i64 (↑(p+G.n):Int)),AV.v (Value.int IntKind.i64 (↑G.e:Int))]=[AV.lst t.length (byL t),AV.v (Value.int IntKind.i64 (↑(p+G.n):Int)),AV.v (Value.int IntKind.i64 (↑G.e:Int))],some (AV.v (Value.int IntKind.i64 (↑(0:Nat):Int)))=some (AV.v (Value.int IntKind.i64 (0:Int))),(0:Int)≤(↑p:Int)∧(↑p:Int)≤(↑t.length:Int)∧(↑t.length:Int)≤(↑t.length:Int),[AV.v (Value.int IntKind.i64 d),AV.v (Value.int IntKind.u64 (↑mu:Int)),AV.v (Value.int IntKind.i64 (0:Int)),AV.v (Value.float FloatKind.f64 (0:Nat)),AV.v (Value.string (ByteArray.mk #[])),AV.v (Value.int IntKind.i64 ms)]=[AV.v (Value.int IntKind.i64 d),AV.v (Value.int IntKind.u64 (↑mu:Int)),AV.v (Value.int IntKind.i64 (0:Int)),AV.v (Value.float FloatKind.f64 (0:Nat)),AV.v (Value.string (ByteArray.mk #[])),AV.v (Value.int IntKind.i64 ms)]∧((↑t.length:Int).toNat-(↑p:Int).toNat=(List.drop p t).length∧List.take (((↑t.length:Int).toNat-(↑p:Int).toNat)*(1:Nat)) (List.drop ((↑p:Int).toNat*(1:Nat)) (byL t))=byL (List.drop p t))∧True,FnOk Tryz.prog (112:Nat) (Inst.mk [AV.agg [AV.v (Value.int IntKind.i64 d),AV.v (Value.int IntKind.u64 (↑mu:Int)),AV.v (Value.int IntKind.i64 (0:Int)),AV.v (Value.float FloatKind.f64 (0:Nat)),AV.v (Value.string (ByteArray.mk #[])),AV.v (Value.int IntKind.i64 ms)],AV.lst (List.drop p t).length (byL (List.drop p t))] [] (AV.agg [AV.v (Value.int IntKind.u64 (↑G.u:Int)),AV.v (Value.int IntKind.i64 G.i),AV.v (Value.string (ByteArray.mk G.t.toArray)),AV.v (Value.int IntKind.i64 (↑G.n:Int)),AV.v (Value.int IntKind.i64 (↑G.e:Int))]) []),IntKind.i64.wrap ((↑p:Int)+(↑G.n:Int))=(↑(p+G.n):Int)] (by kernel_rfl) ?_
  ((repeat' refine And.intro ?_ ?_);(iterate 2 (with_reducible rfl));(exact someI (by omega));(iterate 3 (omega));(with_reducible rfl);(omega);rotate_left 1;(exact True.intro);((show FnOk _ _ _;assumption));(exact Wi _ (by omega));(exact True.intro))
  all_goals exact cut_byT t p
 ·have e1:askR G e=got0S 0:=if_neg he
  rw [e1]
  unfold nextP nextE
  rw [if_neg he,if_neg he]
  refine fn_go hmo Tryz.func47 (by kernel_rfl) [(10,Hint.val (AV.v (Value.bool true)))] [] [[AV.v (Value.int IntKind.u64 (0:Int)),AV.v (Value.int IntKind.i64 (0:Int)),AV.v (Value.string (ByteArray.mk #[])),AV.v (Value.int IntKind.i64 (0:Int)),AV.v (Value.int IntKind.i64 (0:Int))]=[AV.v (Value.int IntKind.u64 (↑(0:Nat):Int)),AV.v (Value.int IntKind.i64 (got0S (0:Nat)).i),AV.v (Value.string (ByteArray.mk (got0S (0:Nat)).t.toArray)),AV.v (Value.int IntKind.i64 (↑(0:Nat):Int)),AV.v (Value.int IntKind.i64 (↑(0:Nat):Int))],[AV.lst t.length (byL t),AV.v (Value.int IntKind.i64 (↑p:Int)),AV.v (Value.int IntKind.i64 (↑e:Int))]=[AV.lst t.length (byL t),AV.v (Value.int IntKind.i64 (↑p:Int)),AV.v (Value.int IntKind.i64 (↑e:Int))],((↑e:Int) != (0:Int))=true] (by kernel_rfl) ?_
  ((repeat' refine And.intro ?_ ?_);(exact rfl);(with_reducible rfl);((with_reducible refine Ne ?_;omega));(exact True.intro))
theorem rdU_in (mu:Nat) (t:List UInt8):(rdU mu t).n≤t.length:=by
 unfold rdU got0S
 (repeat' split) <;> first|exact Nat.zero_le _|exact getU_fits t (by omega)
theorem rdI_in (t:List UInt8):(rdI t).n≤t.length:=by
 unfold rdI got0S
 (repeat' split) <;> first|exact Nat.zero_le _|exact getI_fits t (by omega)
theorem rdF_in (t:List UInt8):(rdF t).n≤t.length:=by
 unfold rdF got0S
 split
 ·exact Nat.zero_le _
 ·rename_i h
  show 8≤t.length
  unfold rgetF at h
  by_cases h8:8≤t.length
  ·exact h8
  ·rw [if_neg h8] at h
   split at h <;> exact absurd (by decide) h
section
variable {t:List UInt8} {p e:Nat} (hp:p≤t.length) (ht:t.length≤1000000)
include hp ht
theorem readU_fn {mu:Nat} (hm:mu<18446744073709551616):FnOk Tryz.prog 46 ⟨[.ptr 1000 0,uz (mu:Nat)],[rdrO 1000 t p e],uz ((inU t p e mu).1:Nat),[rdrO 1000 t (inU t p e mu).2.1 (inU t p e mu).2.2]⟩:=by
 have hl:(t.drop p).length=t.length-p:=List.length_drop
 have h:=ask_ok (d:=0) (mu:=mu) (ms:=0) (e:=e) hp ht (G:=rdU mu (t.drop p)) (by have:=rdU_in mu (t.drop p);omega) fun _=>read08_0 mu
 rw [inU_got t p e mu (askR (rdU mu (t.drop p)) e) rfl]
 generalize askR (rdU mu (t.drop p)) e=G at h
 simp only
 refine fn_go hmo Tryz.func46 (by kernel_rfl) [(8,Hint.call (Inst.mk [AV.ptr (1000:Nat) (0:Nat),askA (0:Int) mu (0:Int)] [rdrO (1000:Nat) t p e] (gotA G) [rdrO (1000:Nat) t (nextP e p G) (nextE e G)]))] [] [(↑G.u:Int)=(↑G.u:Int),[AV.lst t.length (byL t),AV.v (Value.int IntKind.i64 (↑(nextP e p G):Int)),AV.v (Value.int IntKind.i64 (↑(nextE e G):Int))]=[AV.lst t.length (byL t),AV.v (Value.int IntKind.i64 (↑(nextP e p G):Int)),AV.v (Value.int IntKind.i64 (↑(nextE e G):Int))],((1000:Nat)=(1000:Nat)∧(0:Nat)=(0:Nat))∧[AV.v (Value.int IntKind.i64 (0:Int)),AV.v (Value.int IntKind.u64 (↑mu:Int)),AV.v (Value.int IntKind.i64 (0:Int)),AV.v (Value.float FloatKind.f64 (0:Nat)),AV.v (Value.string (ByteArray.mk #[])),AV.v (Value.int IntKind.i64 (0:Int))]=[AV.v (Value.int IntKind.i64 (0:Int)),AV.v (Value.int IntKind.u64 (↑mu:Int)),AV.v (Value.int IntKind.i64 (0:Int)),AV.v (Value.float FloatKind.f64 (0:Nat)),AV.v (Value.string (ByteArray.mk #[])),AV.v (Value.int IntKind.i64 (0:Int))]∧True,FnOk Tryz.prog (47:Nat) (Inst.mk [AV.ptr (1000:Nat) (0:Nat),AV.agg [AV.v (Value.int IntKind.i64 (0:Int)),AV.v (Value.int IntKind.u64 (↑mu:Int)),AV.v (Value.int IntKind.i64 (0:Int)),AV.v (Value.float FloatKind.f64 (0:Nat)),AV.v (Value.string (ByteArray.mk #[])),AV.v (Value.int IntKind.i64 (0:Int))]] [((1000:Nat),AObj.cells (98:TypeId) [AV.lst t.length (byL t),AV.v (Value.int IntKind.i64 (↑p:Int)),AV.v (Value.int IntKind.i64 (↑e:Int))])] (AV.agg [AV.v (Value.int IntKind.u64 (↑G.u:Int)),AV.v (Value.int IntKind.i64 G.i),AV.v (Value.string (ByteArray.mk G.t.toArray)),AV.v (Value.int IntKind.i64 (↑G.n:Int)),AV.v (Value.int IntKind.i64 (↑G.e:Int))]) [((1000:Nat),AObj.cells (98:TypeId) [AV.lst t.length (byL t),AV.v (Value.int IntKind.i64 (↑(nextP e p G):Int)),AV.v (Value.int IntKind.i64 (↑(nextE e G):Int))])]),[AV.lst t.length (byL t),AV.v (Value.int IntKind.i64 (↑p:Int)),AV.v (Value.int IntKind.i64 (↑e:Int))]=[AV.lst t.length (byL t),AV.v (Value.int IntKind.i64 (↑p:Int)),AV.v (Value.int IntKind.i64 (↑e:Int))]] (by kernel_rfl) ?_
 ((repeat' refine And.intro ?_ ?_);(iterate 5 (with_reducible rfl));(exact True.intro);((show FnOk _ _ _;assumption));(with_reducible rfl);(exact True.intro))
theorem readI_fn:FnOk Tryz.prog 151 ⟨[.ptr 1000 0],[rdrO 1000 t p e],iz (inI_ t p e).1,[rdrO 1000 t (inI_ t p e).2.1 (inI_ t p e).2.2]⟩:=by
 have hl:(t.drop p).length=t.length-p:=List.length_drop
 have h:=ask_ok (d:=1) (mu:=0) (ms:=0) (e:=e) hp ht (G:=rdI (t.drop p)) (by have:=rdI_in (t.drop p);omega) fun _=>read08_1 (by omega)
 obtain ⟨g1,g2,g3⟩:=inI_got t p e (askR (rdI (t.drop p)) e) rfl
 have e1:inI_ t p e=((askR (rdI (t.drop p)) e).i,nextP e p (askR (rdI (t.drop p)) e),nextE e (askR (rdI (t.drop p)) e)):=by unfold inI_;rw [g1,g2,g3]
 rw [e1]
 clear g1 g2 g3 e1
 generalize askR (rdI (t.drop p)) e=G at h
 simp only
 refine fn_go hmo Tryz.func151 (by kernel_rfl) [(5,Hint.call (Inst.mk [AV.ptr (1000:Nat) (0:Nat),askA (1:Int) (0:Nat) (0:Int)] [rdrO (1000:Nat) t p e] (gotA G) [rdrO (1000:Nat) t (nextP e p G) (nextE e G)]))] [] [G.i=G.i,[AV.lst t.length (byL t),AV.v (Value.int IntKind.i64 (↑(nextP e p G):Int)),AV.v (Value.int IntKind.i64 (↑(nextE e G):Int))]=[AV.lst t.length (byL t),AV.v (Value.int IntKind.i64 (↑(nextP e p G):Int)),AV.v (Value.int IntKind.i64 (↑(nextE e G):Int))],((1000:Nat)=(1000:Nat)∧(0:Nat)=(0:Nat))∧[AV.v (Value.int IntKind.i64 (1:Int)),AV.v (Value.int IntKind.u64 (0:Int)),AV.v (Value.int IntKind.i64 (0:Int)),AV.v (Value.float FloatKind.f64 (0:Nat)),AV.v (Value.string (ByteArray.mk #[])),AV.v (Value.int IntKind.i64 (0:Int))]=[AV.v (Value.int IntKind.i64 (1:Int)),AV.v (Value.int IntKind.u64 (↑(0:Nat):Int)),AV.v (Value.int IntKind.i64 (0:Int)),AV.v (Value.float FloatKind.f64 (0:Nat)),AV.v (Value.string (ByteArray.mk #[])),AV.v (Value.int IntKind.i64 (0:Int))]∧True,FnOk Tryz.prog (47:Nat) (Inst.mk [AV.ptr (1000:Nat) (0:Nat),AV.agg [AV.v (Value.int IntKind.i64 (1:Int)),AV.v (Value.int IntKind.u64 (↑(0:Nat):Int)),AV.v (Value.int IntKind.i64 (0:Int)),AV.v (Value.float FloatKind.f64 (0:Nat)),AV.v (Value.string (ByteArray.mk #[])),AV.v (Value.int IntKind.i64 (0:Int))]] [((1000:Nat),AObj.cells (98:TypeId) [AV.lst t.length (byL t),AV.v (Value.int IntKind.i64 (↑p:Int)),AV.v (Value.int IntKind.i64 (↑e:Int))])] (AV.agg [AV.v (Value.int IntKind.u64 (↑G.u:Int)),AV.v (Value.int IntKind.i64 G.i),AV.v (Value.string (ByteArray.mk G.t.toArray)),AV.v (Value.int IntKind.i64 (↑G.n:Int)),AV.v (Value.int IntKind.i64 (↑G.e:Int))]) [((1000:Nat),AObj.cells (98:TypeId) [AV.lst t.length (byL t),AV.v (Value.int IntKind.i64 (↑(nextP e p G):Int)),AV.v (Value.int IntKind.i64 (↑(nextE e G):Int))])]),[AV.lst t.length (byL t),AV.v (Value.int IntKind.i64 (↑p:Int)),AV.v (Value.int IntKind.i64 (↑e:Int))]=[AV.lst t.length (byL t),AV.v (Value.int IntKind.i64 (↑p:Int)),AV.v (Value.int IntKind.i64 (↑e:Int))]] (by kernel_rfl) ?_
 ((repeat' refine And.intro ?_ ?_);(iterate 4 (with_reducible rfl));(exact rfl);(exact True.intro);((show FnOk _ _ _;assumption));(with_reducible rfl);(exact True.intro))
theorem askB_fn:∃ G:GotS,G.t=(inB_ t p e).1∧FnOk Tryz.prog 47 ⟨[.ptr 1000 0,askA 4 0 283],[rdrO 1000 t p e],gotA G,[rdrO 1000 t (inB_ t p e).2.1 (inB_ t p e).2.2]⟩:=by
 have hl:(t.drop p).length=t.length-p:=List.length_drop
 have h:=ask_ok (d:=4) (mu:=0) (ms:=283) (e:=e) hp ht (G:=rdB 283 (t.drop p)) (by have:=rdB_in (t.drop p);omega) fun _=>read08_4 (by omega)
 refine ⟨askR (rdB 283 (t.drop p)) e,?_,?_⟩
 ·unfold askR inB_
  split <;> rfl
 ·have e1:(inB_ t p e).2=(nextP e p (askR (rdB 283 (t.drop p)) e),nextE e (askR (rdB 283 (t.drop p)) e)):=by
   unfold askR inB_ nextP nextE
   by_cases he:e=0
   ·simp only [if_pos he]
   ·simp only [if_neg he]
  rw [e1];exact h
end
end Go.Proofs.YtfhmaincnlaapaaGreat.Sy
namespace Go.Proofs.YtfhmaincnlaapaaGreat
open Go.ChangeShapes Go.WideShapes Go.ChangeAt Go.RowKit
set_option linter.unusedVariables false
theorem NumV.drew {w:World} {B:Nat} {b:Bool} {A:Option Addr} {n c:Nat} {z:Int} (h:NumV w B b A n c z):NumV w.drew B b A n c z:=⟨h.sgn,h.len,h.rd.drew,h.hc,h.hm⟩
set_option maxRecDepth 20000 in
set_option maxHeartbeats 8000000 in
theorem sub01_any (w:World) (B:Nat) (b1:Bool) (A1:Option Addr) (n1 c1:Nat) (z1:Int) (b2:Bool) (A2:Option Addr) (n2 c2:Nat) (z2:Int) (h1:NumV w B b1 A1 n1 c1 z1) (h2:NumV w B b2 A2 n2 c2 z2) (hB:B≤w.heap.size) (hn1:n1≤1000000) (hn2:n2≤1000000) :
 Calls Tryz.prog 212 #[.agg #[.bool b1,.slice A1 n1 c1],.agg #[.bool b2,.slice A2 n2 c2]] w fun y w'=>RetNum w (z1-z2) y w':=by
 obtain ⟨W0,hW0⟩:∃ W0,W0=((w.alloc (.cells #[.bool b1,.slice A1 n1 c1] 134)).alloc (.cells #[.bool b2,.slice A2 n2 c2] 134)).alloc (.cells #[.bool false,.slice none 0 0] 134):=⟨_,rfl⟩
 have hz0:W0.heap.size=w.heap.size+1+1+1:=by rw [hW0];simp
 have hw:Below w.heap.size w W0:=by rw [hW0];exact belA (belA (belA (belR w) _) _) _
 have k1:Blk W0 w.heap.size 134 #[.bool b1,.slice A1 n1 c1]:=by rw [hW0];exact ((Blk.new w _ _).alloc _).alloc _
 have k2:Blk W0 (w.heap.size+1) 134 #[.bool b2,.slice A2 n2 c2]:=by
  rw [hW0];have:=(Blk.new (w.alloc (.cells #[.bool b1,.slice A1 n1 c1] 134)) 134 #[.bool b2,.slice A2 n2 c2]).alloc (.cells #[.bool false,.slice none 0 0] 134)
  simpa using this
 have k3:Blk W0 (w.heap.size+1+1) 134 #[.bool false,.slice none 0 0]:=by
  rw [hW0];have:=Blk.new ((w.alloc (.cells #[.bool b1,.slice A1 n1 c1] 134)).alloc (.cells #[.bool b2,.slice A2 n2 c2] 134)) 134 #[.bool false,.slice none 0 0]
  simpa using this
 have hv1:=h1.keep (hw.mono hB) (Nat.le_refl _)
 have hv2:=h2.keep (hw.mono hB) (Nat.le_refl _)
 have HNEG:=Lib.hid (neg01_any W0.drew B b2 A2 n2 c2 z2 hv2.drew (by show B≤W0.heap.size;omega))
 have hl2:nd z2≤1000000:=by have:=h2.nd;omega
 have hl2':nd (-z2)≤1000000:=by unfold nd at *;rw [Int.natAbs_neg];exact hl2
 have x0:=k1.cell 0;have x1:=k1.cell 1;have y0:=k2.cell 0;have y1:=k2.cell 1
 simp at x0 x1 y0 y1
 have HW0:=Lib.hid hW0;have HW:=Lib.hid hw;have K1:=Lib.hid k1;have K2:=Lib.hid k2;have K3:=Lib.hid k3;have HZ:=Lib.hid hz0;have HV1:=Lib.hid hv1;have HL2:=Lib.hid hl2'
 clear hW0 hw k1 k2 k3 hz0 hv1 hv2 h1 h2 hl2 hl2'
 go_enter Tryz.func212,Tryz.ntmps212
 go_wp2
 rw [← HW0.out]
 have HS0:Hid (W0.drew.cell? ⟨w.heap.size,0,none⟩=some (.bool b1)∧W0.drew.cell? ⟨w.heap.size,1,none⟩=some (.slice A1 n1 c1)∧W0.drew.cell? ⟨w.heap.size+1,0,none⟩=some (.bool b2)∧W0.drew.cell? ⟨w.heap.size+1,1,none⟩=some (.slice A2 n2 c2)):=Lib.hid ⟨x0,x1,y0,y1⟩
 go_region_held (fun W=>W.cell? ⟨w.heap.size,0,none⟩=some (.bool b1)∧W.cell? ⟨w.heap.size,1,none⟩=some (.slice A1 n1 c1)∧W.cell? ⟨w.heap.size+1,0,none⟩=some (.bool b2)∧W.cell? ⟨w.heap.size+1,1,none⟩=some (.slice A2 n2 c2)) (first|(with_reducible exact HS0.out)|(exact hk5)|(exact hk6)|(refine ⟨?_,?_,?_,?_⟩ <;> (rw [World.cell?_setCell_far _ _ _ _ (by simp only [ne_eq];omega),World.cell?_setCell_far _ _ _ _ (by simp only [ne_eq];omega)];first|exact hk6.1|exact hk6.2.1|exact hk6.2.2.1|exact hk6.2.2.2))) (first
  | (go_at_call 138;(with_reducible refine HNEG.out.mono ?_);rintro y w5 ⟨b5,A5,n5,c5,rfl,hv5,hb5⟩;have ka:=K1.out.drew.below hb5 K1.out.lt;have kb:=K2.out.drew.below hb5 K2.out.lt;have hk5:w5.cell? ⟨w.heap.size,0,none⟩=some (.bool b1)∧w5.cell? ⟨w.heap.size,1,none⟩=some (.slice A1 n1 c1)∧w5.cell? ⟨w.heap.size+1,0,none⟩=some (.bool b2)∧w5.cell? ⟨w.heap.size+1,1,none⟩=some (.slice A2 n2 c2):=⟨ka.cell 0,ka.cell 1,kb.cell 0,kb.cell 1⟩;have HB5:=Lib.hid ((belR W0).drew.trans hb5);have hn5:n5≤1000000:=(by have:=hv5.nd;have:=HL2.out;omega);have HADD:=Lib.hid (add01_any w5 w5.heap.size b1 A1 n1 c1 z1 b5 A5 n5 c5 (-z2) (HV1.out.keep (HB5.out.mono (by have:=HZ.out;omega)) (by have:=HB5.out.size;have:=HZ.out;omega)) hv5 (Nat.le_refl _) hn1 hn5);have HKA:=Lib.hid ka;have HKB:=Lib.hid kb;clear ka kb hv5 hb5)
  | (go_at_call 185;(with_reducible refine HADD.out.mono ?_);rintro y w6 ⟨b6,A6,n6,c6,rfl,hv6,hb6⟩;have ka:=HKA.out.below hb6 HKA.out.lt;have kb:=HKB.out.below hb6 HKB.out.lt;have hk6:w6.cell? ⟨w.heap.size,0,none⟩=some (.bool b1)∧w6.cell? ⟨w.heap.size,1,none⟩=some (.slice A1 n1 c1)∧w6.cell? ⟨w.heap.size+1,0,none⟩=some (.bool b2)∧w6.cell? ⟨w.heap.size+1,1,none⟩=some (.slice A2 n2 c2):=⟨ka.cell 0,ka.cell 1,kb.cell 0,kb.cell 1⟩;have HB6:=Lib.hid (HB5.out.trans (hb6.mono HB5.out.size));have hk3:=K3.out.below HB6.out K3.out.lt;have r0:w6.cell? ⟨w.heap.size+1+1,0,none⟩=some (.bool false):=hk3.cell 0;have r1:w6.cell? ⟨w.heap.size+1+1,1,none⟩=some (.slice none 0 0):=hk3.cell 1;have f0:w6.frozen? ⟨w.heap.size+1+1,0,none⟩=false:=hk3.frozen 0;have f1:w6.frozen? ⟨w.heap.size+1+1,1,none⟩=false:=hk3.frozen 1;have HK3:=Lib.hid hk3;have HV6:=Lib.hid hv6;clear ka kb hv6 hb6 hk3))
 all_goals
  have hv6:=HV6.out
  rw [show z1 + -z2=z1-z2 from by omega] at hv6
  have HV7:=Lib.hid hv6
  have HB7:=Lib.hid (HW.out.trans (HB6.out.mono (by have:=HZ.out;omega)))
  clear hv6
  go_wp2
  exact bodyPost_ret (v:=.agg #[.bool b6,.slice A6 n6 c6]) (by simp [results,Tryz.results212,go_sem, *]) rfl (RetNum.store HV7.out HK3.out HB7.out (by omega) (Nat.le_refl _))
end Go.Proofs.YtfhmaincnlaapaaGreat
