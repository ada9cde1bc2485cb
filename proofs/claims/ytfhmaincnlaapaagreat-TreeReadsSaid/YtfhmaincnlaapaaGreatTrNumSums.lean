/- bushelref01: sum, rest, Nat. -/
import Derived.Deep.DeepCutAuto
import Derived.Test.YtfhmaincnlaapaaGreatTrVcs
import Derived.Test.YtfhmaincnlaapaaGreatTrRefReadI
import Derived.Test.YtfhmaincnlaapaaGreatTrBufSmall
import Derived.Test.YtfhmaincnlaapaaGreatTrCellGet
import Derived.Test.YtfhmaincnlaapaaGreatTrFactGet
import Derived.Test.YtfhmaincnlaapaaGreatTrExactRead
import Derived.Test.YtfhmaincnlaapaaGreatTrReadLeaf
namespace Go.Proofs.YtfhmaincnlaapaaGreat.Sy
open Go.ChangeShapes Go.WideShapes Go.ChangeAt Go.RowKit
set_option linter.unusedVariables false
set_option linter.unusedSimpArgs false
theorem leafs_eq {E:Env} {cs us:List Value} (h:Leafs E (cs.map .v) us):us=cs:=by
 refine List.ext_getElem? fun j=>?_
 have hl:=h.1
 rw [List.length_map] at hl
 rcases Nat.lt_or_ge j cs.length with hj|hj
 ·obtain ⟨u,hu⟩:=getElem?_of (l:=us) (j:=j) (by omega)
  obtain ⟨rfl,_⟩:=(h.2 j (.v cs[j]) u (by rw [List.getElem?_map,List.getElem?_eq_getElem hj];rfl) hu).1
  rw [hu,List.getElem?_eq_getElem hj]
 ·rw [List.getElem?_eq_none hj,List.getElem?_eq_none (by omega)]
theorem agg_eq {E:Env} {cs:List Value} {u:Value} (h:Sees1 E (.agg (cs.map .v)) u):u=.agg cs.toArray:=by
 obtain ⟨us,rfl,hl⟩:=h
 rw [leafs_eq hl]
theorem bytes_openC {E:Env} {l:List UInt8} {u:Value} (hF:∀ b,E.F b→b<E.w.heap.size) (h:Sees1 E (.lst l.length (byL l)) u):∃ A c,u=.slice A l.length c∧Rd E.w E.w.heap.size 1 A l.length (u8s l)∧l.length≤c∧c≤maxLen:=by
 obtain ⟨A,c,rfl,hr⟩:=bytes_open hF h
 refine ⟨A,c,rfl,hr,?_⟩
 have hz:Rep E.w E.F (.lst l.length (byL l)) (.slice A l.length c):=h
 generalize l.length=n at hz
 generalize byL l=cs at hz
 cases hz with
 | nil _ _ h=>exact ⟨Nat.zero_le _,h⟩
 | lst _ _ _ a us h0 h1 h2=>exact ⟨h1,h2⟩
theorem u8s_rep {w:World} {F:Nat→Prop} (t:List UInt8) (j:Nat) (x:AV) (u:Value) (hx:(byL t)[j]?=some x) (hu:(u8s t)[j]?=some u):Rep w F x u:=by
 unfold byL at hx
 unfold u8s at hu
 rw [List.getElem?_map] at hx hu
 cases hc:t[j]? with
 | none=>rw [hc] at hx;cases hx
 | some z =>
   rw [hc] at hx hu
   injection hx with hx;injection hu with hu;subst hx;subst hu
   exact .v _ rfl
theorem bytes_see {E:Env} {B:Nat} {A:Option Addr} {c:Nat} {t:List UInt8} (hF:∀ b,b<B→E.F b) (hR:Rd E.w B 1 A t.length (u8s t)) (hc:t.length≤c) (hcm:c≤maxLen):Sees1 E (.lst t.length (byL t)) (.slice A t.length c):=by
 show Rep E.w E.F (.lst t.length (byL t)) (.slice A t.length c)
 rcases Nat.eq_zero_or_pos t.length with h0|h0
 ·obtain rfl:=List.eq_nil_of_length_eq_zero h0
  exact .nil A c hcm
 ·obtain ⟨a,rfl,hb,hcell⟩:=hR.2 h0
  exact .lst _ c _ a (u8s t) h0 hc hcm (hF _ hb) (by simp [u8s,byL]) (fun u hu=>(List.mem_map.1 hu).elim fun z hz=>by rw [←hz.2];rfl) hcell (u8s_rep t)
theorem FnOk.weak {P:Program} {f:FuncId} {args:List AV} {pre post:List (Nat×AObj)} {r s:AV} (h:FnOk P f ⟨args,pre,r,post⟩) (hs:∀ (E:Env) (v:Value),Sees E r v→Sees E s v):FnOk P f ⟨args,pre,s,post⟩:=by
 intro M w0 E vs hob hm hl hv
 refine (h M w0 E vs hob hm hl hv).mono ?_
 rintro y w' ⟨E',v,h1,h2,h3,h4,h5,h6⟩
 exact ⟨E',v,h1,h2,h3,h4,h5,hs E' v h6⟩
def bysT (l:List UInt8):AV:=.lst l.length (byL l)
def askA (d:Int) (mu:Nat) (ms:Int):AV:=.agg [iz d,uz (mu:Nat),iz 0,.v (.float .f64 0),.v (.string ⟨#[]⟩),iz ms]
def gotA (g:GotS):AV:=.agg [uz (g.u:Nat),iz g.i,.v (.string ⟨g.t.toArray⟩),iz (g.n:Nat),iz (g.e:Nat)]
def askC (d:Int) (mu:Nat) (ms:Int):List Value:=[.int .i64 d,.int .u64 (mu:Int),.int .i64 0,.float .f64 0,.string ⟨#[]⟩,.int .i64 ms]
theorem read08_0 {t:List UInt8} (mu:Nat):FnOk Tryz.prog 112 ⟨[askA 0 mu 0,bysT t],[],gotA (rdU mu t),[]⟩ :=
 FnOk.of_new fun E vs hF hl hs=>by
  obtain ⟨u,v,rfl⟩:=len2 hl
  obtain rfl:=agg_eq (cs:=askC 0 mu 0) (hs 0 _ u rfl rfl)
  obtain ⟨A,c,rfl,hr,h1,h2⟩:=bytes_openC hF (hs 1 _ v rfl rfl)
  refine (refRead0 mu 0 0 ⟨#[]⟩ 0 A t.length c E.w.heap.size t E.w hr (Nat.le_trans h1 h2) (Nat.le_refl _)).mono ?_
  rintro y w' ⟨rfl,hb⟩
  exact ⟨_,rfl,hb,_,rfl,leafs_v _ [_,_,_,_,_] rfl⟩
theorem read08_2 {t:List UInt8}:FnOk Tryz.prog 112 ⟨[askA 2 0 0,bysT t],[],gotA (rdF t),[]⟩ :=
 FnOk.of_new fun E vs hF hl hs=>by
  obtain ⟨u,v,rfl⟩:=len2 hl
  obtain rfl:=agg_eq (cs:=askC 2 0 0) (hs 0 _ u rfl rfl)
  obtain ⟨A,c,rfl,hr,h1,h2⟩:=bytes_openC hF (hs 1 _ v rfl rfl)
  refine (refRead2 0 0 0 ⟨#[]⟩ 0 A t.length c E.w.heap.size t E.w hr (Nat.le_trans h1 h2) (Nat.le_refl _)).mono ?_
  rintro y w' ⟨rfl,hb⟩
  exact ⟨_,rfl,hb,_,rfl,leafs_v _ [_,_,_,_,_] rfl⟩
section
variable {t:List UInt8} (ht:t.length≤1000000)
include ht
theorem read08_1:FnOk Tryz.prog 112 ⟨[askA 1 0 0,bysT t],[],gotA (rdI t),[]⟩ :=
 FnOk.of_new fun E vs hF hl hs=>by
  obtain ⟨u,v,rfl⟩:=len2 hl
  obtain rfl:=agg_eq (cs:=askC 1 0 0) (hs 0 _ u rfl rfl)
  obtain ⟨A,c,rfl,hr,h1,h2⟩:=bytes_openC hF (hs 1 _ v rfl rfl)
  refine (refRead1 0 0 0 ⟨#[]⟩ 0 A t.length c E.w.heap.size t E.w hr ht h1 h2 (Nat.le_refl _)).mono ?_
  rintro y w' ⟨rfl,hb⟩
  exact ⟨_,rfl,hb,_,rfl,leafs_v _ [_,_,_,_,_] rfl⟩
theorem read08_4:FnOk Tryz.prog 112 ⟨[askA 4 0 283,bysT t],[],gotA (rdB 283 t),[]⟩ :=
 FnOk.of_new fun E vs hF hl hs=>by
  obtain ⟨u,v,rfl⟩:=len2 hl
  obtain rfl:=agg_eq (cs:=askC 4 0 283) (hs 0 _ u rfl rfl)
  obtain ⟨A,c,rfl,hr,h1,h2⟩:=bytes_openC hF (hs 1 _ v rfl rfl)
  refine (refRead4 0 0 0 ⟨#[]⟩ 283 A t.length c E.w.heap.size t E.w hr ht h1 h2 (Nat.le_refl _) (by decide)).mono ?_
  rintro y w' ⟨rfl,hb⟩
  exact ⟨_,rfl,hb,_,rfl,leafs_v _ [_,_,_,_,_] rfl⟩
end
def rdrO (q:Nat) (t:List UInt8) (p e:Nat):Nat×AObj:=(q,.cells 98 [bysT t,iz (p:Nat),iz (e:Nat)])
def askR (G:GotS) (e:Nat):GotS:=if e=0 then G else got0S 0
theorem byL_drop (t:List UInt8) (p:Nat):(byL t).drop p=byL (t.drop p):=by unfold byL;rw [List.map_drop]
theorem byL_len (t:List UInt8):(byL t).length=t.length:=by unfold byL;rw [List.length_map]
theorem cut_byT (t:List UInt8) (p:Nat):List.take (((t.length:Int).toNat-(p:Int).toNat)*1) (List.drop ((p:Int).toNat*1) (byL t))=byL (List.drop p t):=by
 rw [Int.toNat_natCast,Int.toNat_natCast,Nat.mul_one,Nat.mul_one,byL_drop,List.take_of_length_le (by rw [byL_len,List.length_drop];exact Nat.le_refl _)]
theorem ask_ok {d:Int} {mu:Nat} {ms:Int} {t:List UInt8} {p e:Nat} {G:GotS} (hp:p≤t.length) (ht:t.length≤1000000) (hn:G.n≤t.length-p) (hr:e=0→FnOk Tryz.prog 112 ⟨[askA d mu ms,bysT (t.drop p)],[],gotA G,[]⟩) :
 FnOk Tryz.prog 47 ⟨[.ptr 1000 0,askA d mu ms],[rdrO 1000 t p e],gotA (askR G e),[rdrO 1000 t (nextP e p (askR G e)) (nextE e (askR G e))]⟩:=by
 have hl:=byL_len t
 by_cases he:e=0
 ·have h:=hr he
  subst he
  unfold nextP nextE askR
  simp only [if_true]
  have hd:(t.drop p).length=t.length-p:=List.length_drop
  refine fn_go hmo Tryz.func47 (by kernel_rfl) [(9,.val (iz (0:Int))),(22,.call (Inst.mk [askA d mu ms,bysT (List.drop p t)] [] (gotA G) [])),(35,.val (iz (↑(p+G.n):Int)))] [] [[uz (↑G.u:Int),iz G.i,AV.v (Value.string (ByteArray.mk G.t.toArray)),iz (↑G.n:Int),iz (↑G.e:Int)]=[uz (↑G.u:Int),iz G.i,AV.v (Value.string (ByteArray.mk G.t.toArray)),iz (↑G.n:Int),iz (↑G.e:Int)],[AV.lst t.length (byL t),iz (↑(p+G.n):Int),iz (↑G.e:Int)]=[AV.lst t.length (byL t),iz (↑(p+G.n):Int),iz (↑G.e:Int)],some (iz (↑(0:Nat):Int))=some (iz (0:Int)),(0:Int)≤(↑p:Int)∧(↑p:Int)≤(↑t.length:Int)∧(↑t.length:Int)≤(↑t.length:Int),[iz d,uz mu,iz (0:Int),AV.v (Value.float FloatKind.f64 (0:Nat)),AV.v (Value.string (ByteArray.mk #[])),iz ms]=[iz d,uz mu,iz (0:Int),AV.v (Value.float FloatKind.f64 (0:Nat)),AV.v (Value.string (ByteArray.mk #[])),iz ms]∧((↑t.length:Int).toNat-(↑p:Int).toNat=(List.drop p t).length∧List.take (((↑t.length:Int).toNat-(↑p:Int).toNat)*(1:Nat)) (List.drop ((↑p:Int).toNat*(1:Nat)) (byL t))=byL (List.drop p t))∧True,FnOk Tryz.prog (112:Nat) (Inst.mk [AV.agg [iz d,uz mu,iz (0:Int),AV.v (Value.float FloatKind.f64 (0:Nat)),AV.v (Value.string (ByteArray.mk #[])),iz ms],AV.lst (List.drop p t).length (byL (List.drop p t))] [] (AV.agg [uz (↑G.u:Int),iz G.i,AV.v (Value.string (ByteArray.mk G.t.toArray)),iz (↑G.n:Int),iz (↑G.e:Int)]) []),IntKind.i64.wrap ((↑p:Int)+(↑G.n:Int))=(↑(p+G.n):Int)] (by kernel_rfl) ?_
  ((repeat' refine And.intro ?_ ?_);(iterate 2 (with_reducible rfl));(exact someI (by omega));(iterate 3 (omega));(with_reducible rfl);(omega);rotate_left 1;(exact True.intro);((show FnOk _ _ _;assumption));(exact Wi _ (by omega));(exact True.intro))
  all_goals exact cut_byT t p
 ·have e1:askR G e=got0S 0:=if_neg he
  rw [e1]
  unfold nextP nextE
  rw [if_neg he,if_neg he]
  refine fn_go hmo Tryz.func47 (by kernel_rfl) [(10,.val (bz true))] [] [[uz (0:Int),iz (0:Int),AV.v (Value.string (ByteArray.mk #[])),iz (0:Int),iz (0:Int)]=[uz (↑(0:Nat):Int),iz (got0S (0:Nat)).i,AV.v (Value.string (ByteArray.mk (got0S (0:Nat)).t.toArray)),iz (↑(0:Nat):Int),iz (↑(0:Nat):Int)],[AV.lst t.length (byL t),iz p,iz e]=[AV.lst t.length (byL t),iz p,iz e],((↑e:Int) != (0:Int))=true] (by kernel_rfl) ?_
  ((repeat' refine And.intro ?_ ?_);(exact rfl);(with_reducible rfl);((with_reducible refine Ne ?_;omega));(exact True.intro))
theorem rdU_in (mu:Nat) (t:List UInt8):(rdU mu t).n≤t.length:=by
 unfold rdU got0S
 (repeat' split)<;>first|exact Nat.zero_le _|exact getU_fits t (by omega)
theorem rdI_in (t:List UInt8):(rdI t).n≤t.length:=by
 unfold rdI got0S
 (repeat' split)<;>first|exact Nat.zero_le _|exact getI_fits t (by omega)
theorem rdF_in (t:List UInt8):(rdF t).n≤t.length:=by
 unfold rdF got0S
 split
 ·exact Nat.zero_le _
 ·rename_i h
  show 8≤t.length
  unfold rgetF at h
  by_cases h8:8≤t.length
  ·exact h8
  ·rw [if_neg h8] at h
   split at h<;>exact absurd (by decide) h
section
variable {t:List UInt8} {p e:Nat} (hp:p≤t.length) (ht:t.length≤1000000)
include hp ht
theorem readU_fn {mu:Nat} (hm:mu<18446744073709551616):FnOk Tryz.prog 46 ⟨[.ptr 1000 0,uz (mu:Nat)],[rdrO 1000 t p e],uz ((inU t p e mu).1:Nat),[rdrO 1000 t (inU t p e mu).2.1 (inU t p e mu).2.2]⟩:=by
 have hl:(t.drop p).length=t.length-p:=List.length_drop
 have h:=ask_ok (d:=0) (mu:=mu) (ms:=0) (e:=e) hp ht (G:=rdU mu (t.drop p)) (by have:=rdU_in mu (t.drop p);omega) fun _=>read08_0 mu
 rw [inU_got t p e mu (askR (rdU mu (t.drop p)) e) rfl]
 generalize askR (rdU mu (t.drop p)) e=G at h
 simp only
 refine fn_go hmo Tryz.func46 (by kernel_rfl) [(8,.call (Inst.mk [AV.ptr (1000:Nat) (0:Nat),askA (0:Int) mu (0:Int)] [rdrO (1000:Nat) t p e] (gotA G) [rdrO (1000:Nat) t (nextP e p G) (nextE e G)]))] [] [(↑G.u:Int)=(↑G.u:Int),[AV.lst t.length (byL t),iz (↑(nextP e p G):Int),iz (↑(nextE e G):Int)]=[AV.lst t.length (byL t),iz (↑(nextP e p G):Int),iz (↑(nextE e G):Int)],((1000:Nat)=(1000:Nat)∧(0:Nat)=(0:Nat))∧[iz (0:Int),uz mu,iz (0:Int),AV.v (Value.float FloatKind.f64 (0:Nat)),AV.v (Value.string (ByteArray.mk #[])),iz (0:Int)]=[iz (0:Int),uz mu,iz (0:Int),AV.v (Value.float FloatKind.f64 (0:Nat)),AV.v (Value.string (ByteArray.mk #[])),iz (0:Int)]∧True,FnOk Tryz.prog (47:Nat) (Inst.mk [AV.ptr (1000:Nat) (0:Nat),AV.agg [iz (0:Int),uz mu,iz (0:Int),AV.v (Value.float FloatKind.f64 (0:Nat)),AV.v (Value.string (ByteArray.mk #[])),iz (0:Int)]] [((1000:Nat),AObj.cells (98:TypeId) [AV.lst t.length (byL t),iz p,iz e])] (AV.agg [uz (↑G.u:Int),iz G.i,AV.v (Value.string (ByteArray.mk G.t.toArray)),iz (↑G.n:Int),iz (↑G.e:Int)]) [((1000:Nat),AObj.cells (98:TypeId) [AV.lst t.length (byL t),iz (↑(nextP e p G):Int),iz (↑(nextE e G):Int)])]),[AV.lst t.length (byL t),iz p,iz e]=[AV.lst t.length (byL t),iz p,iz e]] (by kernel_rfl) ?_
 ((repeat' refine And.intro ?_ ?_);(iterate 5 (with_reducible rfl));(exact True.intro);((show FnOk _ _ _;assumption));(with_reducible rfl);(exact True.intro))
theorem readI_fn:FnOk Tryz.prog 151 ⟨[.ptr 1000 0],[rdrO 1000 t p e],iz (inI_ t p e).1,[rdrO 1000 t (inI_ t p e).2.1 (inI_ t p e).2.2]⟩:=by
 have hl:(t.drop p).length=t.length-p:=List.length_drop
 have h:=ask_ok (d:=1) (mu:=0) (ms:=0) (e:=e) hp ht (G:=rdI (t.drop p)) (by have:=rdI_in (t.drop p);omega) fun _=>read08_1 (by omega)
 obtain ⟨g1,g2,g3⟩:=inI_got t p e (askR (rdI (t.drop p)) e) rfl
 have e1:inI_ t p e=((askR (rdI (t.drop p)) e).i,nextP e p (askR (rdI (t.drop p)) e),nextE e (askR (rdI (t.drop p)) e)):=by unfold inI_;rw [g1,g2,g3]
 rw [e1]
 clear g1 g2 g3 e1
 generalize askR (rdI (t.drop p)) e=G at h
 simp only
 refine fn_go hmo Tryz.func151 (by kernel_rfl) [(5,.call (Inst.mk [AV.ptr (1000:Nat) (0:Nat),askA (1:Int) (0:Nat) (0:Int)] [rdrO (1000:Nat) t p e] (gotA G) [rdrO (1000:Nat) t (nextP e p G) (nextE e G)]))] [] [G.i=G.i,[AV.lst t.length (byL t),iz (↑(nextP e p G):Int),iz (↑(nextE e G):Int)]=[AV.lst t.length (byL t),iz (↑(nextP e p G):Int),iz (↑(nextE e G):Int)],((1000:Nat)=(1000:Nat)∧(0:Nat)=(0:Nat))∧[iz (1:Int),uz (0:Int),iz (0:Int),AV.v (Value.float FloatKind.f64 (0:Nat)),AV.v (Value.string (ByteArray.mk #[])),iz (0:Int)]=[iz (1:Int),uz (↑(0:Nat):Int),iz (0:Int),AV.v (Value.float FloatKind.f64 (0:Nat)),AV.v (Value.string (ByteArray.mk #[])),iz (0:Int)]∧True,FnOk Tryz.prog (47:Nat) (Inst.mk [AV.ptr (1000:Nat) (0:Nat),AV.agg [iz (1:Int),uz (↑(0:Nat):Int),iz (0:Int),AV.v (Value.float FloatKind.f64 (0:Nat)),AV.v (Value.string (ByteArray.mk #[])),iz (0:Int)]] [((1000:Nat),AObj.cells (98:TypeId) [AV.lst t.length (byL t),iz p,iz e])] (AV.agg [uz (↑G.u:Int),iz G.i,AV.v (Value.string (ByteArray.mk G.t.toArray)),iz (↑G.n:Int),iz (↑G.e:Int)]) [((1000:Nat),AObj.cells (98:TypeId) [AV.lst t.length (byL t),iz (↑(nextP e p G):Int),iz (↑(nextE e G):Int)])]),[AV.lst t.length (byL t),iz p,iz e]=[AV.lst t.length (byL t),iz p,iz e]] (by kernel_rfl) ?_
 ((repeat' refine And.intro ?_ ?_);(iterate 4 (with_reducible rfl));(exact rfl);(exact True.intro);((show FnOk _ _ _;assumption));(with_reducible rfl);(exact True.intro))
theorem askB_fn:∃ G:GotS,G.t=(inB_ t p e).1∧FnOk Tryz.prog 47 ⟨[.ptr 1000 0,askA 4 0 283],[rdrO 1000 t p e],gotA G,[rdrO 1000 t (inB_ t p e).2.1 (inB_ t p e).2.2]⟩:=by
 have hl:(t.drop p).length=t.length-p:=List.length_drop
 have h:=ask_ok (d:=4) (mu:=0) (ms:=283) (e:=e) hp ht (G:=rdB 283 (t.drop p)) (by have:=rdB_in (t.drop p);omega) fun _=>read08_4 (by omega)
 refine ⟨askR (rdB 283 (t.drop p)) e,?_,?_⟩
 ·unfold askR inB_
  split<;>rfl
 ·have e1:(inB_ t p e).2=(nextP e p (askR (rdB 283 (t.drop p)) e),nextE e (askR (rdB 283 (t.drop p)) e)):=by
   unfold askR inB_ nextP nextE
   by_cases he:e=0
   ·simp only [if_pos he]
   ·simp only [if_neg he]
  rw [e1];exact h
end
end Go.Proofs.YtfhmaincnlaapaaGreat.Sy
namespace Go.Proofs.YtfhmaincnlaapaaGreat
open Go.ChangeShapes Go.WideShapes Go.ChangeAt Go.RowKit
set_option linter.unusedVariables false
abbrev i64n (l:List Nat):List Value:=l.map (fun n:Nat=>Value.int .i64 (n:Int))
theorem i64n_app (l m:List Nat):i64n (l++m)=i64n l++i64n m:=by simp [i64n]
theorem i64n_one (l:List Nat):∀ u∈i64n l,u.oneCell'=true:=by intro u hu;obtain ⟨x,_,rfl⟩:=List.mem_map.1 hu;rfl
structure NumV (w:World) (B:Nat) (b:Bool) (A:Option Addr) (n c:Nat) (z:Int):Prop where
 sgn:b=decide (z<0)
 len:n=(dig z.natAbs).length
 rd:Rd w B 1 A n (i64n (dig z.natAbs))
 hc:n≤c
 hm:c≤maxLen
theorem NumV.keep {w w':World} {B B':Nat} {b:Bool} {A:Option Addr} {n c:Nat} {z:Int} (h:NumV w B b A n c z) (hb:Below B w w') (hB:B≤B'):NumV w' B' b A n c z:=⟨h.sgn,h.len,(h.rd.below hb).more hB,h.hc,h.hm⟩
theorem NumV.nd {w:World} {B:Nat} {b:Bool} {A:Option Addr} {n c:Nat} {z:Int} (h:NumV w B b A n c z):n=nd z:=h.len
theorem NumV.zero (w:World) (B:Nat):NumV w B false none 0 0 0:=⟨rfl,by rw [show (0:Int).natAbs=0 from rfl,dig_zero];rfl,by rw [show (0:Int).natAbs=0 from rfl,dig_zero];exact Rd.nil,Nat.le_refl _,by simp [maxLen]⟩
def sgZ (b:Bool) (x:Nat):Int:=if b then -(x:Int) else x
theorem sgZ_abs (b:Bool) (x:Nat):(sgZ b x).natAbs=x:=by unfold sgZ;split<;>omega
theorem sgZ_neg (b:Bool) (x:Nat):decide (sgZ b x<0)=(b&&decide (0<x)):=by
 unfold sgZ
 cases b
 ·simp
 ·simp
theorem Rd.i64n {w:World} {B:Nat} {A:Option Addr} {l:List Nat} (h:Rd w B 1 A l.length (i64n l)) {k:Nat} (hk:k<l.length):∃ a,A=some a∧a.block<B∧w.cell? (a.add k)=some (.int .i64 ((dg l k:Nat):Int)):=by
 obtain ⟨a,u,e,hb,hx,hc⟩:=h.at1 hk
 refine ⟨a,e,hb,?_⟩
 rw [hc]
 simp [hk] at hx
 rw [←dg_get l k hk,←hx]
theorem tsz_take_dg (l:List Nat) (m:Nat) (h:m<l.length):tsz (l.take (m+1))=if dg l m=0 then tsz (l.take m) else m+1:=tsz_take l m h
theorem info_i64n:(Tryz.prog.info? 3).map (fun i=>(i.zero,i.size,i.bytes))=some (some (.int .i64 0),1,8):=by kernel_rfl
theorem made_num {w:World} {B:Nat} {A:Option Addr} {c:Nat} {l:List Nat} (b:Bool) (hR:Rd w B 1 A l.length (i64n l)) (hd:∀ d∈l,d<1000) (hc:l.length≤c) (hm:c≤maxLen):NumV w B (b&&decide (0<tsz l)) A (tsz l) c (sgZ b (vd l)):=by
 have ht:=tsz_le l
 have e:=take_tsz l hd
 have e2:tsz l=(dig (vd l)).length:=by rw [←e,List.length_take];omega
 refine ⟨?_,by rw [sgZ_abs];exact e2,?_,by omega,hm⟩
 ·rw [sgZ_neg]
  congr 1
  have:=tsz_zero l
  by_cases h:vd l=0
  ·have h2:=this.2 h;simp [h,h2]
  ·have h2:tsz l≠0:=fun h3=>h (this.1 h3)
   have h4:0<tsz l:=by omega
   have h5:0<vd l:=by omega
   rw [decide_eq_true h4,decide_eq_true h5]
 ·rw [sgZ_abs,←e]
  have:=rd_take1 hR ht
  rw [show (i64n l).take (tsz l)=i64n (l.take (tsz l)) from by simp [i64n,List.map_take]] at this
  exact this
def RetNum (w:World) (z:Int) (y:Ending) (w':World):Prop:=∃ b A n c,y=.returned (.agg #[.bool b,.slice A n c])∧NumV w' w'.heap.size b A n c z∧Below w.heap.size w w'
theorem RetNum.mk {w w':World} {B n c:Nat} {b:Bool} {A:Option Addr} {z:Int} (h:NumV w B b A n c z) (hb:Below w.heap.size w w') (hB:B≤w.heap.size):RetNum w z (.returned (.agg #[.bool b,.slice A n c])) w' :=
 ⟨b,A,n,c,rfl,h.keep (hb.mono hB) (Nat.le_trans hB hb.size),hb⟩
def RetMade (w:World) (z:Int) (A:Option Addr) (y:Ending) (w':World):Prop:=∃ b n c,y=.returned (.agg #[.bool b,.slice A n c])∧NumV w' w'.heap.size b A n c z∧Below w.heap.size w w'
theorem RetMade.mk {w w':World} {B n c:Nat} {b:Bool} {A:Option Addr} {z:Int} (h:NumV w B b A n c z) (hb:Below w.heap.size w w') (hB:B≤w.heap.size):RetMade w z A (.returned (.agg #[.bool b,.slice A n c])) w' :=
 ⟨b,n,c,rfl,h.keep (hb.mono hB) (Nat.le_trans hB hb.size),hb⟩
set_option maxRecDepth 20000 in
set_option maxHeartbeats 4000000 in
theorem made_at (w:World) (B:Nat) (A:Option Addr) (c:Nat) (l:List Nat) (b:Bool) (hR:Rd w B 1 A l.length (i64n l)) (hd:∀ d∈l,d<1000) (hc:l.length≤c) (hm:c≤maxLen) (hB:B≤w.heap.size) :
 Calls Tryz.prog 187 #[.bool b,.slice A l.length c] w fun y w'=>RetMade w (sgZ b (vd l)) A y w':=by
 have hn:=made_num b hR hd hc hm
 have ht:=tsz_le l
 have HN:=Lib.hid hn;have HR:=Lib.hid (hR.alloc hB (.cells #[.bool false,.slice none 0 0] 134))
 have hcc:=hm
 unfold maxLen at hcc
 clear hn hR hd
 generalize sgZ b (vd l)=z at *
 go_enter Tryz.func187,Tryz.ntmps187
 go_wp2
 go_loop [5] (fun i=>∃ m:Nat,m≤l.length∧i=.int .i64 (m:Int)∧Hid (tsz (l.take m)=tsz l)) (fun i=>(intOf i).toNat)
 case atStart=>exact ⟨l.length,Nat.le_refl _,rfl,by rw [List.take_length];exact Lib.hid rfl⟩
 case round =>
  obtain ⟨m,hmm,rfl,HT⟩:=hrel
  cases m with
  | zero =>
    have hz:tsz l=0:=by have:=HT.out;rw [List.take_zero] at this;rw [←this];rfl
    have hn:=HN.out
    rw [hz] at hn
    simp only [show ((0:Nat):Int)=0 from rfl]
    clear HT hz HN
    cases b <;>
    ·have HN:=Lib.hid hn
     clear hn
     go_wp2
     exact bodyPost_ret (v:=.agg #[.bool false,.slice A 0 c]) (by simp [results,Tryz.results187,go_sem]) rfl (RetMade.mk HN.out (belA (belR w) _) hB)
  | succ m =>
    obtain ⟨a,rfl,hab,x0⟩:=HR.out.i64n (k:=m) (by omega)
    have htk:=tsz_take_dg l m (by omega)
    rw [HT.out] at htk
    have q1:(0:Int)≤(m:Int):=by omega
    have q2:(m:Int)<(l.length:Int):=by omega
    have e1:((m+1:Nat):Int)-1=(m:Int):=by omega
    have g1:decide ((0:Int)<((m+1:Nat):Int))=true:=decide_eq_true (by omega)
    have w1:IntKind.i64.wrap (m:Int)=(m:Int):=IntWalk.i64_in _ (by omega)
    generalize dg l m=x at *
    by_cases hx:x=0
    ·subst hx
     rw [if_pos rfl] at htk
     have HT2:=Lib.hid htk
     simp only [show ((0:Nat):Int)=0 from rfl] at x0
     clear htk
     go_wp2
     go_round
     case rel=>exact ⟨m,by omega,(by first|rfl|rw [w1]|go_num),HT2.out.symm⟩
     case measure=>first|(simp [intOf];done)|simp [intOf,w1]
    ·rw [if_neg hx] at htk
     have hn:=HN.out
     rw [htk,decide_eq_true (show 0<m+1 by omega)] at hn
     have t0:((x:Int)==0)=false:=by rw [beq_eq_false_iff_ne];omega
     have hle:((m+1:Nat):Int)≤(c:Int):=by omega
     clear htk hx HN
     cases b <;>
     ·have HN:=Lib.hid hn
      clear hn
      go_wp2
      exact bodyPost_ret (v:=.agg #[.bool _,.slice (some a) (m+1) c]) (by simp [results,Tryz.results187,go_sem]) rfl (RetMade.mk HN.out (belA (belR w) _) hB)
theorem made_any (w:World) (B:Nat) (A:Option Addr) (c:Nat) (l:List Nat) (b:Bool) (hR:Rd w B 1 A l.length (i64n l)) (hd:∀ d∈l,d<1000) (hc:l.length≤c) (hm:c≤maxLen) (hB:B≤w.heap.size) :
 Calls Tryz.prog 187 #[.bool b,.slice A l.length c] w fun y w'=>RetNum w (sgZ b (vd l)) y w' :=
 (made_at w B A c l b hR hd hc hm hB).mono fun y w' ⟨b',n,c',e,h1,h2⟩=>⟨b',A,n,c',e,h1,h2⟩
theorem digit_any (w:World) (B:Nat) (A:Option Addr) (c:Nat) (l:List Nat) (i:Nat) (hR:Rd w B 1 A l.length (i64n l)) (hi:i≤9223372036854775807) :
 Calls Tryz.prog 217 #[.slice A l.length c,.int .i64 (i:Int)] w fun y w'=>y=.returned (.int .i64 (dg l i:Int))∧w=w':=by
 by_cases h:i<l.length
 ·obtain ⟨a,rfl,hab,x0⟩:=hR.i64n h
  have q1:(0:Int)≤(i:Int):=by omega
  have q2:(i:Int)<(l.length:Int):=by omega
  clear hR
  generalize dg l i=x at *
  go_enter Tryz.func217,Tryz.ntmps217
  go_wp2
  go_ret
  exact ⟨rfl,rfl⟩
 ·rw [dg_far l i (by omega)]
  have q2:¬(i:Int)<(l.length:Int):=by omega
  clear hR
  go_enter Tryz.func217,Tryz.ntmps217
  go_wp2
  go_ret
  exact ⟨rfl,rfl⟩
def cmpN (x y:Nat):Int:=if x<y then -1 else if y<x then 1 else 0
set_option maxRecDepth 20000 in
set_option maxHeartbeats 4000000 in
theorem less01_any (w:World) (B:Nat) (A A':Option Addr) (c c':Nat) (l l':List Nat) (hR:Rd w B 1 A l.length (i64n l)) (hR':Rd w B 1 A' l'.length (i64n l')) (hd:∀ d∈l,d<1000) (hd':∀ d∈l',d<1000) (hn:l.length≤maxLen) (hn':l'.length≤maxLen) :
 Calls Tryz.prog 209 #[.slice A l.length c,.slice A' l'.length c'] w fun y w'=>y=.returned (.int .i64 (cmpN (vd l) (vd l')))∧w=w':=by
 unfold maxLen at hn hn'
 have HD:=Lib.hid (fun i (hi:i≤9223372036854775807)=>digit_any w B A c l i hR hi)
 have HD':=Lib.hid (fun i (hi:i≤9223372036854775807)=>digit_any w B A' c' l' i hR' hi)
 have HL:=Lib.hid (fun i h1 h2=>vd_less (i:=i) hd hd' h1 h2)
 have HG:=Lib.hid (fun i h1 h2=>vd_less (i:=i) hd' hd h1 h2)
 clear hR hR' hd hd'
 have hmx:∃ m:Nat,max l.length l'.length=m∧l.length≤m∧l'.length≤m∧m≤9223372036854775807:=⟨_,rfl,by omega,by omega,by omega⟩
 obtain ⟨m,hm,hm1,hm2,hm3⟩:=hmx
 have e1:(max (l.length:Int) (l'.length:Int))=(m:Int):=by omega
 have e2:IntKind.i64.wrap ((m:Int)-1)=(m:Int)-1:=IntWalk.i64_in _ (by omega)
 clear hm
 go_enter Tryz.func209,Tryz.ntmps209
 go_wp2
 all_goals
  go_loop [5] (fun i=>∃ k:Nat,k≤m∧i=.int .i64 ((k:Int)-1)∧Hid (vd (l.drop k)=vd (l'.drop k))) (fun i=>(intOf i+1).toNat)
  case atStart=>first|exact ⟨l'.length,hm2,rfl,Lib.hid (by rw [vd_drop_far l _ (by omega),vd_drop_far l' _ (by omega)])⟩|exact ⟨l.length,hm1,rfl,Lib.hid (by rw [vd_drop_far l _ (by omega),vd_drop_far l' _ (by omega)])⟩
  case round =>
   obtain ⟨k,hk,rfl,HE⟩:=hrel
   cases k with
   | zero =>
     have he:=HE.out
     rw [List.drop_zero,List.drop_zero] at he
     have hc:cmpN (vd l) (vd l')=0:=by unfold cmpN;rw [if_neg (by omega),if_neg (by omega)]
     have HC:=Lib.hid hc
     simp only [show ((0:Nat):Int)-1=-1 from rfl]
     clear he hc
     go_wp2
     go_ret
     exact ⟨by rw [HC.out]<;>rfl,rfl⟩
   | succ k =>
     have hl:=HL.out k HE.out
     have hg:=HG.out k HE.out.symm
     have v1:=vd_drop l k
     have v2:=vd_drop l' k
     rw [HE.out] at v1
     have hdk:=HD.out k (by omega)
     have hdk':=HD'.out k (by omega)
     have e3:((k+1:Nat):Int)-1=(k:Int):=by omega
     have q1:(0:Int)≤(k:Int):=by omega
     rw [e3]
     generalize dg l k=x at *
     generalize dg l' k=x' at *
     rcases Nat.lt_trichotomy x x' with h|h|h
     ·have hc:cmpN (vd l) (vd l')=-1:=by unfold cmpN;rw [if_pos (hl h)]
      have t1:((x:Int) != (x':Int))=true:=by rw [bne_iff_ne];omega
      have t2:decide ((x:Int)<(x':Int))=true:=decide_eq_true (by omega)
      have t2n:decide (x<x')=true:=decide_eq_true (by omega)
      have HC:=Lib.hid hc;have HDK:=Lib.hid hdk;have HDK':=Lib.hid hdk'
      clear hc hl hg v1 v2 hdk hdk' h e3
      go_wp2_with (first|(go_at_call 217;(with_reducible refine HDK.out.mono ?_);rintro y w1 ⟨rfl,rfl⟩)|(go_at_call 217;(with_reducible refine HDK'.out.mono ?_);rintro y w1 ⟨rfl,rfl⟩))
      go_ret
      exact ⟨by rw [HC.out]<;>rfl,rfl⟩
     ·subst h
      have t1:((x:Int) != (x:Int))=false:=by simp
      have HE2:Hid (vd (l.drop k)=vd (l'.drop k)):=Lib.hid (by omega)
      have HDK:=Lib.hid hdk;have HDK':=Lib.hid hdk'
      clear hl hg v1 v2 hdk hdk' e3
      go_wp2_with (first|(go_at_call 217;(with_reducible refine HDK.out.mono ?_);rintro y w1 ⟨rfl,rfl⟩)|(go_at_call 217;(with_reducible refine HDK'.out.mono ?_);rintro y w1 ⟨rfl,rfl⟩))
      go_round
      case rel=>exact ⟨k,by omega,rfl,HE2⟩
      case measure=>first|(simp [intOf];done)|(simp [intOf];omega)
     ·have hc:cmpN (vd l) (vd l')=1:=by unfold cmpN;rw [if_neg (by have:=hg h;omega),if_pos (hg h)]
      have t1:((x:Int) != (x':Int))=true:=by rw [bne_iff_ne];omega
      have t2:decide ((x:Int)<(x':Int))=false:=decide_eq_false (by omega)
      have t2n:decide (x<x')=false:=decide_eq_false (by omega)
      have HC:=Lib.hid hc;have HDK:=Lib.hid hdk;have HDK':=Lib.hid hdk'
      clear hc hl hg v1 v2 hdk hdk' h e3
      go_wp2_with (first|(go_at_call 217;(with_reducible refine HDK.out.mono ?_);rintro y w1 ⟨rfl,rfl⟩)|(go_at_call 217;(with_reducible refine HDK'.out.mono ?_);rintro y w1 ⟨rfl,rfl⟩))
      go_ret
      exact ⟨by rw [HC.out]<;>rfl,rfl⟩
def RetDig (w:World) (P:List Nat→Prop) (y:Ending) (w':World):Prop:=∃ A c L,y=.returned (.slice A L.length c)∧w'.ownsRow w.heap.size 3 1 (.slice A L.length c) L.length (i64n L)∧L.length≤c∧c≤maxLen∧P L∧Below w.heap.size w w'
theorem RetDig.mk {w w':World} {P:List Nat→Prop} {L:List Nat} {v:Value} (ho:w'.ownsRow w.heap.size 3 1 v L.length (i64n L)) (hP:P L) (hb:Below w.heap.size w w'):RetDig w P (.returned v) w':=by
 obtain ⟨A,c,rfl,h1,h2,_⟩:=own_form ho
 exact ⟨A,c,L,rfl,ho,h1,h2,hP,hb⟩
def SumB (l l' L:List Nat):Prop:=vd L=vd l+vd l'∧(∀ d∈L,d<1000)∧L.length=max l.length l'.length+1
set_option maxRecDepth 20000 in
set_option maxHeartbeats 8000000 in
theorem sum01_any (w:World) (B:Nat) (A A':Option Addr) (c c':Nat) (l l':List Nat) (hR:Rd w B 1 A l.length (i64n l)) (hR':Rd w B 1 A' l'.length (i64n l')) (hd:∀ d∈l,d<1000) (hd':∀ d∈l',d<1000) (hn:l.length≤1000000) (hn':l'.length≤1000000) (hB:B≤w.heap.size) :
 Calls Tryz.prog 208 #[.slice A l.length c,.slice A' l'.length c'] w fun y w'=>RetDig w (SumB l l') y w':=by
 have HD:=Lib.hid (fun W i (hW:Below w.heap.size w W) (hi:i≤9223372036854775807)=>digit_any W B A c l i (hR.below (hW.mono hB)) hi)
 have HD':=Lib.hid (fun W i (hW:Below w.heap.size w W) (hi:i≤9223372036854775807)=>digit_any W B A' c' l' i (hR'.below (hW.mono hB)) hi)
 have HS:=Lib.hid (fun out i carry (h:SumR l l' out i carry)=>h.succ hd hd')
 have HLT:=Lib.hid (fun i=>(⟨dg_lt l i hd,dg_lt l' i hd'⟩:dg l i<1000∧dg l' i<1000))
 have HN:=Lib.hid (World.ownsRow_nil w w.heap.size 3 1)
 clear hR hR' hd hd'
 rcases Nat.lt_or_ge l.length l'.length with hx|hx
 all_goals
  try replace hx:¬l.length<l'.length:=by omega
  obtain ⟨m,hm1,hm2,hm3,hm4⟩:∃ m:Nat,l.length≤m∧l'.length≤m∧m≤1000000∧(∀ i:Nat,i<m↔i<max l.length l'.length):=⟨max l.length l'.length,by omega,by omega,by omega,fun _=>Iff.rfl⟩
  have HM:Hid (max l.length l'.length=m):=Lib.hid (by have h1:=hm4 m;have h2:=hm4 (max l.length l'.length);omega)
  clear hm4
  go_enter Tryz.func208,Tryz.ntmps208
  go_wp2
  go_loopw [5,6,7] (fun vo vc vi wr=>∃ (i carry:Nat) (out:List Nat),i≤m∧vi=.int .i64 (i:Int)∧vc=.int .i64 (carry:Int)∧carry≤1∧Hid (SumR l l' out i carry)∧Hid (wr.ownsRow w.heap.size 3 1 vo i (i64n out))∧Hid (Below w.heap.size w wr)) (fun _ _ vi _=>m-(intOf vi).toNat)
  case atStart=>exact ⟨0,0,[],by omega,rfl,rfl,by omega,SumR.zero l l',HN.out,belR w⟩
  case round =>
   obtain ⟨i,carry,out,hi,rfl,rfl,hcar,HR,HO,HB⟩:=hrel
   have hlen:=HR.out.1
   by_cases hlt:i<m
   ·obtain ⟨A5,c5,rfl,hc5,hc5m,_⟩:=own_form HO.out
    have hs:=HS.out _ _ _ HR.out
    have hdi:=HD.out wr i HB.out (by omega)
    have hdi':=HD'.out wr i HB.out (by omega)
    have hlt2:=HLT.out i
    have gm:i<l.length∨i<l'.length:=by have:=HM.out;omega
    have gmx:(¬l.length<l'.length→i<l.length)∧(l.length<l'.length→i<l'.length):=by omega
    generalize dg l i=x at *
    generalize dg l' i=x' at *
    obtain ⟨s,hs1⟩:∃ s,x+x'+carry=s:=⟨_,rfl⟩
    rw [hs1] at hs
    obtain ⟨b1,b2⟩:=hlt2
    have HE1:Hid (((x:Int)+x'+carry)%1000=((s%1000:Nat):Int)):=Lib.hid (by omega)
    have HE2:Hid (((x:Int)+x'+carry)/1000=((s/1000:Nat):Int)):=Lib.hid (by omega)
    have a5:s/1000≤1:=by omega
    obtain ⟨g1,g2⟩:=gmx
    have HSS:=Lib.hid hs;have HDI:=Lib.hid hdi;have HDI':=Lib.hid hdi'
    first
    | (have g3:=g1 hx;have q1:(i:Int)<(l.length:Int):=(by omega);clear g3)
    | (have g3:=g2 hx;have q1:(i:Int)<(l'.length:Int):=(by omega);clear g3)
    clear hs hdi hdi' g1 g2 hs1 gm
    go_wp2_with (first
     | (go_at_call 217;(with_reducible refine HDI.out.mono ?_);rintro y w1 ⟨rfl,rfl⟩)
     | (go_at_call 217;(with_reducible refine HDI'.out.mono ?_);rintro y w1 ⟨rfl,rfl⟩)
     | (at_builtin;refine wpList_app1 wr (.int .i64 (((x:Int)+x'+carry)%1000)) rfl rfl _ _ 82 rfl w.heap.size 3 _ 8 info_i64n rfl Tryz.underlying82 (.slice A5 i c5) i (i64n out) HO.out (by rfl) (by rfl) ?_ ?_ ?_ ?_;omega;omega;exact HB.out.size;intro v6 w6 ho6 hap6;have HO6:=Lib.hid ho6;have HB6:=Lib.hid (HB.out.trans (hap6.below HB.out.size HO.out));clear ho6 hap6))
    go_roundw
    case rel=>exact ⟨i+1,s/1000,out ++ [s%1000],by omega,by go_num,by rw [HE2.out],a5,HSS.out,by have h:=HO6.out;rw [HE1.out] at h;rw [i64n_app];exact h,HB6.out⟩
    case measure=>simp [intOf];omega
   ·obtain rfl:i=m:=by omega
    obtain ⟨A5,c5,rfl,hc5,hc5m,_⟩:=own_form HO.out
    obtain ⟨he1,he2⟩:=HR.out.end_ hm1 hm2
    have HF:Hid (SumB l l' (out ++ [carry])):=Lib.hid ⟨he1,he2,by rw [List.length_append,hlen,List.length_singleton,HM.out]⟩
    have gmx:(¬l.length<l'.length→l.length=i)∧(l.length<l'.length→l'.length=i):=by have:=HM.out;omega
    obtain ⟨g1,g2⟩:=gmx
    first
    | (have g3:=g1 hx;have q1:¬(i:Int)<(l.length:Int):=(by omega);clear g3)
    | (have g3:=g2 hx;have q1:¬(i:Int)<(l'.length:Int):=(by omega);clear g3)
    clear he1 he2 g1 g2
    go_wp2_with (at_builtin;refine wpList_app1 wr (.int .i64 ((carry:Nat):Int)) rfl rfl _ _ 82 rfl w.heap.size 3 _ 8 info_i64n rfl Tryz.underlying82 (.slice A5 i c5) i (i64n out) HO.out (by rfl) (by rfl) ?_ ?_ ?_ ?_;omega;omega;exact HB.out.size;intro v6 w6 ho6 hap6;have HO6:=Lib.hid ho6;have HB6:=Lib.hid (HB.out.trans (hap6.below HB.out.size HO.out));clear ho6 hap6)
    go_ret
    refine RetDig.mk (L:=out ++ [carry]) ?_ HF.out HB6.out
    have h:=HO6.out
    rw [i64n_app,List.length_append,hlen];exact h
def RestB (l l' L:List Nat):Prop:=vd L=vd l-vd l'∧(∀ d∈L,d<1000)∧L.length=l.length
set_option maxRecDepth 20000 in
set_option maxHeartbeats 8000000 in
theorem rest01_any (w:World) (B:Nat) (A A':Option Addr) (c c':Nat) (l l':List Nat) (hR:Rd w B 1 A l.length (i64n l)) (hR':Rd w B 1 A' l'.length (i64n l')) (hd:∀ d∈l,d<1000) (hd':∀ d∈l',d<1000) (hn:l.length≤1000000) (hn':l'.length≤1000000) (hB:B≤w.heap.size) (hle:vd l'≤vd l) :
 Calls Tryz.prog 210 #[.slice A l.length c,.slice A' l'.length c'] w fun y w'=>RetDig w (RestB l l') y w':=by
 have HD:=Lib.hid (fun W i (hW:Below w.heap.size w W) (hi:i≤9223372036854775807)=>digit_any W B A c l i (hR.below (hW.mono hB)) hi)
 have HD':=Lib.hid (fun W i (hW:Below w.heap.size w W) (hi:i≤9223372036854775807)=>digit_any W B A' c' l' i (hR'.below (hW.mono hB)) hi)
 have HLT:=Lib.hid (fun i=>(⟨dg_lt l i hd,dg_lt l' i hd'⟩:dg l i<1000∧dg l' i<1000))
 have HN:=Lib.hid (World.ownsRow_nil w w.heap.size 3 1)
 have HE:=Lib.hid hle
 clear hR hR' hd hd' hle
 go_enter Tryz.func210,Tryz.ntmps210
 go_wp2
 go_loopw [5,6,7] (fun vo vc vi wr=>∃ (i carry:Nat) (out:List Nat),i≤l.length∧vi=.int .i64 (i:Int)∧vc=.int .i64 (carry:Int)∧carry≤1∧Hid (RestR l l' out i carry)∧Hid (wr.ownsRow w.heap.size 3 1 vo i (i64n out))∧Hid (Below w.heap.size w wr)) (fun _ _ vi _=>l.length-(intOf vi).toNat)
 case atStart=>exact ⟨0,0,[],by omega,rfl,rfl,by omega,RestR.zero l l',HN.out,belR w⟩
 case round =>
  obtain ⟨i,carry,out,hi,rfl,rfl,hcar,HR,HO,HB⟩:=hrel
  have hlen:=HR.out.1
  by_cases hlt:i<l.length
  ·obtain ⟨A5,c5,rfl,hc5,hc5m,_⟩:=own_form HO.out
   have hdi:=HD.out wr i HB.out (by omega)
   have hdi':=HD'.out wr i HB.out (by omega)
   obtain ⟨b1,b2⟩:=HLT.out i
   have hst:=fun d cb (h1:d<1000) (h2:cb≤1) he=>RestR.step h1 h2 HR.out he (d:=d) (borrow':=cb)
   have q1:(i:Int)<(l.length:Int):=by omega
   generalize dg l i=x at *
   generalize dg l' i=x' at *
   by_cases hs:(x:Int)-x' - carry<0
   ·have t1:decide ((x:Int)-x' - carry<0)=true:=decide_eq_true hs
    obtain ⟨d,hd⟩:∃ d:Nat,(x:Int)-x' - carry+1000=d:=⟨((x:Int)-x' - carry+1000).toNat,by omega⟩
    have HS:=Lib.hid (hst d 1 (by omega) (by omega) (by omega));have HDI:=Lib.hid hdi;have HDI':=Lib.hid hdi';have HDD:=Lib.hid hd
    clear hst hdi hdi' hd
    go_wp2_with (first
     | (go_at_call 217;(with_reducible refine HDI.out.mono ?_);rintro y w1 ⟨rfl,rfl⟩)
     | (go_at_call 217;(with_reducible refine HDI'.out.mono ?_);rintro y w1 ⟨rfl,rfl⟩)
     | (at_builtin;refine wpList_app1 wr (.int .i64 ((x:Int)-x' - carry+1000)) rfl rfl _ _ 82 rfl w.heap.size 3 _ 8 info_i64n rfl Tryz.underlying82 (.slice A5 i c5) i (i64n out) HO.out (by rfl) (by rfl) ?_ ?_ ?_ ?_;omega;omega;exact HB.out.size;intro v6 w6 ho6 hap6;have HO6:=Lib.hid ho6;have HB6:=Lib.hid (HB.out.trans (hap6.below HB.out.size HO.out));clear ho6 hap6))
    go_roundw
    case rel=>exact ⟨i+1,1,out ++ [d],by omega,by go_num,rfl,by omega,HS.out,by have h:=HO6.out;rw [HDD.out] at h;rw [i64n_app];exact h,HB6.out⟩
    case measure=>simp [intOf];omega
   ·have t1:decide ((x:Int)-x' - carry<0)=false:=decide_eq_false hs
    obtain ⟨d,hd⟩:∃ d:Nat,(x:Int)-x' - carry=d:=⟨((x:Int)-x' - carry).toNat,by omega⟩
    have HS:=Lib.hid (hst d 0 (by omega) (by omega) (by omega));have HDI:=Lib.hid hdi;have HDI':=Lib.hid hdi';have HDD:=Lib.hid hd
    clear hst hdi hdi' hd
    go_wp2_with (first
     | (go_at_call 217;(with_reducible refine HDI.out.mono ?_);rintro y w1 ⟨rfl,rfl⟩)
     | (go_at_call 217;(with_reducible refine HDI'.out.mono ?_);rintro y w1 ⟨rfl,rfl⟩)
     | (at_builtin;refine wpList_app1 wr (.int .i64 ((x:Int)-x' - carry)) rfl rfl _ _ 82 rfl w.heap.size 3 _ 8 info_i64n rfl Tryz.underlying82 (.slice A5 i c5) i (i64n out) HO.out (by rfl) (by rfl) ?_ ?_ ?_ ?_;omega;omega;exact HB.out.size;intro v6 w6 ho6 hap6;have HO6:=Lib.hid ho6;have HB6:=Lib.hid (HB.out.trans (hap6.below HB.out.size HO.out));clear ho6 hap6))
    go_roundw
    case rel=>exact ⟨i+1,0,out ++ [d],by omega,by go_num,rfl,by omega,HS.out,by have h:=HO6.out;rw [HDD.out] at h;rw [i64n_app];exact h,HB6.out⟩
    case measure=>simp [intOf];omega
  ·obtain rfl:i=l.length:=by omega
   obtain ⟨he1,he2⟩:=RestR.end_ ⟨carry,HR.out⟩ HE.out
   have HF:Hid (RestB l l' out):=Lib.hid ⟨he1,he2,hlen⟩
   have q1:¬(l.length:Int)<(l.length:Int):=by omega
   clear he1 he2
   go_wp2
   go_ret
   exact RetDig.mk (L:=out) (by rw [hlen];exact HO.out) HF.out HB.out
theorem own_set_low {w:World} {base n:Nat} {e:TypeId} {size:Nat} {v:Value} {xs:List Value} (h:w.ownsRow base e size v n xs) {p:Addr} (hp:p.block<base) (u:Value):(w.setCell p u).ownsRow base e size v n xs:=by
 have hg:w.grownBy (w.setCell p u) (some p.block):=⟨rfl,rfl,rfl,by simp,fun k _ hk=>Below.heap_setCell w p u k (fun e=>hk (by rw [e]))⟩
 refine h.kept hg ?_
 cases hv:v.ownBlock with
 | none=>exact .inl rfl
 | some k=>exact .inr fun q=>by injection q with q;have:=(h.lt k hv).1;omega
theorem dig_snoc_step (x:Nat) (h:x≠0) (pre:List Nat):(pre ++ [x%1000])++dig (x/1000)=pre++dig x:=by rw [dig_pos h];simp
set_option maxRecDepth 20000 in
set_option maxHeartbeats 4000000 in
theorem nat01_any (w:World) (x:Nat) (hx:x<18446744073709551616) :
 Calls Tryz.prog 114 #[.int .u64 (x:Int)] w fun y w'=>RetNum w (x:Int) y w':=by
 have hn:=World.ownsRow_nil (w.alloc (.cells #[.bool false,.slice none 0 0] 134)) (w.heap.size+1) 3 1
 have HN:=Lib.hid hn
 have hlen:(dig x).length≤64:=dig_len2 (k:=64) (by simpa using hx)
 clear hn
 go_enter Tryz.func114,Tryz.ntmps114
 go_wp2
 go_loopw [0,3] (fun vx vo wr=>∃ (z i:Nat) (pre:List Nat),z<18446744073709551616∧vx=.int .u64 (z:Int)∧Hid (pre++dig z=dig x)∧Hid (pre.length=i)∧Hid (wr.ownsRow (w.heap.size+1) 3 1 vo i (i64n pre))∧Hid (Below (w.heap.size+1) (w.alloc (.cells #[.bool false,.slice none 0 0] 134)) wr)) (fun vx _ _=>(intOf vx).toNat)
 case atStart=>exact ⟨x,0,[],hx,rfl,Lib.hid rfl,Lib.hid rfl,HN.out,Lib.hid (by have h:=belR (w.alloc (.cells #[.bool false,.slice none 0 0] 134));simpa using h)⟩
 case round =>
  obtain ⟨z,i,pre,hz,rfl,HP,HI,HO,HB⟩:=hrel
  obtain ⟨A5,c5,rfl,hc5,hc5m,_⟩:=own_form HO.out
  have hsz:w.heap.size+1≤wr.heap.size:=by have:=HB.out.size;simpa using this
  have hil:i≤64:=by have h1:=HP.out;have h2:=HI.out;have h3:=congrArg List.length h1;rw [List.length_append] at h3;omega
  by_cases h0:z=0
  ·subst h0
   have hp:=HP.out
   rw [dig_zero,List.append_nil] at hp
   have hk:=(Blk.new w 134 #[.bool false,.slice none 0 0]).below HB.out (by omega)
   have HK:=Lib.hid hk
   simp only [show ((0:Nat):Int)=0 from rfl]
   have hbw:Below w.heap.size w wr:=(belA (belR w) _).trans (HB.out.mono (by omega))
   have HBW:=Lib.hid hbw
   have hi2:=HI.out
   rw [hp] at hi2
   have hnum:∀ u1 u2,NumV ((wr.setCell ⟨w.heap.size,0,none⟩ u1).setCell ⟨w.heap.size,1,none⟩ u2) wr.heap.size false A5 i c5 (x:Int):=fun u1 u2=>⟨by simp,by rw [Int.natAbs_natCast];exact hi2.symm,by rw [Int.natAbs_natCast,←hp];have h:=Rd.own (own_set_low (own_set_low HO.out (p:=⟨w.heap.size,0,none⟩) (Nat.lt_succ_self _) u1) (p:=⟨w.heap.size,1,none⟩) (Nat.lt_succ_self _) u2);simpa using h,hc5,hc5m⟩
   have HNUM:=Lib.hid hnum
   have hcell0:=HK.out.cell 0;have hcell1:=HK.out.cell 1
   have hf0:=HK.out.frozen 0;have hf1:=HK.out.frozen 1
   simp at hcell0 hcell1
   clear hk hbw hp hi2 hnum
   go_wp2
   refine bodyPost_ret (v:=.agg #[.bool false,.slice A5 i c5]) (by simp [results,Tryz.results114,go_sem, *]) rfl ?_
   exact ⟨false,A5,i,c5,rfl,by have h:=HNUM.out (.bool false) (.slice A5 i c5);simpa using h,(HBW.out.setCell (Nat.le_refl _) _).setCell (Nat.le_refl _) _⟩
  ·have t1:decide ((0:Int)<(z:Int))=true:=decide_eq_true (by omega)
   have t1n:decide (0<z)=true:=decide_eq_true (by omega)
   have hst:=dig_snoc_step z h0 pre
   rw [HP.out] at hst
   have HST:=Lib.hid hst;have H0:=Lib.hid h0
   have wm:IntKind.i64.wrap ((z:Int)%1000)=(z:Int)%1000:=IntWalk.i64_in _ (by omega)
   clear hst h0
   go_wp2_with (at_builtin;refine wpList_app1 wr (.int .i64 ((z:Int)%1000)) rfl rfl _ _ 82 rfl (w.heap.size+1) 3 _ 8 info_i64n rfl Tryz.underlying82 (.slice A5 i c5) i (i64n pre) HO.out (by rfl) (by rfl) ?_ ?_ ?_ ?_;omega;omega;exact hsz;intro v6 w6 ho6 hap6;have HO6:=Lib.hid ho6;have HB6:=Lib.hid (HB.out.trans (hap6.below hsz HO.out));clear ho6 hap6)
   go_roundw
   case rel=>exact ⟨z/1000,i+1,pre ++ [z%1000],by omega,by go_num,HST.out,Lib.hid (by rw [List.length_append,HI.out];rfl),by have h:=HO6.out;rw [i64n_app];exact h,HB6.out⟩
   case measure=>have:=H0.out;simp [intOf];omega
end Go.Proofs.YtfhmaincnlaapaaGreat
