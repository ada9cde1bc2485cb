/- Cells of whose real numbers only the keys are known, as trees. -/
import Derived.StillTailTactics
import Derived.Deep.DeepCutAuto
import Derived.Test.YtfhmaincnlaapaaGreatAgRefTwice
import Derived.Test.YtfhmaincnlaapaaGreatAgRefNodesW
import Derived.Test.YtfhmaincnlaapaaGreatAgSchemaCheck
import Derived.Test.YtfhmaincnlaapaaGreatAgFactLight
import Derived.Test.YtfhmaincnlaapaaGreatAgEncC
import Derived.Test.YtfhmaincnlaapaaGreatAgAggPut
import Derived.Test.YtfhmaincnlaapaaGreatAgExactHead
import Derived.Test.YtfhmaincnlaapaaGreatAgAggGet
import Derived.Test.YtfhmaincnlaapaaGreatAgRefKeys
import Derived.Test.YtfhmaincnlaapaaGreatAgRefSumRead
namespace Go.Proofs.YtfhmaincnlaapaaGreat
open Go.ChangeShapes Go.WideShapes Go.ChangeAt Go.RowKit
set_option linter.unusedVariables false
theorem run_store_fQ {P:Program} {w:World} {a:Addr} {m:Mode} (k:FloatKind) (b:Nat):(store a (.float k b) m).run P w=stored P w a (.float k b) m:=run_store P w a _ m rfl
attribute [local go_sem] run_store_fQ
end Go.Proofs.YtfhmaincnlaapaaGreat
namespace Go.Proofs.YtfhmaincnlaapaaGreat.Sy
open Go.ChangeShapes Go.WideShapes Go.ChangeAt Go.RowKit
set_option linter.unusedVariables false
theorem refPut_fn {C:CellS} (ho:okCl C) (hl:lightC C=true):FnOk Tryz.prog 35 ⟨[.agg (encCl C)],[],.lst (encCell C).length (byL (encCell C)),[]⟩ :=
 FnOk.of_new fun E vs hF hlen hs=>by
  obtain ⟨u,rfl⟩:∃ u,vs=[u]:=List.length_eq_one_iff.1 hlen
  obtain ⟨A2,c2,A3,c3,rfl,hv⟩:=cell_open hF ho (hs 0 _ u rfl rfl)
  refine (refPutC_any E.w E.w.heap.size C A2 c2 A3 c3 hv hl (Nat.le_refl _)).mono ?_
  rintro y w' ⟨v,rfl,ho,hb⟩
  exact ⟨v,rfl,hb,own_rep ho (fun b h1 h2=>.inr ⟨h1,h2⟩) (by rw [byL_u8s];exact repL_v fun u hu=>(List.mem_map.1 hu).elim fun z hz=>by rw [← hz.2];rfl)⟩
theorem wh_rep {w:World} {base:Nat} {F:Nat→Prop} (hF:∀ b,base≤b→b<w.heap.size→F b):∀ {l:List WholeS} {xs:List Value},WhO w base l xs→RepL w F (l.flatMap encWh) xs
 | [],xs,h=>by cases h;exact .nil
 | X :: l,xs,h=>by
   obtain ⟨v,rest,rfl,ho,hr⟩:=h
   refine RepL.app (a:=encWh X) ?_ (wh_rep hF hr)
   have hv:=own_rep ho hF (cs:=X.sq.flatMap encU32n) (by
    rw [show X.sq.flatMap encU32n=(u32n X.sq).map .v from flat_v _ _];exact repL_v fun u hu=>(List.mem_map.1 hu).elim fun z hz=>by rw [← hz.2];rfl)
   exact (RepL.one.2 (.v _ rfl)).app ((RepL.one.2 (.v _ rfl)).app ((RepL.one.2 hv).app ((RepL.one.2 (.v _ rfl)).app (RepL.one.2 (.v _ rfl)))))
theorem re_rep {w:World} {base:Nat} {F:Nat→Prop} (hF:∀ b,base≤b→b<w.heap.size→F b):∀ {l:List RealS} {xs:List Value},ReO w base l xs→RepL w F (l.flatMap encRe) xs
 | [],xs,h=>by cases h;exact .nil
 | X :: l,xs,h=>by
   obtain ⟨v,rest,rfl,ho,hr⟩:=h
   refine RepL.app (a:=encRe X) ?_ (re_rep hF hr)
   have hv:=own_rep ho hF (cs:=X.sum.flatMap encU8) (by
    rw [show X.sum.flatMap encU8=(u8s X.sum).map .v from flat_v _ _];exact repL_v fun u hu=>(List.mem_map.1 hu).elim fun z hz=>by rw [← hz.2];rfl)
   exact (RepL.one.2 hv).app ((RepL.one.2 (.v _ rfl)).app (RepL.one.2 (.v _ rfl)))
theorem get_fn {S:Sch} {mask:Nat} {t:List UInt8} (hs:SchOk S) (hm:mask<4294967296) (ht:t.length≤1000000):FnOk Tryz.prog 33 ⟨[.agg (encSch S),.v (.int .u32 (mask:Int)),.lst t.length (byL t)],[],.tup [.agg (encCl (getC S mask t).1),.v (.int .i64 ((getC S mask t).2.1:Int)),.v (.int .i64 ((getC S mask t).2.2:Int))],[]⟩ :=
 FnOk.of_new fun E vs hF hlen hz=>by
  obtain ⟨u,v,x,rfl⟩:=len3 hlen
  have h1:=sch_open hF (okSch_of hs) (hz 0 _ u rfl rfl)
  obtain ⟨rfl,_⟩:v=.int .u32 (mask:Int)∧_:=hz 1 _ v rfl rfl
  obtain ⟨A,c,rfl,hr⟩:=bytes_open hF (hz 2 _ x rfl rfl)
  refine (aggGet_any E.w E.w.heap.size u S mask A t.length c t h1 hs hr (Nat.le_refl _) ht hm).mono ?_
  rintro y w' ⟨A2,c2,A3,c3,rfl,ho,hb⟩
  refine ⟨_,rfl,hb,_,rfl,rfl,fun j y v hy hv=>?_⟩
  obtain ⟨xs,o1,o2⟩:=ho.o2
  obtain ⟨ys,o3,o4⟩:=ho.o3
  have hN:∀ b,E.w.heap.size≤b→b<w'.heap.size→newF E w' b:=fun b h1 h2=>.inr ⟨h1,h2⟩
  have k2:=own_rep o1 hN (wh_rep hN o2)
  have k3:=own_rep o3 hN (re_rep hN o4)
  match j,hy,hv with
  | 0,hy,hv =>
    injection hy with hy;injection hv with hv;subst hy;subst hv
    exact ⟨_,rfl,leafs_rep (E:=⟨w',newF E w',E.β,E.ν,E.ob⟩) ((RepL.one.2 (.v _ rfl)).app ((RepL.one.2 (.v _ rfl)).app ((RepL.one.2 k2).app (RepL.one.2 k3))))⟩
  | 1,hy,hv=>injection hy with hy;injection hv with hv;subst hy;subst hv;exact ⟨rfl,rfl⟩
  | 2,hy,hv=>injection hy with hy;injection hv with hv;subst hy;subst hv;exact ⟨rfl,rfl⟩
  | j+3,hy,hv=>simp at hy
theorem FnOk.calls {P:Program} {f:FuncId} {args:List AV} {r:Value} (h:FnOk P f ⟨args,[],.v r,[]⟩) (w:World) (vs:List Value) (hl:vs.length=args.length)
 (hs:∀ (E:Env),E.w=w→(∀ b,b<w.heap.size→E.F b)→∀ (j:Nat) (x:AV) (u:Value),args[j]?=some x→vs[j]?=some u→Sees1 E x u):Calls P f vs.toArray w fun y w'=>y=.returned r∧Below w.heap.size w w':=by
 let E:Env:=⟨w,fun b=>b<w.heap.size,fun _=>0,fun _=>undef,lo []⟩
 have hm:Mem ⟨fun _=>False,fun b=>b<w.heap.size,E⟩ w E:=⟨Chg.refl _ _,fun b hb=>.inl hb,fun b hb=>hb,fun o x hx=>(by cases hx),fun o b hb=>(by cases hb),fun o o' b hb=>(by cases hb)⟩
 refine (h _ _ E vs rfl hm hl (hs E rfl fun b hb=>hb)).mono ?_
 rintro y w' ⟨E',v,rfl,rfl,_,hm',_,hz⟩
 exact ⟨by rw [show v=r from hz.1],hm'.chg.below⟩
end Go.Proofs.YtfhmaincnlaapaaGreat.Sy
namespace Go.Proofs.YtfhmaincnlaapaaGreat
open Go.ChangeShapes Go.WideShapes Go.ChangeAt Go.RowKit
set_option linter.unusedVariables false
theorem bv_cons (c:UInt8) (l:List UInt8):bv (c :: l)=c.toNat*256^l.length+bv l:=by
 have key:∀ (l:List UInt8) (x:Nat),l.foldl (fun x b=>x*256+b.toNat) x=x*256^l.length+bv l:=by
  intro l
  induction l with
  | nil=>intro x;simp [bv]
  | cons d l ih =>
    intro x
    rw [List.foldl_cons,ih]
    have:=ih (0*256+d.toNat)
    rw [show bv (d :: l)=l.foldl (fun x b=>x*256+b.toNat) (0*256+d.toNat) from rfl,this]
    rw [List.length_cons,Nat.pow_succ,Nat.zero_mul,Nat.zero_add,Nat.add_mul,Nat.mul_assoc,Nat.mul_comm 256,Nat.add_assoc]
 show l.foldl (fun x b=>x*256+b.toNat) (0*256+c.toNat)=_
 rw [key,Nat.zero_mul,Nat.zero_add]
theorem wd_of (x n:Nat) (h0:0<n) (h1:256^(n-1)≤x) (h2:x<256^n) (hx:x<18446744073709551616):wd x=n:=by
 have hp:0<x:=Nat.lt_of_lt_of_le (Nat.pow_pos (by decide)) h1
 have a:=wd_lt x hx
 have b:=wd_ge x hp hx
 rcases Nat.lt_trichotomy (wd x) n with h|h|h
 ·have:256^wd x≤256^(n-1):=Nat.pow_le_pow_right (by decide) (by omega)
  omega
 ·exact h
 ·have:256^n≤256^(wd x-1):=Nat.pow_le_pow_right (by decide) (by omega)
  omega
theorem numB_back (t:List UInt8) (n:Nat) (hn:n≤8) (h:(numB t n).2=0):n≤t.length∧t.take n=be n (numB t n).1∧wd (numB t n).1=n:=by
 unfold numB at h ⊢
 by_cases h0:n=0
 ·subst h0;simp [be,wd_zero]
 ·rw [if_neg h0] at h ⊢
  cases t with
  | nil=>simp at h
  | cons c u =>
    simp only at h ⊢
    split at h
    ·simp at h
    ·rename_i hc
     rw [if_neg hc]
     split at h
     ·simp at h
     ·rename_i hl
      rw [if_neg hl]
      simp only
      have hlen:((c :: u).take n).length=n:=by rw [List.length_take];omega
      have hb:=be_bv ((c :: u).take n)
      rw [hlen] at hb
      refine ⟨by omega,hb.symm,?_⟩
      have hlt:=bv_lt ((c :: u).take n)
      rw [hlen] at hlt
      obtain ⟨m,rfl⟩:∃ m,n=m+1:=⟨n-1,by omega⟩
      rw [List.take_succ_cons] at hlt ⊢
      have hge:256^m≤bv (c :: u.take m):=by
       rw [bv_cons]
       have hm:(u.take m).length=m:=by rw [List.take_succ_cons,List.length_cons] at hlen;omega
       rw [hm]
       have hc1:1≤c.toNat:=by
        rcases Nat.eq_zero_or_pos c.toNat with h|h
        ·exact absurd (UInt8.toNat_inj.1 (by rw [h];rfl)) hc
        ·exact h
       have:1*256^m≤c.toNat*256^m:=Nat.mul_le_mul_right _ hc1
       omega
      have h8:256^(m+1)≤256^8:=Nat.pow_le_pow_right (by decide) hn
      have e8:(256:Nat)^8=18446744073709551616:=by decide
      exact wd_of _ _ (by omega) (by simpa using hge) hlt (by omega)
theorem getU_back (t:List UInt8) (h:(getU t).2.2=0):t.take (getU t).2.1=encU (getU t).1∧(getU t).2.1≤t.length:=by
 refine ⟨?_,getU_fits t h⟩
 cases t with
 | nil=>simp [getU] at h
 | cons c t =>
   unfold getU at h ⊢
   simp only at h ⊢
   split at h
   ·simp at h
   ·rename_i h1
    rw [if_neg h1]
    split at h
    ·rename_i h2
     rw [if_pos h2]
     obtain ⟨a,b,d⟩:=numB_back t c.toNat (by omega) h2
     simp only
     rw [List.take_succ_cons,b]
     unfold encU
     rw [d]
     congr 1
     apply UInt8.toNat_inj.1
     rw [UInt8.toNat_ofNat'];omega
    ·rename_i h2;exact absurd h h2
theorem getI_back (t:List UInt8) (h:(getI t).2.2=0):t.take (getI t).2.1=encI (getI t).1∧(getI t).2.1≤t.length:=by
 refine ⟨?_,getI_fits t h⟩
 cases t with
 | nil=>simp [getI] at h
 | cons c t =>
   unfold getI at h ⊢
   simp only at h ⊢
   split at h
   ·simp at h
   ·rename_i h1
    rw [if_neg h1]
    split at h
    ·simp at h
    ·rename_i h2
     rw [if_neg h2]
     split at h
     ·rename_i h3
      rw [if_pos h3]
      obtain ⟨a,b,d⟩:=numB_back (prt c t) (sgn c).1 (by omega) h3
      have hlt:=numB_lt63 (prt c t) (sgn c).1 (by omega) (fun h=>by
       by_cases hh:127<((prt c t).headD 0).toNat
       ·exact absurd ⟨h,hh⟩ h2
       ·omega)
      generalize (numB (prt c t) (sgn c).1).1=x at *
      simp only
      rw [List.take_succ_cons]
      have hcl:=c.toNat_lt
      by_cases hc:c.toNat<9
      ·have hs:sgn c=(8-c.toNat,true):=by unfold sgn;rw [if_pos hc]
       rw [hs] at a b d h1 ⊢
       simp only at a b d h1 ⊢
       have hp:prt c t=(t.take (8-c.toNat)).map (255 - ·):=by unfold prt;rw [hs];rfl
       rw [hp] at a b
       rw [List.length_map,List.length_take] at a
       rw [List.take_of_length_le (by rw [List.length_map,List.length_take];omega)] at b
       simp only [if_true]
       unfold encI
       rw [if_neg (by omega)]
       have e1:(-(-(x:Int)-1+1)).toNat=x:=by omega
       rw [e1,d]
       have hbl:(be (8-c.toNat) x).length=8-c.toNat:=be_length _ _
       have e2:t.take (8-c.toNat)=(be (8-c.toNat) x).map (255 - ·):=by
        rw [← b,List.map_map]
        have:((fun y:UInt8=>255-y) ∘ fun y:UInt8=>255-y)=id:=by
         funext y
         simp only [Function.comp,id_eq]
         apply UInt8.toNat_inj.1
         have:=y.toNat_lt
         simp [UInt8.toNat_sub]
         omega
        rw [this,List.map_id]
       rw [e2]
       congr 1
       ·apply UInt8.toNat_inj.1
        rw [UInt8.toNat_ofNat'];omega
       ·have:=be_flip (8-c.toNat) (18446744073709551615-x) (by omega) (by omega)
        rw [show 18446744073709551615-(18446744073709551615-x)=x from by omega] at this
        rw [this,List.map_map]
        have h2:((fun y:UInt8=>255-y) ∘ fun y:UInt8=>255-y)=id:=by
         funext y
         simp only [Function.comp,id_eq]
         apply UInt8.toNat_inj.1
         have:=y.toNat_lt
         simp [UInt8.toNat_sub]
         omega
        rw [h2,List.map_id]
      ·have hs:sgn c=(c.toNat-9,false):=by unfold sgn;rw [if_neg hc]
       rw [hs] at a b d h1 ⊢
       simp only at a b d h1 ⊢
       have hp:prt c t=t.take (c.toNat-9):=by unfold prt;rw [hs];rfl
       rw [hp] at a b
       rw [List.length_take] at a
       rw [List.take_of_length_le (by rw [List.length_take];omega)] at b
       simp only [Bool.false_eq_true,if_false]
       unfold encI
       rw [if_pos (by omega),Int.toNat_natCast,d,b]
       congr 1
       apply UInt8.toNat_inj.1
       rw [UInt8.toNat_ofNat'];omega
     ·rename_i h3;exact absurd h h3
theorem getF_back (t:List UInt8) (h:(getF t).2.2=0):t.take (getF t).2.1=be 8 (keyB (getF t).1)∧(getF t).2.1≤t.length:=by
 refine ⟨?_,getF_fits t h⟩
 unfold getF at h ⊢
 split at h
 ·split at h <;> simp at h
 ·rename_i h8
  rw [if_neg h8]
  cases hf:fromB (bv (t.take 8)) with
  | none=>rw [hf] at h;simp at h
  | some b =>
    simp only
    have hl:(t.take 8).length=8:=by rw [List.length_take];omega
    have hlt:=bv_lt (t.take 8)
    rw [hl] at hlt
    have e8:(256:Nat)^8=18446744073709551616:=by decide
    rw [fromB_key _ b (by omega) hf]
    have:=be_bv (t.take 8)
    rw [hl] at this
    exact this.symm
structure Back {V:Type} (t:List UInt8) (g:V→List UInt8) (f:Nat→Nat→Nat→List V×Nat×Nat):Prop where
 inb:∀ k p e,p≤t.length→(f k p e).2.1≤t.length
 bk:∀ k p e,p≤t.length→(f k p e).2.2=0→e=0∧t.take (f k p e).2.1=t.take p++(f k p e).1.flatMap g
theorem Back.runI {V:Type} {t:List UInt8} {g:V→List UInt8} {f:Nat→Nat→Nat→List V×Nat×Nat} (h:Back t g f) (n p e:Nat) (hp:p≤t.length):(runN f p e n).2.1≤t.length:=by
 induction n with
 | zero=>exact hp
 | succ n ih=>rw [runN_succ];exact h.inb _ _ _ ih
theorem Back.run {V:Type} {t:List UInt8} {g:V→List UInt8} {f:Nat→Nat→Nat→List V×Nat×Nat} (h:Back t g f) (n p e:Nat) (hp:p≤t.length) (he:(runN f p e n).2.2=0) :
 e=0∧t.take (runN f p e n).2.1=t.take p++(runN f p e n).1.flatMap g:=by
 induction n with
 | zero=>exact ⟨he,by simp [runN]⟩
 | succ n ih =>
   rw [runN_succ] at he ⊢
   simp only at he ⊢
   obtain ⟨h0,d2⟩:=h.bk n _ _ (h.runI n p e hp) he
   obtain ⟨a,d⟩:=ih h0
   exact ⟨a,by rw [d2,d,List.flatMap_append,List.append_assoc]⟩
theorem stepE_zero {e a b:Nat} (h:stepE e a b=0):e=0∧a=0∧b=0:=by
 unfold stepE at h
 split at h
 ·omega
 ·split at h
  ·omega
  ·exact ⟨by omega,by omega,h⟩
theorem stepP_in (t:List UInt8) (p n k:Nat) (hp:p≤t.length) (h:k=0→n≤(t.drop p).length):stepP p n k≤t.length:=by
 unfold stepP
 split
 ·rename_i h0;have:=h h0;rw [List.length_drop] at this;omega
 ·exact hp
theorem back_one {t:List UInt8} {p n:Nat} {x:List UInt8} (h:(t.drop p).take n=x):t.take (p+n)=t.take p++x:=by rw [List.take_add,h]
theorem inU_in (t:List UInt8) (p e most:Nat) (hp:p≤t.length):(inU t p e most).2.1≤t.length:=stepP_in t p _ _ hp fun h0=>getU_fits _ (stepE_zero h0).2.1
theorem inI_in (t:List UInt8) (p e:Nat) (hp:p≤t.length):(inI_ t p e).2.1≤t.length:=stepP_in t p _ _ hp fun h0=>getI_fits _ (stepE_zero h0).2.1
theorem inF_in (t:List UInt8) (p e:Nat) (hp:p≤t.length):(inF_ t p e).2.1≤t.length:=stepP_in t p _ _ hp fun h0=>getF_fits _ (stepE_zero h0).2.1
theorem rdB_in (t:List UInt8):(rdB 283 t).n≤t.length:=by
 unfold rdB got0S
 split
 ·exact Nat.zero_le _
 ·rename_i h
  split
  ·exact Nat.zero_le _
  ·split
   ·exact Nat.zero_le _
   ·rename_i h3
    have:=getU_fits t (by omega)
    simp only;omega
theorem inB_in (t:List UInt8) (p e:Nat) (hp:p≤t.length):(inB_ t p e).2.1≤t.length:=by
 unfold inB_
 split
 ·have:=rdB_in (t.drop p)
  rw [List.length_drop] at this
  simp only;omega
 ·exact hp
theorem runN_in {V:Type} {f:Nat→Nat→Nat→List V×Nat×Nat} {N:Nat} (h:∀ k p e,p≤N→(f k p e).2.1≤N) (p e k:Nat) (hp:p≤N):(runN f p e k).2.1≤N:=by
 induction k with
 | zero=>exact hp
 | succ k ih=>rw [runN_succ];exact h _ _ _ ih
theorem meaS_in (t:List UInt8) (p e:Nat) (hp:p≤t.length):(meaS t p e).2.1≤t.length :=
 inI_in t _ _ (inI_in t _ _ (runN_in (fun _ p e h=>inU_in t p e _ h) _ _ _ (inU_in t _ _ _ (inI_in t _ _ (inI_in t _ _ hp)))))
theorem reaS_in (t:List UInt8) (p e:Nat) (hp:p≤t.length):(reaS t p e).2.1≤t.length:=inF_in t _ _ (inF_in t _ _ (inB_in t _ _ hp))
theorem celS_in (S:Sch) (t:List UInt8):(celS S t).2.1≤t.length:=by
 have h1:(celK t).2.1≤t.length:=by unfold celK;exact inU_in t 0 0 _ (Nat.zero_le _)
 have h2:(celN t).2.1≤t.length:=by unfold celN;exact inI_in t _ _ h1
 have h3:(celW S t S.ints.length).2.1≤t.length:=by unfold celW;exact runN_in (f:=meaF t) (N:=t.length) (fun k p e h=>by unfold meaF;exact meaS_in t p e h) _ _ _ h2
 have h4:(celR S t S.nums.length).2.1≤t.length:=by unfold celR;exact runN_in (f:=reaF t) (N:=t.length) (fun k p e h=>by unfold reaF;exact reaS_in t p e h) _ _ _ h3
 unfold celS;exact h4
theorem getC_in (S:Sch) (mask:Nat) (t:List UInt8):(getC S mask t).2.1≤t.length:=by
 unfold getC
 (repeat' split) <;> first|exact Nat.zero_le _|exact celS_in S t
def rlS (S:Sch) (mask:Nat) (d:List UInt8):Nat→List CellS×Nat×Nat
 | 0=>([],0,0)
 | k+1=>if (rlS S mask d k).2.2≠0 then rlS S mask d k
   else if (getC S mask (d.drop (rlS S mask d k).2.1)).2.2≠0 then ([],0,(getC S mask (d.drop (rlS S mask d k).2.1)).2.2)
   else ((rlS S mask d k).1 ++ [(getC S mask (d.drop (rlS S mask d k).2.1)).1],(rlS S mask d k).2.1+(getC S mask (d.drop (rlS S mask d k).2.1)).2.1,0)
def readL (S:Sch) (mask:Nat) (s:Sht):List CellS×Nat :=
 if checkN S≠0 then ([],1) else if (keysOf S mask).isNone=true then ([],11) else if s.k≠3∨s.a<1∨1001<s.a∨s.b≠mask then ([],6)
 else if (rlS S mask s.d s.a).2.2≠0 then ([],(rlS S mask s.d s.a).2.2) else if (rlS S mask s.d s.a).2.1<s.d.length then ([],7)
 else if risingC (rlS S mask s.d s.a).1=true then ((rlS S mask s.d s.a).1,0) else ([],6)
section
variable {S:Sch} {mask:Nat} {s:Sht}
end
def CeO (w:World) (base:Nat):List CellS→List Value→Prop
 | [],xs=>xs=[]
 | C :: l,xs=>∃ A2 c2 A3 c3 rest,xs=cellC C A2 c2 A3 c3++rest∧CellO w base C A2 c2 A3 c3∧CeO w base l rest
section
variable {w w':World} {base base':Nat} {l l':List CellS} {xs xs':List Value}
theorem CeO.map (h:CeO w base l xs) (hb:base'≤base) (k:∀ (e:TypeId) (size:Nat) (v:Value) (n:Nat) (ys:List Value),e≠53→w.ownsRow base e size v n ys→w'.ownsRow base e size v n ys):CeO w' base' l xs:=by
 induction l generalizing xs with
 | nil=>exact h
 | cons C l ih=>obtain ⟨A2,c2,A3,c3,rest,rfl,o,hr⟩:=h;exact ⟨A2,c2,A3,c3,rest,rfl,o.map hb k,ih hr⟩
theorem CeO.app (h:CeO w base l xs) (k:CeO w base l' xs'):CeO w base (l++l') (xs++xs'):=by
 induction l generalizing xs with
 | nil=>cases h;exact k
 | cons C l ih=>obtain ⟨A2,c2,A3,c3,rest,rfl,o,hr⟩:=h;exact ⟨A2,c2,A3,c3,rest++xs',by rw [List.append_assoc],o,ih hr⟩
theorem CeO.one {C:CellS} {A2 A3:Option Addr} {c2 c3:Nat} (h:CellO w base C A2 c2 A3 c3):CeO w base [C] (cellC C A2 c2 A3 c3):=⟨A2,c2,A3,c3,[],by simp,h,rfl⟩
theorem CeO.chunk (h:CeO w base l xs):Chunk cellR w w.heap.size l xs:=by
 induction l generalizing xs with
 | nil=>exact h
 | cons C l ih=>obtain ⟨A2,c2,A3,c3,rest,rfl,o,hr⟩:=h;exact ⟨_,rest,rfl,cellR_mk o.cellV,ih hr⟩
theorem CeO.below (h:CeO w base l xs) (hb:Below w.heap.size w w'):CeO w' base l xs:=h.map (Nat.le_refl _) fun e size v n ys _ o=>own_below o hb (Nat.le_refl _)
theorem CeO.alloc (h:CeO w base l xs) (o:Obj):CeO (w.alloc o) base l xs:=h.below (belA (belR w) o)
theorem CeO.drewN (h:CeO w base l xs) (n:Nat):CeO (w.drewN n) base l xs:=h.below (belD (belR w) n)
theorem CeO.appd {v v':Value} {b n size:Nat} {ys:List Value} (h:CeO w base l xs) (k:Appd w w' v v') (ho:w.ownsRow b 53 size v n ys):CeO w' base l xs:=h.map (Nat.le_refl _) fun _ _ _ _ _ he o=>k.kept o (own_own_ne o ho he)
theorem CeO.len (h:CeO w base l xs):xs.length=l.length*4:=h.chunk.len
end
structure RlR (w wr:World) (SV XV:Array Value) (ov:Value) (l:List CellS) (xs:List Value):Prop where
 s:Blk wr w.heap.size 26 SV
 x:Blk wr (w.heap.size+1) 42 XV
 o:wr.ownsRow (w.heap.size+1+1) 53 4 ov l.length xs
 c:CeO wr (w.heap.size+1+1) l xs
 n:Below w.heap.size w wr
section
variable {w wr w2 w3:World} {SV XV:Array Value} {ov v':Value} {l:List CellS} {xs:List Value}
theorem RlR.lt (h:RlR w wr SV XV ov l xs):w.heap.size+1+1≤wr.heap.size:=h.x.lt
theorem RlR.below (h:RlR w wr SV XV ov l xs) (hb:Below wr.heap.size wr w2):RlR w w2 SV XV ov l xs :=
 ⟨h.s.below hb h.s.lt,h.x.below hb h.x.lt,own_below h.o hb (Nat.le_refl _),h.c.below hb,belT h.n hb⟩
theorem RlR.put {C:CellS} {A2 A3:Option Addr} {c2 c3:Nat} (h:RlR w wr SV XV ov l xs) (hc:CellO wr (w.heap.size+1+1) C A2 c2 A3 c3) (ho:w3.ownsRow (w.heap.size+1+1) 53 4 v' (l.length+1) (xs++cellC C A2 c2 A3 c3)) (k:Appd wr w3 ov v') :
 RlR w w3 SV XV v' (l ++ [C]) (xs++cellC C A2 c2 A3 c3):=by
 have hz:=h.lt
 have hb:Below (w.heap.size+1+1) wr w3:=(Below.refl _ _).grown k.1 h.lt fun j hj=>(h.o.lt j hj).1
 exact ⟨h.s.below hb (by omega),h.x.below hb (by omega),by simpa using ho,(h.c.appd k h.o).app (CeO.one (hc.map (Nat.le_refl _) fun _ _ _ _ _ he o=>k.kept o (own_own_ne o h.o he))),h.n.trans (hb.mono (by omega))⟩
end
def RetLeaf (w:World) (S:Sch) (mask:Nat) (s:Sht) (y:Ending) (w':World):Prop:=∃ v xs,y=.returned (.tuple #[v,.int .i64 ((readL S mask s).2:Int)])∧w'.ownsRow w.heap.size 53 4 v (readL S mask s).1.length xs∧CeO w' w.heap.size (readL S mask s).1 xs∧Below w.heap.size w w'
theorem RetLeaf.bad {w w':World} {S:Sch} {mask:Nat} {s:Sht} {e:Nat} (h:readL S mask s=([],e)) (hb:Below w.heap.size w w'):RetLeaf w S mask s (.returned (.tuple #[.slice none 0 0,.int .i64 (e:Int)])) w' :=
 ⟨.slice none 0 0,[],by rw [h],by rw [h];exact World.ownsRow_nil _ _ _ 4,by rw [h];rfl,hb⟩
theorem rh_call2 {P:Program} {ops:Array Oper} {Q:Exit→Act→World→Prop} {md:Region.Mode} {S:World→Prop} (i j:Nat) (di dj:Option Tmp) {oi oj:Oper} {fuel:Nat} {listed:Array Bool} {a:Act} {w:World} (hr:Region.ready md ops listed=[i,j])
 (hoi:ops[i]?=some oi) (hdi:oi.dst=di) (hoj:ops[j]?=some oj) (hdj:oj.dst=dj) (hwi:Region.wanted oi (yielded ops a.tmps)=true) (hwj:Region.wanted oj (yielded ops a.tmps)=true)
 (hi:∀ K':Act→World→Prop,Shut (∀ a w,S w→(S w→wpAnyH P md ops Q S fuel (listed.setIfInBounds i true) a w)→K' a w)→Oper.wp P oi a w K' Q)
 (hj:∀ K':Act→World→Prop,Shut (∀ a w,S w→(S w→wpAnyH P md ops Q S fuel (listed.setIfInBounds j true) a w)→K' a w)→Oper.wp P oj a w K' Q):wpAnyH P md ops Q S (fuel+1) listed a w :=
 wpAnyH_ready hr (by simp) (AllReadyH.cons hoi (fun K hK=>by rw [if_pos hwi];exact hi K hK) (AllReadyH.cons hoj (fun K hK=>by rw [if_pos hwj];exact hj K hK) AllReadyH.nil))
def LfCut (wr:World) (C:CellS) (q e:Nat) (v12 v13 v14:Value) (wx:World):Prop :=
 ∃ gc D2 d2 D3 d3,v12=.pointer (some ⟨gc,0,none⟩)∧v13=.int .i64 (q:Int)∧v14=.int .i64 (e:Int)∧Blk wx gc 53 (cellC C D2 d2 D3 d3).toArray∧CellO wx wr.heap.size C D2 d2 D3 d3∧Below wr.heap.size wr wx
theorem LfCut.after {wr W w5:World} {C:CellS} {q e:Nat} {D2 D3:Option Addr} {d2 d3:Nat} (hc:CellO w5 W.heap.size C D2 d2 D3 d3) (hw:Below wr.heap.size wr W) (hb:Below W.heap.size W w5) :
 LfCut wr C q e (.pointer (some ⟨w5.heap.size,0,none⟩)) (.int .i64 (q:Int)) (.int .i64 (e:Int)) (w5.alloc (.cells #[.int .u64 (C.key:Int),.int .i64 C.count,.slice D2 C.ints.length d2,.slice D3 C.nums.length d3] 53)) :=
 ⟨_,D2,d2,D3,d3,rfl,rfl,rfl,Blk.new w5 _ _,hc.map hw.size fun _ _ _ _ _ _ o=>o.alloc _,belA (belT hw hb) _⟩
theorem LfCut.before {wr W w5:World} {C:CellS} {q e:Nat} {D2 D3:Option Addr} {d2 d3:Nat} (hz:W.heap.size=wr.heap.size+1) (hk:Blk W wr.heap.size 53 #[.int .u64 0,.int .i64 0,.slice none 0 0,.slice none 0 0]) (hc:CellO w5 W.heap.size C D2 d2 D3 d3) (hw:Below wr.heap.size wr W) (hb:Below W.heap.size W w5) :
 LfCut wr C q e (.pointer (some ⟨wr.heap.size,0,none⟩)) (.int .i64 (q:Int)) (.int .i64 (e:Int)) ((((w5.setCell ⟨wr.heap.size,0,none⟩ (.int .u64 (C.key:Int))).setCell ⟨wr.heap.size,1,none⟩ (.int .i64 C.count)).setCell ⟨wr.heap.size,2,none⟩ (.slice D2 C.ints.length d2)).setCell ⟨wr.heap.size,3,none⟩ (.slice D3 C.nums.length d3)):=by
 have hk5:=hk.below hb (by omega)
 refine ⟨_,D2,d2,D3,d3,rfl,rfl,rfl,?_,hc.map (by omega) fun _ _ _ _ _ _ o=>own_set_lo (own_set_lo (own_set_lo (own_set_lo o (p:=⟨wr.heap.size,0,none⟩) (by simp only;omega) _) (p:=⟨wr.heap.size,1,none⟩) (by simp only;omega) _) (p:=⟨wr.heap.size,2,none⟩) (by simp only;omega) _) (p:=⟨wr.heap.size,3,none⟩) (by simp only;omega) _,bel4 (belT hw hb) (Nat.le_refl _) _ _ _ _⟩
 exact (((hk5.set_ 0 (.int .u64 (C.key:Int))).set_ 1 (.int .i64 C.count)).set_ 2 (.slice D2 C.ints.length d2)).set_ 3 (.slice D3 C.nums.length d3)
end Go.Proofs.YtfhmaincnlaapaaGreat
namespace Go.Proofs.YtfhmaincnlaapaaGreat.Sy
open Go.ChangeShapes Go.WideShapes Go.ChangeAt Go.RowKit
set_option linter.unusedVariables false
set_option linter.unusedSimpArgs false
theorem awake14_fn:FnOk Tryz.prog 20 ⟨[],[],bz true,[]⟩:=(evFn_ok hmo knTwice_ok fz14 200 30 20 [] [] ⟨[],[],bz true,[]⟩ (by kernel_rfl)).1
def schA (S:Sch):AV:=.agg (encSch S)
def mskA (m:Nat):AV:=.v (.int .u32 (m:Int))
def bytA (l:List UInt8):AV:=.lst l.length (byL l)
theorem okCl_of {C:CellS} (h:CellOk C) (hn:∀ x ∈ C.nums,x.mn<18446744073709551616∧x.mx<18446744073709551616):okCl C :=
 ⟨h.key,WalkArith.wf_i64 h.count,fun X hX=>by
  obtain ⟨h1,h2,h3,h4,h5⟩:=h.ints X hX
  exact ⟨WalkArith.wf_i64 h1,WalkArith.wf_i64 h2,h5,WalkArith.wf_i64 h3,WalkArith.wf_i64 h4⟩,fun X hX=>⟨fun _ _=>trivial,hn X hX⟩⟩
theorem okCl_get (S:Sch) (mask:Nat) (t:List UInt8):okCl (getC S mask t).1:=by
 refine okCl_of (getC_ok S mask t) ?_
 unfold getC
 (repeat' split) <;> first|exact celS_nums S t|(intro x hx;cases hx)
theorem dim_mk {w:World} {B:Nat}:∀ {l:List (ByteArray×Int)},(∀ x ∈ l,okStr x.1∧okI64 x.2)→Chunk dimR w B l (dimC l)
 | [],_=>rfl
 | x :: l,h=>⟨[.string x.1,.int .i64 x.2],dimC l,rfl,⟨[_],[_],rfl,⟨rfl,(h x (by simp)).1⟩,rfl,(h x (by simp)).2⟩,dim_mk fun y hy=>h y (by simp [hy])⟩
theorem sch_see {E:Env} {B:Nat} {S:Sch} {v:Value} (hF:∀ b,b<B→E.F b) (h:SchAt E.w B v S) (ho:SchOk S):Sees1 E (.agg (encSch S)) v:=by
 obtain ⟨A0,c0,A1,c1,A2,c2,A3,c3,rfl,r0,r1,r2,r3,b0,b1,b2,b3⟩:=h
 have ok:=okSch_of ho
 exact enc_sch.see (B:=B) (x:=S) (cs:=[.slice A0 S.dims.length c0,.slice A1 S.ints.length c1,.slice A2 S.nums.length c2,.slice A3 S.views.length c3]) hF
  ⟨[_],[_,_,_],rfl,⟨A0,c0,_,rfl,b0.1,b0.2,r0,dim_mk ok.1⟩,[_],[_,_],rfl,⟨A1,c1,_,rfl,b1.1,b1.2,r1,chunk_val.2 ⟨rfl,ok.2.1⟩⟩,[_],[_],rfl,⟨A2,c2,_,rfl,b2.1,b2.2,r2,chunk_val.2 ⟨rfl,ok.2.2.1⟩⟩,A3,c3,_,rfl,b3.1,b3.2,r3,chunk_val.2 ⟨rfl,ok.2.2.2⟩⟩
end Go.Proofs.YtfhmaincnlaapaaGreat.Sy
namespace Go.Proofs.YtfhmaincnlaapaaGreat
open Go.ChangeShapes Go.WideShapes Go.ChangeAt Go.RowKit
set_option linter.unusedVariables false
theorem inU_bk {t:List UInt8} {p e most:Nat} (h:(inU t p e most).2.2=0):e=0∧t.take (inU t p e most).2.1=t.take p++encU (inU t p e most).1:=by
 have h':stepE e (getU (t.drop p)).2.2 (overE (getU (t.drop p)).1 most)=0:=h
 obtain ⟨h0,h1,h2⟩:=stepE_zero h'
 have e1:inU t p e most=((getU (t.drop p)).1,p+(getU (t.drop p)).2.1,0):=by
  unfold inU;simp only [h'];unfold stepV stepP;simp
 rw [e1]
 exact ⟨h0,back_one (getU_back _ h1).1⟩
theorem inI_bk {t:List UInt8} {p e:Nat} (h:(inI_ t p e).2.2=0):e=0∧t.take (inI_ t p e).2.1=t.take p++encI (inI_ t p e).1:=by
 have h':stepE e (getI (t.drop p)).2.2 0=0:=h
 obtain ⟨h0,h1,h2⟩:=stepE_zero h'
 have e1:inI_ t p e=((getI (t.drop p)).1,p+(getI (t.drop p)).2.1,0):=by
  unfold inI_;simp only [h'];unfold stepV stepP;simp
 rw [e1]
 exact ⟨h0,back_one (getI_back _ h1).1⟩
theorem inF_bk {t:List UInt8} {p e:Nat} (h:(inF_ t p e).2.2=0):e=0∧t.take (inF_ t p e).2.1=t.take p++be 8 (keyB (inF_ t p e).1):=by
 have h':stepE e (getF (t.drop p)).2.2 0=0:=h
 obtain ⟨h0,h1,h2⟩:=stepE_zero h'
 have e1:inF_ t p e=((getF (t.drop p)).1,p+(getF (t.drop p)).2.1,0):=by
  unfold inF_;simp only [h'];unfold stepV stepP;simp
 rw [e1]
 exact ⟨h0,back_one (getF_back _ h1).1⟩
theorem rdB_bk {t:List UInt8} (h:(rdB 283 t).e=0):t.take (rdB 283 t).n=encU (rdB 283 t).t.length++(rdB 283 t).t:=by
 unfold rdB at h ⊢
 by_cases h1:(getU t).2.2≠0
 ·rw [if_pos h1] at h;exact absurd h h1
 ·rw [if_neg h1] at h ⊢
  by_cases h2:mx 283<(getU t).1
  ·rw [if_pos h2] at h;cases h
  ·rw [if_neg h2] at h ⊢
   by_cases h3:t.length-(getU t).2.1<(getU t).1
   ·rw [if_pos h3] at h;cases h
   ·rw [if_neg h3]
    simp only
    have hl:((t.drop (getU t).2.1).take (getU t).1).length=(getU t).1:=by rw [List.length_take,List.length_drop];omega
    rw [hl,List.take_add,(getU_back t (by omega)).1]
theorem inB_bk {t:List UInt8} {p e:Nat} (h:(inB_ t p e).2.2=0):e=0∧t.take (inB_ t p e).2.1=t.take p++(encU (inB_ t p e).1.length++(inB_ t p e).1):=by
 unfold inB_ at h ⊢
 by_cases he:e=0
 ·rw [if_pos he] at h ⊢
  exact ⟨he,back_one (rdB_bk h)⟩
 ·rw [if_neg he] at h;exact absurd h he
theorem sqF_bk (t:List UInt8):Back t encU (sqF t):=by
 refine ⟨fun k p e hp=>inU_in t p e _ hp,fun k p e hp h=>?_⟩
 obtain ⟨h0,h1⟩:=inU_bk (p:=p) (e:=e) (most:=4294967295) h
 exact ⟨h0,by unfold sqF;simpa using h1⟩
theorem meaS_bk {t:List UInt8} {p e:Nat} (hp:p≤t.length) (h:(meaS t p e).2.2=0):e=0∧t.take (meaS t p e).2.1=t.take p++encWhole (meaS t p e).1:=by
 obtain ⟨kH,bH⟩:=inI_bk (t:=t) (p:=(meaL t p e).2.1) (e:=(meaL t p e).2.2) h
 obtain ⟨kL,bL⟩:=inI_bk (t:=t) (p:=(meaQ t p e).2.1) (e:=(meaQ t p e).2.2) kH
 have pA:(meaA t p e).2.1≤t.length:=inI_in t p e hp
 have pB:(meaB t p e).2.1≤t.length:=inI_in t _ _ pA
 have pN:(meaN t p e).2.1≤t.length:=inU_in t _ _ _ pB
 obtain ⟨kQ,bQ⟩:=(sqF_bk t).run (meaN t p e).1 (meaN t p e).2.1 (meaN t p e).2.2 pN kL
 obtain ⟨kN,bN⟩:=inU_bk (t:=t) (p:=(meaB t p e).2.1) (e:=(meaB t p e).2.2) (most:=7) kQ
 obtain ⟨kB,bB⟩:=inI_bk (t:=t) (p:=(meaA t p e).2.1) (e:=(meaA t p e).2.2) kN
 obtain ⟨kA,bA⟩:=inI_bk (t:=t) (p:=p) (e:=e) kB
 refine ⟨kA,?_⟩
 have hq:(meaQ t p e).1.length=(meaN t p e).1:=runN_len (fun k p e=>rfl) _ _ _
 show t.take (meaH t p e).2.1=_
 unfold encWhole
 show t.take (meaH t p e).2.1=t.take p++(encI (meaA t p e).1++encI (meaB t p e).1++encU (meaQ t p e).1.length++encSq (meaQ t p e).1++encI (meaL t p e).1++encI (meaH t p e).1)
 rw [hq]
 have b1:t.take (meaH t p e).2.1=t.take (meaL t p e).2.1++encI (meaH t p e).1:=bH
 have b2:t.take (meaL t p e).2.1=t.take (meaQ t p e).2.1++encI (meaL t p e).1:=bL
 have b3:t.take (meaQ t p e).2.1=t.take (meaN t p e).2.1++encSq (meaQ t p e).1:=bQ
 have b4:t.take (meaN t p e).2.1=t.take (meaB t p e).2.1++encU (meaN t p e).1:=bN
 have b5:t.take (meaB t p e).2.1=t.take (meaA t p e).2.1++encI (meaB t p e).1:=bB
 have b6:t.take (meaA t p e).2.1=t.take p++encI (meaA t p e).1:=bA
 rw [b1,b2,b3,b4,b5,b6]
 simp only [List.append_assoc]
theorem reaS_bk {t:List UInt8} {p e:Nat} (h:(reaS t p e).2.2=0):e=0∧t.take (reaS t p e).2.1=t.take p++encReal (reaS t p e).1:=by
 obtain ⟨kC,bC⟩:=inF_bk (t:=t) (p:=(reaB t p e).2.1) (e:=(reaB t p e).2.2) h
 obtain ⟨kB,bB⟩:=inF_bk (t:=t) (p:=(reaA t p e).2.1) (e:=(reaA t p e).2.2) kC
 obtain ⟨kA,bA⟩:=inB_bk (t:=t) (p:=p) (e:=e) kB
 refine ⟨kA,?_⟩
 show t.take (reaC t p e).2.1=t.take p++(encU (reaA t p e).1.length++(reaA t p e).1++be 8 (keyB (reaB t p e).1)++be 8 (keyB (reaC t p e).1))
 have b1:t.take (reaC t p e).2.1=t.take (reaB t p e).2.1++be 8 (keyB (reaC t p e).1):=bC
 have b2:t.take (reaB t p e).2.1=t.take (reaA t p e).2.1++be 8 (keyB (reaB t p e).1):=bB
 have b3:t.take (reaA t p e).2.1=t.take p++(encU (reaA t p e).1.length++(reaA t p e).1):=bA
 rw [b1,b2,b3]
 simp only [List.append_assoc]
theorem meaF_bk (t:List UInt8):Back t encWhole (meaF t):=by
 refine ⟨fun k p e hp=>meaS_in t p e hp,fun k p e hp h=>?_⟩
 obtain ⟨h0,h1⟩:=meaS_bk (p:=p) (e:=e) hp h
 exact ⟨h0,by unfold meaF;simpa using h1⟩
theorem reaF_bk (t:List UInt8):Back t encReal (reaF t):=by
 refine ⟨fun k p e hp=>reaS_in t p e hp,fun k p e hp h=>?_⟩
 obtain ⟨h0,h1⟩:=reaS_bk (p:=p) (e:=e) h
 exact ⟨h0,by unfold reaF;simpa using h1⟩
theorem celS_bk {S:Sch} {t:List UInt8} (h:(celS S t).2.2=0):t.take (celS S t).2.1=encCell (celS S t).1:=by
 have pK:(celK t).2.1≤t.length:=inU_in t 0 0 _ (Nat.zero_le _)
 have pN:(celN t).2.1≤t.length:=inI_in t _ _ pK
 have pW:(celW S t S.ints.length).2.1≤t.length:=(meaF_bk t).runI _ _ _ pN
 obtain ⟨kW,bW⟩:=(reaF_bk t).run S.nums.length (celW S t S.ints.length).2.1 (celW S t S.ints.length).2.2 pW h
 obtain ⟨kN,bN⟩:=(meaF_bk t).run S.ints.length (celN t).2.1 (celN t).2.2 pN kW
 obtain ⟨kK,bK⟩:=inI_bk (t:=t) (p:=(celK t).2.1) (e:=(celK t).2.2) kN
 obtain ⟨k0,b0⟩:=inU_bk (t:=t) (p:=0) (e:=0) (most:=18446744073709551615) kK
 show t.take (celR S t S.nums.length).2.1=encU (celK t).1++encI (celN t).1++encWholes (celW S t S.ints.length).1++encReals (celR S t S.nums.length).1
 have b1:t.take (celR S t S.nums.length).2.1=t.take (celW S t S.ints.length).2.1++encReals (celR S t S.nums.length).1:=bW
 have b2:t.take (celW S t S.ints.length).2.1=t.take (celN t).2.1++encWholes (celW S t S.ints.length).1:=bN
 have b3:t.take (celN t).2.1=t.take (celK t).2.1++encI (celN t).1:=bK
 have b4:t.take (celK t).2.1=t.take 0++encU (celK t).1:=b0
 rw [b1,b2,b3,b4]
 simp
theorem getC_bk {S:Sch} {mask:Nat} {t:List UInt8} (h:(getC S mask t).2.2=0):t.take (getC S mask t).2.1=encCell (getC S mask t).1∧(getC S mask t).1=(celS S t).1∧rightC S mask (getC S mask t).1=true:=by
 unfold getC at h ⊢
 by_cases h1:checkN S≠0
 ·rw [if_pos h1] at h;cases h
 ·rw [if_neg h1] at h ⊢
  by_cases h2:(keysOf S mask).isNone=true
  ·rw [if_pos h2] at h;cases h
  ·rw [if_neg h2] at h ⊢
   by_cases h3:(celS S t).2.2≠0
   ·rw [if_pos h3] at h;exact absurd h h3
   ·rw [if_neg h3] at h ⊢
    by_cases h4:rightC S mask (celS S t).1=true
    ·rw [if_pos h4];exact ⟨celS_bk (by omega),rfl,h4⟩
    ·rw [if_neg h4] at h;cases h
end Go.Proofs.YtfhmaincnlaapaaGreat
namespace Go.Proofs.YtfhmaincnlaapaaGreat.Sy
open Go.ChangeShapes Go.WideShapes Go.ChangeAt Go.RowKit
set_option linter.unusedVariables false
theorem fkey_eq (b:Nat):keyB b=fkey b:=by
 unfold keyB fkey nanB ng rg irg
 by_cases h1:9218868437227405312<b%9223372036854775808
 ·rw [if_pos (decide_eq_true h1),if_pos h1]
 ·rw [if_neg (by rw [decide_eq_false h1];simp),if_neg h1]
  by_cases h2:b/9223372036854775808%2=1
  ·rw [if_pos h2,if_pos (by rw [h2];rfl)]
  ·rw [if_neg h2,if_neg (by rw [beq_iff_eq];exact h2)]
def encReK (X:RealS):List AV:=encL encU8 X.sum++([.fk (keyB X.mn)] ++ [.fk (keyB X.mx)])
def encClK (C:CellS):List AV:=encU64n C.key++(encI64 C.count++(encL encWh C.ints++encL encReK C.nums))
section
variable {w:World} {F:Nat→Prop}
theorem fk_of {k:Nat} {us:List Value} (h:RepL w F [.fk k] us):∃ b,keyB b=k∧b<18446744073709551616∧RepL w F (encF64 b) us:=by
 obtain ⟨u,rfl⟩:∃ u,us=[u]:=List.length_eq_one_iff.1 h.1
 cases RepL.one.1 h with
 | fk _ b h1 h2=>exact ⟨b,by rw [fkey_eq];exact h1,h2,RepL.one.2 (.v _ rfl)⟩
theorem reK_of {X:RealS} {us:List Value} (h:RepL w F (encReK X) us):∃ Y,sameR X Y=true∧okRe Y∧RepL w F (encRe Y) us:=by
 obtain ⟨a,d,rfl,h1,h2⟩:=h.cut
 obtain ⟨b,c,rfl,h3,h4⟩:=h2.cut
 obtain ⟨m,k1,k2,k3⟩:=fk_of h3
 obtain ⟨n,k4,k5,k6⟩:=fk_of h4
 exact ⟨⟨X.sum,m,n⟩,by unfold sameR;simp [k1,k4],⟨fun _ _=>trivial,k2,k5⟩,h1.app (k3.app k6)⟩
theorem resK_of:∀ {l:List RealS} {us:List Value},RepL w F (l.flatMap encReK) us→∃ m:List RealS,m.length=l.length∧sameRs l m=true∧(∀ Y ∈ m,okRe Y)∧RepL w F (m.flatMap encRe) us
 | [],us,h=>⟨[],rfl,rfl,(fun Y hY=>by cases hY),h⟩
 | X :: l,us,h=>by
   obtain ⟨a,b,rfl,h1,h2⟩:=RepL.cut (a:=encReK X) (b:=l.flatMap encReK) h
   obtain ⟨Y,k1,k2,k3⟩:=reK_of h1
   obtain ⟨m,k4,k5,k6,k7⟩:=resK_of h2
   exact ⟨Y :: m,by simp [k4],by unfold sameRs;rw [k1,k5];rfl,fun Z hZ=>by rcases List.mem_cons.1 hZ with rfl|hZ;exact k2;exact k6 Z hZ,k3.app k7⟩
theorem resK_lst {l:List RealS} {us:List Value} (h:RepL w F (encL encReK l) us):∃ m:List RealS,m.length=l.length∧sameRs l m=true∧(∀ Y ∈ m,okRe Y)∧RepL w F (encL encRe m) us:=by
 obtain ⟨u,rfl⟩:∃ u,us=[u]:=List.length_eq_one_iff.1 h.1
 have hr:Rep w F (.lst l.length (l.flatMap encReK)) u:=RepL.one.1 h
 generalize hn:l.length=n at hr
 generalize hcs:l.flatMap encReK=cs at hr
 cases hr with
 | nil A c hm =>
   obtain rfl:=List.eq_nil_of_length_eq_zero hn
   exact ⟨[],hn,rfl,(fun Y hY=>by cases hY),RepL.one.2 (.nil A c hm)⟩
 | lst _ c _ a us h0 h1 h2 hFa hl h1' hu hr =>
   subst hcs
   obtain ⟨m,k1,k2,k3,k4⟩:=resK_of (l:=l) ⟨hl,hr⟩
   refine ⟨m,by omega,k2,k3,?_⟩
   unfold encL
   rw [show m.length=n by omega]
   exact RepL.one.2 (.lst n c _ a us h0 h1 h2 hFa k4.1 h1' hu k4.2)
theorem clK_of {C:CellS} {us:List Value} (h:RepL w F (encClK C) us):∃ m:List RealS,m.length=C.nums.length∧sameRs C.nums m=true∧(∀ Y ∈ m,okRe Y)∧RepL w F (encCl ⟨C.key,C.count,C.ints,m⟩) us:=by
 obtain ⟨a,d,rfl,h1,h2⟩:=h.cut
 obtain ⟨b,c,rfl,h3,h4⟩:=h2.cut
 obtain ⟨e,f,rfl,h5,h6⟩:=h4.cut
 obtain ⟨m,k1,k2,k3,k4⟩:=resK_lst h6
 exact ⟨m,k1,k2,k3,h1.app (h3.app (h5.app k4))⟩
end
def pureK:AV→Bool
 | .v _=>true
 | .lst _ _=>true
 | .fk _=>true
 | _=>false
theorem repK {E:Env} {cs:List AV} {us:List Value} (hp:cs.all pureK=true) (h:Leafs E cs us):RepL E.w E.F cs us:=by
 refine ⟨h.1,fun j y v hy hv=>?_⟩
 have h1:=(h.2 j y v hy hv).1
 have h2:=List.all_eq_true.1 hp y (List.mem_of_getElem? hy)
 cases y with
 | v z=>obtain ⟨rfl,h3⟩:=h1;exact .v _ h3
 | lst n cs=>exact h1
 | fk k=>obtain ⟨b,rfl,h3,h4⟩:=h1;exact .fk k b h3 h4
 | _=>cases h2
theorem sameK_self {C:CellS} {m:List RealS} (h:sameRs C.nums m=true):sameC C ⟨C.key,C.count,C.ints,m⟩=true:=by
 unfold sameC
 have:∀ l:List WholeS,sameWs l l=true:=fun l=>by
  induction l with
  | nil=>rfl
  | cons x l ih=>unfold sameWs;rw [sameW_self,ih];rfl
 rw [this,h];simp
theorem cell_openK {E:Env} {C:CellS} {u:Value} (hF:∀ b,E.F b→b<E.w.heap.size) (ho:okCl C) (h:Sees1 E (.agg (encClK C)) u):∃ (D:CellS) (A2:Option Addr) (c2:Nat) (A3:Option Addr) (c3:Nat),sameC C D=true∧okCl D∧D.nums.length=C.nums.length ∧
 u=.agg #[.int .u64 (D.key:Int),.int .i64 D.count,.slice A2 D.ints.length c2,.slice A3 D.nums.length c3]∧CellV E.w E.w.heap.size D A2 c2 A3 c3:=by
 obtain ⟨us,rfl,hl⟩:=h
 obtain ⟨m,k1,k2,k3,k4⟩:=clK_of (repK rfl hl)
 have hD:okCl ⟨C.key,C.count,C.ints,m⟩:=⟨ho.1,ho.2.1,ho.2.2.1,k3⟩
 obtain ⟨A2,c2,A3,c3,e,hv⟩:=cellR_at (enc_cl.bw hF k4 hD)
 exact ⟨⟨C.key,C.count,C.ints,m⟩,A2,c2,A3,c3,sameK_self k2,hD,k1,by congr 1;exact congrArg List.toArray e,hv⟩
theorem sameR_trans {x y:RealS} (h:sameR x y=true) (z:RealS):sameR z y=sameR z x:=by
 unfold sameR at h ⊢
 simp only [Bool.and_eq_true,decide_eq_true_iff] at h
 rw [h.1.1,h.1.2,h.2]
theorem sameRs_trans:∀ {l m:List RealS} (h:sameRs l m=true) (k:List RealS),sameRs k m=sameRs k l
 | [],[],_,k=>rfl
 | x :: l,y :: m,h,[]=>rfl
 | x :: l,y :: m,h,z :: k=>by
   unfold sameRs at h
   rw [Bool.and_eq_true] at h
   unfold sameRs
   rw [sameR_trans h.1,sameRs_trans h.2]
 | [],_ :: _,h,_=>by unfold sameRs at h;cases h
 | _ :: _,[],h,_=>by unfold sameRs at h;cases h
theorem sameC_trans {C D:CellS} (h:sameC C D=true) (K:CellS):sameC K D=sameC K C:=by
 unfold sameC at h ⊢
 simp only [Bool.and_eq_true,decide_eq_true_iff] at h
 obtain ⟨⟨⟨h1,h2⟩,h3⟩,h4⟩:=h
 have hw:∀ {l m:List WholeS},sameWs l m=true→l=m:=fun {l m} h=>by
  induction l generalizing m with
  | nil=>cases m with
    | nil=>rfl
    | cons=>unfold sameWs at h;cases h
  | cons x l ih=>cases m with
    | nil=>unfold sameWs at h;cases h
    | cons y m=>unfold sameWs at h;rw [Bool.and_eq_true] at h;rw [sameW_eq h.1,ih h.2]
 rw [sameRs_trans h4,← hw h3,h1,h2]
theorem same_fnK {C D:CellS} (hC:okCl C) (hD:okCl D):FnOk Tryz.prog 27 ⟨[.agg (encCl C),.agg (encClK D)],[],.v (.bool (sameC C D)),[]⟩ :=
 FnOk.of_calls rfl fun E vs hF hl hz=>by
  obtain ⟨u,x,rfl⟩:∃ u x,vs=[u,x]:=len2 hl
  obtain ⟨A2,c2,A3,c3,rfl,hv⟩:=cell_open hF hC (hz 0 _ u rfl rfl)
  obtain ⟨D',B2,d2,B3,d3,hs,_,_,rfl,hu⟩:=cell_openK hF hD (hz 1 _ x rfl rfl)
  rw [← sameC_trans hs]
  exact same14_any E.w E.w.heap.size C A2 c2 A3 c3 D' B2 d2 B3 d3 hv hu (Nat.le_refl _)
end Go.Proofs.YtfhmaincnlaapaaGreat.Sy
