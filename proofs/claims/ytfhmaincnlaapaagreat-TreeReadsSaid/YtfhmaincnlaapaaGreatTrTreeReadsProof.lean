/-
  bushellaw25.TreeReads answers true for any schema, any set of dimensions and any sheet, and leaves them as they were.
  Conditions: none beyond the statement's own.
-/
import Derived.Test.YtfhmaincnlaapaaGreatTrSy2
import Derived.Test.YtfhmaincnlaapaaGreatTrVcs
import Derived.Test.YtfhmaincnlaapaaGreatTrLawAggPuts
namespace Go.Proofs.YtfhmaincnlaapaaGreat.Sy
open Go.ChangeShapes Go.WideShapes Go.ChangeAt Go.RowKit
set_option linter.unusedVariables false
set_option linter.unusedSimpArgs false
theorem rl_early {S:Sch} {mask:Nat} {d:List UInt8} {n:Nat} (h:(rlS S mask d n).2.2=0):∀ k,k≤n→(rlS S mask d k).2.2=0:=fun k hk=>by
 by_cases h0:(rlS S mask d k).2.2=0
 ·exact h0
 ·rw [rlS_stuck h0 n hk] at h;exact absurd h h0
theorem rl_step {S:Sch} {mask:Nat} {d:List UInt8} {k:Nat} (h:(rlS S mask d k).2.2=0):rlS S mask d (k+1)=if (getC S mask (d.drop (rlS S mask d k).2.1)).2.2≠0 then ([],0,(getC S mask (d.drop (rlS S mask d k).2.1)).2.2) else ((rlS S mask d k).1 ++ [(getC S mask (d.drop (rlS S mask d k).2.1)).1],(rlS S mask d k).2.1+(getC S mask (d.drop (rlS S mask d k).2.1)).2.1,0):=by
 rw [rlS,if_neg (fun h0=>h0 h)]
theorem rl_good {S:Sch} {mask:Nat} {d:List UInt8} {k:Nat} (h:(rlS S mask d (k+1)).2.2=0):(getC S mask (d.drop (rlS S mask d k).2.1)).2.2=0:=by
 have h0:=rl_early h k (Nat.le_succ k)
 rw [rl_step h0] at h
 split at h
 ·rename_i h1;exact absurd h h1
 ·rename_i h1;exact Decidable.byContradiction h1
theorem rl_first {S:Sch} {mask:Nat} {d:List UInt8}:∀ {n:Nat},(rlS S mask d n).2.2≠0→∃ m,m<n∧(rlS S mask d m).2.2=0∧(getC S mask (d.drop (rlS S mask d m).2.1)).2.2=(rlS S mask d n).2.2
 | 0,h=>absurd rfl h
 | n+1,h=>by
   by_cases h0:(rlS S mask d n).2.2=0
   ·refine ⟨n,Nat.lt_succ_self n,h0,?_⟩
    rw [rl_step h0] at h ⊢
    split
    ·rfl
    ·rename_i h1;rw [if_neg h1] at h;exact absurd rfl h
   ·obtain ⟨m,h1,h2,h3⟩:=rl_first h0
    exact ⟨m,by omega,h2,by rw [h3,rlS_stuck h0 (n+1) (Nat.le_succ n)]⟩
theorem rl_okCl (S:Sch) (mask:Nat) (d:List UInt8):∀ k,∀ C∈(rlS S mask d k).1,okCl C
 | 0,C,h=>by cases h
 | k+1,C,h=>by
   rw [rlS] at h
   split at h
   ·exact rl_okCl S mask d k C h
   ·split at h
    ·cases h
    ·rcases List.mem_append.1 h with h|h
     ·exact rl_okCl S mask d k C h
     ·rw [List.mem_singleton.1 h];exact okCl_get S mask _
theorem rl_len {S:Sch} {mask:Nat} {d:List UInt8}:∀ {k:Nat},(rlS S mask d k).2.2=0→(rlS S mask d k).1.length=k
 | 0,_=>rfl
 | k+1,h=>by
   have h0:=rl_early h k (Nat.le_succ k)
   have h1:=rl_good h
   rw [rl_step h0,if_neg (fun h2=>h2 h1)]
   simp [rl_len h0]
theorem clK_len (l:List CellS):(l.flatMap encClK).length=l.length*4:=by
 induction l with
 | nil=>rfl
 | cons x l ih=>rw [List.flatMap_cons,List.length_append,ih,List.length_cons,Nat.succ_mul];show 4+_=_;omega
theorem clK_snoc (l:List CellS) (C:CellS):l.flatMap encClK++encClK C=(l ++ [C]).flatMap encClK:=by simp
def shO (q:Nat) (s:Sht):Nat×AObj:=(q,.cells 42 (encSht s))
def rowC4 (q n:Nat) (cs:List AV):Nat×AObj:=(q,.row 53 4 n 0 cs)
def rlI (d:ScD) (s:Sht) (mask:Nat) (l:List CellS) (p k:Nat):AS:=⟨[(1,.v (.int .u32 (mask:Int))),(3,.ptr 3 0),(5,.ptr 5 0),(8,.row 65 0),(9,bysT (s.d.drop p)),(10,iz (k:Nat))],[boxO 3 d,shO 5 s,rowC4 65 k (l.flatMap encClK)],76,[]⟩
def rlO (s:Sht) (l:List CellS) (p k:Nat):AS:=⟨[(8,.row 65 0),(9,bysT (s.d.drop p))],[rowC4 65 k (l.flatMap encClK)],76,[]⟩
def rlF (e:Int):AS:=⟨[(6,nilS),(7,iz e)],[],76,[]⟩
section
variable {S:Sch} {d:ScD} {s:Sht} {mask:Nat} (hsc:encSch S=d.l) (hs:SchOk S) (hm:mask<4294967296) (hd:s.d.length≤1000000) (ha:s.a≤1001)
include hsc hs hm hd ha
theorem rl_on (e:Exit) (σ':AS) (P:Nat→Prop) (k:Nat) (l:List CellS) (p:Nat) (hk:k<s.a) (h:rlS S mask s.d k=(l,p,0)) {C:CellS} {q:Nat} (hg:getC S mask (s.d.drop p)=(C,q,0)) (h1) (h2:P (k+1)) :
 Round Tryz.prog (loopBody Tryz.f17 10) (fun x:{x:Nat×List CellS×Nat // P x.1∧rlS S mask s.d x.1=(x.2.1,x.2.2,0)}=>rlI d s mask x.1.2.1 x.1.2.2 x.1.1) (fun x=>s.a-x.1.1) e σ' ⟨(k,l,p),h1⟩:=by
 have hp:=rlS_in S mask s.d k
 have hl:=rl_len (k:=k) (S:=S) (mask:=mask) (d:=s.d) (by rw [h])
 rw [h] at hp hl
 simp only at hp hl
 have hz:=clK_len l
 rw [hl] at hz
 have hq:=getC_in S mask (s.d.drop p)
 have hf:=get14_fn (mask:=mask) (t:=s.d.drop p) hs hm (by rw [List.length_drop];omega)
 rw [hsc] at hf
 rw [hg] at hq hf
 simp only at hq hf
 have hdl:(s.d.drop p).length=s.d.length-p:=List.length_drop
 refine Round.on [(47,.val (iz (↑s.a:Int))),(48,.val (bz true)),(55,.call (Inst.mk [AV.agg d.l,AV.v (Value.int IntKind.u32 (↑mask:Int)),bysT (List.drop p s.d)] [] (AV.tup [AV.agg (encClK C),iz (↑q:Int),iz (↑(0:Nat):Int)]) [])),(58,.val (iz (0:Int))),(50,.val (iz (↑(k+(1:Nat)):Int)))] [] ⟨(k+1,l ++ [C],p+q),h2,rlS_good h hg⟩ [(↑mask:Int)=(↑mask:Int),(3:Nat)=(3:Nat)∧(0:Nat)=(0:Nat),(5:Nat)=(5:Nat)∧(0:Nat)=(0:Nat),(65:Nat)=(65:Nat)∧(0:Nat)=(0:Nat),(↑(List.drop (k,l,p).snd.snd s.d).length:Int).toNat-(↑q:Int).toNat=(List.drop (k+(1:Nat),l ++ [C],p+q).snd.snd s.d).length∧List.take (((↑(List.drop (k,l,p).snd.snd s.d).length:Int).toNat-(↑q:Int).toNat)*(1:Nat)) (List.drop ((↑q:Int).toNat*(1:Nat)) (byL (List.drop (k,l,p).snd.snd s.d)))=byL (List.drop (k+(1:Nat),l ++ [C],p+q).snd.snd s.d),(↑(k+(1:Nat)):Int)=(↑(k+(1:Nat),l ++ [C],p+q).fst:Int),d.l=d.l,[iz s.k,uz (↑s.a:Int),uz (↑s.b:Int),AV.lst s.d.length (byL s.d)]=[iz s.k,uz (↑s.a:Int),uz (↑s.b:Int),AV.lst s.d.length (byL s.d)],(k,l,p).fst+(1:Nat)=(k+(1:Nat),l ++ [C],p+q).fst∧(0:Nat)=(0:Nat)∧List.flatMap encClK (k,l,p).snd.fst ++ [uz (↑C.key:Int),iz C.count,AV.lst C.ints.length (List.flatMap encWh C.ints),AV.lst C.nums.length (List.flatMap encReK C.nums)]=List.flatMap encClK (k+(1:Nat),l ++ [C],p+q).snd.fst,IntKind.i64.wrap (↑s.a:Int)=(↑s.a:Int),decide ((↑(k,l,p).fst:Int)<(↑s.a:Int))=true,d.l=d.l∧(↑mask:Int)=(↑mask:Int)∧((List.drop (k,l,p).snd.snd s.d).length=(List.drop p s.d).length∧byL (List.drop (k,l,p).snd.snd s.d)=byL (List.drop p s.d))∧True,FnOk Tryz.prog (34:Nat) (Inst.mk [AV.agg [AV.lst d.n0 d.l0,AV.lst d.n1 d.l1,AV.lst d.n2 d.l2,AV.lst d.n3 d.l3],AV.v (Value.int IntKind.u32 (↑mask:Int)),AV.lst (List.drop p s.d).length (byL (List.drop p s.d))] [] (AV.tup [AV.agg [uz (↑C.key:Int),iz C.count,AV.lst C.ints.length (List.flatMap encWh C.ints),AV.lst C.nums.length (List.flatMap encReK C.nums)],iz q,iz (↑(0:Nat):Int)]) []),(↑(0:Nat):Int)=(0:Int),[uz (↑C.key:Int),iz C.count,AV.lst C.ints.length (List.flatMap encWh C.ints),AV.lst C.nums.length (List.flatMap encReK C.nums)].length=(4:Nat),((k,l,p).fst+(1:Nat))*(64:Nat)≤(140737488355328:Nat)∧(k,l,p).fst+(1:Nat)≤(140737488355328:Nat),(0:Int)≤(↑q:Int)∧(↑q:Int)≤(↑(List.drop (k,l,p).snd.snd s.d).length:Int)∧(↑(List.drop (k,l,p).snd.snd s.d).length:Int)≤(↑(List.drop (k,l,p).snd.snd s.d).length:Int),IntKind.i64.wrap ((↑(k,l,p).fst:Int)+(1:Int))=(↑(k+(1:Nat)):Int)] (by kernel_rfl) (by show s.a-(k+1)<s.a-k;omega) ?_
 ((repeat' refine And.intro ?_ ?_);(iterate 7 (with_reducible rfl));rotate_left 2;(iterate 5 (with_reducible rfl));rotate_left 1;(exact Wi _ (by omega));((with_reducible refine Dt ?_;omega));(iterate 4 (with_reducible rfl));(exact True.intro);((show FnOk _ _ _;assumption));(omega);(exact rfl);(iterate 3 (omega));((simp only [Bool.or_eq_true,Bool.and_eq_true,Bool.or_eq_false_iff,Bool.and_eq_false_iff,Bool.not_eq_true',Bool.not_eq_false',decide_eq_true_eq,decide_eq_false_iff_not,beq_iff_eq,beq_eq_false_iff_ne,bne_iff_ne,bne_eq_false_iff_eq,ne_eq,←decide_not,decide_eq_decide,Bool.cond_true_left,Bool.cond_false_right,reduceCtorEq,or_false,false_or,and_true,true_and,implies_true,Bool.false_or,Bool.or_false,Bool.true_or,Bool.or_true,Bool.and_false,Bool.false_and,Bool.and_true,Bool.true_and];omega));(omega);(exact Wi _ (by omega));(exact True.intro))
 all_goals first|exact clK_snoc l C|(simp only [Int.toNat_natCast,List.length_drop];omega)|(rw [cut_byT,List.drop_drop])
theorem rl_all {n:Nat} {l:List CellS} {p:Nat} (hn:s.a=n) (h:rlS S mask s.d n=(l,p,0)):LoopOk Tryz.prog (loopBody Tryz.f17 10) (rlI d s mask [] 0 0) (.exit 0) (rlO s l p n):=by
 refine LoopOk.of hmo (fun x:{x:Nat×List CellS×Nat // x.1≤n∧rlS S mask s.d x.1=(x.2.1,x.2.2,0)}=>rlI d s mask x.1.2.1 x.1.2.2 x.1.1) (fun x=>s.a-x.1.1) (fun x=>?_) ⟨(0,[],0),Nat.zero_le _,rfl⟩
 obtain ⟨⟨k,l',p'⟩,hk,hx⟩:=x
 simp only at hk hx
 rcases Nat.lt_or_eq_of_le hk with hlt|rfl
 ·have hgo:=rl_good (k:=k) (S:=S) (mask:=mask) (d:=s.d) (rl_early (n:=n) (by rw [h]) (k+1) hlt)
  rw [hx] at hgo
  simp only at hgo
  have hg:getC S mask (s.d.drop p')=((getC S mask (s.d.drop p')).1,(getC S mask (s.d.drop p')).2.1,0):=by rw [←hgo]
  exact rl_on hsc hs hm hd ha _ _ (fun k=>k≤n) k l' p' (by omega) hx hg _ hlt
 ·rw [h] at hx
  injection hx with e1 e2
  injection e2 with e2 _
  subst e1;subst e2
  refine Round.out [(47,.val (iz (↑s.a:Int))),(48,.val (bz false))] [] [(65:Nat)=(65:Nat)∧(0:Nat)=(0:Nat),(List.drop (k,l,p).snd.snd s.d).length=(List.drop p s.d).length∧byL (List.drop (k,l,p).snd.snd s.d)=byL (List.drop p s.d),(k,l,p).fst=k∧(0:Nat)=(0:Nat)∧List.flatMap encClK (k,l,p).snd.fst=List.flatMap encClK l,IntKind.i64.wrap (↑s.a:Int)=(↑s.a:Int),decide ((↑(k,l,p).fst:Int)<(↑s.a:Int))=false] (by kernel_rfl) ?_
  ((repeat' refine And.intro ?_ ?_);(iterate 7 (with_reducible rfl));(exact Wi _ (by omega));((with_reducible refine Df ?_;omega));(exact True.intro))
theorem rl_no {m e:Nat} (hm':m<s.a) (h:(rlS S mask s.d m).2.2=0) (he:(getC S mask (s.d.drop (rlS S mask s.d m).2.1)).2.2=e) (h0:e≠0):LoopOk Tryz.prog (loopBody Tryz.f17 10) (rlI d s mask [] 0 0) .ret (rlF (e:Nat)):=by
 refine LoopOk.of hmo (fun x:{x:Nat×List CellS×Nat // x.1≤m∧rlS S mask s.d x.1=(x.2.1,x.2.2,0)}=>rlI d s mask x.1.2.1 x.1.2.2 x.1.1) (fun x=>s.a-x.1.1) (fun x=>?_) ⟨(0,[],0),Nat.zero_le _,rfl⟩
 obtain ⟨⟨k,l',p'⟩,hk,hx⟩:=x
 simp only at hk hx
 rcases Nat.lt_or_eq_of_le hk with hlt|rfl
 ·have hgo:=rl_good (k:=k) (S:=S) (mask:=mask) (d:=s.d) (rl_early h (k+1) hlt)
  rw [hx] at hgo
  simp only at hgo
  have hg:getC S mask (s.d.drop p')=((getC S mask (s.d.drop p')).1,(getC S mask (s.d.drop p')).2.1,0):=by rw [←hgo]
  exact rl_on hsc hs hm hd ha _ _ (fun k=>k≤m) k l' p' (by omega) hx hg _ hlt
 ·have hp:=rlS_in S mask s.d k
  rw [hx] at hp he
  simp only at hp he
  have hf:=get14_fn (mask:=mask) (t:=s.d.drop p') hs hm (by rw [List.length_drop];omega)
  rw [hsc] at hf
  have hdl:(s.d.drop p').length=s.d.length-p':=List.length_drop
  generalize getC S mask (s.d.drop p')=r at *
  obtain ⟨C,q,e0⟩:=r
  simp only at he hf
  subst he
  refine Round.out [(47,.val (iz (↑s.a:Int))),(48,.val (bz true)),(55,.call (Inst.mk [AV.agg d.l,AV.v (Value.int IntKind.u32 (↑mask:Int)),bysT (List.drop p' s.d)] [] (AV.tup [AV.agg (encClK C),iz (↑q:Int),iz (↑e0:Int)]) [])),(60,.val (bz true))] [] [AV.v (Value.slice none (0:Nat) (0:Nat))=AV.v (Value.slice none (0:Nat) (0:Nat)),(↑e0:Int)=(↑e0:Int),IntKind.i64.wrap (↑s.a:Int)=(↑s.a:Int),decide ((↑(k,l',p').fst:Int)<(↑s.a:Int))=true,d.l=d.l∧(↑mask:Int)=(↑mask:Int)∧((List.drop (k,l',p').snd.snd s.d).length=(List.drop p' s.d).length∧byL (List.drop (k,l',p').snd.snd s.d)=byL (List.drop p' s.d))∧True,FnOk Tryz.prog (34:Nat) (Inst.mk [AV.agg [AV.lst d.n0 d.l0,AV.lst d.n1 d.l1,AV.lst d.n2 d.l2,AV.lst d.n3 d.l3],AV.v (Value.int IntKind.u32 (↑mask:Int)),AV.lst (List.drop p' s.d).length (byL (List.drop p' s.d))] [] (AV.tup [AV.agg [uz (↑C.key:Int),iz C.count,AV.lst C.ints.length (List.flatMap encWh C.ints),AV.lst C.nums.length (List.flatMap encReK C.nums)],iz q,iz e0]) []),((↑e0:Int) != (0:Int))=true] (by kernel_rfl) ?_
  ((repeat' refine And.intro ?_ ?_);(iterate 2 (with_reducible rfl));(exact Wi _ (by omega));((with_reducible refine Dt ?_;omega));(iterate 4 (with_reducible rfl));(exact True.intro);((show FnOk _ _ _;assumption));((with_reducible refine Ne ?_;omega));(exact True.intro))
end
theorem refReadLeaf_fn {S:Sch} {mask:Nat} {s:Sht} (hs:SchOk S) (hm:mask<4294967296) (hd:s.d.length≤1000000) (hA:s.a<18446744073709551616) (hB:s.b<18446744073709551616):FnOk Tryz.prog 17 ⟨[.agg (encSch S),.v (.int .u32 (mask:Int)),.agg (encSht s)],[],.tup [celsK (readL S mask s).1,iz ((readL S mask s).2:Nat)],[]⟩:=by
 have h1:=check_fn hs
 obtain ⟨d,hsc,_,_⟩:=scD_of S
 by_cases hc:checkN S=0
 ·obtain ⟨hmo',_⟩:=checkN_zero hc
  have hf1:=(fullN_le hmo'.1 hmo'.2.1).2
  have h2:=full_fn hs hc
  have h3:=sub_fn (a:=mask) (b:=fullN S) hm (by omega)
  rw [sub_keys hc hm] at h3
  rw [hc,hsc] at h1
  rw [hsc] at h2 ⊢
  by_cases hk:(keysOf S mask).isNone=true
  ·rw [readL_none hc hk]
   rw [Option.isNone_iff_eq_none.1 hk] at h3
   refine fn_go hmo Tryz.func17 (by kernel_rfl) [(15,.call (Inst.mk [AV.agg d.l] [] (iz (↑(0:Nat):Int)) [])),(19,.call (Inst.mk [AV.agg d.l] [] (AV.v (Value.int IntKind.u32 (↑(fullN S):Int))) [])),(20,.call (Inst.mk [AV.v (Value.int IntKind.u32 (↑mask:Int)),AV.v (Value.int IntKind.u32 (↑(fullN S):Int))] [] (AV.v (Value.bool (none:Option Nat).isSome)) []))] [] [((0:Nat)=(0:Nat)∧([]:List AV)=[])∧(11:Int)=(↑(11:Nat):Int)∧True,d.l=d.l∧True,FnOk Tryz.prog (45:Nat) (Inst.mk [AV.agg [AV.lst d.n0 d.l0,AV.lst d.n1 d.l1,AV.lst d.n2 d.l2,AV.lst d.n3 d.l3]] [] (iz (↑(0:Nat):Int)) []),d.l=d.l∧True,FnOk Tryz.prog (60:Nat) (Inst.mk [AV.agg [AV.lst d.n0 d.l0,AV.lst d.n1 d.l1,AV.lst d.n2 d.l2,AV.lst d.n3 d.l3]] [] (AV.v (Value.int IntKind.u32 (↑(fullN S):Int))) []),(↑mask:Int)=(↑mask:Int)∧(↑(fullN S):Int)=(↑(fullN S):Int)∧True,FnOk Tryz.prog (59:Nat) (Inst.mk [AV.v (Value.int IntKind.u32 (↑mask:Int)),AV.v (Value.int IntKind.u32 (↑(fullN S):Int))] [] (AV.v (Value.bool false)) [])] (by kernel_rfl) ?_
   ((repeat' refine And.intro ?_ ?_);(iterate 2 (with_reducible rfl));(omega);(exact True.intro);(with_reducible rfl);(exact True.intro);((show FnOk _ _ _;assumption));(with_reducible rfl);(exact True.intro);((show FnOk _ _ _;assumption));(iterate 2 (with_reducible rfl));(exact True.intro);((show FnOk _ _ _;assumption));(exact True.intro))
  ·have hk2:(keysOf S mask).isSome=true:=by rw [←Option.not_isNone];simp only [Bool.not_eq_true] at hk;rw [hk];rfl
   rw [hk2] at h3
   by_cases hh:s.k≠3∨s.a<1∨1001<s.a∨s.b≠mask
   ·rw [readL_head hc hk hh]
    refine fn_go hmo Tryz.func17 (by kernel_rfl) [(15,.call (Inst.mk [AV.agg d.l] [] (iz (↑(0:Nat):Int)) [])),(19,.call (Inst.mk [AV.agg d.l] [] (AV.v (Value.int IntKind.u32 (↑(fullN S):Int))) [])),(20,.call (Inst.mk [AV.v (Value.int IntKind.u32 (↑mask:Int)),AV.v (Value.int IntKind.u32 (↑(fullN S):Int))] [] (AV.v (Value.bool true)) [])),(26,Hint.gd),(27,Hint.gd),(28,Hint.gd),(29,Hint.gdv (AV.v (Value.bool (s.k != (3:Int)||(↑s.a:Int)==(0:Int))))),(31,Hint.gd),(32,Hint.gd),(33,Hint.gd),(34,Hint.gdv (AV.v (Value.bool (s.k != (3:Int)||(↑s.a:Int)==(0:Int)||decide ((1001:Int)<(↑s.a:Int)))))),(36,Hint.gd),(37,Hint.gd),(38,Hint.gd),(39,Hint.gdv (uz mask)),(40,Hint.gd),(41,Hint.gdv (bz true))] [] [((0:Nat)=(0:Nat)∧([]:List AV)=[])∧(6:Int)=(↑(6:Nat):Int)∧True,d.l=d.l∧True,FnOk Tryz.prog (45:Nat) (Inst.mk [AV.agg [AV.lst d.n0 d.l0,AV.lst d.n1 d.l1,AV.lst d.n2 d.l2,AV.lst d.n3 d.l3]] [] (iz (↑(0:Nat):Int)) []),d.l=d.l∧True,FnOk Tryz.prog (60:Nat) (Inst.mk [AV.agg [AV.lst d.n0 d.l0,AV.lst d.n1 d.l1,AV.lst d.n2 d.l2,AV.lst d.n3 d.l3]] [] (AV.v (Value.int IntKind.u32 (↑(fullN S):Int))) []),(↑mask:Int)=(↑mask:Int)∧(↑(fullN S):Int)=(↑(fullN S):Int)∧True,FnOk Tryz.prog (59:Nat) (Inst.mk [AV.v (Value.int IntKind.u32 (↑mask:Int)),AV.v (Value.int IntKind.u32 (↑(fullN S):Int))] [] (AV.v (Value.bool true)) []),((s.k != (3:Int))==false)=true→true=true,((s.k != (3:Int))==false)=true→((s.k != (3:Int))==false,AV.ptr (5:Nat) (1:Nat)).fst=true,((s.k != (3:Int))==false)=true→((s.k != (3:Int))==false,uz (↑s.a:Int)).fst=true,(bif s.k != (3:Int) then true else (↑s.a:Int)==(0:Int))=(s.k != (3:Int)||(↑s.a:Int)==(0:Int)),true=true→true=true∧((s.k != (3:Int))=true→true=true)∧((s.k != (3:Int))=false→((s.k != (3:Int))==false,AV.v (Value.bool ((↑s.a:Int)==(0:Int)))).fst=true),((s.k != (3:Int)||(↑s.a:Int)==(0:Int))==false)=true→true=true,((s.k != (3:Int)||(↑s.a:Int)==(0:Int))==false)=true→((s.k != (3:Int)||(↑s.a:Int)==(0:Int))==false,AV.ptr (5:Nat) (1:Nat)).fst=true,((s.k != (3:Int)||(↑s.a:Int)==(0:Int))==false)=true→((s.k != (3:Int)||(↑s.a:Int)==(0:Int))==false,uz (↑s.a:Int)).fst=true,(bif s.k != (3:Int)||(↑s.a:Int)==(0:Int) then true else decide ((1001:Int)<(↑s.a:Int)))=(s.k != (3:Int)||(↑s.a:Int)==(0:Int)||decide ((1001:Int)<(↑s.a:Int))),true=true→true=true∧((s.k != (3:Int)||(↑s.a:Int)==(0:Int))=true→true=true)∧((s.k != (3:Int)||(↑s.a:Int)==(0:Int))=false→((s.k != (3:Int)||(↑s.a:Int)==(0:Int))==false,AV.v (Value.bool (decide ((1001:Int)<(↑s.a:Int))))).fst=true),((s.k != (3:Int)||(↑s.a:Int)==(0:Int)||decide ((1001:Int)<(↑s.a:Int)))==false)=true→true=true,((s.k != (3:Int)||(↑s.a:Int)==(0:Int)||decide ((1001:Int)<(↑s.a:Int)))==false)=true→((s.k != (3:Int)||(↑s.a:Int)==(0:Int)||decide ((1001:Int)<(↑s.a:Int)))==false,AV.ptr (5:Nat) (2:Nat)).fst=true,((s.k != (3:Int)||(↑s.a:Int)==(0:Int)||decide ((1001:Int)<(↑s.a:Int)))==false)=true→true=true,((s.k != (3:Int)||(↑s.a:Int)==(0:Int)||decide ((1001:Int)<(↑s.a:Int)))==false)=true→((s.k != (3:Int)||(↑s.a:Int)==(0:Int)||decide ((1001:Int)<(↑s.a:Int)))==false,AV.v (Value.int IntKind.u32 (↑mask:Int))).fst=true,((s.k != (3:Int)||(↑s.a:Int)==(0:Int)||decide ((1001:Int)<(↑s.a:Int)))==false)=true→IntKind.u64.wrap (↑mask:Int)=(↑mask:Int),((s.k != (3:Int)||(↑s.a:Int)==(0:Int)||decide ((1001:Int)<(↑s.a:Int)))==false)=true→((s.k != (3:Int)||(↑s.a:Int)==(0:Int)||decide ((1001:Int)<(↑s.a:Int)))==false,uz (↑s.b:Int)).fst=true,((s.k != (3:Int)||(↑s.a:Int)==(0:Int)||decide ((1001:Int)<(↑s.a:Int)))==false)=true→((s.k != (3:Int)||(↑s.a:Int)==(0:Int)||decide ((1001:Int)<(↑s.a:Int)))==false,uz mask).fst=true,(bif s.k != (3:Int)||(↑s.a:Int)==(0:Int)||decide ((1001:Int)<(↑s.a:Int)) then true else (↑s.b:Int) != (↑mask:Int))=true,true=true→true=true∧((s.k != (3:Int)||(↑s.a:Int)==(0:Int)||decide ((1001:Int)<(↑s.a:Int)))=true→true=true)∧((s.k != (3:Int)||(↑s.a:Int)==(0:Int)||decide ((1001:Int)<(↑s.a:Int)))=false→((s.k != (3:Int)||(↑s.a:Int)==(0:Int)||decide ((1001:Int)<(↑s.a:Int)))==false,AV.v (Value.bool ((↑s.b:Int) != (↑mask:Int)))).fst=true)] (by kernel_rfl) ?_
    ((repeat' refine And.intro ?_ ?_);(iterate 2 (with_reducible rfl));(omega);(exact True.intro);(with_reducible rfl);(exact True.intro);((show FnOk _ _ _;assumption));(with_reducible rfl);(exact True.intro);((show FnOk _ _ _;assumption));(iterate 2 (with_reducible rfl));(exact True.intro);(with_reducible assumption);(exact (fun (_:(_:Bool)=true)=>rfl));(iterate 2 (exact (fun (h:(_:Bool)=true)=>h)));(focus (simp only [Bool.or_eq_true,Bool.and_eq_true,Bool.or_eq_false_iff,Bool.and_eq_false_iff,Bool.not_eq_true',Bool.not_eq_false',decide_eq_true_eq,decide_eq_false_iff_not,beq_iff_eq,beq_eq_false_iff_ne,bne_iff_ne,bne_eq_false_iff_eq,ne_eq,←decide_not,decide_eq_decide,Bool.cond_true_left,Bool.cond_false_right,reduceCtorEq,or_false,false_or,and_true,true_and,implies_true,Bool.false_or,Bool.or_false,Bool.true_or,Bool.or_true,Bool.and_false,Bool.false_and,Bool.and_true,Bool.true_and];done));((simp only [Bool.or_eq_true,Bool.and_eq_true,Bool.or_eq_false_iff,Bool.and_eq_false_iff,Bool.not_eq_true',Bool.not_eq_false',decide_eq_true_eq,decide_eq_false_iff_not,beq_iff_eq,beq_eq_false_iff_ne,bne_iff_ne,bne_eq_false_iff_eq,ne_eq,←decide_not,decide_eq_decide,Bool.cond_true_left,Bool.cond_false_right,reduceCtorEq,or_false,false_or,and_true,true_and,implies_true,Bool.false_or,Bool.or_false,Bool.true_or,Bool.or_true,Bool.and_false,Bool.false_and,Bool.and_true,Bool.true_and];omega));(exact (fun (_:(_:Bool)=true)=>rfl));(iterate 2 (exact (fun (h:(_:Bool)=true)=>h)));(focus (simp only [Bool.or_eq_true,Bool.and_eq_true,Bool.or_eq_false_iff,Bool.and_eq_false_iff,Bool.not_eq_true',Bool.not_eq_false',decide_eq_true_eq,decide_eq_false_iff_not,beq_iff_eq,beq_eq_false_iff_ne,bne_iff_ne,bne_eq_false_iff_eq,ne_eq,←decide_not,decide_eq_decide,Bool.cond_true_left,Bool.cond_false_right,reduceCtorEq,or_false,false_or,and_true,true_and,implies_true,Bool.false_or,Bool.or_false,Bool.true_or,Bool.or_true,Bool.and_false,Bool.false_and,Bool.and_true,Bool.true_and];done));((simp only [Bool.or_eq_true,Bool.and_eq_true,Bool.or_eq_false_iff,Bool.and_eq_false_iff,Bool.not_eq_true',Bool.not_eq_false',decide_eq_true_eq,decide_eq_false_iff_not,beq_iff_eq,beq_eq_false_iff_ne,bne_iff_ne,bne_eq_false_iff_eq,ne_eq,←decide_not,decide_eq_decide,Bool.cond_true_left,Bool.cond_false_right,reduceCtorEq,or_false,false_or,and_true,true_and,implies_true,Bool.false_or,Bool.or_false,Bool.true_or,Bool.or_true,Bool.and_false,Bool.false_and,Bool.and_true,Bool.true_and];omega));(exact (fun (_:(_:Bool)=true)=>rfl));(exact (fun (h:(_:Bool)=true)=>h));(exact (fun (_:(_:Bool)=true)=>rfl));(exact (fun (h:(_:Bool)=true)=>h));((rw [IntKind.wrap_u64];omega));(iterate 2 (exact (fun (h:(_:Bool)=true)=>h)));(iterate 2 ((simp only [Bool.or_eq_true,Bool.and_eq_true,Bool.or_eq_false_iff,Bool.and_eq_false_iff,Bool.not_eq_true',Bool.not_eq_false',decide_eq_true_eq,decide_eq_false_iff_not,beq_iff_eq,beq_eq_false_iff_ne,bne_iff_ne,bne_eq_false_iff_eq,ne_eq,←decide_not,decide_eq_decide,Bool.cond_true_left,Bool.cond_false_right,reduceCtorEq,or_false,false_or,and_true,true_and,implies_true,Bool.false_or,Bool.or_false,Bool.true_or,Bool.or_true,Bool.and_false,Bool.false_and,Bool.and_true,Bool.true_and];omega)));(exact True.intro))
   ·by_cases hr:(rlS S mask s.d s.a).2.2=0
    ·have hn:=rl_len hr
     have hr':rlS S mask s.d s.a=((rlS S mask s.d s.a).1,(rlS S mask s.d s.a).2.1,0):=by rw [←hr]
     have hrs:=rising_fnK (rl_okCl S mask s.d s.a)
     have e1:=@readL_more S mask s hc hk hh _ _ hr'
     have e2:=@readL_form S mask s hc hk hh _ _ hr'
     have e3:=@readL_ok S mask s hc hk hh _ _ hr'
     have hl:=rl_all hsc hs hm hd (by omega) rfl hr'
     clear hr'
     generalize (rlS S mask s.d s.a).1=l at *
     generalize (rlS S mask s.d s.a).2.1=p at *
     have hdl:(s.d.drop p).length=s.d.length-p:=List.length_drop
     by_cases hp:p<s.d.length
     ·rw [e1 hp]
      clear e1 e2 e3 hrs
      refine fn_go hmo Tryz.func17 (by kernel_rfl) [(15,.call (Inst.mk [AV.agg d.l] [] (iz (↑(0:Nat):Int)) [])),(19,.call (Inst.mk [AV.agg d.l] [] (AV.v (Value.int IntKind.u32 (↑(fullN S):Int))) [])),(20,.call (Inst.mk [AV.v (Value.int IntKind.u32 (↑mask:Int)),AV.v (Value.int IntKind.u32 (↑(fullN S):Int))] [] (AV.v (Value.bool true)) [])),(24,.val (bz false)),(28,.val (bz false)),(33,.val (bz false)),(39,.val (uz mask)),(40,.val (bz false)),(71,.val (bz true))] [(10,⟨.exit 0,rlI d s mask [] 0 0,rlO s l p s.a⟩)] [((0:Nat)=(0:Nat)∧([]:List AV)=[])∧(7:Int)=(↑(7:Nat):Int)∧True,d.l=d.l∧True,FnOk Tryz.prog (45:Nat) (Inst.mk [AV.agg [AV.lst d.n0 d.l0,AV.lst d.n1 d.l1,AV.lst d.n2 d.l2,AV.lst d.n3 d.l3]] [] (iz (↑(0:Nat):Int)) []),d.l=d.l∧True,FnOk Tryz.prog (60:Nat) (Inst.mk [AV.agg [AV.lst d.n0 d.l0,AV.lst d.n1 d.l1,AV.lst d.n2 d.l2,AV.lst d.n3 d.l3]] [] (AV.v (Value.int IntKind.u32 (↑(fullN S):Int))) []),(↑mask:Int)=(↑mask:Int)∧(↑(fullN S):Int)=(↑(fullN S):Int)∧True,FnOk Tryz.prog (59:Nat) (Inst.mk [AV.v (Value.int IntKind.u32 (↑mask:Int)),AV.v (Value.int IntKind.u32 (↑(fullN S):Int))] [] (AV.v (Value.bool true)) []),(s.k != (3:Int))=false,((↑s.a:Int)==(0:Int))=false,decide ((1001:Int)<(↑s.a:Int))=false,IntKind.u64.wrap (↑mask:Int)=(↑mask:Int),((↑s.b:Int) != (↑mask:Int))=false,LoopOk Tryz.prog (loopBody Tryz.f17 (10:Nat)) (rlI d s mask [] (0:Nat) (0:Nat)) (Exit.exit (0:Nat)) (rlO s l p s.a),(↑mask:Int)=(↑mask:Int),(3:Nat)=(3:Nat)∧(0:Nat)=(0:Nat),(5:Nat)=(5:Nat)∧(0:Nat)=(0:Nat),(65:Nat)=(65:Nat)∧(0:Nat)=(0:Nat),s.d.length=(List.drop (0:Nat) s.d).length∧byL s.d=byL (List.drop (0:Nat) s.d),(0:Int)=(↑(0:Nat):Int),d.l=d.l,[iz s.k,uz (↑s.a:Int),uz (↑s.b:Int),AV.lst s.d.length (byL s.d)]=[iz s.k,uz (↑s.a:Int),uz (↑s.b:Int),AV.lst s.d.length (byL s.d)],(0:Nat)=(0:Nat)∧(0:Nat)=(0:Nat)∧([]:List AV)=[],decide ((0:Int)<(↑(List.drop p s.d).length:Int))=true] (by kernel_rfl) ?_
      ((repeat' refine And.intro ?_ ?_);(iterate 2 (with_reducible rfl));(omega);(exact True.intro);(with_reducible rfl);(exact True.intro);((show FnOk _ _ _;assumption));(with_reducible rfl);(exact True.intro);((show FnOk _ _ _;assumption));(iterate 2 (with_reducible rfl));(exact True.intro);(with_reducible assumption);((with_reducible refine Nq ?_;omega));((with_reducible refine Bn ?_;omega));((with_reducible refine Df ?_;omega));((rw [IntKind.wrap_u64];omega));((with_reducible refine Nq ?_;omega));(with_reducible assumption);(iterate 7 (with_reducible rfl));(iterate 2 (exact rfl));(omega);(iterate 5 (with_reducible rfl));((with_reducible refine Dt ?_;omega));(exact True.intro))
     ·cases hz:risingC l with
      | false =>
        rw [e2 hp hz]
        rw [hz] at hrs
        clear e1 e2 e3
        refine fn_go hmo Tryz.func17 (by kernel_rfl) [(15,.call (Inst.mk [AV.agg d.l] [] (iz (↑(0:Nat):Int)) [])),(19,.call (Inst.mk [AV.agg d.l] [] (AV.v (Value.int IntKind.u32 (↑(fullN S):Int))) [])),(20,.call (Inst.mk [AV.v (Value.int IntKind.u32 (↑mask:Int)),AV.v (Value.int IntKind.u32 (↑(fullN S):Int))] [] (AV.v (Value.bool true)) [])),(24,.val (bz false)),(28,.val (bz false)),(33,.val (bz false)),(39,.val (uz mask)),(40,.val (bz false)),(71,.val (bz false)),(73,.call (Inst.mk [celsK l] [] (bz false) []))] [(10,⟨.exit 0,rlI d s mask [] 0 0,rlO s l p s.a⟩)] [((0:Nat)=(0:Nat)∧([]:List AV)=[])∧(6:Int)=(↑(6:Nat):Int)∧True,d.l=d.l∧True,FnOk Tryz.prog (45:Nat) (Inst.mk [AV.agg [AV.lst d.n0 d.l0,AV.lst d.n1 d.l1,AV.lst d.n2 d.l2,AV.lst d.n3 d.l3]] [] (iz (↑(0:Nat):Int)) []),d.l=d.l∧True,FnOk Tryz.prog (60:Nat) (Inst.mk [AV.agg [AV.lst d.n0 d.l0,AV.lst d.n1 d.l1,AV.lst d.n2 d.l2,AV.lst d.n3 d.l3]] [] (AV.v (Value.int IntKind.u32 (↑(fullN S):Int))) []),(↑mask:Int)=(↑mask:Int)∧(↑(fullN S):Int)=(↑(fullN S):Int)∧True,FnOk Tryz.prog (59:Nat) (Inst.mk [AV.v (Value.int IntKind.u32 (↑mask:Int)),AV.v (Value.int IntKind.u32 (↑(fullN S):Int))] [] (AV.v (Value.bool true)) []),(s.k != (3:Int))=false,((↑s.a:Int)==(0:Int))=false,decide ((1001:Int)<(↑s.a:Int))=false,IntKind.u64.wrap (↑mask:Int)=(↑mask:Int),((↑s.b:Int) != (↑mask:Int))=false,LoopOk Tryz.prog (loopBody Tryz.f17 (10:Nat)) (rlI d s mask [] (0:Nat) (0:Nat)) (Exit.exit (0:Nat)) (rlO s l p s.a),(↑mask:Int)=(↑mask:Int),(3:Nat)=(3:Nat)∧(0:Nat)=(0:Nat),(5:Nat)=(5:Nat)∧(0:Nat)=(0:Nat),(65:Nat)=(65:Nat)∧(0:Nat)=(0:Nat),s.d.length=(List.drop (0:Nat) s.d).length∧byL s.d=byL (List.drop (0:Nat) s.d),(0:Int)=(↑(0:Nat):Int),d.l=d.l,[iz s.k,uz (↑s.a:Int),uz (↑s.b:Int),AV.lst s.d.length (byL s.d)]=[iz s.k,uz (↑s.a:Int),uz (↑s.b:Int),AV.lst s.d.length (byL s.d)],(0:Nat)=(0:Nat)∧(0:Nat)=(0:Nat)∧([]:List AV)=[],decide ((0:Int)<(↑(List.drop p s.d).length:Int))=false,(s.a=l.length∧List.flatMap encClK l=List.flatMap encClK l)∧True,FnOk Tryz.prog (61:Nat) (Inst.mk [AV.lst l.length (List.flatMap encClK l)] [] (AV.v (Value.bool false)) [])] (by kernel_rfl) ?_
        ((repeat' refine And.intro ?_ ?_);(iterate 2 (with_reducible rfl));(omega);(exact True.intro);(with_reducible rfl);(exact True.intro);((show FnOk _ _ _;assumption));(with_reducible rfl);(exact True.intro);((show FnOk _ _ _;assumption));(iterate 2 (with_reducible rfl));(exact True.intro);(with_reducible assumption);((with_reducible refine Nq ?_;omega));((with_reducible refine Bn ?_;omega));((with_reducible refine Df ?_;omega));((rw [IntKind.wrap_u64];omega));((with_reducible refine Nq ?_;omega));(with_reducible assumption);(iterate 7 (with_reducible rfl));(iterate 2 (exact rfl));(omega);(iterate 5 (with_reducible rfl));((with_reducible refine Df ?_;omega));(omega);(with_reducible rfl);(exact True.intro);((show FnOk _ _ _;assumption));(exact True.intro))
      | true =>
        rw [e3 hp hz]
        rw [hz] at hrs
        clear e1 e2 e3
        refine fn_go hmo Tryz.func17 (by kernel_rfl) [(15,.call (Inst.mk [AV.agg d.l] [] (iz (↑(0:Nat):Int)) [])),(19,.call (Inst.mk [AV.agg d.l] [] (AV.v (Value.int IntKind.u32 (↑(fullN S):Int))) [])),(20,.call (Inst.mk [AV.v (Value.int IntKind.u32 (↑mask:Int)),AV.v (Value.int IntKind.u32 (↑(fullN S):Int))] [] (AV.v (Value.bool true)) [])),(24,.val (bz false)),(28,.val (bz false)),(33,.val (bz false)),(39,.val (uz mask)),(40,.val (bz false)),(71,.val (bz false)),(73,.call (Inst.mk [celsK l] [] (bz true) []))] [(10,⟨.exit 0,rlI d s mask [] 0 0,rlO s l p s.a⟩)] [(s.a=l.length∧List.flatMap encClK l=List.flatMap encClK l)∧(0:Int)=(↑(0:Nat):Int)∧True,d.l=d.l∧True,FnOk Tryz.prog (45:Nat) (Inst.mk [AV.agg [AV.lst d.n0 d.l0,AV.lst d.n1 d.l1,AV.lst d.n2 d.l2,AV.lst d.n3 d.l3]] [] (iz (↑(0:Nat):Int)) []),d.l=d.l∧True,FnOk Tryz.prog (60:Nat) (Inst.mk [AV.agg [AV.lst d.n0 d.l0,AV.lst d.n1 d.l1,AV.lst d.n2 d.l2,AV.lst d.n3 d.l3]] [] (AV.v (Value.int IntKind.u32 (↑(fullN S):Int))) []),(↑mask:Int)=(↑mask:Int)∧(↑(fullN S):Int)=(↑(fullN S):Int)∧True,FnOk Tryz.prog (59:Nat) (Inst.mk [AV.v (Value.int IntKind.u32 (↑mask:Int)),AV.v (Value.int IntKind.u32 (↑(fullN S):Int))] [] (AV.v (Value.bool true)) []),(s.k != (3:Int))=false,((↑s.a:Int)==(0:Int))=false,decide ((1001:Int)<(↑s.a:Int))=false,IntKind.u64.wrap (↑mask:Int)=(↑mask:Int),((↑s.b:Int) != (↑mask:Int))=false,LoopOk Tryz.prog (loopBody Tryz.f17 (10:Nat)) (rlI d s mask [] (0:Nat) (0:Nat)) (Exit.exit (0:Nat)) (rlO s l p s.a),(↑mask:Int)=(↑mask:Int),(3:Nat)=(3:Nat)∧(0:Nat)=(0:Nat),(5:Nat)=(5:Nat)∧(0:Nat)=(0:Nat),(65:Nat)=(65:Nat)∧(0:Nat)=(0:Nat),s.d.length=(List.drop (0:Nat) s.d).length∧byL s.d=byL (List.drop (0:Nat) s.d),(0:Int)=(↑(0:Nat):Int),d.l=d.l,[iz s.k,uz (↑s.a:Int),uz (↑s.b:Int),AV.lst s.d.length (byL s.d)]=[iz s.k,uz (↑s.a:Int),uz (↑s.b:Int),AV.lst s.d.length (byL s.d)],(0:Nat)=(0:Nat)∧(0:Nat)=(0:Nat)∧([]:List AV)=[],decide ((0:Int)<(↑(List.drop p s.d).length:Int))=false,(s.a=l.length∧List.flatMap encClK l=List.flatMap encClK l)∧True,FnOk Tryz.prog (61:Nat) (Inst.mk [AV.lst l.length (List.flatMap encClK l)] [] (AV.v (Value.bool true)) [])] (by kernel_rfl) ?_
        ((repeat' refine And.intro ?_ ?_);(omega);(with_reducible rfl);(omega);(exact True.intro);(with_reducible rfl);(exact True.intro);((show FnOk _ _ _;assumption));(with_reducible rfl);(exact True.intro);((show FnOk _ _ _;assumption));(iterate 2 (with_reducible rfl));(exact True.intro);(with_reducible assumption);((with_reducible refine Nq ?_;omega));((with_reducible refine Bn ?_;omega));((with_reducible refine Df ?_;omega));((rw [IntKind.wrap_u64];omega));((with_reducible refine Nq ?_;omega));(with_reducible assumption);(iterate 7 (with_reducible rfl));(iterate 2 (exact rfl));(omega);(iterate 5 (with_reducible rfl));((with_reducible refine Df ?_;omega));(omega);(with_reducible rfl);(exact True.intro);((show FnOk _ _ _;assumption));(exact True.intro))
    ·obtain ⟨m,m1,m2,m3⟩:=rl_first hr
     have hl:=rl_no hsc hs hm hd (by omega) m1 m2 m3 hr
     have e1:readL S mask s=([],(rlS S mask s.d s.a).2.2):=by
      unfold readL;rw [if_neg (fun h=>h hc),if_neg hk,if_neg hh,if_pos hr]
     rw [e1]
     generalize (rlS S mask s.d s.a).2.2=e at *
     refine fn_go hmo Tryz.func17 (by kernel_rfl) [(15,.call (Inst.mk [AV.agg d.l] [] (iz (↑(0:Nat):Int)) [])),(19,.call (Inst.mk [AV.agg d.l] [] (AV.v (Value.int IntKind.u32 (↑(fullN S):Int))) [])),(20,.call (Inst.mk [AV.v (Value.int IntKind.u32 (↑mask:Int)),AV.v (Value.int IntKind.u32 (↑(fullN S):Int))] [] (AV.v (Value.bool true)) [])),(24,.val (bz false)),(28,.val (bz false)),(33,.val (bz false)),(39,.val (uz mask)),(40,.val (bz false))] [(10,⟨.ret,rlI d s mask [] 0 0,rlF (e:Nat)⟩)] [((0:Nat)=([]:List CellS).length∧([]:List AV)=[])∧(↑e:Int)=(↑e:Int)∧True,d.l=d.l∧True,FnOk Tryz.prog (45:Nat) (Inst.mk [AV.agg [AV.lst d.n0 d.l0,AV.lst d.n1 d.l1,AV.lst d.n2 d.l2,AV.lst d.n3 d.l3]] [] (iz (↑(0:Nat):Int)) []),d.l=d.l∧True,FnOk Tryz.prog (60:Nat) (Inst.mk [AV.agg [AV.lst d.n0 d.l0,AV.lst d.n1 d.l1,AV.lst d.n2 d.l2,AV.lst d.n3 d.l3]] [] (AV.v (Value.int IntKind.u32 (↑(fullN S):Int))) []),(↑mask:Int)=(↑mask:Int)∧(↑(fullN S):Int)=(↑(fullN S):Int)∧True,FnOk Tryz.prog (59:Nat) (Inst.mk [AV.v (Value.int IntKind.u32 (↑mask:Int)),AV.v (Value.int IntKind.u32 (↑(fullN S):Int))] [] (AV.v (Value.bool true)) []),(s.k != (3:Int))=false,((↑s.a:Int)==(0:Int))=false,decide ((1001:Int)<(↑s.a:Int))=false,IntKind.u64.wrap (↑mask:Int)=(↑mask:Int),((↑s.b:Int) != (↑mask:Int))=false,LoopOk Tryz.prog (loopBody Tryz.f17 (10:Nat)) (rlI d s mask [] (0:Nat) (0:Nat)) Exit.ret (rlF (↑e:Int)),(↑mask:Int)=(↑mask:Int),(3:Nat)=(3:Nat)∧(0:Nat)=(0:Nat),(5:Nat)=(5:Nat)∧(0:Nat)=(0:Nat),(65:Nat)=(65:Nat)∧(0:Nat)=(0:Nat),s.d.length=(List.drop (0:Nat) s.d).length∧byL s.d=byL (List.drop (0:Nat) s.d),(0:Int)=(↑(0:Nat):Int),d.l=d.l,[iz s.k,uz (↑s.a:Int),uz (↑s.b:Int),AV.lst s.d.length (byL s.d)]=[iz s.k,uz (↑s.a:Int),uz (↑s.b:Int),AV.lst s.d.length (byL s.d)],(0:Nat)=(0:Nat)∧(0:Nat)=(0:Nat)∧([]:List AV)=[]] (by kernel_rfl) ?_
     ((repeat' refine And.intro ?_ ?_);(exact rfl);(iterate 2 (with_reducible rfl));(exact True.intro);(with_reducible rfl);(exact True.intro);((show FnOk _ _ _;assumption));(with_reducible rfl);(exact True.intro);((show FnOk _ _ _;assumption));(iterate 2 (with_reducible rfl));(exact True.intro);(with_reducible assumption);((with_reducible refine Nq ?_;omega));((with_reducible refine Bn ?_;omega));((with_reducible refine Df ?_;omega));((rw [IntKind.wrap_u64];omega));((with_reducible refine Nq ?_;omega));(with_reducible assumption);(iterate 7 (with_reducible rfl));(iterate 2 (exact rfl));(omega);(iterate 5 (with_reducible rfl));(exact True.intro))
 ·rw [hsc] at h1 ⊢
  rw [readL_arg hc]
  refine fn_go hmo Tryz.func17 (by kernel_rfl) [(15,.call (Inst.mk [AV.agg d.l] [] (iz (↑(checkN S):Int)) [])),(16,.val (bz true))] [] [((0:Nat)=(0:Nat)∧([]:List AV)=[])∧(1:Int)=(↑(1:Nat):Int)∧True,d.l=d.l∧True,FnOk Tryz.prog (45:Nat) (Inst.mk [AV.agg [AV.lst d.n0 d.l0,AV.lst d.n1 d.l1,AV.lst d.n2 d.l2,AV.lst d.n3 d.l3]] [] (iz (↑(checkN S):Int)) []),((↑(checkN S):Int) != (0:Int))=true] (by kernel_rfl) ?_
  ((repeat' refine And.intro ?_ ?_);(iterate 2 (with_reducible rfl));(omega);(exact True.intro);(with_reducible rfl);(exact True.intro);((show FnOk _ _ _;assumption));((with_reducible refine Ne ?_;omega));(exact True.intro))
theorem readL_okCl (S:Sch) (mask:Nat) (s:Sht):∀ C∈(readL S mask s).1,okCl C:=by
 unfold readL
 (repeat' split)<;>first|exact rl_okCl S mask s.d s.a|(intro C hC;cases hC)
theorem awake25_fn:FnOk Tryz.prog 15 ⟨[],[],bz true,[]⟩ :=
 FnOk.of_calls rfl fun E vs hF hl hz=>by
  obtain rfl:vs=[]:=List.length_eq_zero_iff.1 hl
  exact awake25_any E.w
theorem treeReads_fn {S:Sch} {mask:Nat} {s:Sht} (hs:SchOk S) (hm:mask<4294967296) (hd:s.d.length≤maxLen) (hA:s.a<18446744073709551616) (hB:s.b<18446744073709551616):FnOk Tryz.prog 4 ⟨[.agg (encSch S),.v (.int .u32 (mask:Int)),.agg (encSht s)],[],bz true,[]⟩:=by
 have h1:=light_fn (okSch_of hs)
 have h9:=awake25_fn
 obtain ⟨d,hsc,_,_⟩:=scD_of S
 have hmx:maxLen<9223372036854775808:=by decide
 have ht2:s.d.length<9223372036854775808:=by omega
 clear hd hmx
 cases e1:lightB S with
 | false =>
   rw [e1,hsc] at h1
   rw [hsc]
   refine fn_go hmo Tryz.func4 (by kernel_rfl) [(12,.call (Inst.mk [AV.agg d.l] [] (AV.v (Value.bool false)) [])),(20,.call (Inst.mk [] [] (bz true) []))] [] [true=true,d.l=d.l∧True,FnOk Tryz.prog (9:Nat) (Inst.mk [AV.agg [AV.lst d.n0 d.l0,AV.lst d.n1 d.l1,AV.lst d.n2 d.l2,AV.lst d.n3 d.l3]] [] (AV.v (Value.bool false)) []),True,FnOk Tryz.prog (15:Nat) (Inst.mk [] [] (AV.v (Value.bool true)) [])] (by kernel_rfl) ?_
   ((repeat' refine And.intro ?_ ?_);(iterate 2 (with_reducible rfl));(exact True.intro);((show FnOk _ _ _;assumption));(exact True.intro);((show FnOk _ _ _;assumption));(exact True.intro))
 | true =>
   rw [e1,hsc] at h1
   rw [hsc]
   by_cases hl:1500<s.d.length
   ·refine fn_go hmo Tryz.func4 (by kernel_rfl) [(12,.call (Inst.mk [AV.agg d.l] [] (AV.v (Value.bool true)) [])),(18,.val (bz true)),(20,.call (Inst.mk [] [] (bz true) []))] [] [true=true,d.l=d.l∧True,FnOk Tryz.prog (9:Nat) (Inst.mk [AV.agg [AV.lst d.n0 d.l0,AV.lst d.n1 d.l1,AV.lst d.n2 d.l2,AV.lst d.n3 d.l3]] [] (AV.v (Value.bool true)) []),decide ((1500:Int)<(↑s.d.length:Int))=true,True,FnOk Tryz.prog (15:Nat) (Inst.mk [] [] (AV.v (Value.bool true)) [])] (by kernel_rfl) ?_
    ((repeat' refine And.intro ?_ ?_);(iterate 2 (with_reducible rfl));(exact True.intro);((show FnOk _ _ _;assumption));((with_reducible refine Dt ?_;omega));(exact True.intro);((show FnOk _ _ _;assumption));(exact True.intro))
   ·have h3:=readLeaf_fn (mask:=mask) (s:=s) hs hm (by omega)
    have h4:=refReadLeaf_fn (mask:=mask) (s:=s) hs hm (by omega) hA hB
    have h5:=same15_fnK (readL_okCl S mask s) (readL_okCl S mask s)
    rw [sameL_self] at h5
    rw [hsc] at h3 h4
    generalize readL S mask s=r at *
    obtain ⟨l,e⟩:=r
    simp only at h3 h4 h5
    refine fn_go hmo Tryz.func4 (by kernel_rfl) [(12,.call (Inst.mk [AV.agg d.l] [] (AV.v (Value.bool true)) [])),(18,.val (bz false)),(25,.call (Inst.mk [AV.agg d.l,AV.v (Value.int IntKind.u32 (↑mask:Int)),AV.agg (encSht s)] [] (AV.tup [celsT l,iz (↑e:Int)]) [])),(32,.call (Inst.mk [AV.agg d.l,AV.v (Value.int IntKind.u32 (↑mask:Int)),AV.agg (encSht s)] [] (AV.tup [celsK l,iz (↑e:Int)]) [])),(37,.val (bz true)),(41,.call (Inst.mk [celsT l,celsK l] [] (bz true) [])),(44,.call (Inst.mk [] [] (bz true) []))] [] [true=true,d.l=d.l∧True,FnOk Tryz.prog (9:Nat) (Inst.mk [AV.agg [AV.lst d.n0 d.l0,AV.lst d.n1 d.l1,AV.lst d.n2 d.l2,AV.lst d.n3 d.l3]] [] (AV.v (Value.bool true)) []),decide ((1500:Int)<(↑s.d.length:Int))=false,d.l=d.l∧(↑mask:Int)=(↑mask:Int)∧[iz s.k,uz (↑s.a:Int),uz (↑s.b:Int),AV.lst s.d.length (byL s.d)]=[iz s.k,uz (↑s.a:Int),uz (↑s.b:Int),AV.lst s.d.length (byL s.d)]∧True,FnOk Tryz.prog (16:Nat) (Inst.mk [AV.agg [AV.lst d.n0 d.l0,AV.lst d.n1 d.l1,AV.lst d.n2 d.l2,AV.lst d.n3 d.l3],AV.v (Value.int IntKind.u32 (↑mask:Int)),AV.agg [iz s.k,uz (↑s.a:Int),uz (↑s.b:Int),AV.lst s.d.length (byL s.d)]] [] (AV.tup [AV.lst l.length (List.flatMap encCl l),iz e]) []),d.l=d.l∧(↑mask:Int)=(↑mask:Int)∧[iz s.k,uz (↑s.a:Int),uz (↑s.b:Int),AV.lst s.d.length (byL s.d)]=[iz s.k,uz (↑s.a:Int),uz (↑s.b:Int),AV.lst s.d.length (byL s.d)]∧True,FnOk Tryz.prog (17:Nat) (Inst.mk [AV.agg [AV.lst d.n0 d.l0,AV.lst d.n1 d.l1,AV.lst d.n2 d.l2,AV.lst d.n3 d.l3],AV.v (Value.int IntKind.u32 (↑mask:Int)),AV.agg [iz s.k,uz (↑s.a:Int),uz (↑s.b:Int),AV.lst s.d.length (byL s.d)]] [] (AV.tup [AV.lst l.length (List.flatMap encClK l),iz e]) []),((↑e:Int)==(↑e:Int))=true,(l.length=l.length∧List.flatMap encCl l=List.flatMap encCl l)∧(l.length=l.length∧List.flatMap encClK l=List.flatMap encClK l)∧True,FnOk Tryz.prog (18:Nat) (Inst.mk [AV.lst l.length (List.flatMap encCl l),AV.lst l.length (List.flatMap encClK l)] [] (AV.v (Value.bool true)) []),True,FnOk Tryz.prog (15:Nat) (Inst.mk [] [] (AV.v (Value.bool true)) [])] (by kernel_rfl) ?_
    ((repeat' refine And.intro ?_ ?_);(iterate 2 (with_reducible rfl));(exact True.intro);((show FnOk _ _ _;assumption));((with_reducible refine Df ?_;omega));(iterate 3 (with_reducible rfl));(exact True.intro);((show FnOk _ _ _;assumption));(iterate 3 (with_reducible rfl));(exact True.intro);((show FnOk _ _ _;assumption));((with_reducible refine Be ?_;omega));(iterate 4 (with_reducible rfl));(exact True.intro);((show FnOk _ _ _;assumption));(exact True.intro);((show FnOk _ _ _;assumption));(exact True.intro))
theorem sht_see {E:Env} {B:Nat} {s:Sht} {A:Option Addr} {c:Nat} (hF:∀ b,b<B→E.F b) (hR:Rd E.w B 1 A s.d.length (u8s s.d)) (hc:s.d.length≤c) (hcm:c≤maxLen):Sees1 E (.agg (encSht s)) (.agg #[.int .i64 s.k,.int .u64 (s.a:Int),.int .u64 (s.b:Int),.slice A s.d.length c]):=by
 have hb:=bytes_see (E:=E) hF hR hc hcm
 refine ⟨[_,_,_,_],rfl,rfl,fun j x u hx hu=>?_⟩
 match j,hx,hu with
 | 0,hx,hu=>injection hx with hx;injection hu with hu;subst hx;subst hu;exact ⟨⟨rfl,rfl⟩,rfl⟩
 | 1,hx,hu=>injection hx with hx;injection hu with hu;subst hx;subst hu;exact ⟨⟨rfl,rfl⟩,rfl⟩
 | 2,hx,hu=>injection hx with hx;injection hu with hu;subst hx;subst hu;exact ⟨⟨rfl,rfl⟩,rfl⟩
 | 3,hx,hu=>injection hx with hx;injection hu with hu;subst hx;subst hu;exact ⟨hb,rfl⟩
 | j+4,hx,hu=>simp [encSht] at hx
set_option maxRecDepth 20000 in
theorem lawTreeReads_any (w:World) (v:Value) (S:Sch) (mask:Nat) (s:Sht) (A:Option Addr) (c:Nat) (h:SchAt w w.heap.size v S) (ho:SchOk S) (hR:Rd w w.heap.size 1 A s.d.length (u8s s.d)) (hc:s.d.length≤c) (hcm:c≤maxLen) (hm:mask<4294967296) (hA:s.a<18446744073709551616) (hB:s.b<18446744073709551616) :
 Calls Tryz.prog 4 #[v,.int .u32 (mask:Int),.agg #[.int .i64 s.k,.int .u64 (s.a:Int),.int .u64 (s.b:Int),.slice A s.d.length c]] w fun y w'=>y=.returned (.bool true)∧Below w.heap.size w w' :=
 (treeReads_fn ho hm (Nat.le_trans hc hcm) hA hB).calls w [v,.int .u32 (mask:Int),.agg #[.int .i64 s.k,.int .u64 (s.a:Int),.int .u64 (s.b:Int),.slice A s.d.length c]] rfl fun E hw hF j x u hx hu=>by
  match j,hx,hu with
  | 0,hx,hu=>injection hx with hx;injection hu with hu;subst hx;subst hu;exact sch_see hF (by rw [hw];exact h) ho
  | 1,hx,hu=>injection hx with hx;injection hu with hu;subst hx;subst hu;exact ⟨rfl,rfl⟩
  | 2,hx,hu=>injection hx with hx;injection hu with hu;subst hx;subst hu;exact sht_see hF (by rw [hw];exact hR) hc hcm
  | j+3,hx,hu=>simp at hx
end Go.Proofs.YtfhmaincnlaapaaGreat.Sy
namespace Go.Proofs.YtfhmaincnlaapaaGreat.treeReads
open Go.ChangeShapes Go.WideShapes Go.ChangeAt Go.RowKit Go.Joins Go.Deep
open Go.ChangeMaps (open_string shut_string)
set_option linter.unusedVariables false
set_option maxRecDepth 100000 in
theorem lifted (os:Os) (started:os.Started) (H:Type) (enc:TypeId×Value→H) :
 ReturnsInHanded {} Tryz.checked os 4 .any (Rows.treeReadsSpec.pre6 enc Tryz.prog Tryz.f4 Rows.treeReadsRow.domain false) (Rows.treeReadsSpec.post enc Tryz.prog Tryz.f4 false true false false):=by
 refine returnsInHanded_of_change (C:=Tryz.checked) own started (by kernel_rfl) Tryz.func4
  (ChangeSpec.witness6 (enc:=enc) (C:=Tryz.checked) false ⟨#[],#[.agg #[.slice none 0 0,.slice none 0 0,.slice none 0 0,.slice none 0 0],.int .u32 0,.agg #[.int .i64 0,.int .u64 0,.int .u64 0,.slice none 0 0]],[]⟩ 8 (by kernel_rfl) (by kernel_rfl) (by kernel_rfl) (by kernel_rfl)) ?_
 intro W base args ds gs before hval0 hW hcnd _
 have hval:∀ (j:Nat) t v,Tryz.f4.params[j]?=some t→args[j]?=some v→Value.okWide Tryz.prog W .any base t v:=hval0
 have hW':=hW
 obtain ⟨p,q,hA0,hV,rfl,hfz,hnd⟩:=hW
 have hA:DataW.TrodAll enc Tryz.prog W 0 (fun _=>true) true Tryz.f4.params.toList args.toList ds p:=hA0
 rw [Tryz.params4] at hA hval
 obtain ⟨v0,vs0,d0,ds0,p0,q0,hargs,rfl,rfl,h0,r0⟩:=trodAll_cons hA
 obtain ⟨v1,vs1,d1,ds1,p1,q1,rfl,rfl,rfl,h1,r1⟩:=trodAll_cons r0
 obtain ⟨v2,vs2,d2,ds2,p2,q2,rfl,rfl,rfl,h2,r2⟩:=trodAll_cons r1
 obtain ⟨rfl,rfl,rfl⟩:=trodAll_nil r2
 obtain rfl:args=#[v0,v1,v2]:=by cases args;simp_all
 obtain ⟨rfl,rfl⟩:=trodVars_none hV
 have k0:=h0
 have lt0:∀ x∈p0,x.block<W.heap.size:=by obtain ⟨m,hm⟩:=k0;exact DataW.trod_lt m _ _ _ hm
 have k1:=h1
 have lt1:∀ x∈p1,x.block<W.heap.size:=by obtain ⟨m,hm⟩:=k1;exact DataW.trod_lt m _ _ _ hm
 have k2:=h2
 have lt2:∀ x∈p2,x.block<W.heap.size:=by obtain ⟨m,hm⟩:=k2;exact DataW.trod_lt m _ _ _ hm
 obtain ⟨S0,hS0,oS0⟩:=open_schema (hval 0 26 v0 rfl rfl) h0
 obtain ⟨a1,e1,_,_,w1⟩:=open_int Tryz.underlying39 (hval 1 39 v1 rfl rfl) h1
 subst e1
 obtain ⟨x02,x12,x22,x32,y02,y12,y22,y32,m2,rfl,_,_,hy02,hy12,hy22,hy32⟩:=open_agg4 Tryz.underlying42 (by kernel_rfl) (by kernel_rfl) (hval 2 42 v2 rfl rfl) h2
 obtain ⟨K2,eq02,_,wK2⟩:=DataW.trod_int Tryz.underlying3 hy02
 obtain ⟨z12,eq12,_,wz12⟩:=DataW.trod_int Tryz.underlying40 hy12
 obtain ⟨z22,eq22,_,wz22⟩:=DataW.trod_int Tryz.underlying40 hy22
 obtain ⟨SA2,Sn2,Sc2,Sl2,eq32,hSc2,hSm2,SR2⟩:=open_bytes1 Tryz.underlying27 Tryz.underlying5 (by kernel_rfl) hy32
 simp only [List.cons.injEq,and_true] at eq02 eq12 eq22 eq32
 subst eq02 eq12 eq22 eq32
 obtain ⟨SU2,rfl,wSU2⟩:=nat_of_u64 wz12
 obtain ⟨SV2,rfl,wSV2⟩:=nat_of_u64 wz22
 obtain rfl:Sn2=Sl2.length:=SR2.u8.symm
 have b1:=bounds_u32 w1
 obtain ⟨m1,rfl⟩:∃ m1:Nat,a1=(m1:Int):=⟨a1.toNat,by omega⟩
 clear hA0 hval0
 refine (Sy.lawTreeReads_any W v0 S0 m1 ⟨K2,SU2,SV2,Sl2⟩ SA2 Sc2 hS0 oS0 SR2 hSc2 hSm2 (by omega) wSU2 wSV2).mono fun e W' ⟨he,bel⟩=>?_
 subst he
 exact ⟨_,rfl,_,_,_,[],_,[],hW',trodAll_mk1 (shut_bool Tryz.underlying4 _),(trodAll_cons_mk (Below.trod laidOut (by kernel_rfl) (of_decide_eq_true (by kernel_rfl)) k0 bel lt0) (trodAll_cons_mk (Below.trod laidOut (by kernel_rfl) (of_decide_eq_true (by kernel_rfl)) k1 bel lt1) (trodAll_cons_mk (Below.trod laidOut (by kernel_rfl) (of_decide_eq_true (by kernel_rfl)) k2 bel lt2) trodAll_mk0))),rfl,bel.frame _,fun h=>by cases h⟩
theorem over:Rows.treeReadsRow.holds Tryz.pinned (OpenSpec.ofChange Rows.treeReadsSpec) :=
 OpenClaim.holds_of_wide 4 Tryz.f4 rfl rfl rfl rfl rfl rfl rfl ⟨rfl,rfl,rfl,rfl,rfl⟩ rfl rfl rfl rfl rfl (by kernel_rfl) Tryz.func4 (by kernel_rfl)
  (of_decide_eq_true (by kernel_rfl)) (by unfold Func.isWrapper;first|(rw [if_pos (by decide +kernel)];kernel_rfl)|(rw [if_neg (by decide +kernel)];exact ⟨rfl,rfl⟩))
  (fun os started H enc _=>lifted os started H enc)
theorem proved:Rows.TreeReadsSaid:=over
#print axioms proved
end Go.Proofs.YtfhmaincnlaapaaGreat.treeReads
