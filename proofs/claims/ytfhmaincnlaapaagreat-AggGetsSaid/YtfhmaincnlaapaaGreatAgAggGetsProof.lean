/-
  bushellaw14.AggGets answers true for any schema, any set of dimensions and any bytes, and leaves them as they were.
  Conditions: none beyond the statement's own.
-/
import Derived.Test.YtfhmaincnlaapaaGreatAgSy2
import Derived.Test.YtfhmaincnlaapaaGreatAgRefTwice
import Derived.Test.YtfhmaincnlaapaaGreatAgFkCell
import Derived.Test.YtfhmaincnlaapaaGreatAgTGet14
namespace Go.Proofs.YtfhmaincnlaapaaGreat.Sy
open Go.ChangeShapes Go.WideShapes Go.ChangeAt Go.RowKit
set_option linter.unusedVariables false
set_option linter.unusedSimpArgs false
theorem right_light {S:Sch} {mask:Nat} {C:CellS} (h:rightC S mask C=true):lightC C=true:=by
 obtain ⟨n,k1,_,_,k2,k3,k4,k5⟩:=rightC_some' h
 obtain ⟨⟨_,_,m1,m2,_⟩,_⟩:=checkN_zero (keysOf_check k1)
 refine lightC_yes (by omega) (by omega) (List.all_eq_true.2 fun x hx=>?_) (List.all_eq_true.2 fun x hx=>?_)
 ·have:=okW_sq (k4 x hx)
  exact decide_eq_true (by omega)
 ·have:=readE_len (okR_sum (k5 x hx))
  exact decide_eq_true (by omega)
theorem aggGets_fn {S:Sch} {mask:Nat} {t:List UInt8} (hs:SchOk S) (hm:mask<4294967296) (ht:t.length≤maxLen):FnOk Tryz.prog 7 ⟨[schA S,mskA mask,bytA t],[],bz true,[]⟩:=by
 have h1:=light_fn (okSch_of hs)
 have h9:=awake14_fn
 unfold schA
 obtain ⟨d,hsc,hd1,hd2⟩:=scD_of S
 have hmx:maxLen<9223372036854775808:=by decide
 have ht2:t.length<9223372036854775808:=by omega
 clear ht hmx
 cases e1:lightB S with
 | false =>
   rw [e1,hsc] at h1
   rw [hsc]
   refine fn_go hmo Tryz.func7 (by kernel_rfl) [(14,Hint.call (Inst.mk [AV.agg d.l] [] (AV.v (Value.bool false)) [])),(21,Hint.call (Inst.mk [] [] (bz true) []))] [] [true=true,[AV.lst d.n0 d.l0,AV.lst d.n1 d.l1,AV.lst d.n2 d.l2,AV.lst d.n3 d.l3]=[AV.lst d.n0 d.l0,AV.lst d.n1 d.l1,AV.lst d.n2 d.l2,AV.lst d.n3 d.l3]∧True,FnOk Tryz.prog (9:Nat) (Inst.mk [AV.agg [AV.lst d.n0 d.l0,AV.lst d.n1 d.l1,AV.lst d.n2 d.l2,AV.lst d.n3 d.l3]] [] (AV.v (Value.bool false)) []),True,FnOk Tryz.prog (20:Nat) (Inst.mk [] [] (AV.v (Value.bool true)) [])] (by kernel_rfl) ?_
   ((repeat' refine And.intro ?_ ?_);(iterate 2 (with_reducible rfl));(exact True.intro);((show FnOk _ _ _;assumption));(exact True.intro);((show FnOk _ _ _;assumption));(exact True.intro))
 | true =>
   rw [e1,hsc] at h1
   rw [hsc]
   by_cases hl:1500<t.length
   ·refine fn_go hmo Tryz.func7 (by kernel_rfl) [(14,Hint.call (Inst.mk [AV.agg d.l] [] (AV.v (Value.bool true)) [])),(19,Hint.val (AV.v (Value.bool true))),(21,Hint.call (Inst.mk [] [] (bz true) []))] [] [true=true,[AV.lst d.n0 d.l0,AV.lst d.n1 d.l1,AV.lst d.n2 d.l2,AV.lst d.n3 d.l3]=[AV.lst d.n0 d.l0,AV.lst d.n1 d.l1,AV.lst d.n2 d.l2,AV.lst d.n3 d.l3]∧True,FnOk Tryz.prog (9:Nat) (Inst.mk [AV.agg [AV.lst d.n0 d.l0,AV.lst d.n1 d.l1,AV.lst d.n2 d.l2,AV.lst d.n3 d.l3]] [] (AV.v (Value.bool true)) []),decide ((1500:Int)<(↑t.length:Int))=true,True,FnOk Tryz.prog (20:Nat) (Inst.mk [] [] (AV.v (Value.bool true)) [])] (by kernel_rfl) ?_
    ((repeat' refine And.intro ?_ ?_);(iterate 2 (with_reducible rfl));(exact True.intro);((show FnOk _ _ _;assumption));((with_reducible refine Dt ?_;omega));(exact True.intro);((show FnOk _ _ _;assumption));(exact True.intro))
   ·have h3:=get_fn (mask:=mask) (t:=t) hs hm (by omega)
    have h4:=get14_fn (mask:=mask) (t:=t) hs hm (by omega)
    have h5:=same_fnK (okCl_get S mask t) (okCl_get S mask t)
    rw [sameC_self] at h5
    have hin:=getC_in S mask t
    rw [hsc] at h3 h4
    have hbk:=fun he=>getC_bk (S:=S) (mask:=mask) (t:=t) he
    have hok:=okCl_get S mask t
    generalize getC S mask t=r at *
    obtain ⟨C,n,e⟩:=r
    simp only at h3 h4 h5 hin hbk hok
    by_cases he:e=0
    ·obtain ⟨b1,_,b3⟩:=hbk he
     have h6:=refPut_fn hok (right_light b3)
     clear hbk b3
     have hl2:(t.take n).length=n:=by rw [List.length_take];omega
     refine fn_go hmo Tryz.func7 (by kernel_rfl) [(14,Hint.call (Inst.mk [AV.agg d.l] [] (AV.v (Value.bool true)) [])),(19,Hint.val (AV.v (Value.bool false))),(26,Hint.call (Inst.mk [AV.agg d.l,AV.v (Value.int IntKind.u32 (↑mask:Int)),AV.lst t.length (byL t)] [] (AV.tup [AV.agg (encCl C),AV.v (Value.int IntKind.i64 (↑n:Int)),AV.v (Value.int IntKind.i64 (↑e:Int))]) [])),(34,Hint.call (Inst.mk [AV.agg d.l,AV.v (Value.int IntKind.u32 (↑mask:Int)),bysT t] [] (AV.tup [AV.agg (encClK C),iz (↑n:Int),iz (↑e:Int)]) [])),(40,Hint.val (AV.v (Value.bool false))),(44,Hint.val (AV.v (Value.bool false))),(49,Hint.call (Inst.mk [AV.agg (encCl C),AV.agg (encClK C)] [] (AV.v (Value.bool true)) [])),(53,Hint.val (AV.v (Value.bool false))),(56,Hint.call (Inst.mk [AV.agg (encCl C)] [] (AV.lst (encCell C).length (byL (encCell C))) [])),(57,Hint.val (AV.v (Value.string (ByteArray.mk (encCell C).toArray)))),(61,Hint.val (AV.v (Value.string (ByteArray.mk (encCell C).toArray)))),(62,Hint.val (AV.v (Value.bool true))),(65,Hint.call (Inst.mk [] [] (bz true) []))] [] [true=true,[AV.lst d.n0 d.l0,AV.lst d.n1 d.l1,AV.lst d.n2 d.l2,AV.lst d.n3 d.l3]=[AV.lst d.n0 d.l0,AV.lst d.n1 d.l1,AV.lst d.n2 d.l2,AV.lst d.n3 d.l3]∧True,FnOk Tryz.prog (9:Nat) (Inst.mk [AV.agg [AV.lst d.n0 d.l0,AV.lst d.n1 d.l1,AV.lst d.n2 d.l2,AV.lst d.n3 d.l3]] [] (AV.v (Value.bool true)) []),decide ((1500:Int)<(↑t.length:Int))=false,[AV.lst d.n0 d.l0,AV.lst d.n1 d.l1,AV.lst d.n2 d.l2,AV.lst d.n3 d.l3]=[AV.lst d.n0 d.l0,AV.lst d.n1 d.l1,AV.lst d.n2 d.l2,AV.lst d.n3 d.l3]∧(↑mask:Int)=(↑mask:Int)∧(t.length=t.length∧byL t=byL t)∧True,FnOk Tryz.prog (33:Nat) (Inst.mk [AV.agg [AV.lst d.n0 d.l0,AV.lst d.n1 d.l1,AV.lst d.n2 d.l2,AV.lst d.n3 d.l3],AV.v (Value.int IntKind.u32 (↑mask:Int)),AV.lst t.length (byL t)] [] (AV.tup [AV.agg [AV.v (Value.int IntKind.u64 (↑C.key:Int)),AV.v (Value.int IntKind.i64 C.count),AV.lst C.ints.length (List.flatMap encWh C.ints),AV.lst C.nums.length (List.flatMap encRe C.nums)],AV.v (Value.int IntKind.i64 (↑n:Int)),AV.v (Value.int IntKind.i64 (↑e:Int))]) []),[AV.lst d.n0 d.l0,AV.lst d.n1 d.l1,AV.lst d.n2 d.l2,AV.lst d.n3 d.l3]=[AV.lst d.n0 d.l0,AV.lst d.n1 d.l1,AV.lst d.n2 d.l2,AV.lst d.n3 d.l3]∧(↑mask:Int)=(↑mask:Int)∧(t.length=t.length∧byL t=byL t)∧True,FnOk Tryz.prog (34:Nat) (Inst.mk [AV.agg [AV.lst d.n0 d.l0,AV.lst d.n1 d.l1,AV.lst d.n2 d.l2,AV.lst d.n3 d.l3],AV.v (Value.int IntKind.u32 (↑mask:Int)),AV.lst t.length (byL t)] [] (AV.tup [AV.agg [AV.v (Value.int IntKind.u64 (↑C.key:Int)),AV.v (Value.int IntKind.i64 C.count),AV.lst C.ints.length (List.flatMap encWh C.ints),AV.lst C.nums.length (List.flatMap encReK C.nums)],AV.v (Value.int IntKind.i64 (↑n:Int)),AV.v (Value.int IntKind.i64 (↑e:Int))]) []),((↑e:Int) != (↑e:Int))=false,((↑n:Int) != (↑n:Int))=false,[AV.v (Value.int IntKind.u64 (↑C.key:Int)),AV.v (Value.int IntKind.i64 C.count),AV.lst C.ints.length (List.flatMap encWh C.ints),AV.lst C.nums.length (List.flatMap encRe C.nums)]=[AV.v (Value.int IntKind.u64 (↑C.key:Int)),AV.v (Value.int IntKind.i64 C.count),AV.lst C.ints.length (List.flatMap encWh C.ints),AV.lst C.nums.length (List.flatMap encRe C.nums)]∧[AV.v (Value.int IntKind.u64 (↑C.key:Int)),AV.v (Value.int IntKind.i64 C.count),AV.lst C.ints.length (List.flatMap encWh C.ints),AV.lst C.nums.length (List.flatMap encReK C.nums)]=[AV.v (Value.int IntKind.u64 (↑C.key:Int)),AV.v (Value.int IntKind.i64 C.count),AV.lst C.ints.length (List.flatMap encWh C.ints),AV.lst C.nums.length (List.flatMap encReK C.nums)]∧True,FnOk Tryz.prog (27:Nat) (Inst.mk [AV.agg [AV.v (Value.int IntKind.u64 (↑C.key:Int)),AV.v (Value.int IntKind.i64 C.count),AV.lst C.ints.length (List.flatMap encWh C.ints),AV.lst C.nums.length (List.flatMap encRe C.nums)],AV.agg [AV.v (Value.int IntKind.u64 (↑C.key:Int)),AV.v (Value.int IntKind.i64 C.count),AV.lst C.ints.length (List.flatMap encWh C.ints),AV.lst C.nums.length (List.flatMap encReK C.nums)]] [] (AV.v (Value.bool true)) []),((↑e:Int) != (0:Int))=false,[AV.v (Value.int IntKind.u64 (↑C.key:Int)),AV.v (Value.int IntKind.i64 C.count),AV.lst C.ints.length (List.flatMap encWh C.ints),AV.lst C.nums.length (List.flatMap encRe C.nums)]=[AV.v (Value.int IntKind.u64 (↑C.key:Int)),AV.v (Value.int IntKind.i64 C.count),AV.lst C.ints.length (List.flatMap encWh C.ints),AV.lst C.nums.length (List.flatMap encRe C.nums)]∧True,FnOk Tryz.prog (35:Nat) (Inst.mk [AV.agg [AV.v (Value.int IntKind.u64 (↑C.key:Int)),AV.v (Value.int IntKind.i64 C.count),AV.lst C.ints.length (List.flatMap encWh C.ints),AV.lst C.nums.length (List.flatMap encRe C.nums)]] [] (AV.lst (encCell C).length (byL (encCell C))) []),(encCell C).length=(ByteArray.mk (encCell C).toArray).data.toList.length,byL (encCell C)=byL (ByteArray.mk (encCell C).toArray).data.toList,(0:Int)≤(0:Int)∧(0:Int)≤(↑n:Int)∧(↑n:Int)≤(↑t.length:Int),(↑n:Int).toNat-(0:Nat)=(ByteArray.mk (encCell C).toArray).data.toList.length,List.take (((↑n:Int).toNat-(0:Nat))*(1:Nat)) (List.drop (0:Nat) (byL t))=byL (ByteArray.mk (encCell C).toArray).data.toList,((ByteArray.mk (encCell C).toArray).toList==(ByteArray.mk (encCell C).toArray).toList)=true,True,FnOk Tryz.prog (20:Nat) (Inst.mk [] [] (AV.v (Value.bool true)) [])] (by kernel_rfl) ?_
     ((repeat' refine And.intro ?_ ?_);(iterate 2 (with_reducible rfl));(exact True.intro);((show FnOk _ _ _;assumption));((with_reducible refine Df ?_;omega));(iterate 4 (with_reducible rfl));(exact True.intro);((show FnOk _ _ _;assumption));(iterate 4 (with_reducible rfl));(exact True.intro);((show FnOk _ _ _;assumption));(iterate 2 ((with_reducible refine Nq ?_;omega)));(iterate 2 (with_reducible rfl));(exact True.intro);((show FnOk _ _ _;assumption));((with_reducible refine Nq ?_;omega));(with_reducible rfl);(exact True.intro);((show FnOk _ _ _;assumption));(iterate 2 (with_reducible rfl));(iterate 3 (omega));rotate_left 2;(focus (simp only [Bool.or_eq_true,Bool.and_eq_true,Bool.or_eq_false_iff,Bool.and_eq_false_iff,Bool.not_eq_true',Bool.not_eq_false',decide_eq_true_eq,decide_eq_false_iff_not,beq_iff_eq,beq_eq_false_iff_ne,bne_iff_ne,bne_eq_false_iff_eq,ne_eq,← decide_not,decide_eq_decide,Bool.cond_true_left,Bool.cond_false_right,reduceCtorEq,or_false,false_or,and_true,true_and,implies_true,Bool.false_or,Bool.or_false,Bool.true_or,Bool.or_true,Bool.and_false,Bool.false_and,Bool.and_true,Bool.true_and];done));(exact True.intro);((show FnOk _ _ _;assumption));(exact True.intro))
     all_goals (try rw [← b1])
     all_goals first|(simp [byL];done)|(show (n:Int).toNat-0=(t.take n).length;rw [hl2];omega)|skip
    ·clear hbk
     refine fn_go hmo Tryz.func7 (by kernel_rfl) [(14,Hint.call (Inst.mk [AV.agg d.l] [] (AV.v (Value.bool true)) [])),(19,Hint.val (AV.v (Value.bool false))),(26,Hint.call (Inst.mk [AV.agg d.l,AV.v (Value.int IntKind.u32 (↑mask:Int)),AV.lst t.length (byL t)] [] (AV.tup [AV.agg (encCl C),AV.v (Value.int IntKind.i64 (↑n:Int)),AV.v (Value.int IntKind.i64 (↑e:Int))]) [])),(34,Hint.call (Inst.mk [AV.agg d.l,AV.v (Value.int IntKind.u32 (↑mask:Int)),bysT t] [] (AV.tup [AV.agg (encClK C),iz (↑n:Int),iz (↑e:Int)]) [])),(40,Hint.val (AV.v (Value.bool false))),(44,Hint.val (AV.v (Value.bool false))),(49,Hint.call (Inst.mk [AV.agg (encCl C),AV.agg (encClK C)] [] (AV.v (Value.bool true)) [])),(53,Hint.val (AV.v (Value.bool true))),(65,Hint.call (Inst.mk [] [] (bz true) []))] [] [true=true,[AV.lst d.n0 d.l0,AV.lst d.n1 d.l1,AV.lst d.n2 d.l2,AV.lst d.n3 d.l3]=[AV.lst d.n0 d.l0,AV.lst d.n1 d.l1,AV.lst d.n2 d.l2,AV.lst d.n3 d.l3]∧True,FnOk Tryz.prog (9:Nat) (Inst.mk [AV.agg [AV.lst d.n0 d.l0,AV.lst d.n1 d.l1,AV.lst d.n2 d.l2,AV.lst d.n3 d.l3]] [] (AV.v (Value.bool true)) []),decide ((1500:Int)<(↑t.length:Int))=false,[AV.lst d.n0 d.l0,AV.lst d.n1 d.l1,AV.lst d.n2 d.l2,AV.lst d.n3 d.l3]=[AV.lst d.n0 d.l0,AV.lst d.n1 d.l1,AV.lst d.n2 d.l2,AV.lst d.n3 d.l3]∧(↑mask:Int)=(↑mask:Int)∧(t.length=t.length∧byL t=byL t)∧True,FnOk Tryz.prog (33:Nat) (Inst.mk [AV.agg [AV.lst d.n0 d.l0,AV.lst d.n1 d.l1,AV.lst d.n2 d.l2,AV.lst d.n3 d.l3],AV.v (Value.int IntKind.u32 (↑mask:Int)),AV.lst t.length (byL t)] [] (AV.tup [AV.agg [AV.v (Value.int IntKind.u64 (↑C.key:Int)),AV.v (Value.int IntKind.i64 C.count),AV.lst C.ints.length (List.flatMap encWh C.ints),AV.lst C.nums.length (List.flatMap encRe C.nums)],AV.v (Value.int IntKind.i64 (↑n:Int)),AV.v (Value.int IntKind.i64 (↑e:Int))]) []),[AV.lst d.n0 d.l0,AV.lst d.n1 d.l1,AV.lst d.n2 d.l2,AV.lst d.n3 d.l3]=[AV.lst d.n0 d.l0,AV.lst d.n1 d.l1,AV.lst d.n2 d.l2,AV.lst d.n3 d.l3]∧(↑mask:Int)=(↑mask:Int)∧(t.length=t.length∧byL t=byL t)∧True,FnOk Tryz.prog (34:Nat) (Inst.mk [AV.agg [AV.lst d.n0 d.l0,AV.lst d.n1 d.l1,AV.lst d.n2 d.l2,AV.lst d.n3 d.l3],AV.v (Value.int IntKind.u32 (↑mask:Int)),AV.lst t.length (byL t)] [] (AV.tup [AV.agg [AV.v (Value.int IntKind.u64 (↑C.key:Int)),AV.v (Value.int IntKind.i64 C.count),AV.lst C.ints.length (List.flatMap encWh C.ints),AV.lst C.nums.length (List.flatMap encReK C.nums)],AV.v (Value.int IntKind.i64 (↑n:Int)),AV.v (Value.int IntKind.i64 (↑e:Int))]) []),((↑e:Int) != (↑e:Int))=false,((↑n:Int) != (↑n:Int))=false,[AV.v (Value.int IntKind.u64 (↑C.key:Int)),AV.v (Value.int IntKind.i64 C.count),AV.lst C.ints.length (List.flatMap encWh C.ints),AV.lst C.nums.length (List.flatMap encRe C.nums)]=[AV.v (Value.int IntKind.u64 (↑C.key:Int)),AV.v (Value.int IntKind.i64 C.count),AV.lst C.ints.length (List.flatMap encWh C.ints),AV.lst C.nums.length (List.flatMap encRe C.nums)]∧[AV.v (Value.int IntKind.u64 (↑C.key:Int)),AV.v (Value.int IntKind.i64 C.count),AV.lst C.ints.length (List.flatMap encWh C.ints),AV.lst C.nums.length (List.flatMap encReK C.nums)]=[AV.v (Value.int IntKind.u64 (↑C.key:Int)),AV.v (Value.int IntKind.i64 C.count),AV.lst C.ints.length (List.flatMap encWh C.ints),AV.lst C.nums.length (List.flatMap encReK C.nums)]∧True,FnOk Tryz.prog (27:Nat) (Inst.mk [AV.agg [AV.v (Value.int IntKind.u64 (↑C.key:Int)),AV.v (Value.int IntKind.i64 C.count),AV.lst C.ints.length (List.flatMap encWh C.ints),AV.lst C.nums.length (List.flatMap encRe C.nums)],AV.agg [AV.v (Value.int IntKind.u64 (↑C.key:Int)),AV.v (Value.int IntKind.i64 C.count),AV.lst C.ints.length (List.flatMap encWh C.ints),AV.lst C.nums.length (List.flatMap encReK C.nums)]] [] (AV.v (Value.bool true)) []),((↑e:Int) != (0:Int))=true,True,FnOk Tryz.prog (20:Nat) (Inst.mk [] [] (AV.v (Value.bool true)) [])] (by kernel_rfl) ?_
     ((repeat' refine And.intro ?_ ?_);(iterate 2 (with_reducible rfl));(exact True.intro);((show FnOk _ _ _;assumption));((with_reducible refine Df ?_;omega));(iterate 4 (with_reducible rfl));(exact True.intro);((show FnOk _ _ _;assumption));(iterate 4 (with_reducible rfl));(exact True.intro);((show FnOk _ _ _;assumption));(iterate 2 ((with_reducible refine Nq ?_;omega)));(iterate 2 (with_reducible rfl));(exact True.intro);((show FnOk _ _ _;assumption));((with_reducible refine Ne ?_;omega));(exact True.intro);((show FnOk _ _ _;assumption));(exact True.intro))
set_option maxRecDepth 20000 in
theorem lawAggGets_any (w:World) (v:Value) (S:Sch) (mask:Nat) (A:Option Addr) (c:Nat) (t:List UInt8) (h:SchAt w w.heap.size v S) (ho:SchOk S) (hR:Rd w w.heap.size 1 A t.length (u8s t)) (hc:t.length≤c) (hcm:c≤maxLen) (hm:mask<4294967296) :
 Calls Tryz.prog 7 #[v,.int .u32 (mask:Int),.slice A t.length c] w fun y w'=>y=.returned (.bool true)∧Below w.heap.size w w' :=
 (aggGets_fn ho hm (Nat.le_trans hc hcm)).calls w [v,.int .u32 (mask:Int),.slice A t.length c] rfl fun E hw hF j x u hx hu=>by
  match j,hx,hu with
  | 0,hx,hu=>injection hx with hx;injection hu with hu;subst hx;subst hu;exact sch_see hF (by rw [hw];exact h) ho
  | 1,hx,hu=>injection hx with hx;injection hu with hu;subst hx;subst hu;exact ⟨rfl,rfl⟩
  | 2,hx,hu=>injection hx with hx;injection hu with hu;subst hx;subst hu;exact bytes_see hF (by rw [hw];exact hR) hc hcm
  | j+3,hx,hu=>simp at hx
end Go.Proofs.YtfhmaincnlaapaaGreat.Sy
namespace Go.Proofs.YtfhmaincnlaapaaGreat.aggGets
open Go.ChangeShapes Go.WideShapes Go.ChangeAt Go.RowKit Go.Joins Go.Deep
open Go.ChangeMaps (open_string shut_string)
set_option linter.unusedVariables false
set_option maxRecDepth 100000 in
theorem lifted (os:Os) (started:os.Started) (H:Type) (enc:TypeId×Value→H) :
 ReturnsInHanded {} Tryz.checked os 7 .any (Rows.aggGetsSpec.pre6 enc Tryz.prog Tryz.f7 Rows.aggGetsRow.domain false) (Rows.aggGetsSpec.post enc Tryz.prog Tryz.f7 false true false false):=by
 refine returnsInHanded_of_change (C:=Tryz.checked) own started (by kernel_rfl) Tryz.func7
  (ChangeSpec.witness6 (enc:=enc) (C:=Tryz.checked) false ⟨#[],#[.agg #[.slice none 0 0,.slice none 0 0,.slice none 0 0,.slice none 0 0],.int .u32 0,.slice none 0 0],[]⟩ 8 (by kernel_rfl) (by kernel_rfl) (by kernel_rfl) (by kernel_rfl)) ?_
 intro W base args ds gs before hval0 hW hcnd _
 have hval:∀ (j:Nat) t v,Tryz.f7.params[j]?=some t→args[j]?=some v→Value.okWide Tryz.prog W .any base t v:=hval0
 have hW':=hW
 obtain ⟨p,q,hA0,hV,rfl,hfz,hnd⟩:=hW
 have hA:DataW.TrodAll enc Tryz.prog W 0 (fun _=>true) true Tryz.f7.params.toList args.toList ds p:=hA0
 rw [Tryz.params7] at hA hval
 obtain ⟨v0,vs0,d0,ds0,p0,q0,hargs,rfl,rfl,h0,r0⟩:=trodAll_cons hA
 obtain ⟨v1,vs1,d1,ds1,p1,q1,rfl,rfl,rfl,h1,r1⟩:=trodAll_cons r0
 obtain ⟨v2,vs2,d2,ds2,p2,q2,rfl,rfl,rfl,h2,r2⟩:=trodAll_cons r1
 obtain ⟨rfl,rfl,rfl⟩:=trodAll_nil r2
 obtain rfl:args=#[v0,v1,v2]:=by cases args;simp_all
 obtain ⟨rfl,rfl⟩:=trodVars_none hV
 have k0:=h0
 have lt0:∀ x ∈ p0,x.block<W.heap.size:=by obtain ⟨m,hm⟩:=k0;exact DataW.trod_lt m _ _ _ hm
 have k1:=h1
 have lt1:∀ x ∈ p1,x.block<W.heap.size:=by obtain ⟨m,hm⟩:=k1;exact DataW.trod_lt m _ _ _ hm
 have k2:=h2
 have lt2:∀ x ∈ p2,x.block<W.heap.size:=by obtain ⟨m,hm⟩:=k2;exact DataW.trod_lt m _ _ _ hm
 obtain ⟨S0,hS0,oS0⟩:=open_schema (hval 0 26 v0 rfl rfl) h0
 obtain ⟨a1,e1,_,_,w1⟩:=open_int Tryz.underlying39 (hval 1 39 v1 rfl rfl) h1
 subst e1
 obtain ⟨A2,n2,c2,l2,rfl,hc2,hm2,R2⟩:=open_bytes Tryz.underlying27 Tryz.underlying5 (by kernel_rfl) (hval 2 27 v2 rfl rfl) h2
 obtain rfl:n2=l2.length:=R2.u8.symm
 have b1:=bounds_u32 w1
 obtain ⟨m1,rfl⟩:∃ m1:Nat,a1=(m1:Int):=⟨a1.toNat,by omega⟩
 clear hA0 hval0
 refine (Sy.lawAggGets_any W v0 S0 m1 A2 c2 l2 hS0 oS0 R2 hc2 hm2 (by omega)).mono fun e W' ⟨he,bel⟩=>?_
 subst he
 exact ⟨_,rfl,_,_,_,[],_,[],hW',trodAll_mk1 (shut_bool Tryz.underlying4 _),(trodAll_cons_mk (Below.trod laidOut (by kernel_rfl) (of_decide_eq_true (by kernel_rfl)) k0 bel lt0) (trodAll_cons_mk (Below.trod laidOut (by kernel_rfl) (of_decide_eq_true (by kernel_rfl)) k1 bel lt1) (trodAll_cons_mk (Below.trod laidOut (by kernel_rfl) (of_decide_eq_true (by kernel_rfl)) k2 bel lt2) trodAll_mk0))),rfl,bel.frame _,fun h=>by cases h⟩
theorem over:Rows.aggGetsRow.holds Tryz.pinned (OpenSpec.ofChange Rows.aggGetsSpec) :=
 OpenClaim.holds_of_wide 7 Tryz.f7 rfl rfl rfl rfl rfl rfl rfl ⟨rfl,rfl,rfl,rfl,rfl⟩ rfl rfl rfl rfl rfl (by kernel_rfl) Tryz.func7 (by kernel_rfl)
  (of_decide_eq_true (by kernel_rfl)) (by unfold Func.isWrapper;first|(rw [if_pos (by decide +kernel)];kernel_rfl)|(rw [if_neg (by decide +kernel)];exact ⟨rfl,rfl⟩))
  (fun os started H enc _=>lifted os started H enc)
theorem proved:Rows.AggGetsSaid:=over
#print axioms proved
end Go.Proofs.YtfhmaincnlaapaaGreat.aggGets
