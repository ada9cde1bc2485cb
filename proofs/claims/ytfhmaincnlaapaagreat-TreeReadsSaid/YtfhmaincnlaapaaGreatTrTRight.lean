/- bushelref14.Right on trees. -/
import Derived.Test.YtfhmaincnlaapaaGreatTrVcs
import Derived.Test.YtfhmaincnlaapaaGreatTrFactGet
import Derived.Test.YtfhmaincnlaapaaGreatTrReadLeaf
import Derived.Test.YtfhmaincnlaapaaGreatTrNumSums
import Derived.Test.YtfhmaincnlaapaaGreatTrFnSch
import Derived.Test.YtfhmaincnlaapaaGreatTrRefSumRead
namespace Go.Proofs.YtfhmaincnlaapaaGreat.Sy
open Go.ChangeShapes Go.WideShapes Go.ChangeAt Go.RowKit
set_option linter.unusedVariables false
set_option linter.unusedSimpArgs false
theorem keys11_fn {S:Sch} {mask:Nat} (hs:SchOk S) (hm:mask<4294967296) (h0:checkN S=0):FnOk Tryz.prog 73 ⟨[.agg (encSch S),.v (.int .u32 (mask:Int))],[],uz (keysP S mask S.dims.length:Nat),[]⟩ :=
 FnOk.of_calls rfl fun E vs hF hl hz=>by
  obtain ⟨u,v,rfl⟩:=len2 hl
  obtain ⟨rfl,_⟩:v=.int .u32 (mask:Int)∧_:=hz 1 _ v rfl rfl
  exact refKeys_any E.w E.w.heap.size u S mask (sch_open hF (okSch_of hs) (hz 0 _ u rfl rfl)) (Nat.le_refl _) hm h0
def j7:List AV:=[.junk,.junk,.junk,.junk,.junk,.junk,.junk]
theorem read05J_fn {b:List UInt8} (hl:b.length≤9223372036854775807):FnOk Tryz.prog 69 ⟨[bysT b],[],.tup [.agg j7,iz (readE b:Nat)],[]⟩ :=
 FnOk.of_new fun E vs hF hlen hs=>by
  obtain ⟨u,rfl⟩:∃ u,vs=[u]:=List.length_eq_one_iff.1 hlen
  obtain ⟨A,c,rfl,hr⟩:=bytes_open hF (hs 0 _ u rfl rfl)
  refine (read05_any E.w E.w.heap.size A c b hr (Nat.le_refl _) hl).mono ?_
  rintro y w' ⟨s,rfl,hb,hsr⟩
  obtain ⟨f0,f1,f2,f3,f4,f5,Z,k,c,rfl⟩:=hsr.shape
  refine ⟨_,rfl,hb,_,rfl,rfl,fun j y v hy hv=>?_⟩
  match j,hy,hv with
  | 0,hy,hv =>
    injection hy with hy;injection hv with hv;subst hy;subst hv
    refine ⟨[_,_,_,_,_,_,_],rfl,rfl,fun j x u hx hu=>?_⟩
    have hx2:x=.junk:=by
     have:=List.mem_of_getElem? hx
     simp only [j7,List.mem_cons,List.not_mem_nil,or_false,or_self] at this
     exact this
    subst hx2
    refine ⟨trivial,?_⟩
    have:=List.mem_of_getElem? hu
    simp only [List.mem_cons,List.not_mem_nil,or_false] at this
    rcases this with rfl|rfl|rfl|rfl|rfl|rfl|rfl<;>rfl
  | 1,hy,hv=>injection hy with hy;injection hv with hv;subst hy;subst hv;exact ⟨rfl,rfl⟩
  | j+2,hy,hv=>simp at hy
theorem lessK_fn (a b:Nat):FnOk Tryz.prog 74 ⟨[.fk a,.fk b],[],bz (decide (a<b)),[]⟩ :=
 FnOk.of_calls rfl fun E vs hF hl hs=>by
  obtain ⟨u,v,rfl⟩:=len2 hl
  obtain ⟨x,rfl,h1,h2⟩:=hs 0 _ u rfl rfl
  obtain ⟨y,rfl,h3,h4⟩:=hs 1 _ v rfl rfl
  rw [←h1,←h3,←fkey_eq,←fkey_eq]
  refine (refFLess_any x y E.w h2 h4).mono ?_
  rintro z w' ⟨rfl,k,rfl⟩
  exact ⟨rfl,below_drewN (belR _) k⟩
theorem flatAt {α:Type} (e:α→List AV) (k:Nat) (hk:∀ x,(e x).length=k) (d:α):∀ (l:List α) (i:Nat),i<l.length→((l.flatMap e).drop (i*k)).take k=e (l.getD i d)∧i*k+k≤(l.flatMap e).length
 | x::l,0,_=>by
   simp only [Nat.zero_mul,List.drop_zero,List.flatMap_cons,List.getD_cons_zero,List.length_append,hk]
   exact ⟨by rw [←hk x,List.take_left],by omega⟩
 | x::l,i+1,h=>by
   obtain ⟨h1,h2⟩:=flatAt e k hk d l i (by simpa using h)
   have e1:(i+1)*k=(e x).length+i*k:=by rw [hk,Nat.succ_mul];omega
   simp only [List.flatMap_cons,List.getD_cons_succ,List.length_append]
   rw [e1,←List.drop_drop,List.drop_left]
   exact ⟨h1,by omega⟩
 | [],i,h=>absurd h (by simp)
def noWk:WholeS:=⟨0,0,[],0,0⟩
def noRk:RealS:=⟨[],0,0⟩
def whT (X:WholeS):List AV:=[iz X.sum,iz X.abs,.lst X.sq.length (X.sq.flatMap encU32n),iz X.mn,iz X.mx]
def reT (X:RealS):List AV:=[.lst X.sum.length (byL X.sum),.fk (keyB X.mn),.fk (keyB X.mx)]
theorem flatU8 (l:List UInt8):l.flatMap encU8=byL l:=by
 induction l with
 | nil=>rfl
 | cons x l ih=>rw [List.flatMap_cons,ih];rfl
theorem reT_eq (X:RealS):encReK X=reT X:=by unfold encReK encL reT;rw [flatU8];rfl
theorem rd_whK (l:List WholeS) (i:Nat) (h:i<l.length):rd1 true 5 (l.flatMap encWh) ((i:Int).toNat*5)=some (.agg (whT (l.getD i noWk))):=by
 obtain ⟨h1,h2⟩:=flatAt encWh 5 (fun _=>rfl) noWk l i h
 unfold rd1
 rw [Int.toNat_natCast,cond_true,if_pos h2,h1];rfl
theorem rd_reK (l:List RealS) (i k:Nat) (h:i<l.length) (hk:k<3):rd1 false 1 (l.flatMap encReK) ((i:Int).toNat*3+k)=(reT (l.getD i noRk))[k]?:=by
 obtain ⟨h1,h2⟩:=flatAt encReK 3 (fun _=>rfl) noRk l i h
 rw [reT_eq] at h1
 unfold rd1
 rw [Int.toNat_natCast,cond_false,←h1,List.getElem?_take_of_lt hk,List.getElem?_drop]
theorem rd_u32K (l:List Nat) (k:Nat) (h:k<l.length):rd1 false 1 (l.flatMap encU32n) ((k:Int).toNat*1)=some (.v (.int .u32 (dg l k:Nat))):=by
 obtain ⟨h1,h2⟩:=flatAt encU32n 1 (fun _=>rfl) 0 l k h
 unfold rd1
 rw [Int.toNat_natCast,cond_false]
 have h3:=congrArg (fun x=>x[0]?) h1
 simp only [List.getElem?_take_of_lt (Nat.zero_lt_one),List.getElem?_drop,Nat.add_zero] at h3
 rw [h3];rfl
theorem firstBad {P:Nat→Bool}:∀ {n:Nat},¬(∀ i,i<n→P i=true)→∃ m,m<n∧P m=false∧∀ i,i<m→P i=true
 | 0,h=>absurd (fun i hi=>absurd hi (by omega)) h
 | n+1,h=>by
   by_cases h0:∀ i,i<n→P i=true
   ·refine ⟨n,Nat.lt_succ_self n,?_,h0⟩
    cases hp:P n with
    | false=>rfl
    | true =>
      refine absurd (fun i hi=>?_) h
      rcases Nat.lt_or_eq_of_le (Nat.le_of_lt_succ hi) with h1|rfl
      ·exact h0 i h1
      ·exact hp
   ·obtain ⟨m,h1,h2,h3⟩:=firstBad h0
    exact ⟨m,by omega,h2,h3⟩
theorem all_at {α:Type} (f:α→Bool) (d:α) (l:List α):l.all f=true ↔ ∀ i,i<l.length→f (l.getD i d)=true:=by
 rw [List.all_eq_true]
 constructor
 ·intro h i hi
  have e:l.getD i d=l[i]:=by simp [hi]
  rw [e];exact h _ (List.getElem_mem hi)
 ·intro h x hx
  obtain ⟨i,hi,rfl⟩:=List.getElem_of_mem hx
  have e:l.getD i d=l[i]:=by simp [hi]
  rw [←e];exact h i hi
theorem tszF (l:List Nat) (h:0<l.length):tsz l=l.length↔dg l (l.length-1)≠0:=by
 have e:=tsz_take l (l.length-1) (by omega)
 have e2:l.length-1+1=l.length:=by omega
 rw [e2,List.take_length] at e
 unfold dg
 by_cases hz:l.getD (l.length-1) 0=0
 ·rw [if_pos hz] at e
  have h1:=tsz_le (l.take (l.length-1))
  rw [List.length_take] at h1
  constructor
  ·intro h2;omega
  ·intro h2;exact absurd hz h2
 ·rw [if_neg hz] at e
  exact ⟨fun _=>hz,fun _=>by omega⟩
theorem okW_iff {X:WholeS}:okW X=true↔0≤X.abs∧X.sum≤X.abs∧-X.abs≤X.sum∧X.mn≤X.mx∧X.sq.length≤7∧(X.sq.length=0∨dg X.sq (X.sq.length-1)≠0):=by
 unfold okW
 simp only [Bool.and_eq_true,decide_eq_true_iff,and_assoc]
 have:tsz X.sq=X.sq.length↔(X.sq.length=0∨dg X.sq (X.sq.length-1)≠0):=by
  rcases Nat.eq_zero_or_pos X.sq.length with h|h
  ·have:=tsz_le X.sq
   exact ⟨fun _=>.inl h,fun _=>by omega⟩
  ·rw [tszF _ h]
   exact ⟨fun h=>.inr h,fun h=>by rcases h with h|h;omega;exact h⟩
 rw [this]
structure ScD where
 n0:Nat
 n1:Nat
 n2:Nat
 n3:Nat
 l0:List AV
 l1:List AV
 l2:List AV
 l3:List AV
def ScD.l (d:ScD):List AV:=[.lst d.n0 d.l0,.lst d.n1 d.l1,.lst d.n2 d.l2,.lst d.n3 d.l3]
theorem scD_of (S:Sch):∃ d:ScD,encSch S=d.l∧d.n1=S.ints.length∧d.n2=S.nums.length:=⟨⟨_,_,_,_,_,_,_,_⟩,rfl,rfl,rfl⟩
def rgO (sc:ScD) (C:CellS):List (Nat×AObj):=[(3,.cells 26 sc.l),(5,.cells 53 (encClK C))]
def rgI (sc:ScD) (C:CellS) (i:Nat):AS:=⟨[(3,.ptr 3 0),(5,.ptr 5 0),(7,iz (i:Nat))],rgO sc C,147,[]⟩
def rgM (sc:ScD) (C:CellS):AS:=⟨[(3,.ptr 3 0),(5,.ptr 5 0)],rgO sc C,147,[]⟩
def rgJ (sc:ScD) (C:CellS) (i:Nat):AS:=⟨[(3,.ptr 3 0),(5,.ptr 5 0),(9,iz (i:Nat))],rgO sc C,147,[]⟩
def rgE:AS:=⟨[],[],147,[]⟩
def rgF:AS:=⟨[(6,bz false)],[],147,[]⟩
structure SmC (C:CellS):Prop where
 li:C.ints.length≤1000
 ln:C.nums.length≤1000
 w:∀ X∈C.ints,X.sq.length≤1000∧-9223372036854775808≤X.abs∧X.abs≤9223372036854775807
 r:∀ X∈C.nums,X.sum.length≤1000
section
variable {sc:ScD} {C:CellS} (hC:SmC C)
include hC
theorem wAtK {i:Nat} (h:i<C.ints.length):(C.ints.getD i noWk).sq.length≤1000∧-9223372036854775808≤(C.ints.getD i noWk).abs∧(C.ints.getD i noWk).abs≤9223372036854775807:=by
 have e:C.ints.getD i noWk=C.ints[i]:=by simp [h]
 rw [e];exact hC.w _ (List.getElem_mem h)
theorem rAtK {i:Nat} (h:i<C.nums.length):(C.nums.getD i noRk).sum.length≤1000:=by
 have e:C.nums.getD i noRk=C.nums[i]:=by simp [h]
 rw [e];exact hC.r _ (List.getElem_mem h)
theorem rg1_on (e:Exit) (σ':AS) (P:Nat→Prop) (i:Nat) (hi:i<C.ints.length) (hok:okW (C.ints.getD i noWk)=true) (h1) (h2:P (i+1)):Round Tryz.prog (loopBody Tryz.f25 4) (fun i:{i:Nat // P i}=>rgI sc C i.1) (fun i=>C.ints.length-i.1) e σ' ⟨i,h1⟩:=by
 have hr:=rd_whK C.ints i hi
 obtain ⟨q1,q2,q3⟩:=wAtK hC hi
 obtain ⟨o1,o2,o3,o4,o5,o6⟩:=okW_iff.1 hok
 have hli:=hC.li
 generalize C.ints.getD i noWk=X at *
 obtain ⟨sum,abs,sq,mn,mx⟩:=X
 simp only at q1 q2 q3 o1 o2 o3 o4 o5 o6
 rcases Nat.eq_zero_or_pos sq.length with h0|h0
 ·refine Round.on [(57,.val (bz true)),(64,.val (AV.agg [iz sum,iz abs,AV.lst sq.length (List.flatMap encU32n sq),iz mn,iz mx])),(67,.val (bz false)),(73,.val (bz false)),(80,.val (iz ((0:Int)-abs))),(81,.val (bz false)),(88,.val (bz false)),(94,.val (bz false)),(100,.val (bz false)),(59,.val (iz (↑(i+(1:Nat)):Int)))] [] ⟨i+1,h2⟩ [(3:Nat)=(3:Nat)∧(0:Nat)=(0:Nat),(5:Nat)=(5:Nat)∧(0:Nat)=(0:Nat),(↑(i+(1:Nat)):Int)=(↑(i+(1:Nat)):Int),[AV.lst sc.n0 sc.l0,AV.lst sc.n1 sc.l1,AV.lst sc.n2 sc.l2,AV.lst sc.n3 sc.l3]=[AV.lst sc.n0 sc.l0,AV.lst sc.n1 sc.l1,AV.lst sc.n2 sc.l2,AV.lst sc.n3 sc.l3],[uz (↑C.key:Int),iz C.count,AV.lst C.ints.length (List.flatMap encWh C.ints),AV.lst C.nums.length (List.flatMap encReK C.nums)]=[uz (↑C.key:Int),iz C.count,AV.lst C.ints.length (List.flatMap encWh C.ints),AV.lst C.nums.length (List.flatMap encReK C.nums)],decide ((↑i:Int)<(↑C.ints.length:Int))=true,(0:Int)≤(↑i:Int)∧(↑i:Int)<(↑C.ints.length:Int),rd1 true (5:Nat) (List.flatMap encWh C.ints) ((↑i:Int).toNat*(5:Nat))=some (AV.agg [iz sum,iz abs,AV.lst sq.length (List.flatMap encU32n sq),iz mn,iz mx]),decide (abs<(0:Int))=false,decide (abs<sum)=false,IntKind.i64.wrap ((0:Int)-abs)=(0:Int)-abs,decide (sum<(0:Int)-abs)=false,decide (mx<mn)=false,decide ((7:Int)<(↑sq.length:Int))=false,decide ((0:Int)<(↑sq.length:Int))=false,IntKind.i64.wrap ((↑i:Int)+(1:Int))=(↑(i+(1:Nat)):Int)] (by kernel_rfl) (by show C.ints.length-(i+1)<C.ints.length-i;omega) ?_
  ((repeat' refine And.intro ?_ ?_);(iterate 7 (with_reducible rfl));((with_reducible refine Dt ?_;omega));(iterate 2 (omega));((show rd1 _ _ _ _=_;assumption));(iterate 2 ((with_reducible refine Df ?_;omega)));(exact Wi _ (by omega));(iterate 4 ((with_reducible refine Df ?_;omega)));(exact Wi _ (by omega));(exact True.intro))
  all_goals exact hr
 ·have hd:dg sq (sq.length-1)≠0:=by omega
  have hrd:=rd_u32K sq (sq.length-1) (by omega)
  generalize dg sq (sq.length-1)=d at *
  refine Round.on [(57,.val (bz true)),(64,.val (AV.agg [iz sum,iz abs,AV.lst sq.length (List.flatMap encU32n sq),iz mn,iz mx])),(67,.val (bz false)),(73,.val (bz false)),(80,.val (iz ((0:Int)-abs))),(81,.val (bz false)),(88,.val (bz false)),(94,.val (bz false)),(100,.val (bz true)),(107,.val (iz (↑(sq.length-(1:Nat)):Int))),(109,.val (AV.v (Value.int IntKind.u32 (↑d:Int)))),(110,.val (bz false)),(59,.val (iz (↑(i+(1:Nat)):Int)))] [] ⟨i+1,h2⟩ [(3:Nat)=(3:Nat)∧(0:Nat)=(0:Nat),(5:Nat)=(5:Nat)∧(0:Nat)=(0:Nat),(↑(i+(1:Nat)):Int)=(↑(i+(1:Nat)):Int),[AV.lst sc.n0 sc.l0,AV.lst sc.n1 sc.l1,AV.lst sc.n2 sc.l2,AV.lst sc.n3 sc.l3]=[AV.lst sc.n0 sc.l0,AV.lst sc.n1 sc.l1,AV.lst sc.n2 sc.l2,AV.lst sc.n3 sc.l3],[uz (↑C.key:Int),iz C.count,AV.lst C.ints.length (List.flatMap encWh C.ints),AV.lst C.nums.length (List.flatMap encReK C.nums)]=[uz (↑C.key:Int),iz C.count,AV.lst C.ints.length (List.flatMap encWh C.ints),AV.lst C.nums.length (List.flatMap encReK C.nums)],decide ((↑i:Int)<(↑C.ints.length:Int))=true,(0:Int)≤(↑i:Int)∧(↑i:Int)<(↑C.ints.length:Int),rd1 true (5:Nat) (List.flatMap encWh C.ints) ((↑i:Int).toNat*(5:Nat))=some (AV.agg [iz sum,iz abs,AV.lst sq.length (List.flatMap encU32n sq),iz mn,iz mx]),decide (abs<(0:Int))=false,decide (abs<sum)=false,IntKind.i64.wrap ((0:Int)-abs)=(0:Int)-abs,decide (sum<(0:Int)-abs)=false,decide (mx<mn)=false,decide ((7:Int)<(↑sq.length:Int))=false,decide ((0:Int)<(↑sq.length:Int))=true,IntKind.i64.wrap ((↑sq.length:Int)-(1:Int))=(↑(sq.length-(1:Nat)):Int),(0:Int)≤(↑(sq.length-(1:Nat)):Int)∧(↑(sq.length-(1:Nat)):Int)<(↑sq.length:Int),rd1 false (1:Nat) (List.flatMap encU32n sq) ((↑(sq.length-(1:Nat)):Int).toNat*(1:Nat))=some (AV.v (Value.int IntKind.u32 (↑d:Int))),((↑d:Int)==(0:Int))=false,IntKind.i64.wrap ((↑i:Int)+(1:Int))=(↑(i+(1:Nat)):Int)] (by kernel_rfl) (by show C.ints.length-(i+1)<C.ints.length-i;omega) ?_
  ((repeat' refine And.intro ?_ ?_);(iterate 7 (with_reducible rfl));((with_reducible refine Dt ?_;omega));(iterate 2 (omega));((show rd1 _ _ _ _=_;assumption));(iterate 2 ((with_reducible refine Df ?_;omega)));(exact Wi _ (by omega));(iterate 3 ((with_reducible refine Df ?_;omega)));((with_reducible refine Dt ?_;omega));((rw [Wi _ (by omega)];omega));(iterate 2 (omega));(with_reducible assumption);((with_reducible refine Bn ?_;omega));(exact Wi _ (by omega));(exact True.intro))
  all_goals first|exact hr|exact hrd
theorem rg1_out (P:Nat→Prop) (i:Nat) (hi:i<C.ints.length) (hok:okW (C.ints.getD i noWk)=false) (h1):Round Tryz.prog (loopBody Tryz.f25 4) (fun i:{i:Nat // P i}=>rgI sc C i.1) (fun i=>C.ints.length-i.1) .ret rgF ⟨i,h1⟩:=by
 have hr:=rd_whK C.ints i hi
 obtain ⟨q1,q2,q3⟩:=wAtK hC hi
 have hno:¬okW (C.ints.getD i noWk)=true:=by rw [hok];simp
 rw [okW_iff] at hno
 have hli:=hC.li
 generalize C.ints.getD i noWk=X at *
 obtain ⟨sum,abs,sq,mn,mx⟩:=X
 simp only at q1 q2 q3 hno
 by_cases ha:abs<0
 ·refine Round.out [(57,.val (bz true)),(64,.val (AV.agg [iz sum,iz abs,AV.lst sq.length (List.flatMap encU32n sq),iz mn,iz mx])),(67,.val (bz true))] [] [false=false,decide ((↑i:Int)<(↑C.ints.length:Int))=true,(0:Int)≤(↑i:Int)∧(↑i:Int)<(↑C.ints.length:Int),rd1 true (5:Nat) (List.flatMap encWh C.ints) ((↑i:Int).toNat*(5:Nat))=some (AV.agg [iz sum,iz abs,AV.lst sq.length (List.flatMap encU32n sq),iz mn,iz mx]),decide (abs<(0:Int))=true] (by kernel_rfl) ?_
  ((repeat' refine And.intro ?_ ?_);(with_reducible rfl);((with_reducible refine Dt ?_;omega));(iterate 2 (omega));((show rd1 _ _ _ _=_;assumption));((with_reducible refine Dt ?_;omega));(exact True.intro))
  all_goals exact hr
 ·rcases Nat.eq_zero_or_pos sq.length with h0|h0
  ·have hb:abs<sum∨sum < -abs∨mx<mn:=by omega
   clear hno
   refine Round.out [(57,.val (bz true)),(64,.val (AV.agg [iz sum,iz abs,AV.lst sq.length (List.flatMap encU32n sq),iz mn,iz mx])),(67,.val (bz false)),(76,Hint.gd),(77,Hint.gd),(78,Hint.gd),(79,Hint.gd),(80,Hint.gdv (iz ((0:Int)-abs))),(81,Hint.gd),(82,Hint.gdv (AV.v (Value.bool (decide (abs<sum)||decide (sum<(0:Int)-abs))))),(84,Hint.gd),(85,Hint.gd),(86,Hint.gd),(87,Hint.gd),(88,Hint.gd),(89,Hint.gdv (bz true))] [] [false=false,decide ((↑i:Int)<(↑C.ints.length:Int))=true,(0:Int)≤(↑i:Int)∧(↑i:Int)<(↑C.ints.length:Int),rd1 true (5:Nat) (List.flatMap encWh C.ints) ((↑i:Int).toNat*(5:Nat))=some (AV.agg [iz sum,iz abs,AV.lst sq.length (List.flatMap encU32n sq),iz mn,iz mx]),decide (abs<(0:Int))=false,(decide (abs<sum)==false)=true→true=true,(decide (abs<sum)==false)=true→(decide (abs<sum)==false,AV.ptr (8:Nat) (0:Nat)).fst=true,(decide (abs<sum)==false)=true→true=true,(decide (abs<sum)==false)=true→(decide (abs<sum)==false,AV.ptr (8:Nat) (1:Nat)).fst=true,(decide (abs<sum)==false)=true→(decide (abs<sum)==false,iz abs).fst=true,(decide (abs<sum)==false)=true→IntKind.i64.wrap ((0:Int)-abs)=(0:Int)-abs,(decide (abs<sum)==false)=true→(decide (abs<sum)==false,iz sum).fst=true,(decide (abs<sum)==false)=true→(decide (abs<sum)==false,iz ((0:Int)-abs)).fst=true,(bif decide (abs<sum) then true else decide (sum<(0:Int)-abs))=(decide (abs<sum)||decide (sum<(0:Int)-abs)),true=true→true=true∧(decide (abs<sum)=true→true=true)∧(decide (abs<sum)=false→(decide (abs<sum)==false,AV.v (Value.bool (decide (sum<(0:Int)-abs)))).fst=true),((decide (abs<sum)||decide (sum<(0:Int)-abs))==false)=true→true=true,((decide (abs<sum)||decide (sum<(0:Int)-abs))==false)=true→((decide (abs<sum)||decide (sum<(0:Int)-abs))==false,AV.ptr (8:Nat) (3:Nat)).fst=true,((decide (abs<sum)||decide (sum<(0:Int)-abs))==false)=true→true=true,((decide (abs<sum)||decide (sum<(0:Int)-abs))==false)=true→((decide (abs<sum)||decide (sum<(0:Int)-abs))==false,AV.ptr (8:Nat) (4:Nat)).fst=true,((decide (abs<sum)||decide (sum<(0:Int)-abs))==false)=true→((decide (abs<sum)||decide (sum<(0:Int)-abs))==false,iz mn).fst=true,((decide (abs<sum)||decide (sum<(0:Int)-abs))==false)=true→((decide (abs<sum)||decide (sum<(0:Int)-abs))==false,iz mx).fst=true,(bif decide (abs<sum)||decide (sum<(0:Int)-abs) then true else decide (mx<mn))=true,true=true→true=true∧((decide (abs<sum)||decide (sum<(0:Int)-abs))=true→true=true)∧((decide (abs<sum)||decide (sum<(0:Int)-abs))=false→((decide (abs<sum)||decide (sum<(0:Int)-abs))==false,AV.v (Value.bool (decide (mx<mn)))).fst=true)] (by kernel_rfl) ?_
   ((repeat' refine And.intro ?_ ?_);(with_reducible rfl);((with_reducible refine Dt ?_;omega));(iterate 2 (omega));((show rd1 _ _ _ _=_;assumption));((with_reducible refine Df ?_;omega));(exact (fun (_:(_:Bool)=true)=>rfl));(exact (fun (h:(_:Bool)=true)=>h));(exact (fun (_:(_:Bool)=true)=>rfl));(iterate 2 (exact (fun (h:(_:Bool)=true)=>h)));((rw [Wi _ (by omega)];omega));(iterate 2 (exact (fun (h:(_:Bool)=true)=>h)));(focus (simp only [Bool.or_eq_true,Bool.and_eq_true,Bool.or_eq_false_iff,Bool.and_eq_false_iff,Bool.not_eq_true',Bool.not_eq_false',decide_eq_true_eq,decide_eq_false_iff_not,beq_iff_eq,beq_eq_false_iff_ne,bne_iff_ne,bne_eq_false_iff_eq,ne_eq,←decide_not,decide_eq_decide,Bool.cond_true_left,Bool.cond_false_right,reduceCtorEq,or_false,false_or,and_true,true_and,implies_true,Bool.false_or,Bool.or_false,Bool.true_or,Bool.or_true,Bool.and_false,Bool.false_and,Bool.and_true,Bool.true_and];done));((simp only [Bool.or_eq_true,Bool.and_eq_true,Bool.or_eq_false_iff,Bool.and_eq_false_iff,Bool.not_eq_true',Bool.not_eq_false',decide_eq_true_eq,decide_eq_false_iff_not,beq_iff_eq,beq_eq_false_iff_ne,bne_iff_ne,bne_eq_false_iff_eq,ne_eq,←decide_not,decide_eq_decide,Bool.cond_true_left,Bool.cond_false_right,reduceCtorEq,or_false,false_or,and_true,true_and,implies_true,Bool.false_or,Bool.or_false,Bool.true_or,Bool.or_true,Bool.and_false,Bool.false_and,Bool.and_true,Bool.true_and];omega));(exact (fun (_:(_:Bool)=true)=>rfl));(exact (fun (h:(_:Bool)=true)=>h));(exact (fun (_:(_:Bool)=true)=>rfl));(iterate 3 (exact (fun (h:(_:Bool)=true)=>h)));(iterate 2 ((simp only [Bool.or_eq_true,Bool.and_eq_true,Bool.or_eq_false_iff,Bool.and_eq_false_iff,Bool.not_eq_true',Bool.not_eq_false',decide_eq_true_eq,decide_eq_false_iff_not,beq_iff_eq,beq_eq_false_iff_ne,bne_iff_ne,bne_eq_false_iff_eq,ne_eq,←decide_not,decide_eq_decide,Bool.cond_true_left,Bool.cond_false_right,reduceCtorEq,or_false,false_or,and_true,true_and,implies_true,Bool.false_or,Bool.or_false,Bool.true_or,Bool.or_true,Bool.and_false,Bool.false_and,Bool.and_true,Bool.true_and];omega)));(exact True.intro))
   all_goals exact hr
  ·have hrd:=rd_u32K sq (sq.length-1) (by omega)
   have hb:abs<sum∨sum < -abs∨mx<mn∨7<sq.length∨dg sq (sq.length-1)=0:=by omega
   clear hno
   generalize dg sq (sq.length-1)=d at *
   refine Round.out [(57,.val (bz true)),(64,.val (AV.agg [iz sum,iz abs,AV.lst sq.length (List.flatMap encU32n sq),iz mn,iz mx])),(67,.val (bz false)),(76,Hint.gd),(77,Hint.gd),(78,Hint.gd),(79,Hint.gd),(80,Hint.gdv (iz ((0:Int)-abs))),(81,Hint.gd),(82,Hint.gdv (AV.v (Value.bool (decide (abs<sum)||decide (sum<(0:Int)-abs))))),(84,Hint.gd),(85,Hint.gd),(86,Hint.gd),(87,Hint.gd),(88,Hint.gd),(89,Hint.gdv (AV.v (Value.bool (decide (abs<sum)||decide (sum<(0:Int)-abs)||decide (mx<mn))))),(91,Hint.gd),(92,Hint.gd),(93,Hint.gd),(94,Hint.gd),(95,Hint.gdv (AV.v (Value.bool (decide (abs<sum)||decide (sum<(0:Int)-abs)||decide (mx<mn)||decide ((7:Int)<(↑sq.length:Int)))))),(97,Hint.gd),(98,Hint.gd),(99,Hint.gd),(100,Hint.gdv (bz true)),(101,Hint.gd),(102,Hint.gd),(103,Hint.gd),(104,Hint.gd),(105,Hint.gd),(106,Hint.gd),(107,Hint.gdv (iz (↑(sq.length-(1:Nat)):Int))),(108,Hint.gd),(109,Hint.gdv (AV.v (Value.int IntKind.u32 (↑d:Int)))),(110,Hint.gd),(111,Hint.gdv (AV.v (Value.bool ((↑d:Int)==(0:Int))))),(112,Hint.gdv (bz true))] [] [false=false,decide ((↑i:Int)<(↑C.ints.length:Int))=true,(0:Int)≤(↑i:Int)∧(↑i:Int)<(↑C.ints.length:Int),rd1 true (5:Nat) (List.flatMap encWh C.ints) ((↑i:Int).toNat*(5:Nat))=some (AV.agg [iz sum,iz abs,AV.lst sq.length (List.flatMap encU32n sq),iz mn,iz mx]),decide (abs<(0:Int))=false,(decide (abs<sum)==false)=true→true=true,(decide (abs<sum)==false)=true→(decide (abs<sum)==false,AV.ptr (8:Nat) (0:Nat)).fst=true,(decide (abs<sum)==false)=true→true=true,(decide (abs<sum)==false)=true→(decide (abs<sum)==false,AV.ptr (8:Nat) (1:Nat)).fst=true,(decide (abs<sum)==false)=true→(decide (abs<sum)==false,iz abs).fst=true,(decide (abs<sum)==false)=true→IntKind.i64.wrap ((0:Int)-abs)=(0:Int)-abs,(decide (abs<sum)==false)=true→(decide (abs<sum)==false,iz sum).fst=true,(decide (abs<sum)==false)=true→(decide (abs<sum)==false,iz ((0:Int)-abs)).fst=true,(bif decide (abs<sum) then true else decide (sum<(0:Int)-abs))=(decide (abs<sum)||decide (sum<(0:Int)-abs)),true=true→true=true∧(decide (abs<sum)=true→true=true)∧(decide (abs<sum)=false→(decide (abs<sum)==false,AV.v (Value.bool (decide (sum<(0:Int)-abs)))).fst=true),((decide (abs<sum)||decide (sum<(0:Int)-abs))==false)=true→true=true,((decide (abs<sum)||decide (sum<(0:Int)-abs))==false)=true→((decide (abs<sum)||decide (sum<(0:Int)-abs))==false,AV.ptr (8:Nat) (3:Nat)).fst=true,((decide (abs<sum)||decide (sum<(0:Int)-abs))==false)=true→true=true,((decide (abs<sum)||decide (sum<(0:Int)-abs))==false)=true→((decide (abs<sum)||decide (sum<(0:Int)-abs))==false,AV.ptr (8:Nat) (4:Nat)).fst=true,((decide (abs<sum)||decide (sum<(0:Int)-abs))==false)=true→((decide (abs<sum)||decide (sum<(0:Int)-abs))==false,iz mn).fst=true,((decide (abs<sum)||decide (sum<(0:Int)-abs))==false)=true→((decide (abs<sum)||decide (sum<(0:Int)-abs))==false,iz mx).fst=true,(bif decide (abs<sum)||decide (sum<(0:Int)-abs) then true else decide (mx<mn))=(decide (abs<sum)||decide (sum<(0:Int)-abs)||decide (mx<mn)),true=true→true=true∧((decide (abs<sum)||decide (sum<(0:Int)-abs))=true→true=true)∧((decide (abs<sum)||decide (sum<(0:Int)-abs))=false→((decide (abs<sum)||decide (sum<(0:Int)-abs))==false,AV.v (Value.bool (decide (mx<mn)))).fst=true),((decide (abs<sum)||decide (sum<(0:Int)-abs)||decide (mx<mn))==false)=true→true=true,((decide (abs<sum)||decide (sum<(0:Int)-abs)||decide (mx<mn))==false)=true→((decide (abs<sum)||decide (sum<(0:Int)-abs)||decide (mx<mn))==false,AV.ptr (8:Nat) (2:Nat)).fst=true,((decide (abs<sum)||decide (sum<(0:Int)-abs)||decide (mx<mn))==false)=true→((decide (abs<sum)||decide (sum<(0:Int)-abs)||decide (mx<mn))==false,AV.lst sq.length (List.flatMap encU32n sq)).fst=true,((decide (abs<sum)||decide (sum<(0:Int)-abs)||decide (mx<mn))==false)=true→((decide (abs<sum)||decide (sum<(0:Int)-abs)||decide (mx<mn))==false,iz (↑sq.length:Int)).fst=true,(bif decide (abs<sum)||decide (sum<(0:Int)-abs)||decide (mx<mn) then true else decide ((7:Int)<(↑sq.length:Int)))=(decide (abs<sum)||decide (sum<(0:Int)-abs)||decide (mx<mn)||decide ((7:Int)<(↑sq.length:Int))),true=true→true=true∧((decide (abs<sum)||decide (sum<(0:Int)-abs)||decide (mx<mn))=true→true=true)∧((decide (abs<sum)||decide (sum<(0:Int)-abs)||decide (mx<mn))=false→((decide (abs<sum)||decide (sum<(0:Int)-abs)||decide (mx<mn))==false,AV.v (Value.bool (decide ((7:Int)<(↑sq.length:Int))))).fst=true),((decide (abs<sum)||decide (sum<(0:Int)-abs)||decide (mx<mn)||decide ((7:Int)<(↑sq.length:Int)))==false)=true→true=true,((decide (abs<sum)||decide (sum<(0:Int)-abs)||decide (mx<mn)||decide ((7:Int)<(↑sq.length:Int)))==false)=true→((decide (abs<sum)||decide (sum<(0:Int)-abs)||decide (mx<mn)||decide ((7:Int)<(↑sq.length:Int)))==false,AV.ptr (8:Nat) (2:Nat)).fst=true,((decide (abs<sum)||decide (sum<(0:Int)-abs)||decide (mx<mn)||decide ((7:Int)<(↑sq.length:Int)))==false)=true→((decide (abs<sum)||decide (sum<(0:Int)-abs)||decide (mx<mn)||decide ((7:Int)<(↑sq.length:Int)))==false,AV.lst sq.length (List.flatMap encU32n sq)).fst=true,((decide (abs<sum)||decide (sum<(0:Int)-abs)||decide (mx<mn)||decide ((7:Int)<(↑sq.length:Int)))==false)=true→((decide (abs<sum)||decide (sum<(0:Int)-abs)||decide (mx<mn)||decide ((7:Int)<(↑sq.length:Int)))==false,iz (↑sq.length:Int)).fst=true,((decide (abs<sum)||decide (sum<(0:Int)-abs)||decide (mx<mn)||decide ((7:Int)<(↑sq.length:Int)))==false)=true→decide ((0:Int)<(↑sq.length:Int))=true,((decide (abs<sum)||decide (sum<(0:Int)-abs)||decide (mx<mn)||decide ((7:Int)<(↑sq.length:Int)))==false)=true→((decide (abs<sum)||decide (sum<(0:Int)-abs)||decide (mx<mn)||decide ((7:Int)<(↑sq.length:Int)))==false,AV.v (Value.bool true)).fst=true,((decide (abs<sum)||decide (sum<(0:Int)-abs)||decide (mx<mn)||decide ((7:Int)<(↑sq.length:Int)))==false&&true)=true→true=true,((decide (abs<sum)||decide (sum<(0:Int)-abs)||decide (mx<mn)||decide ((7:Int)<(↑sq.length:Int)))==false&&true)=true→((decide (abs<sum)||decide (sum<(0:Int)-abs)||decide (mx<mn)||decide ((7:Int)<(↑sq.length:Int)))==false&&true,AV.ptr (8:Nat) (2:Nat)).fst=true,((decide (abs<sum)||decide (sum<(0:Int)-abs)||decide (mx<mn)||decide ((7:Int)<(↑sq.length:Int)))==false&&true)=true→true=true,((decide (abs<sum)||decide (sum<(0:Int)-abs)||decide (mx<mn)||decide ((7:Int)<(↑sq.length:Int)))==false&&true)=true→((decide (abs<sum)||decide (sum<(0:Int)-abs)||decide (mx<mn)||decide ((7:Int)<(↑sq.length:Int)))==false&&true,AV.ptr (8:Nat) (2:Nat)).fst=true,((decide (abs<sum)||decide (sum<(0:Int)-abs)||decide (mx<mn)||decide ((7:Int)<(↑sq.length:Int)))==false&&true)=true→((decide (abs<sum)||decide (sum<(0:Int)-abs)||decide (mx<mn)||decide ((7:Int)<(↑sq.length:Int)))==false&&true,AV.lst sq.length (List.flatMap encU32n sq)).fst=true,((decide (abs<sum)||decide (sum<(0:Int)-abs)||decide (mx<mn)||decide ((7:Int)<(↑sq.length:Int)))==false&&true)=true→((decide (abs<sum)||decide (sum<(0:Int)-abs)||decide (mx<mn)||decide ((7:Int)<(↑sq.length:Int)))==false&&true,iz (↑sq.length:Int)).fst=true,((decide (abs<sum)||decide (sum<(0:Int)-abs)||decide (mx<mn)||decide ((7:Int)<(↑sq.length:Int)))==false&&true)=true→IntKind.i64.wrap ((↑sq.length:Int)-(1:Int))=(↑(sq.length-(1:Nat)):Int),((decide (abs<sum)||decide (sum<(0:Int)-abs)||decide (mx<mn)||decide ((7:Int)<(↑sq.length:Int)))==false&&true)=true→((decide (abs<sum)||decide (sum<(0:Int)-abs)||decide (mx<mn)||decide ((7:Int)<(↑sq.length:Int)))==false&&true,AV.lst sq.length (List.flatMap encU32n sq)).fst=true,((decide (abs<sum)||decide (sum<(0:Int)-abs)||decide (mx<mn)||decide ((7:Int)<(↑sq.length:Int)))==false&&true)=true→((decide (abs<sum)||decide (sum<(0:Int)-abs)||decide (mx<mn)||decide ((7:Int)<(↑sq.length:Int)))==false&&true,iz (↑(sq.length-(1:Nat)):Int)).fst=true,((decide (abs<sum)||decide (sum<(0:Int)-abs)||decide (mx<mn)||decide ((7:Int)<(↑sq.length:Int)))==false&&true)=true→(0:Int)≤(↑(sq.length-(1:Nat)):Int)∧(↑(sq.length-(1:Nat)):Int)<(↑sq.length:Int),((decide (abs<sum)||decide (sum<(0:Int)-abs)||decide (mx<mn)||decide ((7:Int)<(↑sq.length:Int)))==false&&true)=true→((decide (abs<sum)||decide (sum<(0:Int)-abs)||decide (mx<mn)||decide ((7:Int)<(↑sq.length:Int)))==false&&true,AV.fptr (List.flatMap encU32n sq) ((↑(sq.length-(1:Nat)):Int).toNat*(1:Nat))).fst=true,((decide (abs<sum)||decide (sum<(0:Int)-abs)||decide (mx<mn)||decide ((7:Int)<(↑sq.length:Int)))==false&&true)=true→rd1 false (1:Nat) (List.flatMap encU32n sq) ((↑(sq.length-(1:Nat)):Int).toNat*(1:Nat))=some (AV.v (Value.int IntKind.u32 (↑d:Int))),((decide (abs<sum)||decide (sum<(0:Int)-abs)||decide (mx<mn)||decide ((7:Int)<(↑sq.length:Int)))==false&&true)=true→((decide (abs<sum)||decide (sum<(0:Int)-abs)||decide (mx<mn)||decide ((7:Int)<(↑sq.length:Int)))==false&&true,AV.v (Value.int IntKind.u32 (↑d:Int))).fst=true,(bif true then (↑d:Int)==(0:Int) else false)=((↑d:Int)==(0:Int)),((decide (abs<sum)||decide (sum<(0:Int)-abs)||decide (mx<mn)||decide ((7:Int)<(↑sq.length:Int)))==false)=true→((decide (abs<sum)||decide (sum<(0:Int)-abs)||decide (mx<mn)||decide ((7:Int)<(↑sq.length:Int)))==false,AV.v (Value.bool true)).fst=true∧(true=true→((decide (abs<sum)||decide (sum<(0:Int)-abs)||decide (mx<mn)||decide ((7:Int)<(↑sq.length:Int)))==false&&true,AV.v (Value.bool ((↑d:Int)==(0:Int)))).fst=true)∧(true=false→true=true),(bif decide (abs<sum)||decide (sum<(0:Int)-abs)||decide (mx<mn)||decide ((7:Int)<(↑sq.length:Int)) then true else (↑d:Int)==(0:Int))=true,true=true→true=true∧((decide (abs<sum)||decide (sum<(0:Int)-abs)||decide (mx<mn)||decide ((7:Int)<(↑sq.length:Int)))=true→true=true)∧((decide (abs<sum)||decide (sum<(0:Int)-abs)||decide (mx<mn)||decide ((7:Int)<(↑sq.length:Int)))=false→((decide (abs<sum)||decide (sum<(0:Int)-abs)||decide (mx<mn)||decide ((7:Int)<(↑sq.length:Int)))==false,AV.v (Value.bool ((↑d:Int)==(0:Int)))).fst=true)] (by kernel_rfl) ?_
   ((repeat' refine And.intro ?_ ?_);(with_reducible rfl);((with_reducible refine Dt ?_;omega));(iterate 2 (omega));((show rd1 _ _ _ _=_;assumption));((with_reducible refine Df ?_;omega));(exact (fun (_:(_:Bool)=true)=>rfl));(exact (fun (h:(_:Bool)=true)=>h));(exact (fun (_:(_:Bool)=true)=>rfl));(iterate 2 (exact (fun (h:(_:Bool)=true)=>h)));((rw [Wi _ (by omega)];omega));(iterate 2 (exact (fun (h:(_:Bool)=true)=>h)));(focus (simp only [Bool.or_eq_true,Bool.and_eq_true,Bool.or_eq_false_iff,Bool.and_eq_false_iff,Bool.not_eq_true',Bool.not_eq_false',decide_eq_true_eq,decide_eq_false_iff_not,beq_iff_eq,beq_eq_false_iff_ne,bne_iff_ne,bne_eq_false_iff_eq,ne_eq,←decide_not,decide_eq_decide,Bool.cond_true_left,Bool.cond_false_right,reduceCtorEq,or_false,false_or,and_true,true_and,implies_true,Bool.false_or,Bool.or_false,Bool.true_or,Bool.or_true,Bool.and_false,Bool.false_and,Bool.and_true,Bool.true_and];done));((simp only [Bool.or_eq_true,Bool.and_eq_true,Bool.or_eq_false_iff,Bool.and_eq_false_iff,Bool.not_eq_true',Bool.not_eq_false',decide_eq_true_eq,decide_eq_false_iff_not,beq_iff_eq,beq_eq_false_iff_ne,bne_iff_ne,bne_eq_false_iff_eq,ne_eq,←decide_not,decide_eq_decide,Bool.cond_true_left,Bool.cond_false_right,reduceCtorEq,or_false,false_or,and_true,true_and,implies_true,Bool.false_or,Bool.or_false,Bool.true_or,Bool.or_true,Bool.and_false,Bool.false_and,Bool.and_true,Bool.true_and];omega));(exact (fun (_:(_:Bool)=true)=>rfl));(exact (fun (h:(_:Bool)=true)=>h));(exact (fun (_:(_:Bool)=true)=>rfl));(iterate 3 (exact (fun (h:(_:Bool)=true)=>h)));(focus (simp only [Bool.or_eq_true,Bool.and_eq_true,Bool.or_eq_false_iff,Bool.and_eq_false_iff,Bool.not_eq_true',Bool.not_eq_false',decide_eq_true_eq,decide_eq_false_iff_not,beq_iff_eq,beq_eq_false_iff_ne,bne_iff_ne,bne_eq_false_iff_eq,ne_eq,←decide_not,decide_eq_decide,Bool.cond_true_left,Bool.cond_false_right,reduceCtorEq,or_false,false_or,and_true,true_and,implies_true,Bool.false_or,Bool.or_false,Bool.true_or,Bool.or_true,Bool.and_false,Bool.false_and,Bool.and_true,Bool.true_and];done));((simp only [Bool.or_eq_true,Bool.and_eq_true,Bool.or_eq_false_iff,Bool.and_eq_false_iff,Bool.not_eq_true',Bool.not_eq_false',decide_eq_true_eq,decide_eq_false_iff_not,beq_iff_eq,beq_eq_false_iff_ne,bne_iff_ne,bne_eq_false_iff_eq,ne_eq,←decide_not,decide_eq_decide,Bool.cond_true_left,Bool.cond_false_right,reduceCtorEq,or_false,false_or,and_true,true_and,implies_true,Bool.false_or,Bool.or_false,Bool.true_or,Bool.or_true,Bool.and_false,Bool.false_and,Bool.and_true,Bool.true_and];omega));(exact (fun (_:(_:Bool)=true)=>rfl));(iterate 3 (exact (fun (h:(_:Bool)=true)=>h)));(focus (simp only [Bool.or_eq_true,Bool.and_eq_true,Bool.or_eq_false_iff,Bool.and_eq_false_iff,Bool.not_eq_true',Bool.not_eq_false',decide_eq_true_eq,decide_eq_false_iff_not,beq_iff_eq,beq_eq_false_iff_ne,bne_iff_ne,bne_eq_false_iff_eq,ne_eq,←decide_not,decide_eq_decide,Bool.cond_true_left,Bool.cond_false_right,reduceCtorEq,or_false,false_or,and_true,true_and,implies_true,Bool.false_or,Bool.or_false,Bool.true_or,Bool.or_true,Bool.and_false,Bool.false_and,Bool.and_true,Bool.true_and];done));((simp only [Bool.or_eq_true,Bool.and_eq_true,Bool.or_eq_false_iff,Bool.and_eq_false_iff,Bool.not_eq_true',Bool.not_eq_false',decide_eq_true_eq,decide_eq_false_iff_not,beq_iff_eq,beq_eq_false_iff_ne,bne_iff_ne,bne_eq_false_iff_eq,ne_eq,←decide_not,decide_eq_decide,Bool.cond_true_left,Bool.cond_false_right,reduceCtorEq,or_false,false_or,and_true,true_and,implies_true,Bool.false_or,Bool.or_false,Bool.true_or,Bool.or_true,Bool.and_false,Bool.false_and,Bool.and_true,Bool.true_and];omega));(exact (fun (_:(_:Bool)=true)=>rfl));(iterate 3 (exact (fun (h:(_:Bool)=true)=>h)));((intro (_:(_:Bool)=true);with_reducible refine Dt ?_;omega));(exact (fun (h:(_:Bool)=true)=>h));(exact (fun (_:(_:Bool)=true)=>rfl));(exact (fun (h:(_:Bool)=true)=>h));(exact (fun (_:(_:Bool)=true)=>rfl));(iterate 3 (exact (fun (h:(_:Bool)=true)=>h)));((rw [Wi _ (by omega)];omega));(iterate 2 (exact (fun (h:(_:Bool)=true)=>h)));(omega);(exact (fun (h:(_:Bool)=true)=>h));((intro (_:(_:Bool)=true);omega));(exact (fun (h:(_:Bool)=true)=>h));(focus (simp only [Bool.or_eq_true,Bool.and_eq_true,Bool.or_eq_false_iff,Bool.and_eq_false_iff,Bool.not_eq_true',Bool.not_eq_false',decide_eq_true_eq,decide_eq_false_iff_not,beq_iff_eq,beq_eq_false_iff_ne,bne_iff_ne,bne_eq_false_iff_eq,ne_eq,←decide_not,decide_eq_decide,Bool.cond_true_left,Bool.cond_false_right,reduceCtorEq,or_false,false_or,and_true,true_and,implies_true,Bool.false_or,Bool.or_false,Bool.true_or,Bool.or_true,Bool.and_false,Bool.false_and,Bool.and_true,Bool.true_and];done));(iterate 3 ((simp only [Bool.or_eq_true,Bool.and_eq_true,Bool.or_eq_false_iff,Bool.and_eq_false_iff,Bool.not_eq_true',Bool.not_eq_false',decide_eq_true_eq,decide_eq_false_iff_not,beq_iff_eq,beq_eq_false_iff_ne,bne_iff_ne,bne_eq_false_iff_eq,ne_eq,←decide_not,decide_eq_decide,Bool.cond_true_left,Bool.cond_false_right,reduceCtorEq,or_false,false_or,and_true,true_and,implies_true,Bool.false_or,Bool.or_false,Bool.true_or,Bool.or_true,Bool.and_false,Bool.false_and,Bool.and_true,Bool.true_and];omega)));(exact True.intro))
   all_goals first|exact hr|exact hrd|(intro _;exact hrd)
theorem rg1_all (h:∀ i,i<C.ints.length→okW (C.ints.getD i noWk)=true):LoopOk Tryz.prog (loopBody Tryz.f25 4) (rgI sc C 0) (.exit 0) (rgM sc C):=by
 refine LoopOk.of hmo (fun i:{i:Nat // i≤C.ints.length}=>rgI sc C i.1) (fun i=>C.ints.length-i.1) (fun i=>?_) ⟨0,Nat.zero_le _⟩
 obtain ⟨i,hi⟩:=i
 rcases Nat.lt_or_eq_of_le hi with hlt|rfl
 ·exact rg1_on hC _ _ (fun i=>i≤C.ints.length) i hlt (h i hlt) _ hlt
 ·refine Round.out [(57,.val (bz false))] [] [(3:Nat)=(3:Nat)∧(0:Nat)=(0:Nat),(5:Nat)=(5:Nat)∧(0:Nat)=(0:Nat),[AV.lst sc.n0 sc.l0,AV.lst sc.n1 sc.l1,AV.lst sc.n2 sc.l2,AV.lst sc.n3 sc.l3]=[AV.lst sc.n0 sc.l0,AV.lst sc.n1 sc.l1,AV.lst sc.n2 sc.l2,AV.lst sc.n3 sc.l3],[uz (↑C.key:Int),iz C.count,AV.lst C.ints.length (List.flatMap encWh C.ints),AV.lst C.nums.length (List.flatMap encReK C.nums)]=[uz (↑C.key:Int),iz C.count,AV.lst C.ints.length (List.flatMap encWh C.ints),AV.lst C.nums.length (List.flatMap encReK C.nums)],decide ((↑C.ints.length:Int)<(↑C.ints.length:Int))=false] (by kernel_rfl) ?_
  ((repeat' refine And.intro ?_ ?_);(iterate 6 (with_reducible rfl));((with_reducible refine Df ?_;omega));(exact True.intro))
theorem rg1_no {m:Nat} (hm:m<C.ints.length) (hb:okW (C.ints.getD m noWk)=false) (h:∀ i,i<m→okW (C.ints.getD i noWk)=true):LoopOk Tryz.prog (loopBody Tryz.f25 4) (rgI sc C 0) .ret rgF:=by
 refine LoopOk.of hmo (fun i:{i:Nat // i≤m}=>rgI sc C i.1) (fun i=>C.ints.length-i.1) (fun i=>?_) ⟨0,Nat.zero_le _⟩
 obtain ⟨i,hi⟩:=i
 rcases Nat.lt_or_eq_of_le hi with hlt|rfl
 ·exact rg1_on hC _ _ (fun i=>i≤m) i (by omega) (h i hlt) _ hlt
 ·exact rg1_out hC _ i hm hb _
theorem rg2_on (e:Exit) (σ':AS) (P:Nat→Prop) (i:Nat) (hi:i<C.nums.length) (hok:okR (C.nums.getD i noRk)=true) (h1) (h2:P (i+1)):Round Tryz.prog (loopBody Tryz.f25 10) (fun i:{i:Nat // P i}=>rgJ sc C i.1) (fun i=>C.nums.length-i.1) e σ' ⟨i,h1⟩:=by
 have r0:=rd_reK C.nums i 0 hi (by decide)
 have r1:=rd_reK C.nums i 1 hi (by decide)
 have r2:=rd_reK C.nums i 2 hi (by decide)
 have q1:=rAtK hC hi
 have hli:=hC.ln
 unfold okR at hok
 simp only [Bool.and_eq_true,decide_eq_true_iff] at hok
 generalize C.nums.getD i noRk=X at *
 obtain ⟨sum,mn,mx⟩:=X
 simp only at q1 hok
 have k1:=read05J_fn (b:=sum) (by omega)
 have k2:=lessK_fn (keyB mx) (keyB mn)
 have r0:rd1 false 1 (C.nums.flatMap encReK) ((i:Int).toNat*3+0)=some (.lst sum.length (byL sum)):=r0
 have r1:rd1 false 1 (C.nums.flatMap encReK) ((i:Int).toNat*3+1)=some (.fk (keyB mn)):=r1
 have r2:rd1 false 1 (C.nums.flatMap encReK) ((i:Int).toNat*3+2)=some (.fk (keyB mx)):=r2
 rw [hok.1] at k1
 rw [decide_eq_false (by omega)] at k2
 generalize keyB mn=a at *
 generalize keyB mx=b at *
 refine Round.on [(117,.val (bz true)),(126,.val (AV.lst sum.length (byL sum))),(127,.call (Inst.mk [bysT sum] [] (AV.tup [AV.agg j7,iz (↑(0:Nat):Int)]) [])),(129,.val (iz (0:Int))),(138,.val (AV.fk b)),(144,.val (AV.fk a)),(145,.call (Inst.mk [AV.fk b,AV.fk a] [] (bz false) [])),(119,.val (iz (↑(i+(1:Nat)):Int)))] [] ⟨i+1,h2⟩ [(3:Nat)=(3:Nat)∧(0:Nat)=(0:Nat),(5:Nat)=(5:Nat)∧(0:Nat)=(0:Nat),(↑(i+(1:Nat)):Int)=(↑(i+(1:Nat)):Int),[AV.lst sc.n0 sc.l0,AV.lst sc.n1 sc.l1,AV.lst sc.n2 sc.l2,AV.lst sc.n3 sc.l3]=[AV.lst sc.n0 sc.l0,AV.lst sc.n1 sc.l1,AV.lst sc.n2 sc.l2,AV.lst sc.n3 sc.l3],[uz (↑C.key:Int),iz C.count,AV.lst C.ints.length (List.flatMap encWh C.ints),AV.lst C.nums.length (List.flatMap encReK C.nums)]=[uz (↑C.key:Int),iz C.count,AV.lst C.ints.length (List.flatMap encWh C.ints),AV.lst C.nums.length (List.flatMap encReK C.nums)],decide ((↑i:Int)<(↑C.nums.length:Int))=true,(0:Int)≤(↑i:Int)∧(↑i:Int)<(↑C.nums.length:Int),rd1 false (1:Nat) (List.flatMap encReK C.nums) ((↑i:Int).toNat*(3:Nat)+(0:Nat))=some (AV.lst sum.length (byL sum)),(sum.length=sum.length∧byL sum=byL sum)∧True,FnOk Tryz.prog (69:Nat) (Inst.mk [AV.lst sum.length (byL sum)] [] (AV.tup [AV.agg [AV.junk,AV.junk,AV.junk,AV.junk,AV.junk,AV.junk,AV.junk],iz (↑(0:Nat):Int)]) []),(↑(0:Nat):Int)=(0:Int),(0:Int)≤(↑i:Int)∧(↑i:Int)<(↑C.nums.length:Int),rd1 false (1:Nat) (List.flatMap encReK C.nums) ((↑i:Int).toNat*(3:Nat)+(2:Nat))=some (AV.fk b),(0:Int)≤(↑i:Int)∧(↑i:Int)<(↑C.nums.length:Int),rd1 false (1:Nat) (List.flatMap encReK C.nums) ((↑i:Int).toNat*(3:Nat)+(1:Nat))=some (AV.fk a),AV.fk b=AV.fk b∧AV.fk a=AV.fk a∧True,FnOk Tryz.prog (74:Nat) (Inst.mk [AV.fk b,AV.fk a] [] (AV.v (Value.bool false)) []),IntKind.i64.wrap ((↑i:Int)+(1:Int))=(↑(i+(1:Nat)):Int)] (by kernel_rfl) (by show C.nums.length-(i+1)<C.nums.length-i;omega) ?_
 ((repeat' refine And.intro ?_ ?_);(iterate 7 (with_reducible rfl));((with_reducible refine Dt ?_;omega));(iterate 2 (omega));(with_reducible assumption);(iterate 2 (with_reducible rfl));(exact True.intro);((show FnOk _ _ _;assumption));(iterate 3 (omega));(with_reducible assumption);(iterate 2 (omega));(with_reducible assumption);(iterate 2 (with_reducible rfl));(exact True.intro);((show FnOk _ _ _;assumption));(exact Wi _ (by omega));(exact True.intro))
 all_goals first|exact r0|exact r1|exact r2
theorem rg2_out (P:Nat→Prop) (i:Nat) (hi:i<C.nums.length) (hok:okR (C.nums.getD i noRk)=false) (h1):Round Tryz.prog (loopBody Tryz.f25 10) (fun i:{i:Nat // P i}=>rgJ sc C i.1) (fun i=>C.nums.length-i.1) .ret rgF ⟨i,h1⟩:=by
 have r0:=rd_reK C.nums i 0 hi (by decide)
 have r1:=rd_reK C.nums i 1 hi (by decide)
 have r2:=rd_reK C.nums i 2 hi (by decide)
 have q1:=rAtK hC hi
 have hli:=hC.ln
 have hno:¬okR (C.nums.getD i noRk)=true:=by rw [hok];simp
 unfold okR at hno
 simp only [Bool.and_eq_true,decide_eq_true_iff] at hno
 generalize C.nums.getD i noRk=X at *
 obtain ⟨sum,mn,mx⟩:=X
 simp only at q1 hno
 have k1:=read05J_fn (b:=sum) (by omega)
 have r0:rd1 false 1 (C.nums.flatMap encReK) ((i:Int).toNat*3+0)=some (.lst sum.length (byL sum)):=r0
 have r1:rd1 false 1 (C.nums.flatMap encReK) ((i:Int).toNat*3+1)=some (.fk (keyB mn)):=r1
 have r2:rd1 false 1 (C.nums.flatMap encReK) ((i:Int).toNat*3+2)=some (.fk (keyB mx)):=r2
 by_cases h0:readE sum=0
 ·have k2:=lessK_fn (keyB mx) (keyB mn)
  rw [h0] at k1
  rw [decide_eq_true (by omega)] at k2
  generalize keyB mn=a at *
  generalize keyB mx=b at *
  clear hno
  refine Round.out [(117,.val (bz true)),(126,.val (AV.lst sum.length (byL sum))),(127,.call (Inst.mk [bysT sum] [] (AV.tup [AV.agg j7,iz (↑(0:Nat):Int)]) [])),(129,.val (iz (0:Int))),(138,.val (AV.fk b)),(144,.val (AV.fk a)),(145,.call (Inst.mk [AV.fk b,AV.fk a] [] (bz true) []))] [] [false=false,decide ((↑i:Int)<(↑C.nums.length:Int))=true,(0:Int)≤(↑i:Int)∧(↑i:Int)<(↑C.nums.length:Int),rd1 false (1:Nat) (List.flatMap encReK C.nums) ((↑i:Int).toNat*(3:Nat)+(0:Nat))=some (AV.lst sum.length (byL sum)),(sum.length=sum.length∧byL sum=byL sum)∧True,FnOk Tryz.prog (69:Nat) (Inst.mk [AV.lst sum.length (byL sum)] [] (AV.tup [AV.agg [AV.junk,AV.junk,AV.junk,AV.junk,AV.junk,AV.junk,AV.junk],iz (↑(0:Nat):Int)]) []),(↑(0:Nat):Int)=(0:Int),(0:Int)≤(↑i:Int)∧(↑i:Int)<(↑C.nums.length:Int),rd1 false (1:Nat) (List.flatMap encReK C.nums) ((↑i:Int).toNat*(3:Nat)+(2:Nat))=some (AV.fk b),(0:Int)≤(↑i:Int)∧(↑i:Int)<(↑C.nums.length:Int),rd1 false (1:Nat) (List.flatMap encReK C.nums) ((↑i:Int).toNat*(3:Nat)+(1:Nat))=some (AV.fk a),AV.fk b=AV.fk b∧AV.fk a=AV.fk a∧True,FnOk Tryz.prog (74:Nat) (Inst.mk [AV.fk b,AV.fk a] [] (AV.v (Value.bool true)) [])] (by kernel_rfl) ?_
  ((repeat' refine And.intro ?_ ?_);(with_reducible rfl);((with_reducible refine Dt ?_;omega));(iterate 2 (omega));(with_reducible assumption);(iterate 2 (with_reducible rfl));(exact True.intro);((show FnOk _ _ _;assumption));(iterate 3 (omega));(with_reducible assumption);(iterate 2 (omega));(with_reducible assumption);(iterate 2 (with_reducible rfl));(exact True.intro);((show FnOk _ _ _;assumption));(exact True.intro))
  all_goals first|exact r0|exact r1|exact r2
 ·clear hno r1 r2
  generalize readE sum=e at *
  refine Round.out [(117,.val (bz true)),(126,.val (AV.lst sum.length (byL sum))),(127,.call (Inst.mk [bysT sum] [] (AV.tup [AV.agg j7,iz (↑e:Int)]) [])),(131,.val (bz true))] [] [false=false,decide ((↑i:Int)<(↑C.nums.length:Int))=true,(0:Int)≤(↑i:Int)∧(↑i:Int)<(↑C.nums.length:Int),rd1 false (1:Nat) (List.flatMap encReK C.nums) ((↑i:Int).toNat*(3:Nat)+(0:Nat))=some (AV.lst sum.length (byL sum)),(sum.length=sum.length∧byL sum=byL sum)∧True,FnOk Tryz.prog (69:Nat) (Inst.mk [AV.lst sum.length (byL sum)] [] (AV.tup [AV.agg [AV.junk,AV.junk,AV.junk,AV.junk,AV.junk,AV.junk,AV.junk],iz e]) []),((↑e:Int) != (0:Int))=true] (by kernel_rfl) ?_
  ((repeat' refine And.intro ?_ ?_);(with_reducible rfl);((with_reducible refine Dt ?_;omega));(iterate 2 (omega));(with_reducible assumption);(iterate 2 (with_reducible rfl));(exact True.intro);((show FnOk _ _ _;assumption));((with_reducible refine Ne ?_;omega));(exact True.intro))
  all_goals exact r0
theorem rg2_all (h:∀ i,i<C.nums.length→okR (C.nums.getD i noRk)=true):LoopOk Tryz.prog (loopBody Tryz.f25 10) (rgJ sc C 0) (.exit 2) rgE:=by
 refine LoopOk.of hmo (fun i:{i:Nat // i≤C.nums.length}=>rgJ sc C i.1) (fun i=>C.nums.length-i.1) (fun i=>?_) ⟨0,Nat.zero_le _⟩
 obtain ⟨i,hi⟩:=i
 rcases Nat.lt_or_eq_of_le hi with hlt|rfl
 ·exact rg2_on hC _ _ (fun i=>i≤C.nums.length) i hlt (h i hlt) _ hlt
 ·refine Round.out [(117,.val (bz false))] [] [decide ((↑C.nums.length:Int)<(↑C.nums.length:Int))=false] (by kernel_rfl) ?_
  ((repeat' refine And.intro ?_ ?_);((with_reducible refine Df ?_;omega));(exact True.intro))
theorem rg2_no {m:Nat} (hm:m<C.nums.length) (hb:okR (C.nums.getD m noRk)=false) (h:∀ i,i<m→okR (C.nums.getD i noRk)=true):LoopOk Tryz.prog (loopBody Tryz.f25 10) (rgJ sc C 0) .ret rgF:=by
 refine LoopOk.of hmo (fun i:{i:Nat // i≤m}=>rgJ sc C i.1) (fun i=>C.nums.length-i.1) (fun i=>?_) ⟨0,Nat.zero_le _⟩
 obtain ⟨i,hi⟩:=i
 rcases Nat.lt_or_eq_of_le hi with hlt|rfl
 ·exact rg2_on hC _ _ (fun i=>i≤m) i (by omega) (h i hlt) _ hlt
 ·exact rg2_out hC _ i hm hb _
end
theorem right_fnK {S:Sch} {C:CellS} {mask:Nat} (hs:SchOk S) (hC:SmC C) (hk:C.key<18446744073709551616) (hn:-9223372036854775808≤C.count∧C.count≤9223372036854775807) (hm:mask<4294967296):FnOk Tryz.prog 25 ⟨[.agg (encSch S),.v (.int .u32 (mask:Int)),.agg (encClK C)],[],bz (rightC S mask C),[]⟩:=by
 have h1:=check_fn hs
 obtain ⟨d,hsc,hd1,hd2⟩:=scD_of S
 have li:=hC.li
 have ln:=hC.ln
 by_cases hc:checkN S=0
 ·obtain ⟨hmo',_⟩:=checkN_zero hc
  have s1:=hmo'.2.2.1
  have s2:=hmo'.2.2.2.1
  have hf1:=(fullN_le hmo'.1 hmo'.2.1).2
  have h2:=full_fn hs hc
  have h3:=sub_fn (a:=mask) (b:=fullN S) hm (by omega)
  have h4:=keys11_fn hs hm hc
  rw [sub_keys hc hm] at h3
  rw [hc,hsc] at h1
  rw [hsc] at h2 h4 ⊢
  cases hk:keysOf S mask with
  | none =>
    rw [rightC_none S mask C hk]
    rw [hk] at h3
    clear h4
    refine fn_go hmo Tryz.func25 (by kernel_rfl) [(13,.call (Inst.mk [AV.agg d.l] [] (iz (↑(0:Nat):Int)) [])),(18,.call (Inst.mk [AV.agg d.l] [] (AV.v (Value.int IntKind.u32 (↑(fullN S):Int))) [])),(19,.call (Inst.mk [AV.v (Value.int IntKind.u32 (↑mask:Int)),AV.v (Value.int IntKind.u32 (↑(fullN S):Int))] [] (AV.v (Value.bool (none:Option Nat).isSome)) []))] [] [false=false,[AV.lst d.n0 d.l0,AV.lst d.n1 d.l1,AV.lst d.n2 d.l2,AV.lst d.n3 d.l3]=[AV.lst d.n0 d.l0,AV.lst d.n1 d.l1,AV.lst d.n2 d.l2,AV.lst d.n3 d.l3]∧True,FnOk Tryz.prog (45:Nat) (Inst.mk [AV.agg [AV.lst d.n0 d.l0,AV.lst d.n1 d.l1,AV.lst d.n2 d.l2,AV.lst d.n3 d.l3]] [] (iz (↑(0:Nat):Int)) []),[AV.lst d.n0 d.l0,AV.lst d.n1 d.l1,AV.lst d.n2 d.l2,AV.lst d.n3 d.l3]=[AV.lst d.n0 d.l0,AV.lst d.n1 d.l1,AV.lst d.n2 d.l2,AV.lst d.n3 d.l3]∧True,FnOk Tryz.prog (60:Nat) (Inst.mk [AV.agg [AV.lst d.n0 d.l0,AV.lst d.n1 d.l1,AV.lst d.n2 d.l2,AV.lst d.n3 d.l3]] [] (AV.v (Value.int IntKind.u32 (↑(fullN S):Int))) []),(↑mask:Int)=(↑mask:Int)∧(↑(fullN S):Int)=(↑(fullN S):Int)∧True,FnOk Tryz.prog (59:Nat) (Inst.mk [AV.v (Value.int IntKind.u32 (↑mask:Int)),AV.v (Value.int IntKind.u32 (↑(fullN S):Int))] [] (AV.v (Value.bool false)) [])] (by kernel_rfl) ?_
    ((repeat' refine And.intro ?_ ?_);(iterate 2 (with_reducible rfl));(exact True.intro);((show FnOk _ _ _;assumption));(with_reducible rfl);(exact True.intro);((show FnOk _ _ _;assumption));(iterate 2 (with_reducible rfl));(exact True.intro);((show FnOk _ _ _;assumption));(exact True.intro))
  | some n =>
    have hn':keysP S mask S.dims.length=n:=by
     unfold keysOf at hk
     split at hk
     ·injection hk
     ·cases hk
    have e0:=rightC_some S mask n C hk
    rw [hk] at h3
    rw [hn'] at h4
    by_cases hh:n≤C.key∨C.count<1∨C.ints.length≠S.ints.length∨C.nums.length≠S.nums.length
    ·have e1:rightC S mask C=false:=by
      rw [e0]
      rcases hh with hh|hh|hh|hh
      ·rw [decide_eq_false (show ¬C.key<n by omega)];rfl
      ·rw [decide_eq_false (show ¬1≤C.count by omega)];simp
      ·rw [decide_eq_false hh];simp
      ·rw [decide_eq_false hh];simp
     rw [e1]
     clear e0 e1
     refine fn_go hmo Tryz.func25 (by kernel_rfl) [(13,.call (Inst.mk [AV.agg d.l] [] (iz (↑(0:Nat):Int)) [])),(18,.call (Inst.mk [AV.agg d.l] [] (AV.v (Value.int IntKind.u32 (↑(fullN S):Int))) [])),(19,.call (Inst.mk [AV.v (Value.int IntKind.u32 (↑mask:Int)),AV.v (Value.int IntKind.u32 (↑(fullN S):Int))] [] (AV.v (Value.bool (some n).isSome)) [])),(27,.call (Inst.mk [AV.agg d.l,AV.v (Value.int IntKind.u32 (↑mask:Int))] [] (uz (↑n:Int)) [])),(31,Hint.gd),(32,Hint.gd),(33,Hint.gd),(34,Hint.gdv (AV.v (Value.bool (decide ((↑n:Int)≤(↑C.key:Int))||decide (C.count<(1:Int)))))),(36,Hint.gd),(37,Hint.gd),(38,Hint.gd),(39,Hint.gd),(40,Hint.gd),(41,Hint.gd),(42,Hint.gd),(43,Hint.gdv (AV.v (Value.bool (decide ((↑n:Int)≤(↑C.key:Int))||decide (C.count<(1:Int))||(↑C.ints.length:Int) != (↑d.n1:Int))))),(45,Hint.gd),(46,Hint.gd),(47,Hint.gd),(48,Hint.gd),(49,Hint.gd),(50,Hint.gd),(51,Hint.gd),(52,Hint.gdv (bz true))] [] [false=false,[AV.lst d.n0 d.l0,AV.lst d.n1 d.l1,AV.lst d.n2 d.l2,AV.lst d.n3 d.l3]=[AV.lst d.n0 d.l0,AV.lst d.n1 d.l1,AV.lst d.n2 d.l2,AV.lst d.n3 d.l3]∧True,FnOk Tryz.prog (45:Nat) (Inst.mk [AV.agg [AV.lst d.n0 d.l0,AV.lst d.n1 d.l1,AV.lst d.n2 d.l2,AV.lst d.n3 d.l3]] [] (iz (↑(0:Nat):Int)) []),[AV.lst d.n0 d.l0,AV.lst d.n1 d.l1,AV.lst d.n2 d.l2,AV.lst d.n3 d.l3]=[AV.lst d.n0 d.l0,AV.lst d.n1 d.l1,AV.lst d.n2 d.l2,AV.lst d.n3 d.l3]∧True,FnOk Tryz.prog (60:Nat) (Inst.mk [AV.agg [AV.lst d.n0 d.l0,AV.lst d.n1 d.l1,AV.lst d.n2 d.l2,AV.lst d.n3 d.l3]] [] (AV.v (Value.int IntKind.u32 (↑(fullN S):Int))) []),(↑mask:Int)=(↑mask:Int)∧(↑(fullN S):Int)=(↑(fullN S):Int)∧True,FnOk Tryz.prog (59:Nat) (Inst.mk [AV.v (Value.int IntKind.u32 (↑mask:Int)),AV.v (Value.int IntKind.u32 (↑(fullN S):Int))] [] (AV.v (Value.bool true)) []),[AV.lst d.n0 d.l0,AV.lst d.n1 d.l1,AV.lst d.n2 d.l2,AV.lst d.n3 d.l3]=[AV.lst d.n0 d.l0,AV.lst d.n1 d.l1,AV.lst d.n2 d.l2,AV.lst d.n3 d.l3]∧(↑mask:Int)=(↑mask:Int)∧True,FnOk Tryz.prog (73:Nat) (Inst.mk [AV.agg [AV.lst d.n0 d.l0,AV.lst d.n1 d.l1,AV.lst d.n2 d.l2,AV.lst d.n3 d.l3],AV.v (Value.int IntKind.u32 (↑mask:Int))] [] (uz n) []),(decide ((↑n:Int)≤(↑C.key:Int))==false)=true→true=true,(decide ((↑n:Int)≤(↑C.key:Int))==false)=true→(decide ((↑n:Int)≤(↑C.key:Int))==false,AV.ptr (5:Nat) (1:Nat)).fst=true,(decide ((↑n:Int)≤(↑C.key:Int))==false)=true→(decide ((↑n:Int)≤(↑C.key:Int))==false,iz C.count).fst=true,(bif decide ((↑n:Int)≤(↑C.key:Int)) then true else decide (C.count<(1:Int)))=(decide ((↑n:Int)≤(↑C.key:Int))||decide (C.count<(1:Int))),true=true→true=true∧(decide ((↑n:Int)≤(↑C.key:Int))=true→true=true)∧(decide ((↑n:Int)≤(↑C.key:Int))=false→(decide ((↑n:Int)≤(↑C.key:Int))==false,AV.v (Value.bool (decide (C.count<(1:Int))))).fst=true),((decide ((↑n:Int)≤(↑C.key:Int))||decide (C.count<(1:Int)))==false)=true→true=true,((decide ((↑n:Int)≤(↑C.key:Int))||decide (C.count<(1:Int)))==false)=true→((decide ((↑n:Int)≤(↑C.key:Int))||decide (C.count<(1:Int)))==false,AV.ptr (5:Nat) (2:Nat)).fst=true,((decide ((↑n:Int)≤(↑C.key:Int))||decide (C.count<(1:Int)))==false)=true→((decide ((↑n:Int)≤(↑C.key:Int))||decide (C.count<(1:Int)))==false,AV.lst C.ints.length (List.flatMap encWh C.ints)).fst=true,((decide ((↑n:Int)≤(↑C.key:Int))||decide (C.count<(1:Int)))==false)=true→true=true,((decide ((↑n:Int)≤(↑C.key:Int))||decide (C.count<(1:Int)))==false)=true→((decide ((↑n:Int)≤(↑C.key:Int))||decide (C.count<(1:Int)))==false,AV.ptr (3:Nat) (1:Nat)).fst=true,((decide ((↑n:Int)≤(↑C.key:Int))||decide (C.count<(1:Int)))==false)=true→((decide ((↑n:Int)≤(↑C.key:Int))||decide (C.count<(1:Int)))==false,AV.lst d.n1 d.l1).fst=true,((decide ((↑n:Int)≤(↑C.key:Int))||decide (C.count<(1:Int)))==false)=true→((decide ((↑n:Int)≤(↑C.key:Int))||decide (C.count<(1:Int)))==false,iz (↑C.ints.length:Int)).fst=true,((decide ((↑n:Int)≤(↑C.key:Int))||decide (C.count<(1:Int)))==false)=true→((decide ((↑n:Int)≤(↑C.key:Int))||decide (C.count<(1:Int)))==false,iz (↑d.n1:Int)).fst=true,(bif decide ((↑n:Int)≤(↑C.key:Int))||decide (C.count<(1:Int)) then true else (↑C.ints.length:Int) != (↑d.n1:Int))=(decide ((↑n:Int)≤(↑C.key:Int))||decide (C.count<(1:Int))||(↑C.ints.length:Int) != (↑d.n1:Int)),true=true→true=true∧((decide ((↑n:Int)≤(↑C.key:Int))||decide (C.count<(1:Int)))=true→true=true)∧((decide ((↑n:Int)≤(↑C.key:Int))||decide (C.count<(1:Int)))=false→((decide ((↑n:Int)≤(↑C.key:Int))||decide (C.count<(1:Int)))==false,AV.v (Value.bool ((↑C.ints.length:Int) != (↑d.n1:Int)))).fst=true),((decide ((↑n:Int)≤(↑C.key:Int))||decide (C.count<(1:Int))||(↑C.ints.length:Int) != (↑d.n1:Int))==false)=true→true=true,((decide ((↑n:Int)≤(↑C.key:Int))||decide (C.count<(1:Int))||(↑C.ints.length:Int) != (↑d.n1:Int))==false)=true→((decide ((↑n:Int)≤(↑C.key:Int))||decide (C.count<(1:Int))||(↑C.ints.length:Int) != (↑d.n1:Int))==false,AV.ptr (5:Nat) (3:Nat)).fst=true,((decide ((↑n:Int)≤(↑C.key:Int))||decide (C.count<(1:Int))||(↑C.ints.length:Int) != (↑d.n1:Int))==false)=true→((decide ((↑n:Int)≤(↑C.key:Int))||decide (C.count<(1:Int))||(↑C.ints.length:Int) != (↑d.n1:Int))==false,AV.lst C.nums.length (List.flatMap encReK C.nums)).fst=true,((decide ((↑n:Int)≤(↑C.key:Int))||decide (C.count<(1:Int))||(↑C.ints.length:Int) != (↑d.n1:Int))==false)=true→true=true,((decide ((↑n:Int)≤(↑C.key:Int))||decide (C.count<(1:Int))||(↑C.ints.length:Int) != (↑d.n1:Int))==false)=true→((decide ((↑n:Int)≤(↑C.key:Int))||decide (C.count<(1:Int))||(↑C.ints.length:Int) != (↑d.n1:Int))==false,AV.ptr (3:Nat) (2:Nat)).fst=true,((decide ((↑n:Int)≤(↑C.key:Int))||decide (C.count<(1:Int))||(↑C.ints.length:Int) != (↑d.n1:Int))==false)=true→((decide ((↑n:Int)≤(↑C.key:Int))||decide (C.count<(1:Int))||(↑C.ints.length:Int) != (↑d.n1:Int))==false,AV.lst d.n2 d.l2).fst=true,((decide ((↑n:Int)≤(↑C.key:Int))||decide (C.count<(1:Int))||(↑C.ints.length:Int) != (↑d.n1:Int))==false)=true→((decide ((↑n:Int)≤(↑C.key:Int))||decide (C.count<(1:Int))||(↑C.ints.length:Int) != (↑d.n1:Int))==false,iz (↑C.nums.length:Int)).fst=true,((decide ((↑n:Int)≤(↑C.key:Int))||decide (C.count<(1:Int))||(↑C.ints.length:Int) != (↑d.n1:Int))==false)=true→((decide ((↑n:Int)≤(↑C.key:Int))||decide (C.count<(1:Int))||(↑C.ints.length:Int) != (↑d.n1:Int))==false,iz (↑d.n2:Int)).fst=true,(bif decide ((↑n:Int)≤(↑C.key:Int))||decide (C.count<(1:Int))||(↑C.ints.length:Int) != (↑d.n1:Int) then true else (↑C.nums.length:Int) != (↑d.n2:Int))=true,true=true→true=true∧((decide ((↑n:Int)≤(↑C.key:Int))||decide (C.count<(1:Int))||(↑C.ints.length:Int) != (↑d.n1:Int))=true→true=true)∧((decide ((↑n:Int)≤(↑C.key:Int))||decide (C.count<(1:Int))||(↑C.ints.length:Int) != (↑d.n1:Int))=false→((decide ((↑n:Int)≤(↑C.key:Int))||decide (C.count<(1:Int))||(↑C.ints.length:Int) != (↑d.n1:Int))==false,AV.v (Value.bool ((↑C.nums.length:Int) != (↑d.n2:Int)))).fst=true)] (by kernel_rfl) ?_
     ((repeat' refine And.intro ?_ ?_);(iterate 2 (with_reducible rfl));(exact True.intro);((show FnOk _ _ _;assumption));(with_reducible rfl);(exact True.intro);((show FnOk _ _ _;assumption));(iterate 2 (with_reducible rfl));(exact True.intro);((show FnOk _ _ _;assumption));(iterate 2 (with_reducible rfl));(exact True.intro);((show FnOk _ _ _;assumption));(exact (fun (_:(_:Bool)=true)=>rfl));(iterate 2 (exact (fun (h:(_:Bool)=true)=>h)));(focus (simp only [Bool.or_eq_true,Bool.and_eq_true,Bool.or_eq_false_iff,Bool.and_eq_false_iff,Bool.not_eq_true',Bool.not_eq_false',decide_eq_true_eq,decide_eq_false_iff_not,beq_iff_eq,beq_eq_false_iff_ne,bne_iff_ne,bne_eq_false_iff_eq,ne_eq,←decide_not,decide_eq_decide,Bool.cond_true_left,Bool.cond_false_right,reduceCtorEq,or_false,false_or,and_true,true_and,implies_true,Bool.false_or,Bool.or_false,Bool.true_or,Bool.or_true,Bool.and_false,Bool.false_and,Bool.and_true,Bool.true_and];done));((simp only [Bool.or_eq_true,Bool.and_eq_true,Bool.or_eq_false_iff,Bool.and_eq_false_iff,Bool.not_eq_true',Bool.not_eq_false',decide_eq_true_eq,decide_eq_false_iff_not,beq_iff_eq,beq_eq_false_iff_ne,bne_iff_ne,bne_eq_false_iff_eq,ne_eq,←decide_not,decide_eq_decide,Bool.cond_true_left,Bool.cond_false_right,reduceCtorEq,or_false,false_or,and_true,true_and,implies_true,Bool.false_or,Bool.or_false,Bool.true_or,Bool.or_true,Bool.and_false,Bool.false_and,Bool.and_true,Bool.true_and];omega));(exact (fun (_:(_:Bool)=true)=>rfl));(iterate 2 (exact (fun (h:(_:Bool)=true)=>h)));(exact (fun (_:(_:Bool)=true)=>rfl));(iterate 4 (exact (fun (h:(_:Bool)=true)=>h)));(focus (simp only [Bool.or_eq_true,Bool.and_eq_true,Bool.or_eq_false_iff,Bool.and_eq_false_iff,Bool.not_eq_true',Bool.not_eq_false',decide_eq_true_eq,decide_eq_false_iff_not,beq_iff_eq,beq_eq_false_iff_ne,bne_iff_ne,bne_eq_false_iff_eq,ne_eq,←decide_not,decide_eq_decide,Bool.cond_true_left,Bool.cond_false_right,reduceCtorEq,or_false,false_or,and_true,true_and,implies_true,Bool.false_or,Bool.or_false,Bool.true_or,Bool.or_true,Bool.and_false,Bool.false_and,Bool.and_true,Bool.true_and];done));((simp only [Bool.or_eq_true,Bool.and_eq_true,Bool.or_eq_false_iff,Bool.and_eq_false_iff,Bool.not_eq_true',Bool.not_eq_false',decide_eq_true_eq,decide_eq_false_iff_not,beq_iff_eq,beq_eq_false_iff_ne,bne_iff_ne,bne_eq_false_iff_eq,ne_eq,←decide_not,decide_eq_decide,Bool.cond_true_left,Bool.cond_false_right,reduceCtorEq,or_false,false_or,and_true,true_and,implies_true,Bool.false_or,Bool.or_false,Bool.true_or,Bool.or_true,Bool.and_false,Bool.false_and,Bool.and_true,Bool.true_and];omega));(exact (fun (_:(_:Bool)=true)=>rfl));(iterate 2 (exact (fun (h:(_:Bool)=true)=>h)));(exact (fun (_:(_:Bool)=true)=>rfl));(iterate 4 (exact (fun (h:(_:Bool)=true)=>h)));(iterate 2 ((simp only [Bool.or_eq_true,Bool.and_eq_true,Bool.or_eq_false_iff,Bool.and_eq_false_iff,Bool.not_eq_true',Bool.not_eq_false',decide_eq_true_eq,decide_eq_false_iff_not,beq_iff_eq,beq_eq_false_iff_ne,bne_iff_ne,bne_eq_false_iff_eq,ne_eq,←decide_not,decide_eq_decide,Bool.cond_true_left,Bool.cond_false_right,reduceCtorEq,or_false,false_or,and_true,true_and,implies_true,Bool.false_or,Bool.or_false,Bool.true_or,Bool.or_true,Bool.and_false,Bool.false_and,Bool.and_true,Bool.true_and];omega)));(exact True.intro))
    ·have a1:C.key<n:=by omega
     have a2:1≤C.count:=by omega
     have a3:C.ints.length=S.ints.length:=by omega
     have a4:C.nums.length=S.nums.length:=by omega
     rw [decide_eq_true a1,decide_eq_true a2,decide_eq_true a3,decide_eq_true a4] at e0
     simp only [Bool.true_and] at e0
     by_cases w0:∀ i,i<C.ints.length→okW (C.ints.getD i noWk)=true
     ·have k1:=rg1_all (sc:=d) hC w0
      rw [(all_at okW noWk C.ints).2 w0,Bool.true_and] at e0
      by_cases r0:∀ i,i<C.nums.length→okR (C.nums.getD i noRk)=true
      ·have k2:=rg2_all (sc:=d) hC r0
       rw [(all_at okR noRk C.nums).2 r0] at e0
       rw [e0]
       clear e0 w0 r0 hh
       refine fn_go hmo Tryz.func25 (by kernel_rfl) [(13,.call (Inst.mk [AV.agg d.l] [] (iz (↑(0:Nat):Int)) [])),(18,.call (Inst.mk [AV.agg d.l] [] (AV.v (Value.int IntKind.u32 (↑(fullN S):Int))) [])),(19,.call (Inst.mk [AV.v (Value.int IntKind.u32 (↑mask:Int)),AV.v (Value.int IntKind.u32 (↑(fullN S):Int))] [] (AV.v (Value.bool (some n).isSome)) [])),(27,.call (Inst.mk [AV.agg d.l,AV.v (Value.int IntKind.u32 (↑mask:Int))] [] (uz (↑n:Int)) [])),(28,.val (bz false)),(33,.val (bz false)),(42,.val (bz false)),(51,.val (bz false))] [(4,⟨.exit 0,rgI d C 0,rgM d C⟩),(10,⟨.exit 2,rgJ d C 0,rgE⟩)] [true=true,[AV.lst d.n0 d.l0,AV.lst d.n1 d.l1,AV.lst d.n2 d.l2,AV.lst d.n3 d.l3]=[AV.lst d.n0 d.l0,AV.lst d.n1 d.l1,AV.lst d.n2 d.l2,AV.lst d.n3 d.l3]∧True,FnOk Tryz.prog (45:Nat) (Inst.mk [AV.agg [AV.lst d.n0 d.l0,AV.lst d.n1 d.l1,AV.lst d.n2 d.l2,AV.lst d.n3 d.l3]] [] (iz (↑(0:Nat):Int)) []),[AV.lst d.n0 d.l0,AV.lst d.n1 d.l1,AV.lst d.n2 d.l2,AV.lst d.n3 d.l3]=[AV.lst d.n0 d.l0,AV.lst d.n1 d.l1,AV.lst d.n2 d.l2,AV.lst d.n3 d.l3]∧True,FnOk Tryz.prog (60:Nat) (Inst.mk [AV.agg [AV.lst d.n0 d.l0,AV.lst d.n1 d.l1,AV.lst d.n2 d.l2,AV.lst d.n3 d.l3]] [] (AV.v (Value.int IntKind.u32 (↑(fullN S):Int))) []),(↑mask:Int)=(↑mask:Int)∧(↑(fullN S):Int)=(↑(fullN S):Int)∧True,FnOk Tryz.prog (59:Nat) (Inst.mk [AV.v (Value.int IntKind.u32 (↑mask:Int)),AV.v (Value.int IntKind.u32 (↑(fullN S):Int))] [] (AV.v (Value.bool true)) []),[AV.lst d.n0 d.l0,AV.lst d.n1 d.l1,AV.lst d.n2 d.l2,AV.lst d.n3 d.l3]=[AV.lst d.n0 d.l0,AV.lst d.n1 d.l1,AV.lst d.n2 d.l2,AV.lst d.n3 d.l3]∧(↑mask:Int)=(↑mask:Int)∧True,FnOk Tryz.prog (73:Nat) (Inst.mk [AV.agg [AV.lst d.n0 d.l0,AV.lst d.n1 d.l1,AV.lst d.n2 d.l2,AV.lst d.n3 d.l3],AV.v (Value.int IntKind.u32 (↑mask:Int))] [] (uz n) []),decide ((↑n:Int)≤(↑C.key:Int))=false,decide (C.count<(1:Int))=false,((↑C.ints.length:Int) != (↑d.n1:Int))=false,((↑C.nums.length:Int) != (↑d.n2:Int))=false,LoopOk Tryz.prog (loopBody Tryz.f25 (4:Nat)) (rgI d C (0:Nat)) (Exit.exit (0:Nat)) (rgM d C),(3:Nat)=(3:Nat)∧(0:Nat)=(0:Nat),(5:Nat)=(5:Nat)∧(0:Nat)=(0:Nat),(0:Int)=(↑(0:Nat):Int),[AV.lst d.n0 d.l0,AV.lst d.n1 d.l1,AV.lst d.n2 d.l2,AV.lst d.n3 d.l3]=[AV.lst d.n0 d.l0,AV.lst d.n1 d.l1,AV.lst d.n2 d.l2,AV.lst d.n3 d.l3],[uz (↑C.key:Int),iz C.count,AV.lst C.ints.length (List.flatMap encWh C.ints),AV.lst C.nums.length (List.flatMap encReK C.nums)]=[uz (↑C.key:Int),iz C.count,AV.lst C.ints.length (List.flatMap encWh C.ints),AV.lst C.nums.length (List.flatMap encReK C.nums)],LoopOk Tryz.prog (loopBody Tryz.f25 (10:Nat)) (rgJ d C (0:Nat)) (Exit.exit (2:Nat)) rgE,(3:Nat)=(3:Nat)∧(0:Nat)=(0:Nat),(5:Nat)=(5:Nat)∧(0:Nat)=(0:Nat),(0:Int)=(↑(0:Nat):Int),[AV.lst d.n0 d.l0,AV.lst d.n1 d.l1,AV.lst d.n2 d.l2,AV.lst d.n3 d.l3]=[AV.lst d.n0 d.l0,AV.lst d.n1 d.l1,AV.lst d.n2 d.l2,AV.lst d.n3 d.l3],[uz (↑C.key:Int),iz C.count,AV.lst C.ints.length (List.flatMap encWh C.ints),AV.lst C.nums.length (List.flatMap encReK C.nums)]=[uz (↑C.key:Int),iz C.count,AV.lst C.ints.length (List.flatMap encWh C.ints),AV.lst C.nums.length (List.flatMap encReK C.nums)]] (by kernel_rfl) ?_
       ((repeat' refine And.intro ?_ ?_);(iterate 2 (with_reducible rfl));(exact True.intro);((show FnOk _ _ _;assumption));(with_reducible rfl);(exact True.intro);((show FnOk _ _ _;assumption));(iterate 2 (with_reducible rfl));(exact True.intro);((show FnOk _ _ _;assumption));(iterate 2 (with_reducible rfl));(exact True.intro);((show FnOk _ _ _;assumption));(iterate 2 ((with_reducible refine Df ?_;omega)));(iterate 2 ((with_reducible refine Nq ?_;omega)));(with_reducible assumption);(iterate 4 (with_reducible rfl));(omega);(iterate 2 (with_reducible rfl));(with_reducible assumption);(iterate 4 (with_reducible rfl));(omega);(iterate 2 (with_reducible rfl));(exact True.intro))
      ·obtain ⟨m,m1,m2,m3⟩:=firstBad r0
       have k2:=rg2_no (sc:=d) hC m1 m2 m3
       have e1:C.nums.all okR=false:=by
        cases hz:C.nums.all okR with
        | false=>rfl
        | true=>exact absurd ((all_at okR noRk C.nums).1 hz) r0
       rw [e1] at e0
       rw [e0]
       clear e0 w0 r0 hh m2 m3
       refine fn_go hmo Tryz.func25 (by kernel_rfl) [(13,.call (Inst.mk [AV.agg d.l] [] (iz (↑(0:Nat):Int)) [])),(18,.call (Inst.mk [AV.agg d.l] [] (AV.v (Value.int IntKind.u32 (↑(fullN S):Int))) [])),(19,.call (Inst.mk [AV.v (Value.int IntKind.u32 (↑mask:Int)),AV.v (Value.int IntKind.u32 (↑(fullN S):Int))] [] (AV.v (Value.bool (some n).isSome)) [])),(27,.call (Inst.mk [AV.agg d.l,AV.v (Value.int IntKind.u32 (↑mask:Int))] [] (uz (↑n:Int)) [])),(28,.val (bz false)),(33,.val (bz false)),(42,.val (bz false)),(51,.val (bz false))] [(4,⟨.exit 0,rgI d C 0,rgM d C⟩),(10,⟨.ret,rgJ d C 0,rgF⟩)] [false=false,[AV.lst d.n0 d.l0,AV.lst d.n1 d.l1,AV.lst d.n2 d.l2,AV.lst d.n3 d.l3]=[AV.lst d.n0 d.l0,AV.lst d.n1 d.l1,AV.lst d.n2 d.l2,AV.lst d.n3 d.l3]∧True,FnOk Tryz.prog (45:Nat) (Inst.mk [AV.agg [AV.lst d.n0 d.l0,AV.lst d.n1 d.l1,AV.lst d.n2 d.l2,AV.lst d.n3 d.l3]] [] (iz (↑(0:Nat):Int)) []),[AV.lst d.n0 d.l0,AV.lst d.n1 d.l1,AV.lst d.n2 d.l2,AV.lst d.n3 d.l3]=[AV.lst d.n0 d.l0,AV.lst d.n1 d.l1,AV.lst d.n2 d.l2,AV.lst d.n3 d.l3]∧True,FnOk Tryz.prog (60:Nat) (Inst.mk [AV.agg [AV.lst d.n0 d.l0,AV.lst d.n1 d.l1,AV.lst d.n2 d.l2,AV.lst d.n3 d.l3]] [] (AV.v (Value.int IntKind.u32 (↑(fullN S):Int))) []),(↑mask:Int)=(↑mask:Int)∧(↑(fullN S):Int)=(↑(fullN S):Int)∧True,FnOk Tryz.prog (59:Nat) (Inst.mk [AV.v (Value.int IntKind.u32 (↑mask:Int)),AV.v (Value.int IntKind.u32 (↑(fullN S):Int))] [] (AV.v (Value.bool true)) []),[AV.lst d.n0 d.l0,AV.lst d.n1 d.l1,AV.lst d.n2 d.l2,AV.lst d.n3 d.l3]=[AV.lst d.n0 d.l0,AV.lst d.n1 d.l1,AV.lst d.n2 d.l2,AV.lst d.n3 d.l3]∧(↑mask:Int)=(↑mask:Int)∧True,FnOk Tryz.prog (73:Nat) (Inst.mk [AV.agg [AV.lst d.n0 d.l0,AV.lst d.n1 d.l1,AV.lst d.n2 d.l2,AV.lst d.n3 d.l3],AV.v (Value.int IntKind.u32 (↑mask:Int))] [] (uz n) []),decide ((↑n:Int)≤(↑C.key:Int))=false,decide (C.count<(1:Int))=false,((↑C.ints.length:Int) != (↑d.n1:Int))=false,((↑C.nums.length:Int) != (↑d.n2:Int))=false,LoopOk Tryz.prog (loopBody Tryz.f25 (4:Nat)) (rgI d C (0:Nat)) (Exit.exit (0:Nat)) (rgM d C),(3:Nat)=(3:Nat)∧(0:Nat)=(0:Nat),(5:Nat)=(5:Nat)∧(0:Nat)=(0:Nat),(0:Int)=(↑(0:Nat):Int),[AV.lst d.n0 d.l0,AV.lst d.n1 d.l1,AV.lst d.n2 d.l2,AV.lst d.n3 d.l3]=[AV.lst d.n0 d.l0,AV.lst d.n1 d.l1,AV.lst d.n2 d.l2,AV.lst d.n3 d.l3],[uz (↑C.key:Int),iz C.count,AV.lst C.ints.length (List.flatMap encWh C.ints),AV.lst C.nums.length (List.flatMap encReK C.nums)]=[uz (↑C.key:Int),iz C.count,AV.lst C.ints.length (List.flatMap encWh C.ints),AV.lst C.nums.length (List.flatMap encReK C.nums)],LoopOk Tryz.prog (loopBody Tryz.f25 (10:Nat)) (rgJ d C (0:Nat)) Exit.ret rgF,(3:Nat)=(3:Nat)∧(0:Nat)=(0:Nat),(5:Nat)=(5:Nat)∧(0:Nat)=(0:Nat),(0:Int)=(↑(0:Nat):Int),[AV.lst d.n0 d.l0,AV.lst d.n1 d.l1,AV.lst d.n2 d.l2,AV.lst d.n3 d.l3]=[AV.lst d.n0 d.l0,AV.lst d.n1 d.l1,AV.lst d.n2 d.l2,AV.lst d.n3 d.l3],[uz (↑C.key:Int),iz C.count,AV.lst C.ints.length (List.flatMap encWh C.ints),AV.lst C.nums.length (List.flatMap encReK C.nums)]=[uz (↑C.key:Int),iz C.count,AV.lst C.ints.length (List.flatMap encWh C.ints),AV.lst C.nums.length (List.flatMap encReK C.nums)]] (by kernel_rfl) ?_
       ((repeat' refine And.intro ?_ ?_);(iterate 2 (with_reducible rfl));(exact True.intro);((show FnOk _ _ _;assumption));(with_reducible rfl);(exact True.intro);((show FnOk _ _ _;assumption));(iterate 2 (with_reducible rfl));(exact True.intro);((show FnOk _ _ _;assumption));(iterate 2 (with_reducible rfl));(exact True.intro);((show FnOk _ _ _;assumption));(iterate 2 ((with_reducible refine Df ?_;omega)));(iterate 2 ((with_reducible refine Nq ?_;omega)));(with_reducible assumption);(iterate 4 (with_reducible rfl));(omega);(iterate 2 (with_reducible rfl));(with_reducible assumption);(iterate 4 (with_reducible rfl));(omega);(iterate 2 (with_reducible rfl));(exact True.intro))
     ·obtain ⟨m,m1,m2,m3⟩:=firstBad w0
      have k1:=rg1_no (sc:=d) hC m1 m2 m3
      have e1:C.ints.all okW=false:=by
       cases hz:C.ints.all okW with
       | false=>rfl
       | true=>exact absurd ((all_at okW noWk C.ints).1 hz) w0
      rw [e1] at e0
      rw [e0]
      clear e0 w0 hh m2 m3
      refine fn_go hmo Tryz.func25 (by kernel_rfl) [(13,.call (Inst.mk [AV.agg d.l] [] (iz (↑(0:Nat):Int)) [])),(18,.call (Inst.mk [AV.agg d.l] [] (AV.v (Value.int IntKind.u32 (↑(fullN S):Int))) [])),(19,.call (Inst.mk [AV.v (Value.int IntKind.u32 (↑mask:Int)),AV.v (Value.int IntKind.u32 (↑(fullN S):Int))] [] (AV.v (Value.bool (some n).isSome)) [])),(27,.call (Inst.mk [AV.agg d.l,AV.v (Value.int IntKind.u32 (↑mask:Int))] [] (uz (↑n:Int)) [])),(28,.val (bz false)),(33,.val (bz false)),(42,.val (bz false)),(51,.val (bz false))] [(4,⟨.ret,rgI d C 0,rgF⟩)] [false=false,[AV.lst d.n0 d.l0,AV.lst d.n1 d.l1,AV.lst d.n2 d.l2,AV.lst d.n3 d.l3]=[AV.lst d.n0 d.l0,AV.lst d.n1 d.l1,AV.lst d.n2 d.l2,AV.lst d.n3 d.l3]∧True,FnOk Tryz.prog (45:Nat) (Inst.mk [AV.agg [AV.lst d.n0 d.l0,AV.lst d.n1 d.l1,AV.lst d.n2 d.l2,AV.lst d.n3 d.l3]] [] (iz (↑(0:Nat):Int)) []),[AV.lst d.n0 d.l0,AV.lst d.n1 d.l1,AV.lst d.n2 d.l2,AV.lst d.n3 d.l3]=[AV.lst d.n0 d.l0,AV.lst d.n1 d.l1,AV.lst d.n2 d.l2,AV.lst d.n3 d.l3]∧True,FnOk Tryz.prog (60:Nat) (Inst.mk [AV.agg [AV.lst d.n0 d.l0,AV.lst d.n1 d.l1,AV.lst d.n2 d.l2,AV.lst d.n3 d.l3]] [] (AV.v (Value.int IntKind.u32 (↑(fullN S):Int))) []),(↑mask:Int)=(↑mask:Int)∧(↑(fullN S):Int)=(↑(fullN S):Int)∧True,FnOk Tryz.prog (59:Nat) (Inst.mk [AV.v (Value.int IntKind.u32 (↑mask:Int)),AV.v (Value.int IntKind.u32 (↑(fullN S):Int))] [] (AV.v (Value.bool true)) []),[AV.lst d.n0 d.l0,AV.lst d.n1 d.l1,AV.lst d.n2 d.l2,AV.lst d.n3 d.l3]=[AV.lst d.n0 d.l0,AV.lst d.n1 d.l1,AV.lst d.n2 d.l2,AV.lst d.n3 d.l3]∧(↑mask:Int)=(↑mask:Int)∧True,FnOk Tryz.prog (73:Nat) (Inst.mk [AV.agg [AV.lst d.n0 d.l0,AV.lst d.n1 d.l1,AV.lst d.n2 d.l2,AV.lst d.n3 d.l3],AV.v (Value.int IntKind.u32 (↑mask:Int))] [] (uz n) []),decide ((↑n:Int)≤(↑C.key:Int))=false,decide (C.count<(1:Int))=false,((↑C.ints.length:Int) != (↑d.n1:Int))=false,((↑C.nums.length:Int) != (↑d.n2:Int))=false,LoopOk Tryz.prog (loopBody Tryz.f25 (4:Nat)) (rgI d C (0:Nat)) Exit.ret rgF,(3:Nat)=(3:Nat)∧(0:Nat)=(0:Nat),(5:Nat)=(5:Nat)∧(0:Nat)=(0:Nat),(0:Int)=(↑(0:Nat):Int),[AV.lst d.n0 d.l0,AV.lst d.n1 d.l1,AV.lst d.n2 d.l2,AV.lst d.n3 d.l3]=[AV.lst d.n0 d.l0,AV.lst d.n1 d.l1,AV.lst d.n2 d.l2,AV.lst d.n3 d.l3],[uz (↑C.key:Int),iz C.count,AV.lst C.ints.length (List.flatMap encWh C.ints),AV.lst C.nums.length (List.flatMap encReK C.nums)]=[uz (↑C.key:Int),iz C.count,AV.lst C.ints.length (List.flatMap encWh C.ints),AV.lst C.nums.length (List.flatMap encReK C.nums)]] (by kernel_rfl) ?_
      ((repeat' refine And.intro ?_ ?_);(iterate 2 (with_reducible rfl));(exact True.intro);((show FnOk _ _ _;assumption));(with_reducible rfl);(exact True.intro);((show FnOk _ _ _;assumption));(iterate 2 (with_reducible rfl));(exact True.intro);((show FnOk _ _ _;assumption));(iterate 2 (with_reducible rfl));(exact True.intro);((show FnOk _ _ _;assumption));(iterate 2 ((with_reducible refine Df ?_;omega)));(iterate 2 ((with_reducible refine Nq ?_;omega)));(with_reducible assumption);(iterate 4 (with_reducible rfl));(omega);(iterate 2 (with_reducible rfl));(exact True.intro))
 ·have e1:rightC S mask C=false:=rightC_none S mask C (by unfold keysOf;rw [if_neg (fun h=>hc h.1)])
  rw [hsc] at h1 ⊢
  rw [e1]
  refine fn_go hmo Tryz.func25 (by kernel_rfl) [(13,.call (Inst.mk [AV.agg d.l] [] (iz (↑(checkN S):Int)) [])),(14,.val (bz true))] [] [false=false,[AV.lst d.n0 d.l0,AV.lst d.n1 d.l1,AV.lst d.n2 d.l2,AV.lst d.n3 d.l3]=[AV.lst d.n0 d.l0,AV.lst d.n1 d.l1,AV.lst d.n2 d.l2,AV.lst d.n3 d.l3]∧True,FnOk Tryz.prog (45:Nat) (Inst.mk [AV.agg [AV.lst d.n0 d.l0,AV.lst d.n1 d.l1,AV.lst d.n2 d.l2,AV.lst d.n3 d.l3]] [] (iz (↑(checkN S):Int)) []),((↑(checkN S):Int) != (0:Int))=true] (by kernel_rfl) ?_
  ((repeat' refine And.intro ?_ ?_);(iterate 2 (with_reducible rfl));(exact True.intro);((show FnOk _ _ _;assumption));((with_reducible refine Ne ?_;omega));(exact True.intro))
end Go.Proofs.YtfhmaincnlaapaaGreat.Sy
