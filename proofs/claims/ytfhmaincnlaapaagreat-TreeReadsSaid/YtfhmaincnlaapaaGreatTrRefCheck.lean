/- bushelref11.Check. -/
import Derived.IntWalk
import Derived.Maps.OwnSet
import Derived.Maps.OwnOps
import Derived.StringKeys
import Derived.Test.YtfhmaincnlaapaaGreatTrSy2
import Derived.Test.YtfhmaincnlaapaaGreatTrGetWalks
import Derived.Test.YtfhmaincnlaapaaGreatTrBufOutKeep
namespace Go.Proofs.YtfhmaincnlaapaaGreat
open Go.ChangeShapes Go.WideShapes Go.ChangeAt Go.RowKit
set_option linter.unusedVariables false
def p2 (n:Nat):Nat:=2^n
theorem p2_succ (n:Nat):p2 (n+1)=2*p2 n:=by unfold p2;rw [Nat.pow_succ];omega
theorem p2_pos (n:Nat):0<p2 n:=Nat.two_pow_pos n
theorem p2_le (n m:Nat) (h:n≤m):p2 n≤p2 m:=Nat.pow_le_pow_right (by decide) h
theorem p2_31:p2 31=2147483648:=by decide
set_option maxRecDepth 20000 in
theorem two_any (w:World) (n:Nat) (hn:n≤31):Calls Tryz.prog 111 #[.int .i64 (n:Int)] w fun y w'=>y=.returned (.int .u32 (p2 n:Int))∧w=w':=by
 go_enter Tryz.func111,Tryz.ntmps111
 go_wp2
 go_loop [3,4] (fun v3 v4=>∃ k p:Nat,k≤n∧v4=.int .i64 (k:Int)∧v3=.int .u32 (p:Int)∧Hid (p=p2 k)) (fun _ v4=>n-(intOf v4).toNat)
 case atStart=>exact ⟨0,1,by omega,rfl,rfl,rfl⟩
 case round =>
  obtain ⟨k,p,hk,rfl,rfl,HP⟩:=hrel
  by_cases hlt:k<n
  ·have hs:=p2_succ k
   rw [←HP.out] at hs
   have hb:2*p≤2147483648:=by
    rw [←hs,←p2_31];exact p2_le _ _ (by omega)
   have HS:=Lib.hid hs;clear hs
   have q2:(k:Int)<(n:Int):=by omega
   have hwr:IntKind.u32.wrap (2*(p:Int))=((2*p:Nat):Int):=by rw [IntKind.wrap_u32];omega
   go_wp2
   go_round
   case rel=>exact ⟨k+1,2*p,by omega,by go_num,by congr 1,HS.out.symm⟩
   case measure=>simp [intOf];omega
  ·obtain rfl:k=n:=by omega
   go_wp2
   go_ret
   exact ⟨by rw [←HP.out];rfl,rfl⟩
def inB (m i:Nat):Bool:=decide (m/p2 i%2=1)
set_option maxRecDepth 20000 in
theorem in_any (w:World) (m i:Nat) (hi:i≤31) (hm:m<4294967296):Calls Tryz.prog 120 #[.int .u32 (m:Int),.int .i64 (i:Int)] w fun y w'=>y=.returned (.bool (inB m i))∧w=w':=by
 have ht:=two_any w i hi
 have hp:=p2_pos i
 unfold inB
 generalize p2 i=p at *
 have hq:((m:Int)).tdiv (p:Int)=((m/p:Nat):Int):=by rw [Int.tdiv_eq_ediv_of_nonneg (by omega)];rfl
 have hle:m/p≤m:=Nat.div_le_self _ _
 generalize m/p=q at *
 have hr:((q:Int)).tmod 2=((q%2:Nat):Int):=by rw [Int.tmod_eq_emod_of_nonneg (by omega)];rfl
 have hq2:q%2<2:=Nat.mod_lt _ (by decide)
 generalize q%2=r at *
 have hz:((p:Int)==0)=false:=by rw [beq_eq_false_iff_ne];omega
 have hw1:IntKind.u32.wrap (q:Int)=(q:Int):=by rw [IntKind.wrap_u32];omega
 have HT:=Lib.hid ht;clear ht
 have hr2:r=0∨r=1:=by omega
 rcases hr2 with rfl|rfl
 all_goals
  go_enter Tryz.func120,Tryz.ntmps120
  go_wp2_with (go_at_call 111;(with_reducible refine HT.out.mono ?_);rintro y w1 ⟨rfl,rfl⟩)
  go_ret
  exact ⟨rfl,rfl⟩
def subTo (a b k:Nat):Bool:=(List.range k).all fun i=>!inB a i||inB b i
def subB (a b:Nat):Bool:=subTo a b 32
theorem subTo_succ (a b k:Nat):subTo a b (k+1)=(subTo a b k&&(!inB a k||inB b k)):=by
 unfold subTo
 rw [List.range_succ,List.all_append];simp
theorem subTo_no (a b k:Nat) (hk:k<32) (h:(!inB a k||inB b k)=false):subB a b=false:=by
 unfold subB subTo
 rw [List.all_eq_false]
 exact ⟨k,List.mem_range.2 hk,by rw [h];decide⟩
set_option maxRecDepth 20000 in
theorem sub_any (w:World) (a b:Nat) (ha:a<4294967296) (hb:b<4294967296):Calls Tryz.prog 59 #[.int .u32 (a:Int),.int .u32 (b:Int)] w fun y w'=>y=.returned (.bool (subB a b))∧w=w':=by
 have HA:=Lib.hid (fun W i hi=>in_any W a i hi ha)
 have HB:=Lib.hid (fun W i hi=>in_any W b i hi hb)
 go_enter Tryz.func59,Tryz.ntmps59
 go_wp2
 go_loop [5] (fun v5=>∃ k:Nat,k≤32∧v5=.int .i64 (k:Int)∧Hid (subTo a b k=true)) (fun v5=>32-(intOf v5).toNat)
 case atStart=>exact ⟨0,by omega,rfl,rfl⟩
 case round =>
  obtain ⟨k,hk,rfl,HS⟩:=hrel
  by_cases hlt:k<32
  ·have q2:(k:Int)<32:=by omega
   have hst:=subTo_succ a b k
   rw [HS.out,Bool.true_and] at hst
   have hno:=subTo_no a b k hlt
   have hca:=HA.out w k (by omega)
   have hcb:=HB.out w k (by omega)
   generalize inB a k=x at *
   generalize inB b k=z at *
   have HST:=Lib.hid hst;have HNO:=Lib.hid hno;have HCA:=Lib.hid hca;have HCB:=Lib.hid hcb;clear hst hno hca hcb
   cases x<;>cases z
   case true.false =>
    have hn:=HNO.out rfl
    have HN:=Lib.hid hn;clear hn
    go_wp2_with (first
     | (go_at_call 120;(with_reducible refine HCA.out.mono ?_);rintro y w1 ⟨rfl,rfl⟩)
     | (go_at_call 120;(with_reducible refine HCB.out.mono ?_);rintro y w1 ⟨rfl,rfl⟩))
    go_ret
    exact ⟨by rw [HN.out];rfl,rfl⟩
   all_goals
    have hy:=HST.out
    have HY:=Lib.hid hy;clear hy
    go_wp2_with (first
     | (go_at_call 120;(with_reducible refine HCA.out.mono ?_);rintro y w1 ⟨rfl,rfl⟩)
     | (go_at_call 120;(with_reducible refine HCB.out.mono ?_);rintro y w1 ⟨rfl,rfl⟩))
    go_round
    case rel=>exact ⟨k+1,by omega,by go_num,HY⟩
    case measure=>simp [intOf];omega
  ·obtain rfl:k=32:=by omega
   have HS2:Hid (subB a b=true):=HS
   go_wp2
   go_ret
   exact ⟨by rw [HS2.out];rfl,rfl⟩
def szAt (S:Sch) (k:Nat):Int:=(S.dims.getD k (⟨#[]⟩,0)).2
def keyStep (p:Nat) (d:Int):Option Nat:=if 1≤d∧d≤4096∧p*d.toNat≤1099511627776 then some (p*d.toNat) else none
def keysTo (S:Sch):Nat→Option Nat
 | 0=>some 1
 | k+1=>match keysTo S k with
   | none=>none
   | some p=>keyStep p (szAt S k)
theorem keysTo_succ (S:Sch) (k p:Nat) (h:keysTo S k=some p):keysTo S (k+1)=keyStep p (szAt S k):=by
 simp only [keysTo,h]
theorem keyStep_le {p:Nat} {d:Int} {q:Nat} (hp:1≤p) (h:keyStep p d=some q):1≤q∧q≤1099511627776:=by
 unfold keyStep at h
 split at h
 ·rename_i hh
  injection h with h
  obtain ⟨h1,_,h3⟩:=hh
  have:1≤d.toNat:=by omega
  have:=Nat.mul_le_mul hp this
  omega
 ·cases h
theorem keysTo_le (S:Sch):∀ k p,keysTo S k=some p→1≤p∧p≤1099511627776
 | 0,p,h=>by injection h with h;omega
 | k+1,p,h=>by
   cases hk:keysTo S k with
   | none=>simp only [keysTo,hk] at h;cases h
   | some q =>
     rw [keysTo_succ S k q hk] at h
     exact keyStep_le (keysTo_le S k q hk).1 h
theorem keysTo_none (S:Sch) (k:Nat) (h:keysTo S k=none):∀ m,k≤m→keysTo S m=none
 | m,hm=>by
   obtain ⟨d,rfl⟩:∃ d,m=k+d:=⟨m-k,by omega⟩
   induction d with
   | zero=>exact h
   | succ d ih =>
     have:=ih (by omega)
     rw [←Nat.add_assoc]
     simp only [keysTo,this]
theorem keyStep_no {p:Nat} {d:Int} (h:¬(1≤d∧d≤4096∧p*d.toNat≤1099511627776)):keyStep p d=none:=if_neg h
theorem keyStep_yes {p n:Nat} {d:Int} (h1:1≤n) (h2:n≤4096) (h:d=(n:Int)) (h3:p*n≤1099511627776):keyStep p d=some (p*n):=by
 subst h
 exact if_pos ⟨by omega,by omega,by simpa using h3⟩
def viewAt (S:Sch) (k:Nat):Nat:=(S.views.getD k 0).toNat
def fullN (S:Sch):Nat:=p2 S.dims.length-1
def viewOk (S:Sch) (k:Nat):Bool:=decide (viewAt S k<fullN S)&&(decide (k=0)||decide (viewAt S (k-1)<viewAt S k))
def viewsTo (S:Sch) (k:Nat):Bool:=(List.range k).all (viewOk S)
theorem viewsTo_succ (S:Sch) (k:Nat):viewsTo S (k+1)=(viewsTo S k&&viewOk S k):=by
 unfold viewsTo
 rw [List.range_succ,List.all_append];simp
theorem viewsTo_no (S:Sch) (k:Nat) (hk:k<S.views.length) (h:viewOk S k=false):viewsTo S S.views.length=false:=by
 unfold viewsTo
 rw [List.all_eq_false]
 exact ⟨k,List.mem_range.2 hk,by rw [h];decide⟩
theorem viewOk_zero (S:Sch):viewOk S 0=decide (viewAt S 0<fullN S):=by
 unfold viewOk;rw [decide_eq_true (show (0:Nat)=0 from rfl),Bool.true_or,Bool.and_true]
theorem viewOk_pos (S:Sch) (k:Nat) (hk:0<k):viewOk S k=(decide (viewAt S k<fullN S)&&decide (viewAt S (k-1)<viewAt S k)):=by
 unfold viewOk;rw [decide_eq_false (show ¬k=0 by omega),Bool.false_or]
def manyOk (S:Sch):Prop:=1≤S.dims.length∧S.dims.length≤6∧S.ints.length≤3∧S.nums.length≤2∧S.views.length≤15
instance (S:Sch):Decidable (manyOk S):=by unfold manyOk;infer_instance
def checkN (S:Sch):Nat :=
 if manyOk S then
  if (namesL S).all isB=true then
   if dupB (namesL S)=true then 9
   else if keysTo S S.dims.length=none then 2
   else if viewsTo S S.views.length=true then 0 else 6
  else 8
 else 3
theorem checkN_many {S:Sch} (h:¬manyOk S):checkN S=3:=if_neg h
theorem checkN_name {S:Sch} (h:manyOk S) (h1:(namesL S).all isB=false):checkN S=8:=by
 unfold checkN;rw [if_pos h,if_neg (by rw [h1];decide)]
theorem checkN_dup {S:Sch} (h:manyOk S) (h1:(namesL S).all isB=true) (h2:dupB (namesL S)=true):checkN S=9:=by
 unfold checkN;rw [if_pos h,if_pos h1,if_pos h2]
theorem checkN_keys {S:Sch} (h:manyOk S) (h1:(namesL S).all isB=true) (h2:dupB (namesL S)=false) (k:Nat) (hk:k≤S.dims.length) (h3:keysTo S k=none):checkN S=2:=by
 unfold checkN;rw [if_pos h,if_pos h1,if_neg (by rw [h2];decide),if_pos (keysTo_none S k h3 _ hk)]
theorem checkN_views {S:Sch} (h:manyOk S) (h1:(namesL S).all isB=true) (h2:dupB (namesL S)=false) (p:Nat) (h3:keysTo S S.dims.length=some p) (h4:viewsTo S S.views.length=false):checkN S=6:=by
 unfold checkN;rw [if_pos h,if_pos h1,if_neg (by rw [h2];decide),if_neg (by rw [h3];intro e;cases e),if_neg (by rw [h4];decide)]
theorem checkN_ok {S:Sch} (h:manyOk S) (h1:(namesL S).all isB=true) (h2:dupB (namesL S)=false) (p:Nat) (h3:keysTo S S.dims.length=some p) (h4:viewsTo S S.views.length=true):checkN S=0:=by
 unfold checkN;rw [if_pos h,if_pos h1,if_neg (by rw [h2];decide),if_neg (by rw [h3];intro e;cases e),if_pos h4]
theorem checkN_zero {S:Sch} (h:checkN S=0):manyOk S∧∃ p,keysTo S S.dims.length=some p:=by
 unfold checkN at h
 split at h
 ·rename_i hm
  split at h
  ·split at h
   ·cases h
   ·split at h
    ·cases h
    ·rename_i hk
     refine ⟨hm,?_⟩
     cases hq:keysTo S S.dims.length with
     | none=>exact absurd hq hk
     | some p=>exact ⟨p,rfl⟩
  ·cases h
 ·cases h
theorem keysTo_some (S:Sch) (m:Nat) (p:Nat) (h:keysTo S m=some p):∀ k,k<m→1≤szAt S k∧szAt S k≤4096:=fun k hk=>by
 cases hq:keysTo S (k+1) with
 | none=>rw [keysTo_none S (k+1) hq m (by omega)] at h;cases h
 | some q =>
   cases hr:keysTo S k with
   | none=>rw [keysTo_none S k hr (k+1) (by omega)] at hq;cases hq
   | some r =>
     rw [keysTo_succ S k r hr] at hq
     unfold keyStep at hq
     split at hq
     ·rename_i hh;exact ⟨hh.1,hh.2.1⟩
     ·cases hq
theorem inB_bit (m i:Nat):inB m i=m.testBit i:=by
 unfold inB p2
 rw [Nat.testBit_eq_decide_div_mod_eq]
theorem sub_full (a n:Nat) (hn:n≤31) (ha:a<4294967296):subB a (p2 n-1)=decide (a<p2 n):=by
 have hb:∀ i,inB (p2 n-1) i=decide (i<n):=fun i=>by
  rw [inB_bit];unfold p2;rw [Nat.testBit_two_pow_sub_one]
 by_cases h:a<p2 n
 ·rw [decide_eq_true h]
  unfold subB subTo
  rw [List.all_eq_true]
  intro i hi
  rw [hb,inB_bit]
  by_cases hin:i<n
  ·rw [decide_eq_true hin];simp
  ·rw [Nat.testBit_lt_two_pow (Nat.lt_of_lt_of_le h (p2_le n i (by omega)))];rfl
 ·rw [decide_eq_false h]
  cases hs:subB a (p2 n-1) with
  | false=>rfl
  | true =>
    exfalso
    apply h
    unfold p2
    apply Nat.lt_pow_two_of_testBit
    intro i hi
    by_cases h32:i<32
    ·unfold subB subTo at hs
     rw [List.all_eq_true] at hs
     have:=hs i (List.mem_range.2 h32)
     rw [hb,inB_bit,decide_eq_false (by omega),Bool.or_false] at this
     simpa using this
    ·exact Nat.testBit_lt_two_pow (Nat.lt_of_lt_of_le ha (by
      have:=p2_le 32 i (by omega)
      unfold p2 at this
      omega))
end Go.Proofs.YtfhmaincnlaapaaGreat
namespace Go.Proofs.YtfhmaincnlaapaaGreat
open Go.ChangeShapes Go.WideShapes Go.ChangeAt Go.RowKit Go.Maps Go.WideMaps
set_option linter.unusedVariables false
theorem run_makeMap_h {P:Program} (t k e:TypeId) (kd:IntKind) (n:Int) (ht:P.underlying t=some (.map k e)) (w:World) :
 (Instr.makeMap t (some (.int kd n))).run P w=.ok (.map (some w.heap.size)) (w.alloc (.map #[] 0)):=by
 simp [Instr.makeMap,run_underlying ht];rfl
theorem wf_of_i64 {z:Int} (h1:-9223372036854775808≤z) (h2:z≤9223372036854775807):(Lit.int .i64 z).wf=true:=by
 simp [Lit.wf,IntKind.min,IntKind.max,IntKind.signed,IntKind.bits];omega
theorem law_str:Keyed Tryz.prog 9:=string_keyed Tryz.underlying9
theorem zero_i64 (w:World):(zeroValue 3).run Tryz.prog w=.ok (.int .i64 0) w:=by kernel_rfl
def MetIs (l:List ByteArray) (D:DataW Unit):Prop:=IsMap D∧∀ s:ByteArray,has D (.string s.data.toList)=memB l s
theorem MetIs.nil:MetIs [] (.map []):=⟨isMap_empty,fun s=>rfl⟩
theorem MetIs.snoc {l:List ByteArray} {D:DataW Unit} (h:MetIs l D) (x:ByteArray) (d:DataW Unit):MetIs (l ++ [x]) (D.put (.string x.data.toList) d):=by
 refine ⟨h.1.put _ _,fun s=>?_⟩
 have e:memB (l ++ [x]) s=(memB l s||(x.toList==s.toList)):=by unfold memB;rw [List.any_append];simp
 rw [e]
 by_cases hs:s.data.toList=x.data.toList
 ·rw [hs,has_put_same h.1 (by simp [WideAt.IsKeyLit]) d]
  have:(x.toList==s.toList)=true:=by rw [ByteArray.toList_eq,ByteArray.toList_eq,hs];simp
  rw [this,Bool.or_true]
 ·rw [has_put_other (by intro e;injection e with e;exact hs e) d,h.2 s]
  have:(x.toList==s.toList)=false:=by rw [ByteArray.toList_eq,ByteArray.toList_eq,beq_eq_false_iff_ne];exact fun e=>hs e.symm
  rw [this,Bool.or_false]
set_option maxRecDepth 20000 in
set_option maxHeartbeats 1000000 in
theorem twice_any (w:World) (A:Option Addr) (n c B:Nat) (l:List ByteArray) (h:Rd w B 1 A n (strs l)) (hB:B≤w.heap.size) (hn:n≤1000000) (hl:∀ x∈l,x.size≤maxLen) :
 Calls Tryz.prog 104 #[.slice A n c] w fun y w'=>∃ z,y=.returned (.int .i64 z)∧TwIs l z∧Below w.heap.size w w':=by
 obtain rfl:n=l.length:=h.str_len
 have hmm:=fun k W=>@run_makeMap_h Tryz.prog 217 9 3 .i64 k Tryz.underlying217 W
 have H:=Lib.hid h;have HL:=Lib.hid hl;clear h hl
 go_enter Tryz.func104,Tryz.ntmps104
 go_wp2
 go_loopw [13] (fun i wr=>∃ k:Nat,k≤l.length∧i=.int .i64 (k:Int)∧Hid (dupTo l k=false)∧(∃ D:DataW Unit,wr.ownsMap Tryz.prog 9 (plainElem Tryz.prog 3) w.heap.size k D∧Hid (MetIs (l.take k) D))∧Below w.heap.size w wr) (fun i _=>l.length-(intOf i).toNat)
 case atStart=>exact ⟨0,by omega,rfl,rfl,⟨.map [],World.ownsMap_made _ _ _ _,MetIs.nil⟩,belA (belR w) _⟩
 case round =>
  obtain ⟨k,hk,rfl,HA,⟨D,hown,HM⟩,hb⟩:=hrel
  have hz:=hb.size
  by_cases hlt:k<l.length
  ·obtain ⟨a,rfl,hab,x0⟩:=(H.out.below (hb.mono hB)).str hlt
   have q1:(0:Int)≤(k:Int):=by omega
   have q2:(k:Int)<(l.length:Int):=by omega
   have hst:=dupTo_succ l k hlt
   rw [HA.out,Bool.false_or] at hst
   have hmo:=dupTo_mono l k hlt
   have hsn:l.take (k+1)=l.take k ++ [l[k]]:=List.take_succ_eq_append_getElem hlt
   have hxs:=HL.out l[k] (List.getElem_mem hlt)
   generalize l[k]=x at *
   have hkey:keyOf Tryz.prog 9 (.string x)=some (.string x.data.toList):=keyOf_string_mk Tryz.underlying9 hxs
   have hhas:=HM.out.2 x
   have hwf:(Lit.int .i64 (k:Int)).wf=true:=wf_of_i64 (by omega) (by omega)
   have HWF:=Lib.hid hwf;clear hwf
   have HST:=Lib.hid hst;have HMO:=Lib.hid hmo;have HSN:=Lib.hid hsn;have HK:=Lib.hid hkey;have HX:=Lib.hid hxs;have HO:=Lib.hid hown;have HB:=Lib.hid hb
   clear hst hmo hsn hkey hxs hown hb
   cases hm:memB (l.take k) x with
   | true =>
     rw [hm] at hhas
     have hy:=HMO.out hm
     have HY:=Lib.hid hy;have HH:=Lib.hid hhas;clear hy hm hhas
     go_wp2_with (at_lookup;refine wpList_lookup_own_ok_int _ rfl _ _ 217 rfl 9 3 .i64 law_str Tryz.underlying217 Tryz.underlying3 (zero_i64 _) w.heap.size k D rfl HO.out _ _ rfl HK.out ?_;intro c0 hat hwc;rw [HH.out];clear hat hwc)
     go_ret
     exact ⟨_,rfl,.inr ⟨q1,HY.out⟩,HB.out⟩
   | false =>
     rw [hm] at hhas HST
     have HH:=Lib.hid hhas;clear hm hhas
     go_wp2_with (first
      | (at_lookup;refine wpList_lookup_own_ok_int _ rfl _ _ 217 rfl 9 3 .i64 law_str Tryz.underlying217 Tryz.underlying3 (zero_i64 _) w.heap.size k D rfl HO.out _ _ rfl HK.out ?_;intro c0 hat hwc;rw [HH.out];clear hat hwc)
      | (at_mapUpdate;refine wpList_mapUpdate_own _ rfl _ _ _ 217 rfl 9 3 law_str Tryz.underlying217 _ w.heap.size k D rfl HO.out (by unfold maxLen;omega) _ _ _ rfl rfl HK.out _ [] (plainElem_int Tryz.underlying3 HWF.out) ?_;intro w1 hown1 hgrow1;have HO1:=Lib.hid hown1;have HG1:=Lib.hid hgrow1;clear hown1 hgrow1))
     go_roundw
     case rel=>exact ⟨k+1,by omega,by go_num,HST,⟨_,HO1.out,by rw [HSN.out];exact HM.out.snoc x _⟩,HB.out.grown HG1.out HB.out.size (fun j hj=>by cases hj;exact Nat.le_refl _)⟩
     case measure=>simp [intOf];omega
  ·obtain rfl:k=l.length:=by omega
   have HA2:Hid (dupB l=false):=HA
   have HB:=Lib.hid hb;have HO:=Lib.hid hown;clear hb hown
   go_wp2
   go_ret
   exact ⟨_,rfl,.inl ⟨rfl,HA2.out⟩,HB.out⟩
end Go.Proofs.YtfhmaincnlaapaaGreat
namespace Go.Proofs.YtfhmaincnlaapaaGreat
open Go.ChangeShapes Go.WideShapes Go.ChangeAt Go.RowKit
set_option linter.unusedVariables false
theorem all_isB {L:List ByteArray} (h:∀ j (hj:j<L.length),isB L[j]=true):L.all isB=true:=by
 rw [List.all_eq_true]
 intro x hx
 obtain ⟨j,hj,rfl⟩:=List.getElem_of_mem hx
 exact h j hj
theorem all_isB_no {L:List ByteArray} (k:Nat) (hk:k<L.length) (h:isB L[k]=false):L.all isB=false:=by
 rw [List.all_eq_false];exact ⟨_,List.getElem_mem hk,by rw [h];decide⟩
def namesTo (L:List ByteArray) (k:Nat):Prop:=∀ j (hj:j<L.length),j<k→isB L[j]=true
theorem namesTo.snoc {L:List ByteArray} {k:Nat} (h:namesTo L k) (hk:k<L.length) (hx:isB L[k]=true):namesTo L (k+1):=fun j hj hjk=>by
 by_cases e:j=k
 ·subst e;exact hx
 ·exact h j hj (by omega)
theorem Rd.view {w:World} {B:Nat} {A:Option Addr} {S:Sch} (h:Rd w B 1 A S.views.length (u32s S.views)) (ho:SchOk S) {k:Nat} (hk:k<S.views.length) :
 ∃ a,A=some a∧a.block<B∧w.cell? (a.add k)=some (.int .u32 (viewAt S k:Int))∧viewAt S k≤4294967295:=by
 obtain ⟨a,u,rfl,hb,hx,hc⟩:=h.at1 hk
 have hg:S.views.getD k 0=S.views[k]:=by simp [List.getD,hk]
 have hr:=ho.views _ (List.getElem_mem hk)
 have he:(viewAt S k:Int)=S.views[k]:=by unfold viewAt;rw [hg];omega
 refine ⟨a,rfl,hb,?_,by omega⟩
 rw [hc,he]
 rw [show (u32s S.views)[k]?=some (.int .u32 S.views[k]) from by simp [u32s,hk]] at hx
 exact congrArg some (by injection hx with hx;exact hx.symm)
theorem szAt_get (S:Sch) (k:Nat) (hk:k<S.dims.length):S.dims[k].2=szAt S k:=by
 unfold szAt
 rw [show S.dims.getD k (⟨#[]⟩,0)=S.dims[k] from by simp [List.getD,hk]]
theorem many_cases {S:Sch} (h:¬manyOk S):S.dims.length=0∨(1≤S.dims.length∧6<S.dims.length)∨(1≤S.dims.length∧S.dims.length≤6∧3<S.ints.length)∨(1≤S.dims.length∧S.dims.length≤6∧S.ints.length≤3∧2<S.nums.length)∨(1≤S.dims.length∧S.dims.length≤6∧S.ints.length≤3∧S.nums.length≤2∧15<S.views.length):=by
 unfold manyOk at h;omega
theorem namesL_size {S:Sch} (ho:SchOk S):∀ x∈namesL S,x.size≤maxLen:=fun x hx=>by
 unfold namesL at hx
 rcases List.mem_append.1 hx with hx|hx
 ·rcases List.mem_append.1 hx with hx|hx
  ·obtain ⟨y,hy,rfl⟩:=List.mem_map.1 hx;exact (ho.dims y hy).1
  ·exact ho.ints x hx
 ·exact ho.nums x hx
theorem shl_one (n:Nat) (h1:1≤n) (h2:n≤6):(2:Int)^n%4294967296=((p2 n-1:Nat):Int)+1:=by
 have:n=1∨n=2∨n=3∨n=4∨n=5∨n=6:=by omega
 rcases this with rfl|rfl|rfl|rfl|rfl|rfl<;>decide
theorem fullN_le {S:Sch} (h1:1≤S.dims.length) (h2:S.dims.length≤6):1≤fullN S∧fullN S≤63:=by
 unfold fullN
 have a:=p2_le 1 _ h1
 have b:=p2_le _ 6 h2
 have c:p2 1=2:=rfl
 have d:p2 6=64:=rfl
 omega
set_option maxRecDepth 20000 in
set_option maxHeartbeats 4000000 in
theorem schemaCheck_any (w:World) (B:Nat) (v:Value) (S:Sch) (h:SchAt w B v S) (ho:SchOk S) (hB:B≤w.heap.size) :
 Calls Tryz.prog 39 #[v] w fun y w'=>y=.returned (.int .i64 (checkN S:Int))∧Below w.heap.size w w':=by
 obtain ⟨A0,c0,A1,c1,A2,c2,A3,c3,rfl,r0,r1,r2,r3,b0,b1,b2,b3⟩:=h
 have hw0:=belA (belR w) (.cells #[.slice A0 S.dims.length c0,.slice A1 S.ints.length c1,.slice A2 S.nums.length c2,.slice A3 S.views.length c3] 26)
 have hs0:SchAt (w.alloc (.cells #[.slice A0 S.dims.length c0,.slice A1 S.ints.length c1,.slice A2 S.nums.length c2,.slice A3 S.views.length c3] 26)) B (.agg #[.slice A0 S.dims.length c0,.slice A1 S.ints.length c1,.slice A2 S.nums.length c2,.slice A3 S.views.length c3]) S :=
  ⟨A0,c0,A1,c1,A2,c2,A3,c3,rfl,r0.below (hw0.mono hB),r1.below (hw0.mono hB),r2.below (hw0.mono hB),r3.below (hw0.mono hB),b0,b1,b2,b3⟩
 have hblk:=Blk.new w 26 #[.slice A0 S.dims.length c0,.slice A1 S.ints.length c1,.slice A2 S.nums.length c2,.slice A3 S.views.length c3]
 have R0:=Lib.hid (r0.below (hw0.mono hB));have R3:=Lib.hid (r3.below (hw0.mono hB))
 have HS:=Lib.hid hs0;have HW0:=Lib.hid hw0;have HBLK:=Lib.hid hblk
 clear r0 r1 r2 r3 b0 b1 b2 b3 hs0 hw0 hblk
 by_cases hm:manyOk S
 case neg =>
  have HNO:=Lib.hid (checkN_many hm)
  have hcs:=many_cases hm
  clear hm
  rcases hcs with e|e|e|e|e
  ·have t0:((S.dims.length:Int)==0)=true:=by rw [beq_iff_eq];omega
   clear e
   go_enter Tryz.func39,Tryz.ntmps39
   go_wp2
   go_ret
   exact ⟨by rw [HNO.out];rfl,HW0.out⟩
  all_goals
   have t0:((S.dims.length:Int)==0)=false:=by rw [beq_eq_false_iff_ne];omega
   have e1:(1:Int)≤(S.dims.length:Int):=by omega
   go_enter Tryz.func39,Tryz.ntmps39
   go_wp2
   go_ret
   exact ⟨by rw [HNO.out];rfl,HW0.out⟩
 case pos =>
  have hmm:=hm
  obtain ⟨m1,m2,m3,m4,m5⟩:=hmm
  have t0:((S.dims.length:Int)==0)=false:=by rw [beq_eq_false_iff_ne];omega
  have hnl:(namesL S).length≤300:=by unfold namesL;rw [List.length_append,List.length_append,List.length_map];omega
  have hn:=all_any _ B _ S HS.out (Nat.le_trans hB (by simp)) (by omega) (by omega) (by omega)
  have hfl:=fullN_le m1 m2
  have hno1:=fun h1=>checkN_name hm h1
  have hno2:=fun h1 h2=>checkN_dup hm h1 h2
  have hno3:=fun h1 h2 k hk h3=>checkN_keys hm h1 h2 k hk h3
  have hno4:=fun h1 h2 p h3 h4=>checkN_views hm h1 h2 p h3 h4
  have hyes:=fun h1 h2 p h3 h4=>checkN_ok hm h1 h2 p h3 h4
  have NO1:=Lib.hid hno1;have NO2:=Lib.hid hno2;have NO3:=Lib.hid hno3;have NO4:=Lib.hid hno4;have YES:=Lib.hid hyes
  have HN:=Lib.hid hn;have HLS:=Lib.hid (namesL_size ho);have HSH:=Lib.hid (shl_one S.dims.length m1 m2)
  clear hm hn hno1 hno2 hno3 hno4 hyes
  generalize namesL S=L at *
  have hz0:w.heap.size<(w.alloc (.cells #[.slice A0 S.dims.length c0,.slice A1 S.ints.length c1,.slice A2 S.nums.length c2,.slice A3 S.views.length c3] 26)).heap.size:=by simp
  go_enter Tryz.func39,Tryz.ntmps39
  go_wp2_with (go_at_call 102;(with_reducible refine HN.out.mono ?_);rintro y w1 ⟨v1,rfl,ho1,hb1⟩;obtain ⟨A5,c5,rfl,hc5,hc6,_⟩:=own_form ho1;have HR1:=Lib.hid (Rd.own ho1);have HK1:=Lib.hid (HBLK.out.below hb1 hz0);have HR0:=Lib.hid (R0.out.below (hb1.mono (show B≤_ by omega)));have HR3:=Lib.hid (R3.out.below (hb1.mono (show B≤_ by omega)));have hz1:w.heap.size<w1.heap.size:=Nat.lt_of_lt_of_le hz0 hb1.size;have HB1:=Lib.hid (belT HW0.out hb1);clear ho1 hb1 hz0 HBLK R0 R3 HN)
  have hcc:=hc6
  unfold maxLen at hcc
  go_loopw [44] (fun i wr=>∃ k:Nat,k≤L.length∧i=.int .i64 (k:Int)∧Hid (namesTo L k)∧Hid (Below w1.heap.size w1 wr)) (fun i _=>L.length-(intOf i).toNat)
  case atStart=>exact ⟨0,by omega,rfl,fun j _ hj=>by omega,belR w1⟩
  case round =>
   obtain ⟨k,hk,rfl,HA,HBr⟩:=hrel
   have hz:=HBr.out.size
   by_cases hlt:k<L.length
   ·obtain ⟨a,rfl,hab,x0⟩:=(HR1.out.below HBr.out).str hlt
    have q1:(0:Int)≤(k:Int):=by omega
    have q2:(k:Int)<(L.length:Int):=by omega
    have hst:=fun h=>HA.out.snoc hlt h
    have hno:=fun h=>NO1.out (all_isB_no k hlt h)
    have hc:=is_any wr L[k]
    generalize L[k]=x at *
    cases hx:isB x with
    | true =>
      rw [hx] at hc
      have HST:=Lib.hid (hst hx);have HC:=Lib.hid hc;clear hx hst hno hc
      go_wp2_with (go_at_call 103;(with_reducible refine HC.out.mono ?_);rintro y w2 ⟨rfl,hb2⟩;have HB2:=Lib.hid hb2;clear hb2)
      go_roundw
      case rel=>exact ⟨k+1,by omega,by go_num,HST,belT HBr.out HB2.out⟩
      case measure=>simp [intOf];omega
    | false =>
      rw [hx] at hc
      have HNO:=Lib.hid (hno hx);have HC:=Lib.hid hc;clear hx hst hno hc
      go_wp2_with (go_at_call 103;(with_reducible refine HC.out.mono ?_);rintro y w2 ⟨rfl,hb2⟩;have HB2:=Lib.hid hb2;clear hb2)
      go_ret
      exact ⟨by rw [HNO.out];rfl,HB1.out.trans ((belT HBr.out HB2.out).mono (Nat.le_of_lt hz1))⟩
   ·obtain rfl:k=L.length:=by omega
    have hall:L.all isB=true:=all_isB fun j hj=>HA.out j hj hj
    have HALL:=Lib.hid hall
    have hc:=twice_any wr A5 L.length c5 _ L (HR1.out.below HBr.out) hz (by omega) HLS.out
    clear hall HA NO1
    cases hd:dupB L with
    | true =>
      have hc2:Calls Tryz.prog 104 #[.slice A5 L.length c5] wr fun y w'=>∃ z,y=.returned (.int .i64 z)∧0≤z∧Below wr.heap.size wr w' :=
       hc.mono fun y w' ⟨z,h1,h2,h3⟩=>⟨z,h1,by rcases h2 with ⟨_,h2⟩|⟨h2,_⟩;(rw [hd] at h2;cases h2);exact h2,h3⟩
      have HNO:=Lib.hid (NO2.out HALL.out hd);have HC:=Lib.hid hc2;clear hc hc2 hd
      go_wp2_with (go_at_call 104;(with_reducible refine HC.out.mono ?_);rintro y w2 ⟨z,rfl,hz2,hb2⟩;have HB2:=Lib.hid hb2;clear hb2)
      go_ret
      exact ⟨by rw [HNO.out];rfl,HB1.out.trans ((belT HBr.out HB2.out).mono (Nat.le_of_lt hz1))⟩
    | false =>
      have hc2:Calls Tryz.prog 104 #[.slice A5 L.length c5] wr fun y w'=>y=.returned (.int .i64 (-1))∧Below wr.heap.size wr w' :=
       hc.mono fun y w' ⟨z,h1,h2,h3⟩=>⟨by rcases h2 with ⟨h2,_⟩|⟨_,h2⟩;(rw [h1,h2]);(rw [hd] at h2;cases h2),h3⟩
      have HC:=Lib.hid hc2
      have NO3':=Lib.hid (NO3.out HALL.out hd);have NO4':=Lib.hid (NO4.out HALL.out hd);have YES':=Lib.hid (YES.out HALL.out hd)
      clear hc hc2 hd NO2 NO3 NO4 YES HALL
      go_wp2_with (go_at_call 104;(with_reducible refine HC.out.mono ?_);rintro y w2 ⟨rfl,hb2⟩;have HB2:=Lib.hid (belT HBr.out hb2);have hk2:=HK1.out.below HB2.out hz1;have k20:=hk2.cell 0;simp at k20;clear hb2)
      have HR02:=Lib.hid (HR0.out.below (HB2.out.mono (show B≤w1.heap.size by omega)));have HR32:=Lib.hid (HR3.out.below (HB2.out.mono (show B≤w1.heap.size by omega)))
      have HK2:=Lib.hid hk2
      have hz2:w.heap.size<w2.heap.size:=Nat.lt_of_lt_of_le hz1 HB2.out.size
      have HBW:=Lib.hid (HB1.out.trans (HB2.out.mono (Nat.le_of_lt hz1)))
      clear hk2 HR0 HR3 HB1 HBr HC HR1 HK1 HB2 hz
      go_loopw [6,58] (fun v6 i ws=>∃ k p:Nat,k≤S.dims.length∧i=.int .i64 (k:Int)∧v6=.int .i64 (p:Int)∧Hid (keysTo S k=some p)∧Hid (Below w2.heap.size w2 ws)) (fun _ i _=>S.dims.length-(intOf i).toNat)
      case atStart=>exact ⟨0,1,by omega,rfl,rfl,rfl,belR w2⟩
      case round =>
       rename_i ws _ _ _ hrel
       obtain ⟨k,p,hk,rfl,rfl,HP,HBs⟩:=hrel
       have hz:=HBs.out.size
       have hpl:=keysTo_le S k p HP.out
       by_cases hlt:k<S.dims.length
       ·obtain ⟨a,rfl,hab,x0,x1⟩:=(HR02.out.below (HBs.out.mono (show B≤w2.heap.size by omega))).dim hlt
        have q1:(0:Int)≤(k:Int):=by omega
        have q2:(k:Int)<(S.dims.length:Int):=by omega
        rw [szAt_get S k hlt] at x1
        have hst:=keysTo_succ S k p HP.out
        have hsb:=(ho.dims _ (List.getElem_mem hlt)).2
        rw [szAt_get S k hlt] at hsb
        generalize S.dims[k].1=nm at *
        generalize szAt S k=sz at *
        have hbx:=belA HBs.out (.cells #[.string nm,.int .i64 sz] 79)
        have HBX:=Lib.hid hbx;clear hbx
        have hfin:=HBW.out.trans (HBX.out.mono (Nat.le_of_lt hz2))
        have HFIN:=Lib.hid hfin;clear hfin
        by_cases s1:sz<1
        ·have HNO:=Lib.hid (NO3'.out (k+1) (by omega) (by rw [hst];exact keyStep_no (by omega)))
         clear hst
         go_wp2
         go_ret
         exact ⟨by rw [HNO.out];rfl,HFIN.out⟩
        ·by_cases s2:4096<sz
         ·have HNO:=Lib.hid (NO3'.out (k+1) (by omega) (by rw [hst];exact keyStep_no (by omega)))
          clear hst
          go_wp2
          go_ret
          exact ⟨by rw [HNO.out];rfl,HFIN.out⟩
         ·obtain ⟨n,rfl⟩:∃ n:Nat,sz=(n:Int):=⟨sz.toNat,by omega⟩
          have hn1:1≤n:=by omega
          have hq:(1099511627776:Int).tdiv (n:Int)=((1099511627776/n:Nat):Int):=by rw [Int.tdiv_eq_ediv_of_nonneg (by omega)];rfl
          have hz0':((n:Int)==0)=false:=by rw [beq_eq_false_iff_ne];omega
          have hdv:1099511627776/n<p↔1099511627776<p*n:=Nat.div_lt_iff_lt_mul (by omega)
          have hql:1099511627776/n≤1099511627776:=Nat.div_le_self _ _
          generalize 1099511627776/n=q at *
          by_cases s3:q<p
          ·have hbig:=hdv.1 s3
           have HNO:=Lib.hid (NO3'.out (k+1) (by omega) (by rw [hst];exact keyStep_no (by rw [Int.toNat_natCast];omega)))
           clear hst hdv hbig
           go_wp2
           go_ret
           exact ⟨by rw [HNO.out];rfl,HFIN.out⟩
          ·have hle:p*n≤1099511627776:=by
            rcases Nat.lt_or_ge 1099511627776 (p*n) with h|h
            ·exact absurd (hdv.2 h) s3
            ·exact h
           have hst2:=hst.trans (keyStep_yes hn1 (by omega) rfl hle)
           have hmul:(p:Int)*(n:Int)=((p*n:Nat):Int):=by omega
           have HST:=Lib.hid hst2
           clear hst hst2 hdv
           generalize p*n=r at *
           go_wp2
           go_roundw
           case rel=>exact ⟨k+1,r,by omega,by go_num,rfl,HST,HBX⟩
           case measure=>simp [intOf];omega
       ·obtain rfl:k=S.dims.length:=by omega
        have NO4'':=Lib.hid (NO4'.out p HP.out);have YES'':=Lib.hid (YES'.out p HP.out)
        clear NO3' NO4' YES' HP
        have hk3:=HK2.out.below HBs.out hz2
        have k30:=hk3.cell 0;have k33:=hk3.cell 3
        simp at k30 k33
        have HRV:=Lib.hid (HR32.out.below (HBs.out.mono (show B≤w2.heap.size by omega)))
        have HFIN:=Lib.hid (HBW.out.trans (HBs.out.mono (Nat.le_of_lt hz2)))
        have HF:Hid (fullN S=p2 S.dims.length-1):=rfl
        have hsh:=HSH.out
        rw [←HF.out] at hsh
        generalize fullN S=F at *
        clear hk3
        go_wp2
        go_loop [90] (fun i=>∃ k:Nat,k≤S.views.length∧i=.int .i64 (k:Int)∧Hid (viewsTo S k=true)) (fun i=>S.views.length-(intOf i).toNat)
        case atStart=>exact ⟨0,by omega,rfl,rfl⟩
        case round =>
         rename_i hrel
         obtain ⟨k,hk,rfl,HV⟩:=hrel
         by_cases hlt:k<S.views.length
         ·obtain ⟨a,rfl,hab,x0,hxl⟩:=HRV.out.view ho hlt
          have q1:(0:Int)≤(k:Int):=by omega
          have q2:(k:Int)<(S.views.length:Int):=by omega
          have hst:=viewsTo_succ S k
          rw [HV.out,Bool.true_and] at hst
          have hno:=viewsTo_no S k hlt
          have HV2:=Lib.hid hst;clear hst
          by_cases s1:F≤viewAt S k
          ·have hv:viewOk S k=false:=by unfold viewOk;rw [decide_eq_false (show ¬viewAt S k<fullN S by rw [HF.out] at s1;unfold fullN;omega)];rfl
           have HNO:=Lib.hid (NO4''.out (hno hv))
           generalize viewAt S k=x at *
           have t1:decide ((F:Int)≤(x:Int))=true:=decide_eq_true (by omega)
           clear hv hno
           go_wp2
           go_ret
           exact ⟨by rw [HNO.out];rfl,HFIN.out⟩
          ·have t1:decide ((F:Int)≤(viewAt S k:Int))=false:=decide_eq_false (by omega)
           cases k with
           | zero =>
             have hv:viewOk S 0=true:=by rw [viewOk_zero,decide_eq_true (show viewAt S 0<fullN S by rw [HF.out] at s1;unfold fullN;omega)]
             have HST:Hid (viewsTo S (0+1)=true):=Lib.hid (HV2.out.trans hv)
             rw [add_zero'] at x0
             generalize viewAt S 0=x at *
             clear hv hno HV2
             go_wp2
             go_round
             case rel=>exact ⟨1,by omega,rfl,HST⟩
             case measure=>simp [intOf];omega
           | succ j =>
             obtain ⟨a',ea,_,y0,hyl⟩:=HRV.out.view ho (k:=j) (by omega)
             injection ea with ea;subst ea
             rw [add_succ] at x0
             have hvk:=viewOk_pos S (j+1) (by omega)
             rw [show j+1-1=j from rfl,decide_eq_true (show viewAt S (j+1)<fullN S by rw [HF.out] at s1;unfold fullN;omega),Bool.true_and] at hvk
             rw [show ((j+1:Nat):Int)=(j:Int)+1 from by omega] at *
             generalize viewAt S (j+1)=x at *
             generalize viewAt S j=y at *
             by_cases s2:y<x
             ·have HST:=Lib.hid (HV2.out.trans (hvk.trans (decide_eq_true s2)))
              have t2:decide ((x:Int)≤(y:Int))=false:=decide_eq_false (by omega)
              clear hvk hno HV2
              go_wp2
              go_round
              case rel=>exact ⟨j+1+1,by omega,by go_num,HST⟩
              case measure=>simp [intOf];omega
             ·have HNO:=Lib.hid (NO4''.out (hno (hvk.trans (decide_eq_false s2))))
              have t2:decide ((x:Int)≤(y:Int))=true:=decide_eq_true (by omega)
              clear hvk hno HV2
              go_wp2
              go_ret
              exact ⟨by rw [HNO.out];rfl,HFIN.out⟩
         ·obtain rfl:k=S.views.length:=by omega
          have HY:=Lib.hid (YES''.out HV.out)
          go_wp2
          go_ret
          exact ⟨by rw [HY.out];rfl,HFIN.out⟩
set_option maxRecDepth 20000 in
set_option maxHeartbeats 4000000 in
theorem refCheck_any (w:World) (B:Nat) (v:Value) (S:Sch) (h:SchAt w B v S) (ho:SchOk S) (hB:B≤w.heap.size) :
 Calls Tryz.prog 45 #[v] w fun y w'=>y=.returned (.int .i64 (checkN S:Int))∧Below w.heap.size w w':=by
 obtain ⟨A0,c0,A1,c1,A2,c2,A3,c3,rfl,r0,r1,r2,r3,b0,b1,b2,b3⟩:=h
 have hw0:=belA (belR w) (.cells #[.slice A0 S.dims.length c0,.slice A1 S.ints.length c1,.slice A2 S.nums.length c2,.slice A3 S.views.length c3] 26)
 have hs0:SchAt (w.alloc (.cells #[.slice A0 S.dims.length c0,.slice A1 S.ints.length c1,.slice A2 S.nums.length c2,.slice A3 S.views.length c3] 26)) B (.agg #[.slice A0 S.dims.length c0,.slice A1 S.ints.length c1,.slice A2 S.nums.length c2,.slice A3 S.views.length c3]) S :=
  ⟨A0,c0,A1,c1,A2,c2,A3,c3,rfl,r0.below (hw0.mono hB),r1.below (hw0.mono hB),r2.below (hw0.mono hB),r3.below (hw0.mono hB),b0,b1,b2,b3⟩
 have hblk:=Blk.new w 26 #[.slice A0 S.dims.length c0,.slice A1 S.ints.length c1,.slice A2 S.nums.length c2,.slice A3 S.views.length c3]
 have R0:=Lib.hid (r0.below (hw0.mono hB));have R3:=Lib.hid (r3.below (hw0.mono hB))
 have HS:=Lib.hid hs0;have HW0:=Lib.hid hw0;have HBLK:=Lib.hid hblk
 clear r0 r1 r2 r3 b0 b1 b2 b3 hs0 hw0 hblk
 by_cases hm:manyOk S
 case neg =>
  have HNO:=Lib.hid (checkN_many hm)
  have hcs:=many_cases hm
  clear hm
  rcases hcs with e|e|e|e|e
  ·have t0:(S.dims.length:Int)<1:=by omega
   clear e
   go_enter Tryz.func45,Tryz.ntmps45
   go_wp2
   go_ret
   exact ⟨by rw [HNO.out];rfl,HW0.out⟩
  all_goals
   have t0:((S.dims.length:Int)==0)=false:=by rw [beq_eq_false_iff_ne];omega
   have e1:(1:Int)≤(S.dims.length:Int):=by omega
   go_enter Tryz.func45,Tryz.ntmps45
   go_wp2
   go_ret
   exact ⟨by rw [HNO.out];rfl,HW0.out⟩
 case pos =>
  have hmm:=hm
  obtain ⟨m1,m2,m3,m4,m5⟩:=hmm
  have t0:((S.dims.length:Int)==0)=false:=by rw [beq_eq_false_iff_ne];omega
  have hnl:(namesL S).length≤300:=by unfold namesL;rw [List.length_append,List.length_append,List.length_map];omega
  have hn:=refNames_any _ B _ S HS.out (Nat.le_trans hB (by simp)) (by omega) (by omega) (by omega)
  have hfl:=fullN_le m1 m2
  have hno1:=fun h1=>checkN_name hm h1
  have hno2:=fun h1 h2=>checkN_dup hm h1 h2
  have hno3:=fun h1 h2 k hk h3=>checkN_keys hm h1 h2 k hk h3
  have hno4:=fun h1 h2 p h3 h4=>checkN_views hm h1 h2 p h3 h4
  have hyes:=fun h1 h2 p h3 h4=>checkN_ok hm h1 h2 p h3 h4
  have NO1:=Lib.hid hno1;have NO2:=Lib.hid hno2;have NO3:=Lib.hid hno3;have NO4:=Lib.hid hno4;have YES:=Lib.hid hyes
  have HN:=Lib.hid hn;have HLS:=Lib.hid (namesL_size ho);have HSH:=Lib.hid (shl_one S.dims.length m1 m2)
  clear hm hn hno1 hno2 hno3 hno4 hyes
  generalize namesL S=L at *
  have hz0:w.heap.size<(w.alloc (.cells #[.slice A0 S.dims.length c0,.slice A1 S.ints.length c1,.slice A2 S.nums.length c2,.slice A3 S.views.length c3] 26)).heap.size:=by simp
  go_enter Tryz.func45,Tryz.ntmps45
  go_wp2_with (go_at_call 37;(with_reducible refine HN.out.mono ?_);rintro y w1 ⟨v1,rfl,ho1,hb1⟩;obtain ⟨A5,c5,rfl,hc5,hc6,_⟩:=own_form ho1;have HR1:=Lib.hid (Rd.own ho1);have HK1:=Lib.hid (HBLK.out.below hb1 hz0);have HR0:=Lib.hid (R0.out.below (hb1.mono (show B≤_ by omega)));have HR3:=Lib.hid (R3.out.below (hb1.mono (show B≤_ by omega)));have hz1:w.heap.size<w1.heap.size:=Nat.lt_of_lt_of_le hz0 hb1.size;have HB1:=Lib.hid (belT HW0.out hb1);clear ho1 hb1 hz0 HBLK R0 R3 HN)
  have hcc:=hc6
  unfold maxLen at hcc
  go_loopw [4] (fun i wr=>∃ k:Nat,k≤L.length∧i=.int .i64 (k:Int)∧Hid (namesTo L k)∧Hid (Below w1.heap.size w1 wr)) (fun i _=>L.length-(intOf i).toNat)
  case atStart=>exact ⟨0,by omega,rfl,fun j _ hj=>by omega,belR w1⟩
  case round =>
   obtain ⟨k,hk,rfl,HA,HBr⟩:=hrel
   have hz:=HBr.out.size
   by_cases hlt:k<L.length
   ·obtain ⟨a,rfl,hab,x0⟩:=(HR1.out.below HBr.out).str hlt
    have q1:(0:Int)≤(k:Int):=by omega
    have q2:(k:Int)<(L.length:Int):=by omega
    have hst:=fun h=>HA.out.snoc hlt h
    have hno:=fun h=>NO1.out (all_isB_no k hlt h)
    have hc:=refIs_any wr L[k]
    generalize L[k]=x at *
    cases hx:isB x with
    | true =>
      rw [hx] at hc
      have HST:=Lib.hid (hst hx);have HC:=Lib.hid hc;clear hx hst hno hc
      go_wp2_with (go_at_call 109;(with_reducible refine HC.out.mono ?_);rintro y w2 ⟨rfl,hb2⟩;have HB2:=Lib.hid hb2;clear hb2)
      go_roundw
      case rel=>exact ⟨k+1,by omega,by go_num,HST,belT HBr.out HB2.out⟩
      case measure=>simp [intOf];omega
    | false =>
      rw [hx] at hc
      have HNO:=Lib.hid (hno hx);have HC:=Lib.hid hc;clear hx hst hno hc
      go_wp2_with (go_at_call 109;(with_reducible refine HC.out.mono ?_);rintro y w2 ⟨rfl,hb2⟩;have HB2:=Lib.hid hb2;clear hb2)
      go_ret
      exact ⟨by rw [HNO.out];rfl,HB1.out.trans ((belT HBr.out HB2.out).mono (Nat.le_of_lt hz1))⟩
   ·obtain rfl:k=L.length:=by omega
    have hall:L.all isB=true:=all_isB fun j hj=>HA.out j hj hj
    have HALL:=Lib.hid hall
    have hc:=refTwice_any wr A5 L.length c5 _ L (HR1.out.below HBr.out) hc5 hc6
    clear hall HA NO1
    cases hd:dupB L with
    | true =>
      have hc2:Calls Tryz.prog 110 #[.slice A5 L.length c5] wr fun y w'=>∃ z,y=.returned (.int .i64 z)∧0≤z∧Below wr.heap.size wr w' :=
       hc.mono fun y w' ⟨z,h1,h2,h3⟩=>⟨z,h1,by rcases h2 with ⟨_,h2⟩|⟨h2,_⟩;(rw [hd] at h2;cases h2);exact h2,belW (belR wr) h3⟩
      have HNO:=Lib.hid (NO2.out HALL.out hd);have HC:=Lib.hid hc2;clear hc hc2 hd
      go_wp2_with (go_at_call 110;(with_reducible refine HC.out.mono ?_);rintro y w2 ⟨z,rfl,hz2,hb2⟩;have HB2:=Lib.hid hb2;clear hb2)
      go_ret
      exact ⟨by rw [HNO.out];rfl,HB1.out.trans ((belT HBr.out HB2.out).mono (Nat.le_of_lt hz1))⟩
    | false =>
      have hc2:Calls Tryz.prog 110 #[.slice A5 L.length c5] wr fun y w'=>y=.returned (.int .i64 (-1))∧Below wr.heap.size wr w' :=
       hc.mono fun y w' ⟨z,h1,h2,h3⟩=>⟨by rcases h2 with ⟨h2,_⟩|⟨_,h2⟩;(rw [h1,h2]);(rw [hd] at h2;cases h2),belW (belR wr) h3⟩
      have HC:=Lib.hid hc2
      have NO3':=Lib.hid (NO3.out HALL.out hd);have NO4':=Lib.hid (NO4.out HALL.out hd);have YES':=Lib.hid (YES.out HALL.out hd)
      clear hc hc2 hd NO2 NO3 NO4 YES HALL
      go_wp2_with (go_at_call 110;(with_reducible refine HC.out.mono ?_);rintro y w2 ⟨rfl,hb2⟩;have HB2:=Lib.hid (belT HBr.out hb2);have hk2:=HK1.out.below HB2.out hz1;have k20:=hk2.cell 0;simp at k20;clear hb2)
      have HR02:=Lib.hid (HR0.out.below (HB2.out.mono (show B≤w1.heap.size by omega)));have HR32:=Lib.hid (HR3.out.below (HB2.out.mono (show B≤w1.heap.size by omega)))
      have HK2:=Lib.hid hk2
      have hz2:w.heap.size<w2.heap.size:=Nat.lt_of_lt_of_le hz1 HB2.out.size
      have HBW:=Lib.hid (HB1.out.trans (HB2.out.mono (Nat.le_of_lt hz1)))
      clear hk2 HR0 HR3 HB1 HBr HC HR1 HK1 HB2 hz
      go_loopw [5,6] (fun v6 i ws=>∃ k p:Nat,k≤S.dims.length∧i=.int .i64 (k:Int)∧v6=.int .i64 (p:Int)∧Hid (keysTo S k=some p)∧Hid (Below w2.heap.size w2 ws)) (fun _ i _=>S.dims.length-(intOf i).toNat)
      case atStart=>exact ⟨0,1,by omega,rfl,rfl,rfl,belR w2⟩
      case round =>
       obtain ⟨k,p,hk,rfl,rfl,HP,HBs⟩:=hrel
       have hz:=HBs.out.size
       have hpl:=keysTo_le S k p HP.out
       by_cases hlt:k<S.dims.length
       ·obtain ⟨a,rfl,hab,x0,x1⟩:=(HR02.out.below (HBs.out.mono (show B≤w2.heap.size by omega))).dim hlt
        have q1:(0:Int)≤(k:Int):=by omega
        have q2:(k:Int)<(S.dims.length:Int):=by omega
        rw [szAt_get S k hlt] at x1
        have hst:=keysTo_succ S k p HP.out
        have hsb:=(ho.dims _ (List.getElem_mem hlt)).2
        rw [szAt_get S k hlt] at hsb
        generalize S.dims[k].1=nm at *
        generalize szAt S k=sz at *
        have k30:=(HK2.out.below HBs.out hz2).cell 0
        simp at k30
        have hfin:=HBW.out.trans (HBs.out.mono (Nat.le_of_lt hz2))
        have HFIN:=Lib.hid hfin;clear hfin
        by_cases s1:sz<1
        ·have HNO:=Lib.hid (NO3'.out (k+1) (by omega) (by rw [hst];exact keyStep_no (by omega)))
         clear hst
         go_wp2
         go_ret
         exact ⟨by rw [HNO.out];rfl,HFIN.out⟩
        ·by_cases s2:4096<sz
         ·have HNO:=Lib.hid (NO3'.out (k+1) (by omega) (by rw [hst];exact keyStep_no (by omega)))
          clear hst
          go_wp2
          go_ret
          exact ⟨by rw [HNO.out];rfl,HFIN.out⟩
         ·obtain ⟨n,rfl⟩:∃ n:Nat,sz=(n:Int):=⟨sz.toNat,by omega⟩
          have hn1:1≤n:=by omega
          have hb1:p*n≤1099511627776*4096:=Nat.mul_le_mul hpl.2 (by omega)
          have hmul:(p:Int)*(n:Int)=((p*n:Nat):Int):=by omega
          by_cases s3:1099511627776<p*n
          ·have HNO:=Lib.hid (NO3'.out (k+1) (by omega) (by rw [hst];exact keyStep_no (by rw [Int.toNat_natCast];omega)))
           clear hst
           generalize p*n=r at *
           go_wp2
           go_ret
           exact ⟨by rw [HNO.out];rfl,HFIN.out⟩
          ·have hst2:=hst.trans (keyStep_yes hn1 (by omega) rfl (by omega))
           have HST:=Lib.hid hst2
           clear hst hst2
           generalize p*n=r at *
           go_wp2
           go_roundw
           case rel=>exact ⟨k+1,r,by omega,by go_num,rfl,HST,HBs⟩
           case measure=>simp [intOf];omega
       ·obtain rfl:k=S.dims.length:=by omega
        have NO4'':=Lib.hid (NO4'.out p HP.out);have YES'':=Lib.hid (YES'.out p HP.out)
        clear NO3' NO4' YES' HP
        have hk3:=HK2.out.below HBs.out hz2
        have k30:=hk3.cell 0;have k33:=hk3.cell 3
        simp at k30 k33
        have HRV:=Lib.hid (HR32.out.below (HBs.out.mono (show B≤w2.heap.size by omega)))
        have HFIN:=Lib.hid (HBW.out.trans (HBs.out.mono (Nat.le_of_lt hz2)))
        have HF:Hid (fullN S=p2 S.dims.length-1):=rfl
        have hpf:p2 S.dims.length=fullN S+1:=by have:=p2_pos S.dims.length;have h:=HF.out;omega
        have h2:∀ W,Calls Tryz.prog 111 #[.int .i64 (S.dims.length:Int)] W fun y w'=>y=.returned (.int .u32 ((fullN S:Int)+1))∧W=w':=fun W=>by
         have:=two_any W S.dims.length (by omega)
         rw [hpf] at this
         exact this
        have hsub:∀ (W:World) (x:Nat),x≤4294967295→Calls Tryz.prog 59 #[.int .u32 (x:Int),.int .u32 (fullN S:Int)] W fun y w'=>y=.returned (.bool (decide (x<fullN S+1)))∧W=w':=fun W x hx=>by
         have h:=sub_any W x (fullN S) (by omega) (by omega)
         rw [show fullN S=p2 S.dims.length-1 from rfl,sub_full x S.dims.length (by omega) (by omega),hpf] at h
         exact h
        have H2:=Lib.hid h2;have HSUB:=Lib.hid hsub
        clear h2 hsub hpf
        generalize fullN S=F at *
        have HK3:=Lib.hid hk3
        clear hk3
        go_wp2_with (go_at_call 111;(with_reducible refine (H2.out _).mono ?_);rintro y w3 ⟨rfl,rfl⟩)
        obtain ⟨ws,hws⟩:∃ ws,ws=wr:=⟨wr,rfl⟩
        subst hws
        go_loopw [9] (fun i wt=>∃ k:Nat,k≤S.views.length∧i=.int .i64 (k:Int)∧Hid (viewsTo S k=true)∧Hid (Drw ws wt)) (fun i _=>S.views.length-(intOf i).toNat)
        case atStart=>exact ⟨0,by omega,rfl,rfl,Drw.refl ws⟩
        case round =>
         obtain ⟨k,hk,rfl,HV,HDr⟩:=hrel
         have hk4:=HK3.out.drw HDr.out
         have k43:=hk4.cell 3
         simp at k43
         have HFT:=Lib.hid (HDr.out.below HFIN.out)
         have HFD:=Lib.hid (HFT.out.drew);have HDD:=Lib.hid HDr.out.drew
         clear hk4 k30 k33
         by_cases hlt:k<S.views.length
         ·obtain ⟨a,rfl,hab,x0,hxl⟩:=(rd_drw HRV.out HDr.out).view ho hlt
          have q1:(0:Int)≤(k:Int):=by omega
          have q2:(k:Int)<(S.views.length:Int):=by omega
          have hst:=viewsTo_succ S k
          rw [HV.out,Bool.true_and] at hst
          have hno:=viewsTo_no S k hlt
          have HV2:=Lib.hid hst;clear hst
          have hcs:=fun W=>HSUB.out W (viewAt S k) hxl
          by_cases s0:F+1≤viewAt S k
          ·have hv:viewOk S k=false:=by unfold viewOk;rw [decide_eq_false (show ¬viewAt S k<fullN S by rw [HF.out] at s0;unfold fullN;omega)];rfl
           have HNO:=Lib.hid (NO4''.out (hno hv))
           rw [decide_eq_false (show ¬viewAt S k<F+1 by omega)] at hcs
           generalize viewAt S k=x at *
           have HCS:=Lib.hid hcs
           clear hv hno hcs
           go_wp2
           go_quiet ((go_at_call 59;exact qcallS (HCS.out _)))
           go_wp2
           go_ret
           exact ⟨by rw [HNO.out];rfl,belD HFT.out _⟩
          ·rw [decide_eq_true (show viewAt S k<F+1 by omega)] at hcs
           by_cases s1:F≤viewAt S k
           ·have hv:viewOk S k=false:=by unfold viewOk;rw [decide_eq_false (show ¬viewAt S k<fullN S by rw [HF.out] at s1;unfold fullN;omega)];rfl
            have HNO:=Lib.hid (NO4''.out (hno hv))
            generalize viewAt S k=x at *
            have t1:((x:Int)==(F:Int))=true:=by rw [beq_iff_eq];omega
            have HCS:=Lib.hid hcs
            clear hv hno hcs
            go_wp2
            go_quiet ((go_at_call 59;exact qcallS (HCS.out _)))
            go_wp2
            go_ret
            exact ⟨by rw [HNO.out];rfl,belD HFT.out _⟩
           ·have t1:((viewAt S k:Int)==(F:Int))=false:=by rw [beq_eq_false_iff_ne];omega
            cases k with
            | zero =>
              have hv:viewOk S 0=true:=by rw [viewOk_zero,decide_eq_true (show viewAt S 0<fullN S by rw [HF.out] at s1;unfold fullN;omega)]
              have HST:Hid (viewsTo S (0+1)=true):=Lib.hid (HV2.out.trans hv)
              rw [add_zero'] at x0
              rw [show ((0:Nat):Int)=0 from rfl]
              generalize viewAt S 0=x at *
              have HCS:=Lib.hid hcs
              clear hv hno HV2 hcs
              go_wp2
              go_quiet ((go_at_call 59;exact qcallS (HCS.out _)))
              go_wp2
              go_roundw
              case rel=>exact ⟨1,by omega,rfl,HST,HDr.out.drewN _⟩
              case measure=>simp [intOf];omega
            | succ j =>
              obtain ⟨a',ea,_,y0,hyl⟩:=(rd_drw HRV.out HDr.out).view ho (k:=j) (by omega)
              injection ea with ea;subst ea
              rw [add_succ] at x0
              have hvk:=viewOk_pos S (j+1) (by omega)
              rw [show j+1-1=j from rfl,decide_eq_true (show viewAt S (j+1)<fullN S by rw [HF.out] at s1;unfold fullN;omega),Bool.true_and] at hvk
              rw [show ((j+1:Nat):Int)=(j:Int)+1 from by omega] at *
              generalize viewAt S (j+1)=x at *
              generalize viewAt S j=y at *
              have HCS:=Lib.hid hcs;clear hcs
              have t3:decide ((0:Int)<(j:Int)+1)=true:=decide_eq_true (by omega)
              have w1:IntKind.i64.wrap (j:Int)=(j:Int):=IntWalk.i64_in _ (by omega)
              have w2:IntKind.i64.wrap ((j:Int)+1-1)=(j:Int):=by rw [show (j:Int)+1-1=(j:Int) from by omega];exact w1
              have w3:(0:Int)≤(j:Int):=by omega
              have w4:(j:Int)<(S.views.length:Int):=by omega
              by_cases s2:y<x
              ·have HST:=Lib.hid (HV2.out.trans (hvk.trans (decide_eq_true s2)))
               have t2:decide ((x:Int)≤(y:Int))=false:=decide_eq_false (by omega)
               clear hvk hno HV2
               go_wp2
               go_quiet ((go_at_call 59;exact qcallS (HCS.out _)))
               go_wp2
               go_roundw
               case rel=>exact ⟨j+1+1,by omega,by go_num,HST,HDr.out.drewN _⟩
               case measure=>simp [intOf];omega
              ·have HNO:=Lib.hid (NO4''.out (hno (hvk.trans (decide_eq_false s2))))
               have t2:decide ((x:Int)≤(y:Int))=true:=decide_eq_true (by omega)
               clear hvk hno HV2
               go_wp2
               go_quiet ((go_at_call 59;exact qcallS (HCS.out _)))
               go_wp2
               go_ret
               exact ⟨by rw [HNO.out];rfl,belD HFT.out _⟩
         ·obtain rfl:k=S.views.length:=by omega
          have HY:=Lib.hid (YES''.out HV.out)
          go_wp2
          go_ret
          exact ⟨by rw [HY.out];rfl,HFT.out⟩
end Go.Proofs.YtfhmaincnlaapaaGreat
