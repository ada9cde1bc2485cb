/- tree.ReadLeaf. -/
import Derived.StillTailTactics
import Derived.Deep.DeepCutAuto
import Derived.Test.YtfhmaincnlaapaaGreatTrSy2
import Derived.Test.YtfhmaincnlaapaaGreatTrCellGet
import Derived.Test.YtfhmaincnlaapaaGreatTrAggGet
import Derived.Test.YtfhmaincnlaapaaGreatTrSpaceViews
namespace Go.Proofs.YtfhmaincnlaapaaGreat
open Go.ChangeShapes Go.WideShapes Go.ChangeAt Go.RowKit
set_option linter.unusedVariables false
section
variable {P:Program} {ops:Array Oper} {Q:Exit→Act→World→Prop} {md:Region.Mode} {S:World→Prop}
theorem rh_take (i:Nat) (d:Option Tmp) {oi:Oper} {v:Value} {fuel:Nat} {listed:Array Bool} {a:Act} {w:World} (hi:ops[i]?=some oi) (hd:oi.dst=d)
 (hs:Region.noSelect ops=true) (hf:Region.free md ops listed i=true) (hr:(Region.ready md ops listed).contains i=true) (hw:Region.wanted oi (yielded ops a.tmps)=true)
 (hQ:∀ c a w,Q (.panic c) (a.put d v) w→Q (.panic c) a w) (hS:S w) (hy:∀ w,S w→(execOp a.eval oi).run P w=.ok (.value v) w)
 (h:wpAnyH P md ops Q S fuel (listed.setIfInBounds i true) (a.put d v) w):wpAnyH P md ops Q S (fuel+1) listed a w:=by
 subst hd
 exact wpAnyH_take hi hs hf hr hQ (.inl ⟨hw,hy⟩) hS h
theorem rh_call (i:Nat) (d:Option Tmp) {o:Oper} {fuel:Nat} {listed:Array Bool} {a:Act} {w:World} (hr:Region.ready md ops listed=[i]) (ho:ops[i]?=some o) (hd:o.dst=d)
 (hw:Region.wanted o (yielded ops a.tmps)=true)
 (h:∀ K':Act→World→Prop,Shut (∀ a w,S w→(S w→wpAnyH P md ops Q S fuel (listed.setIfInBounds i true) a w)→K' a w)→Oper.wp P o a w K' Q):wpAnyH P md ops Q S (fuel+1) listed a w :=
 wpAnyH_ready hr (by simp) (AllReadyH.cons ho (fun K hK=>by rw [if_pos hw];exact h K hK) AllReadyH.nil)
end
set_option maxRecDepth 20000 in
theorem rising15_any (w:World) (B:Nat) (A:Option Addr) (c:Nat) (l:List CellS) (g:SlR cellR w B l A c) :
 Calls Tryz.prog 61 #[.slice A l.length c] w fun y w'=>y=.returned (.bool (risingC l))∧Drw w w':=by
 have hml:l.length≤9223372036854775807:=by have h1:=g.1;have h2:=g.2.1;unfold maxLen at h2;omega
 have G:=Lib.hid g
 clear g
 go_enter Tryz.func61,Tryz.ntmps61
 go_wp2
 go_loopw [3] (fun i wr=>∃ n k:Nat,k+1=n∧i=.int .i64 (n:Int)∧k≤l.length∧Hid (∀ j,j<k→j+1<l.length→kyC l j<kyC l (j+1))∧Hid (Drw w wr)) (fun i _=>l.length+1-(intOf i).toNat)
 case atStart=>exact ⟨1,0,rfl,rfl,by omega,fun j hj=>absurd hj (by omega),Drw.refl w⟩
 case round =>
  obtain ⟨n,k,hn,rfl,hk,HU,HD⟩:=hrel
  by_cases hlt:n<l.length
  ·obtain ⟨j,rfl⟩:=HD.out
   obtain ⟨a,A2,c2,A3,c3,rfl,hab,x0,_,_,_,hv⟩:=G.out.cellAt hlt
   obtain ⟨a',A2',c2',A3',c3',ea,_,y0,_,_,_,hv'⟩:=G.out.cellAt (k:=k) (by omega)
   injection ea with ea;subst ea
   have w1:IntKind.i64.wrap ((n:Int)-1)=(k:Int):=by rw [IntWalk.i64_in _ (by omega)];omega
   have q1:(0:Int)≤(n:Int):=by omega
   have q2:(n:Int)<(l.length:Int):=by omega
   have q3:(0:Int)≤(k:Int):=by omega
   have q4:(k:Int)<(l.length:Int):=by omega
   have z0:w.cell? (a.add (n*4))=some (.int .u64 (l[n].key:Int)):=x0
   have z1:w.cell? (a.add (k*4))=some (.int .u64 (l[k].key:Int)):=y0
   rw [kyC_get] at z0 z1
   have hno:=risingC_no (l:=l) (k:=k) (by omega)
   rw [hn] at hno
   by_cases hc:kyC l n≤kyC l k
   ·have t1:decide ((kyC l n:Int)≤(kyC l k:Int))=true:=decide_eq_true (by omega)
    have t1n:decide (kyC l n≤kyC l k)=true:=decide_eq_true (by omega)
    have HN:=Lib.hid (hno (by omega))
    have HNN:=Lib.hid hn
    clear hno hc x0 y0 hv hv'
    generalize kyC l n=p at *
    generalize kyC l k=q at *
    go_wp2
    go_quiet (fail)
    go_wp2
    go_ret
    first|exact ⟨(by rw [HN.out]<;>rfl),HD.out.drewN _⟩|exact ⟨(by rw [HN.out]<;>rfl),⟨_,rfl⟩⟩
   ·have t1:decide ((kyC l n:Int)≤(kyC l k:Int))=false:=decide_eq_false (by omega)
    have t1n:decide (kyC l n≤kyC l k)=false:=decide_eq_false (by omega)
    have HN:Hid (∀ j,j<n→j+1<l.length→kyC l j<kyC l (j+1)):=Lib.hid fun j hj hjl=>by
     by_cases e:j=k
     ·subst e;rw [hn];omega
     ·exact HU.out j (by omega) hjl
    have HNN:=Lib.hid hn
    clear hno hc x0 y0 hv hv'
    generalize kyC l n=p at *
    generalize kyC l k=q at *
    go_wp2
    go_quiet (fail)
    go_wp2
    go_roundw
    case rel=>exact ⟨n+1,n,rfl,by go_num,by omega,HN.out,Lib.hid ⟨_,rfl⟩⟩
    case measure=>simp [intOf];omega
  ·have HT:=Lib.hid ((risingC_iff l).2 fun j hj=>HU.out j (by omega) hj)
   skip
   go_wp2
   go_ret
   exact ⟨(by rw [HT.out]<;>rfl),HD.out⟩
set_option maxRecDepth 20000 in
set_option maxHeartbeats 4000000 in
theorem refKeys_any (w:World) (B:Nat) (v:Value) (S:Sch) (mask:Nat) (h:SchAt w B v S) (hB:B≤w.heap.size) (hm:mask<4294967296) (h0:checkN S=0) :
 Calls Tryz.prog 73 #[v,.int .u32 (mask:Int)] w fun y w'=>y=.returned (.int .u64 (keysP S mask S.dims.length:Int))∧Below w.heap.size w w':=by
 have hh:=h
 obtain ⟨A0,c0,A1,c1,A2,c2,A3,c3,rfl,r0,r1,r2,r3,b0,b1,b2,b3⟩:=hh
 clear r1 r2 r3 b0 b1 b2 b3
 obtain ⟨hmo,p,hp⟩:=checkN_zero h0
 unfold manyOk at hmo
 obtain ⟨m1,m2,_⟩:=hmo
 have hw0:=belA (belR w) (.cells #[.slice A0 S.dims.length c0,.slice A1 S.ints.length c1,.slice A2 S.nums.length c2,.slice A3 S.views.length c3] 26)
 have K0:=Lib.hid (Blk.new w 26 #[.slice A0 S.dims.length c0,.slice A1 S.ints.length c1,.slice A2 S.nums.length c2,.slice A3 S.views.length c3])
 have HW0:=Lib.hid hw0;have R0:=Lib.hid r0
 have HSZ:=Lib.hid (keysTo_some S _ p hp)
 have HKP:Hid (∀ k,k≤S.dims.length→keysP S mask k≤1099511627776):=Lib.hid fun k hk=>by
  obtain ⟨q,hq⟩:=keysTo_part S _ p hp k hk
  exact Nat.le_trans (keysP_le S mask k q hq) (keysTo_le S k q hq).2
 have HIN:=Lib.hid (fun W k (hk:k≤31)=>in_any W mask k hk hm)
 clear hw0 h r0 hp h0
 go_enter Tryz.func73,Tryz.ntmps73
 go_wp2
 go_loopw [5,6] (fun kv i wr=>∃ k:Nat,k≤S.dims.length∧i=.int .i64 (k:Int)∧kv=.int .u64 (keysP S mask k:Int)∧Hid (Below w.heap.size w wr∧Blk wr w.heap.size 26 #[.slice A0 S.dims.length c0,.slice A1 S.ints.length c1,.slice A2 S.nums.length c2,.slice A3 S.views.length c3])) (fun _ i _=>S.dims.length-(intOf i).toNat)
 case atStart=>exact ⟨0,by omega,rfl,rfl,HW0.out,K0.out⟩
 case round =>
  obtain ⟨k,hk,rfl,rfl,HB⟩:=hrel
  have s0:wr.cell? ⟨w.heap.size,0,none⟩=some (.slice A0 S.dims.length c0):=HB.out.2.cell 0
  by_cases hlt:k<S.dims.length
  ·obtain ⟨a,rfl,hab,x0,x1⟩:=(R0.out.below (HB.out.1.mono hB)).dim hlt
   have q1:(0:Int)≤(k:Int):=by omega
   have q2:(k:Int)<(S.dims.length:Int):=by omega
   have hzk:=HSZ.out k hlt
   have hsz:szAt S k=S.dims[k].2:=by unfold szAt;simp [List.getD,hlt]
   have hs:=keysP_succ S mask k
   have hkp:=HKP.out (k+1) (by omega)
   have hkq:=HKP.out k (by omega)
   have hin:=fun W=>HIN.out W k (by omega)
   rw [←hsz] at x1
   obtain ⟨z,hz⟩:∃ z:Nat,szAt S k=(z:Int):=⟨(szAt S k).toNat,by omega⟩
   rw [hz] at x1 hs hzk
   rw [Int.toNat_natCast] at hs
   clear hsz
   generalize keysP S mask k=K at *
   have wz:IntKind.u64.wrap (z:Int)=(z:Int):=by rw [IntKind.wrap_u64];omega
   rw [inB_bit] at hin
   cases hb:mask.testBit k with
   | true =>
     rw [hb] at hs hin
     simp only [if_true] at hs
     rw [hs] at hkp
     have wm:IntKind.u64.wrap ((K:Int)*(z:Int))=((K*z:Nat):Int):=by rw [←Int.natCast_mul,IntKind.wrap_u64];omega
     have HS:=Lib.hid hs;have HI:=Lib.hid hin
     clear hs hin hb hz
     go_wp2_with (go_at_call 120;(with_reducible refine (HI.out _).mono ?_);rintro y w1 ⟨rfl,rfl⟩)
     go_roundw
     case rel=>exact ⟨k+1,by omega,by go_num,by rw [HS.out]<;>(first|rfl|(rw [Int.natCast_mul])),HB.out⟩
     case measure=>simp [intOf];omega
   | false =>
     rw [hb] at hs hin
     have hs':keysP S mask (k+1)=K:=hs
     have HS:=Lib.hid hs';have HI:=Lib.hid hin
     clear hs hs' hin hb hz
     go_wp2_with (go_at_call 120;(with_reducible refine (HI.out _).mono ?_);rintro y w1 ⟨rfl,rfl⟩)
     go_roundw
     case rel=>exact ⟨k+1,by omega,by go_num,by rw [HS.out]<;>(first|rfl|(rw [Int.natCast_mul])),HB.out⟩
     case measure=>simp [intOf];omega
  ·obtain rfl:k=S.dims.length:=by omega
   go_wp2
   go_ret
   exact ⟨rfl,HB.out.1⟩
theorem inU_in (t:List UInt8) (p e most:Nat) (hp:p≤t.length):(inU t p e most).2.1≤t.length:=stepP_in t p _ _ hp fun h0=>getU_fits _ (stepE_zero h0).2.1
theorem inI_in (t:List UInt8) (p e:Nat) (hp:p≤t.length):(inI_ t p e).2.1≤t.length:=stepP_in t p _ _ hp fun h0=>getI_fits _ (stepE_zero h0).2.1
theorem inF_in (t:List UInt8) (p e:Nat) (hp:p≤t.length):(inF_ t p e).2.1≤t.length:=stepP_in t p _ _ hp fun h0=>getF_fits _ (stepE_zero h0).2.1
theorem rdB_in (t:List UInt8):(rdB 283 t).n≤t.length:=by
 unfold rdB got0S
 split
 ·exact Nat.zero_le _
 ·rename_i h
  split
  ·exact Nat.zero_le _
  ·split
   ·exact Nat.zero_le _
   ·rename_i h3
    have:=getU_fits t (by omega)
    simp only;omega
theorem inB_in (t:List UInt8) (p e:Nat) (hp:p≤t.length):(inB_ t p e).2.1≤t.length:=by
 unfold inB_
 split
 ·have:=rdB_in (t.drop p)
  rw [List.length_drop] at this
  simp only;omega
 ·exact hp
theorem runN_in {V:Type} {f:Nat→Nat→Nat→List V×Nat×Nat} {N:Nat} (h:∀ k p e,p≤N→(f k p e).2.1≤N) (p e k:Nat) (hp:p≤N):(runN f p e k).2.1≤N:=by
 induction k with
 | zero=>exact hp
 | succ k ih=>rw [runN_succ];exact h _ _ _ ih
theorem meaS_in (t:List UInt8) (p e:Nat) (hp:p≤t.length):(meaS t p e).2.1≤t.length :=
 inI_in t _ _ (inI_in t _ _ (runN_in (fun _ p e h=>inU_in t p e _ h) _ _ _ (inU_in t _ _ _ (inI_in t _ _ (inI_in t _ _ hp)))))
theorem reaS_in (t:List UInt8) (p e:Nat) (hp:p≤t.length):(reaS t p e).2.1≤t.length:=inF_in t _ _ (inF_in t _ _ (inB_in t _ _ hp))
theorem celS_in (S:Sch) (t:List UInt8):(celS S t).2.1≤t.length:=by
 have h1:(celK t).2.1≤t.length:=by unfold celK;exact inU_in t 0 0 _ (Nat.zero_le _)
 have h2:(celN t).2.1≤t.length:=by unfold celN;exact inI_in t _ _ h1
 have h3:(celW S t S.ints.length).2.1≤t.length:=by unfold celW;exact runN_in (f:=meaF t) (N:=t.length) (fun k p e h=>by unfold meaF;exact meaS_in t p e h) _ _ _ h2
 have h4:(celR S t S.nums.length).2.1≤t.length:=by unfold celR;exact runN_in (f:=reaF t) (N:=t.length) (fun k p e h=>by unfold reaF;exact reaS_in t p e h) _ _ _ h3
 unfold celS;exact h4
theorem getC_in (S:Sch) (mask:Nat) (t:List UInt8):(getC S mask t).2.1≤t.length:=by
 unfold getC
 (repeat' split)<;>first|exact Nat.zero_le _|exact celS_in S t
def rlS (S:Sch) (mask:Nat) (d:List UInt8):Nat→List CellS×Nat×Nat
 | 0=>([],0,0)
 | k+1=>if (rlS S mask d k).2.2≠0 then rlS S mask d k
   else if (getC S mask (d.drop (rlS S mask d k).2.1)).2.2≠0 then ([],0,(getC S mask (d.drop (rlS S mask d k).2.1)).2.2)
   else ((rlS S mask d k).1 ++ [(getC S mask (d.drop (rlS S mask d k).2.1)).1],(rlS S mask d k).2.1+(getC S mask (d.drop (rlS S mask d k).2.1)).2.1,0)
theorem rlS_bad {S:Sch} {mask:Nat} {d:List UInt8} {k:Nat} {l:List CellS} {p e:Nat} (h:rlS S mask d k=(l,p,0)) (he:(getC S mask (d.drop p)).2.2=e) (h0:e≠0):rlS S mask d (k+1)=([],0,e):=by
 rw [rlS,h];simp only;rw [if_neg (fun hh=>hh rfl),he,if_pos h0]
theorem rlS_good {S:Sch} {mask:Nat} {d:List UInt8} {k:Nat} {l:List CellS} {p q:Nat} {C:CellS} (h:rlS S mask d k=(l,p,0)) (hg:getC S mask (d.drop p)=(C,q,0)):rlS S mask d (k+1)=(l ++ [C],p+q,0):=by
 rw [rlS,h];simp only;rw [if_neg (fun hh=>hh rfl),hg,if_neg (fun hh=>hh rfl)]
theorem rlS_stuck {S:Sch} {mask:Nat} {d:List UInt8} {k:Nat} (h:(rlS S mask d k).2.2≠0) (n:Nat) (hn:k≤n):rlS S mask d n=rlS S mask d k:=by
 induction n with
 | zero=>obtain rfl:k=0:=by omega
         rfl
 | succ n ih =>
   by_cases hk:k≤n
   ·rw [rlS,if_pos (by rw [ih hk];exact h),ih hk]
   ·obtain rfl:k=n+1:=by omega
    rfl
theorem rlS_in (S:Sch) (mask:Nat) (d:List UInt8) (k:Nat):(rlS S mask d k).2.1≤d.length:=by
 induction k with
 | zero=>exact Nat.zero_le _
 | succ k ih =>
   rw [rlS]
   split
   ·exact ih
   ·split
    ·exact Nat.zero_le _
    ·have:=getC_in S mask (d.drop (rlS S mask d k).2.1)
     rw [List.length_drop] at this
     simp only;omega
def readL (S:Sch) (mask:Nat) (s:Sht):List CellS×Nat :=
 if checkN S≠0 then ([],1) else if (keysOf S mask).isNone=true then ([],11) else if s.k≠3∨s.a<1∨1001<s.a∨s.b≠mask then ([],6)
 else if (rlS S mask s.d s.a).2.2≠0 then ([],(rlS S mask s.d s.a).2.2) else if (rlS S mask s.d s.a).2.1<s.d.length then ([],7)
 else if risingC (rlS S mask s.d s.a).1=true then ((rlS S mask s.d s.a).1,0) else ([],6)
section
variable {S:Sch} {mask:Nat} {s:Sht}
theorem readL_arg (h:checkN S≠0):readL S mask s=([],1):=if_pos h
theorem readL_none (h:checkN S=0) (h1:(keysOf S mask).isNone=true):readL S mask s=([],11):=by unfold readL;rw [if_neg (fun hh=>hh h),if_pos h1]
theorem readL_head (h:checkN S=0) (h1:¬(keysOf S mask).isNone=true) (h2:s.k≠3∨s.a<1∨1001<s.a∨s.b≠mask):readL S mask s=([],6):=by unfold readL;rw [if_neg (fun hh=>hh h),if_neg h1,if_pos h2]
theorem readL_fault (h:checkN S=0) (h1:¬(keysOf S mask).isNone=true) (h2:¬(s.k≠3∨s.a<1∨1001<s.a∨s.b≠mask)) {k e:Nat} (hk:k≤s.a) (h3:rlS S mask s.d k=([],0,e)) (h4:e≠0):readL S mask s=([],e):=by
 have h5:=rlS_stuck (S:=S) (mask:=mask) (d:=s.d) (k:=k) (by rw [h3];exact h4) s.a hk
 unfold readL;rw [if_neg (fun hh=>hh h),if_neg h1,if_neg h2,h5,h3,if_pos h4]
theorem readL_more (h:checkN S=0) (h1:¬(keysOf S mask).isNone=true) (h2:¬(s.k≠3∨s.a<1∨1001<s.a∨s.b≠mask)) {l:List CellS} {p:Nat} (h3:rlS S mask s.d s.a=(l,p,0)) (h4:p<s.d.length):readL S mask s=([],7):=by
 unfold readL;rw [if_neg (fun hh=>hh h),if_neg h1,if_neg h2,h3,if_neg (fun hh=>hh rfl),if_pos h4]
theorem readL_form (h:checkN S=0) (h1:¬(keysOf S mask).isNone=true) (h2:¬(s.k≠3∨s.a<1∨1001<s.a∨s.b≠mask)) {l:List CellS} {p:Nat} (h3:rlS S mask s.d s.a=(l,p,0)) (h4:¬p<s.d.length) (h5:risingC l=false):readL S mask s=([],6):=by
 unfold readL;rw [if_neg (fun hh=>hh h),if_neg h1,if_neg h2,h3,if_neg (fun hh=>hh rfl),if_neg h4,if_neg (by rw [h5];decide)]
theorem readL_ok (h:checkN S=0) (h1:¬(keysOf S mask).isNone=true) (h2:¬(s.k≠3∨s.a<1∨1001<s.a∨s.b≠mask)) {l:List CellS} {p:Nat} (h3:rlS S mask s.d s.a=(l,p,0)) (h4:¬p<s.d.length) (h5:risingC l=true):readL S mask s=(l,0):=by
 unfold readL;rw [if_neg (fun hh=>hh h),if_neg h1,if_neg h2,h3,if_neg (fun hh=>hh rfl),if_neg h4,if_pos h5]
end
def CeO (w:World) (base:Nat):List CellS→List Value→Prop
 | [],xs=>xs=[]
 | C::l,xs=>∃ A2 c2 A3 c3 rest,xs=cellC C A2 c2 A3 c3++rest∧CellO w base C A2 c2 A3 c3∧CeO w base l rest
section
variable {w w':World} {base base':Nat} {l l':List CellS} {xs xs':List Value}
theorem CeO.map (h:CeO w base l xs) (hb:base'≤base) (k:∀ (e:TypeId) (size:Nat) (v:Value) (n:Nat) (ys:List Value),e≠53→w.ownsRow base e size v n ys→w'.ownsRow base e size v n ys):CeO w' base' l xs:=by
 induction l generalizing xs with
 | nil=>exact h
 | cons C l ih=>obtain ⟨A2,c2,A3,c3,rest,rfl,o,hr⟩:=h;exact ⟨A2,c2,A3,c3,rest,rfl,o.map hb k,ih hr⟩
theorem CeO.app (h:CeO w base l xs) (k:CeO w base l' xs'):CeO w base (l++l') (xs++xs'):=by
 induction l generalizing xs with
 | nil=>cases h;exact k
 | cons C l ih=>obtain ⟨A2,c2,A3,c3,rest,rfl,o,hr⟩:=h;exact ⟨A2,c2,A3,c3,rest++xs',by rw [List.append_assoc],o,ih hr⟩
theorem CeO.one {C:CellS} {A2 A3:Option Addr} {c2 c3:Nat} (h:CellO w base C A2 c2 A3 c3):CeO w base [C] (cellC C A2 c2 A3 c3):=⟨A2,c2,A3,c3,[],by simp,h,rfl⟩
theorem CeO.chunk (h:CeO w base l xs):Chunk cellR w w.heap.size l xs:=by
 induction l generalizing xs with
 | nil=>exact h
 | cons C l ih=>obtain ⟨A2,c2,A3,c3,rest,rfl,o,hr⟩:=h;exact ⟨_,rest,rfl,cellR_mk o.cellV,ih hr⟩
theorem CeO.below (h:CeO w base l xs) (hb:Below w.heap.size w w'):CeO w' base l xs:=h.map (Nat.le_refl _) fun e size v n ys _ o=>own_below o hb (Nat.le_refl _)
theorem CeO.alloc (h:CeO w base l xs) (o:Obj):CeO (w.alloc o) base l xs:=h.below (belA (belR w) o)
theorem CeO.drewN (h:CeO w base l xs) (n:Nat):CeO (w.drewN n) base l xs:=h.below (belD (belR w) n)
theorem CeO.appd {v v':Value} {b n size:Nat} {ys:List Value} (h:CeO w base l xs) (k:Appd w w' v v') (ho:w.ownsRow b 53 size v n ys):CeO w' base l xs:=h.map (Nat.le_refl _) fun _ _ _ _ _ he o=>k.kept o (own_own_ne o ho he)
theorem CeO.len (h:CeO w base l xs):xs.length=l.length*4:=h.chunk.len
end
structure RlR (w wr:World) (SV XV:Array Value) (ov:Value) (l:List CellS) (xs:List Value):Prop where
 s:Blk wr w.heap.size 26 SV
 x:Blk wr (w.heap.size+1) 42 XV
 o:wr.ownsRow (w.heap.size+1+1) 53 4 ov l.length xs
 c:CeO wr (w.heap.size+1+1) l xs
 n:Below w.heap.size w wr
section
variable {w wr w2 w3:World} {SV XV:Array Value} {ov v':Value} {l:List CellS} {xs:List Value}
theorem RlR.lt (h:RlR w wr SV XV ov l xs):w.heap.size+1+1≤wr.heap.size:=h.x.lt
theorem RlR.below (h:RlR w wr SV XV ov l xs) (hb:Below wr.heap.size wr w2):RlR w w2 SV XV ov l xs :=
 ⟨h.s.below hb h.s.lt,h.x.below hb h.x.lt,own_below h.o hb (Nat.le_refl _),h.c.below hb,belT h.n hb⟩
theorem RlR.put {C:CellS} {A2 A3:Option Addr} {c2 c3:Nat} (h:RlR w wr SV XV ov l xs) (hc:CellO wr (w.heap.size+1+1) C A2 c2 A3 c3) (ho:w3.ownsRow (w.heap.size+1+1) 53 4 v' (l.length+1) (xs++cellC C A2 c2 A3 c3)) (k:Appd wr w3 ov v') :
 RlR w w3 SV XV v' (l ++ [C]) (xs++cellC C A2 c2 A3 c3):=by
 have hz:=h.lt
 have hb:Below (w.heap.size+1+1) wr w3:=(Below.refl _ _).grown k.1 h.lt fun j hj=>(h.o.lt j hj).1
 exact ⟨h.s.below hb (by omega),h.x.below hb (by omega),by simpa using ho,(h.c.appd k h.o).app (CeO.one (hc.map (Nat.le_refl _) fun _ _ _ _ _ he o=>k.kept o (own_own_ne o h.o he))),h.n.trans (hb.mono (by omega))⟩
end
def RetLeaf (w:World) (S:Sch) (mask:Nat) (s:Sht) (y:Ending) (w':World):Prop:=∃ v xs,y=.returned (.tuple #[v,.int .i64 ((readL S mask s).2:Int)])∧w'.ownsRow w.heap.size 53 4 v (readL S mask s).1.length xs∧CeO w' w.heap.size (readL S mask s).1 xs∧Below w.heap.size w w'
theorem RetLeaf.bad {w w':World} {S:Sch} {mask:Nat} {s:Sht} {e:Nat} (h:readL S mask s=([],e)) (hb:Below w.heap.size w w'):RetLeaf w S mask s (.returned (.tuple #[.slice none 0 0,.int .i64 (e:Int)])) w' :=
 ⟨.slice none 0 0,[],by rw [h],by rw [h];exact World.ownsRow_nil _ _ _ 4,by rw [h];rfl,hb⟩
theorem info_cell4:(Tryz.prog.info? 53).map (fun i=>(i.zero,i.size,i.bytes))=some (some (.agg #[.int .u64 0,.int .i64 0,.slice none 0 0,.slice none 0 0]),4,64):=by kernel_rfl
theorem cellC_one (C:CellS) (A2:Option Addr) (c2:Nat) (A3:Option Addr) (c3:Nat):∀ u∈cellC C A2 c2 A3 c3,u.oneCell'=true:=by
 intro u hu
 unfold cellC at hu
 simp only [List.mem_cons,List.not_mem_nil,or_false] at hu
 rcases hu with rfl|rfl|rfl|rfl<;>rfl
theorem rh_call2 {P:Program} {ops:Array Oper} {Q:Exit→Act→World→Prop} {md:Region.Mode} {S:World→Prop} (i j:Nat) (di dj:Option Tmp) {oi oj:Oper} {fuel:Nat} {listed:Array Bool} {a:Act} {w:World} (hr:Region.ready md ops listed=[i,j])
 (hoi:ops[i]?=some oi) (hdi:oi.dst=di) (hoj:ops[j]?=some oj) (hdj:oj.dst=dj) (hwi:Region.wanted oi (yielded ops a.tmps)=true) (hwj:Region.wanted oj (yielded ops a.tmps)=true)
 (hi:∀ K':Act→World→Prop,Shut (∀ a w,S w→(S w→wpAnyH P md ops Q S fuel (listed.setIfInBounds i true) a w)→K' a w)→Oper.wp P oi a w K' Q)
 (hj:∀ K':Act→World→Prop,Shut (∀ a w,S w→(S w→wpAnyH P md ops Q S fuel (listed.setIfInBounds j true) a w)→K' a w)→Oper.wp P oj a w K' Q):wpAnyH P md ops Q S (fuel+1) listed a w :=
 wpAnyH_ready hr (by simp) (AllReadyH.cons hoi (fun K hK=>by rw [if_pos hwi];exact hi K hK) (AllReadyH.cons hoj (fun K hK=>by rw [if_pos hwj];exact hj K hK) AllReadyH.nil))
def LfCut (wr:World) (C:CellS) (q e:Nat) (v12 v13 v14:Value) (wx:World):Prop :=
 ∃ gc D2 d2 D3 d3,v12=.pointer (some ⟨gc,0,none⟩)∧v13=.int .i64 (q:Int)∧v14=.int .i64 (e:Int)∧Blk wx gc 53 (cellC C D2 d2 D3 d3).toArray∧CellO wx wr.heap.size C D2 d2 D3 d3∧Below wr.heap.size wr wx
theorem LfCut.after {wr W w5:World} {C:CellS} {q e:Nat} {D2 D3:Option Addr} {d2 d3:Nat} (hc:CellO w5 W.heap.size C D2 d2 D3 d3) (hw:Below wr.heap.size wr W) (hb:Below W.heap.size W w5) :
 LfCut wr C q e (.pointer (some ⟨w5.heap.size,0,none⟩)) (.int .i64 (q:Int)) (.int .i64 (e:Int)) (w5.alloc (.cells #[.int .u64 (C.key:Int),.int .i64 C.count,.slice D2 C.ints.length d2,.slice D3 C.nums.length d3] 53)) :=
 ⟨_,D2,d2,D3,d3,rfl,rfl,rfl,Blk.new w5 _ _,hc.map hw.size fun _ _ _ _ _ _ o=>o.alloc _,belA (belT hw hb) _⟩
theorem LfCut.before {wr W w5:World} {C:CellS} {q e:Nat} {D2 D3:Option Addr} {d2 d3:Nat} (hz:W.heap.size=wr.heap.size+1) (hk:Blk W wr.heap.size 53 #[.int .u64 0,.int .i64 0,.slice none 0 0,.slice none 0 0]) (hc:CellO w5 W.heap.size C D2 d2 D3 d3) (hw:Below wr.heap.size wr W) (hb:Below W.heap.size W w5) :
 LfCut wr C q e (.pointer (some ⟨wr.heap.size,0,none⟩)) (.int .i64 (q:Int)) (.int .i64 (e:Int)) ((((w5.setCell ⟨wr.heap.size,0,none⟩ (.int .u64 (C.key:Int))).setCell ⟨wr.heap.size,1,none⟩ (.int .i64 C.count)).setCell ⟨wr.heap.size,2,none⟩ (.slice D2 C.ints.length d2)).setCell ⟨wr.heap.size,3,none⟩ (.slice D3 C.nums.length d3)):=by
 have hk5:=hk.below hb (by omega)
 refine ⟨_,D2,d2,D3,d3,rfl,rfl,rfl,?_,hc.map (by omega) fun _ _ _ _ _ _ o=>own_set_lo (own_set_lo (own_set_lo (own_set_lo o (p:=⟨wr.heap.size,0,none⟩) (by simp only;omega) _) (p:=⟨wr.heap.size,1,none⟩) (by simp only;omega) _) (p:=⟨wr.heap.size,2,none⟩) (by simp only;omega) _) (p:=⟨wr.heap.size,3,none⟩) (by simp only;omega) _,bel4 (belT hw hb) (Nat.le_refl _) _ _ _ _⟩
 exact (((hk5.set_ 0 (.int .u64 (C.key:Int))).set_ 1 (.int .i64 C.count)).set_ 2 (.slice D2 C.ints.length d2)).set_ 3 (.slice D3 C.nums.length d3)
set_option maxRecDepth 20000 in
set_option maxHeartbeats 16000000 in
theorem readLeaf_any (w:World) (B:Nat) (v:Value) (S:Sch) (mask:Nat) (s:Sht) (A:Option Addr) (c:Nat) (h:SchAt w B v S) (ho:SchOk S) (hR:Rd w B 1 A s.d.length (u8s s.d)) (hc:s.d.length≤c) (hcm:c≤maxLen) (hB:B≤w.heap.size) (hl:s.d.length≤1000000) (hm:mask<4294967296) :
 Calls Tryz.prog 16 #[v,.int .u32 (mask:Int),.agg #[.int .i64 s.k,.int .u64 (s.a:Int),.int .u64 (s.b:Int),.slice A s.d.length c]] w (RetLeaf w S mask s):=by
 have hh:=h
 obtain ⟨A0,c0,A1,c1,A2,c2,A3,c3,rfl,r0,r1,r2,r3,b0,b1,b2,b3⟩:=hh
 clear r0 r1 r2 r3 b0 b1 b2 b3
 obtain ⟨W0,hW0⟩:∃ W0,W0=(w.alloc (.cells #[.slice A0 S.dims.length c0,.slice A1 S.ints.length c1,.slice A2 S.nums.length c2,.slice A3 S.views.length c3] 26)).alloc (.cells #[.int .i64 s.k,.int .u64 (s.a:Int),.int .u64 (s.b:Int),.slice A s.d.length c] 42):=⟨_,rfl⟩
 have hr0:RlR w W0 #[.slice A0 S.dims.length c0,.slice A1 S.ints.length c1,.slice A2 S.nums.length c2,.slice A3 S.views.length c3] #[.int .i64 s.k,.int .u64 (s.a:Int),.int .u64 (s.b:Int),.slice A s.d.length c] (.slice none 0 0) [] []:=by
  rw [hW0]
  refine ⟨(Blk.new w _ _).alloc _,?_,World.ownsRow_nil _ _ _ 4,rfl,belA (belA (belR w) _) _⟩
  have:=Blk.new (w.alloc (.cells #[.slice A0 S.dims.length c0,.slice A1 S.ints.length c1,.slice A2 S.nums.length c2,.slice A3 S.views.length c3] 26)) 42 #[.int .i64 s.k,.int .u64 (s.a:Int),.int .u64 (s.b:Int),.slice A s.d.length c]
  simpa using this
 have hck:=schemaCheck_any W0 B _ S (h.keep (hr0.n.mono hB) (Nat.le_refl _)) ho (Nat.le_trans hB hr0.n.size)
 have HSC:=Lib.hid (fun W (hb:Below w.heap.size w W)=>h.keep (hb.mono hB) (Nat.le_refl _):∀ W,Below w.heap.size w W→SchAt W B _ S)
 have HRD:=Lib.hid (fun W (hb:Below w.heap.size w W)=>hR.below (hb.mono hB):∀ W,Below w.heap.size w W→Rd W B 1 A s.d.length (u8s s.d))
 have HW0:=Lib.hid hW0;have HR0:=Lib.hid hr0;have HO:=Lib.hid ho
 have hcm':=hcm
 unfold maxLen at hcm'
 clear hW0 hr0 h hR
 by_cases h0:checkN S=0
 case neg =>
  have t0:=i64_ne0 h0
  have HC:=Lib.hid hck;have HG:=Lib.hid (readL_arg (mask:=mask) (s:=s) h0)
  clear h0 hck
  go_enter Tryz.func16,Tryz.ntmps16
  go_wp2_with fail
  rw [←HW0.out]
  (with_reducible refine HC.out.mono ?_);rintro y w1 ⟨rfl,hb1⟩
  have HB1:=Lib.hid (belT HR0.out.n hb1)
  clear hb1
  go_wp2
  go_ret2
  exact RetLeaf.bad HG.out HB1.out
 case pos =>
  rw [h0] at hck
  have HC:=Lib.hid hck;have H00:=Lib.hid h0
  clear hck h0
  go_enter Tryz.func16,Tryz.ntmps16
  go_wp2_with fail
  rw [←HW0.out]
  (with_reducible refine HC.out.mono ?_);rintro y w1 ⟨rfl,hb1⟩
  have HR1:=Lib.hid (HR0.out.below hb1)
  have s0':=HR1.out.s.cell 0;have s1':=HR1.out.s.cell 1;have s2':=HR1.out.s.cell 2;have s3':=HR1.out.s.cell 3
  simp at s0' s1' s2' s3'
  have hky:=keys_any w1 B _ S mask (HSC.out w1 HR1.out.n) HO.out (Nat.le_trans hB HR1.out.n.size) hm
  have HKY:=Lib.hid hky
  clear hb1 hky HC
  cases hk:keysOf S mask with
  | none =>
    have hky:=HKY.out
    rw [hk] at hky
    simp only [Option.isSome_none,Option.getD_none] at hky
    have HK2:=Lib.hid hky;have HG:=Lib.hid (readL_none (s:=s) H00.out (by rw [hk];rfl))
    clear hky hk HKY
    go_wp2_with fail
    (with_reducible refine HK2.out.mono ?_);rintro y w2 ⟨rfl,hb2⟩
    have HB2:=Lib.hid (belT HR1.out.n hb2)
    clear hb2
    go_wp2
    go_ret2
    exact RetLeaf.bad HG.out HB2.out
  | some nk =>
    have hky:=HKY.out
    rw [hk] at hky
    simp only [Option.isSome_some,Option.getD_some] at hky
    have HK2:=Lib.hid hky;have HNN:=Lib.hid (isNone_no hk)
    clear hky hk HKY
    have HHD:=Lib.hid (readL_head (s:=s) H00.out HNN.out)
    by_cases g1:s.k=3
    case neg =>
     have t1:(s.k != 3)=true:=by rw [bne_iff_ne];exact g1
     have HG:=Lib.hid (HHD.out (.inl g1))
     clear g1
     go_wp2_with fail
     (with_reducible refine HK2.out.mono ?_);rintro y w2 ⟨rfl,hb2⟩
     have HR2:=Lib.hid (HR1.out.below hb2)
     have x0:=HR2.out.x.cell 0;have x1:=HR2.out.x.cell 1;have x2:=HR2.out.x.cell 2
     simp at x0 x1 x2
     clear hb2
     go_wp2
     go_quiet (fail)
     go_wp2
     go_ret2
     exact RetLeaf.bad HG.out (belD HR2.out.n _)
    have t1:(s.k != 3)=false:=by rw [bne_eq_false_iff_eq];exact g1
    by_cases g2:s.a<1
    case pos =>
     have t2:decide ((s.a:Int)<1)=true:=decide_eq_true (by omega)
     have HG:=Lib.hid (HHD.out (.inr (.inl g2)))
     have HA0:=Lib.hid g2
     clear g1 g2
     go_wp2_with fail
     (with_reducible refine HK2.out.mono ?_);rintro y w2 ⟨rfl,hb2⟩
     have HR2:=Lib.hid (HR1.out.below hb2)
     have x0:=HR2.out.x.cell 0;have x1:=HR2.out.x.cell 1;have x2:=HR2.out.x.cell 2
     simp at x0 x1 x2
     clear hb2
     go_wp2
     go_quiet (fail)
     go_wp2
     go_ret2
     exact RetLeaf.bad HG.out (belD HR2.out.n _)
    have t2:decide ((s.a:Int)<1)=false:=decide_eq_false (by omega)
    have r0:=room_any
    by_cases g3:1001<s.a
    case pos =>
     have t3:decide ((1001:Int)<(s.a:Int))=true:=decide_eq_true (by omega)
     have HG:=Lib.hid (HHD.out (.inr (.inr (.inl g3))))
     have HA0:=Lib.hid g3
     clear g1 g2 g3
     go_wp2_with fail
     (with_reducible refine HK2.out.mono ?_);rintro y w2 ⟨rfl,hb2⟩
     have HR2:=Lib.hid (HR1.out.below hb2)
     have x0:=HR2.out.x.cell 0;have x1:=HR2.out.x.cell 1;have x2:=HR2.out.x.cell 2
     simp at x0 x1 x2
     clear hb2
     go_wp2
     go_quiet ((go_at_call 58;exact qcallS (room_any _)))
     go_wp2
     go_ret2
     exact RetLeaf.bad HG.out (belD HR2.out.n _)
    have t3:decide ((1001:Int)<(s.a:Int))=false:=decide_eq_false (by omega)
    have w1':IntKind.u64.wrap (mask:Int)=(mask:Int):=by rw [IntKind.wrap_u64];omega
    by_cases g4:s.b=mask
    case neg =>
     have t4:((s.b:Int) != (mask:Int))=true:=by rw [bne_iff_ne];omega
     have HG:=Lib.hid (HHD.out (.inr (.inr (.inr g4))))
     clear g1 g2 g3 g4
     go_wp2_with fail
     (with_reducible refine HK2.out.mono ?_);rintro y w2 ⟨rfl,hb2⟩
     have HR2:=Lib.hid (HR1.out.below hb2)
     have x0:=HR2.out.x.cell 0;have x1:=HR2.out.x.cell 1;have x2:=HR2.out.x.cell 2
     simp at x0 x1 x2
     clear hb2
     go_wp2
     go_quiet ((go_at_call 58;exact qcallS (room_any _)))
     go_wp2
     go_ret2
     exact RetLeaf.bad HG.out (belD HR2.out.n _)
    have t4:((s.b:Int) != (mask:Int))=false:=by rw [bne_eq_false_iff_eq];omega
    have HNH:=Lib.hid (show ¬(s.k≠3∨s.a<1∨1001<s.a∨s.b≠mask) by omega)
    have ha2:s.a≤1001:=by omega
    have HFA:=Lib.hid (fun k e=>readL_fault (s:=s) (k:=k) (e:=e) H00.out HNN.out HNH.out)
    have HMO:=Lib.hid (fun l p=>readL_more (s:=s) (l:=l) (p:=p) H00.out HNN.out HNH.out)
    have HFO:=Lib.hid (fun l p=>readL_form (s:=s) (l:=l) (p:=p) H00.out HNN.out HNH.out)
    have HGO:=Lib.hid (fun l p=>readL_ok (s:=s) (l:=l) (p:=p) H00.out HNN.out HNH.out)
    clear g1 g2 g3 g4
    go_wp2_with fail
    (with_reducible refine HK2.out.mono ?_);rintro y w2 ⟨rfl,hb2⟩
    have HR2:=Lib.hid (HR1.out.below hb2)
    have x0:=HR2.out.x.cell 0;have x1:=HR2.out.x.cell 1;have x2:=HR2.out.x.cell 2
    simp at x0 x1 x2
    clear hb2 s0' s1' s2' s3'
    go_wp2
    go_quiet ((go_at_call 58;exact qcallS (room_any _)))
    have HR3:=Lib.hid (HR2.out.below (belD (belR w2) nq))
    clear x0 x1 x2
    have x1:=HR3.out.x.cell 1
    simp at x1
    go_wp2
    clear x1
    go_loopw [10,11,51] (fun ov vat i wr=>∃ (k at_:Nat) (l:List CellS) (xs:List Value),k≤s.a∧i=.int .u64 (k:Int)∧vat=.int .i64 (at_:Int)∧l.length≤k∧at_≤s.d.length∧Hid (rlS S mask s.d k=(l,at_,0))∧Hid (RlR w wr #[.slice A0 S.dims.length c0,.slice A1 S.ints.length c1,.slice A2 S.nums.length c2,.slice A3 S.views.length c3] #[.int .i64 s.k,.int .u64 (s.a:Int),.int .u64 (s.b:Int),.slice A s.d.length c] ov l xs)) (fun _ _ i _=>s.a-(intOf i).toNat)
    case atStart=>exact ⟨0,0,[],[],by omega,rfl,rfl,Nat.zero_le _,Nat.zero_le _,rfl,HR3.out⟩
    case round =>
     obtain ⟨k,at_,l,xs,hk,rfl,rfl,hlk,hat,HRL,HR⟩:=hrel
     obtain ⟨A9,c9,rfl,_,hc9,_⟩:=own_form HR.out.o
     by_cases hlt:k<s.a
     ·have q1:decide ((k:Int)<(s.a:Int))=true:=decide_eq_true (by omega)
      obtain ⟨A',hsl,hR'⟩:=slice_from Tryz.underlying27 elu8 szu8 (HRD.out wr HR.out.n) hat hc
      have hge:=aggGet_any wr.drew B _ S mask A' (s.d.length-at_) (c-at_) (s.d.drop at_) (HSC.out wr.drew HR.out.n.drew) HO.out hR' (Nat.le_trans hB HR.out.n.size) (by omega) hm
      have hz1:(wr.alloc (.cells #[.int .u64 0,.int .i64 0,.slice none 0 0,.slice none 0 0] 53)).drew.heap.size=wr.heap.size+1:=by simp
      have hk1:Blk (wr.alloc (.cells #[.int .u64 0,.int .i64 0,.slice none 0 0,.slice none 0 0] 53)).drew wr.heap.size 53 #[.int .u64 0,.int .i64 0,.slice none 0 0,.slice none 0 0]:=(Blk.new wr _ _).drew
      have hbz:Below wr.heap.size wr (wr.alloc (.cells #[.int .u64 0,.int .i64 0,.slice none 0 0,.slice none 0 0] 53)).drew:=(belA (belR wr) _).drew
      have hge2:=aggGet_any (wr.alloc (.cells #[.int .u64 0,.int .i64 0,.slice none 0 0,.slice none 0 0] 53)).drew B _ S mask A' (s.d.length-at_) (c-at_) (s.d.drop at_) (HSC.out _ (belT HR.out.n hbz)) HO.out (hR'.below (hbz.mono (Nat.le_trans hB HR.out.n.size))) (by rw [hz1];have:=HR.out.n.size;omega) (by omega) hm
      have hlg:=HRL.out
      have hgb:=fun e he h0=>rlS_bad (e:=e) hlg he h0
      have hgg:=fun C q hg=>rlS_good (C:=C) (q:=q) hlg hg
      have hin:=getC_in S mask (s.d.drop at_)
      rw [List.length_drop] at hin
      unfold RetGet at hge hge2
      generalize getC S mask (s.d.drop at_)=G at *
      obtain ⟨C,q,e⟩:=G
      simp only at hge hge2 hgb hgg hin
      have k0:=HR.out.s.cell 0;have k1:=HR.out.s.cell 1;have k2:=HR.out.s.cell 2;have k3:=HR.out.s.cell 3
      have x3:=HR.out.x.cell 3
      simp at k0 k1 k2 k3 x3
      have HGE:=Lib.hid hge;have HGE2:=Lib.hid hge2;have HZ1:=Lib.hid hz1;have HK1:=Lib.hid hk1;have HBZ:=Lib.hid hbz;have HGB:=Lib.hid hgb;have HGG:=Lib.hid hgg;have HRR:=Lib.hid hR'
      clear hge hge2 hz1 hk1 hbz hgb hgg hR' hlg
      have hzr1:w.heap.size+1<wr.heap.size:=HR.out.x.lt
      have hzr0:w.heap.size<wr.heap.size:=by omega
      go_upto_region 12 with (fail)
      go_cut [12,13,14] (fun v12 v13 v14 wx=>LfCut wr C q e v12 v13 v14 wx)
      case first =>
       have HKP:Hid (∀ W,Below wr.heap.size wr W→W.cell? ⟨w.heap.size,0,none⟩=some (.slice A0 S.dims.length c0)∧W.cell? ⟨w.heap.size,1,none⟩=some (.slice A1 S.ints.length c1)∧W.cell? ⟨w.heap.size,2,none⟩=some (.slice A2 S.nums.length c2)∧W.cell? ⟨w.heap.size,3,none⟩=some (.slice A3 S.views.length c3)∧W.cell? ⟨w.heap.size+1,3,none⟩=some (.slice A s.d.length c)):=Lib.hid fun W hb=>⟨(hb.cell (p:=⟨w.heap.size,0,none⟩) hzr0).trans k0,(hb.cell (p:=⟨w.heap.size,1,none⟩) hzr0).trans k1,(hb.cell (p:=⟨w.heap.size,2,none⟩) hzr0).trans k2,(hb.cell (p:=⟨w.heap.size,3,none⟩) hzr0).trans k3,(hb.cell (p:=⟨w.heap.size+1,3,none⟩) hzr1).trans x3⟩
       clear k0 k1 k2 k3 x3
       refine wp_region_held_drew (S:=(fun W=>W.cell? ⟨w.heap.size,0,none⟩=some (.slice A0 S.dims.length c0)∧W.cell? ⟨w.heap.size,1,none⟩=some (.slice A1 S.ints.length c1)∧W.cell? ⟨w.heap.size,2,none⟩=some (.slice A2 S.nums.length c2)∧W.cell? ⟨w.heap.size,3,none⟩=some (.slice A3 S.views.length c3)∧W.cell? ⟨w.heap.size+1,3,none⟩=some (.slice A s.d.length c))) (by kernel_rfl) (HKP.out _ (belR wr).drew) (fun hHeld=>?_)
       refine rh_take 0 (some 54) (v:=?_) rfl rfl (by kernel_rfl) (by kernel_rfl) (by kernel_rfl) (by kernel_rfl) (fun _ _ _ h=>h) hHeld ?_ ?_
       rotate_left
       ·(intro w hSw;(try dsimp only at hSw);go_simp;try with_reducible rfl)
       try simp only [Act.put,List.setIfInBounds_toArray,List.set_cons_zero,List.set_cons_succ]
       refine rh_take 1 (some 55) (v:=?_) rfl rfl (by kernel_rfl) (by kernel_rfl) (by kernel_rfl) (by kernel_rfl) (fun _ _ _ h=>h) hHeld ?_ ?_
       rotate_left
       ·(intro w hSw;(try dsimp only at hSw);go_simp;try with_reducible rfl)
       try simp only [Act.put,List.setIfInBounds_toArray,List.set_cons_zero,List.set_cons_succ]
       refine rh_take 2 (some 56) (v:=?_) rfl rfl (by kernel_rfl) (by kernel_rfl) (by kernel_rfl) (by kernel_rfl) (fun _ _ _ h=>h) hHeld ?_ ?_
       rotate_left
       ·(intro w hSw;(try dsimp only at hSw);go_simp;try with_reducible rfl)
       try simp only [Act.put,List.setIfInBounds_toArray,List.set_cons_zero,List.set_cons_succ]
       refine rh_take 3 (some 57) (v:=?_) rfl rfl (by kernel_rfl) (by kernel_rfl) (by kernel_rfl) (by kernel_rfl) (fun _ _ _ h=>h) hHeld ?_ ?_
       rotate_left
       ·(intro w hSw;(try dsimp only at hSw);go_simp;try with_reducible rfl)
       try simp only [Act.put,List.setIfInBounds_toArray,List.set_cons_zero,List.set_cons_succ]
       refine rh_take 4 (some 58) (v:=?_) rfl rfl (by kernel_rfl) (by kernel_rfl) (by kernel_rfl) (by kernel_rfl) (fun _ _ _ h=>h) hHeld ?_ ?_
       rotate_left
       ·(intro w hSw;(try dsimp only at hSw);go_simp;try with_reducible rfl)
       try simp only [Act.put,List.setIfInBounds_toArray,List.set_cons_zero,List.set_cons_succ]
       refine rh_take 5 (some 59) (v:=?_) rfl rfl (by kernel_rfl) (by kernel_rfl) (by kernel_rfl) (by kernel_rfl) (fun _ _ _ h=>h) hHeld ?_ ?_
       rotate_left
       ·(intro w hSw;(try dsimp only at hSw);go_simp;try with_reducible rfl)
       try simp only [Act.put,List.setIfInBounds_toArray,List.set_cons_zero,List.set_cons_succ]
       refine rh_call2 6 11 (some 60) (some 12) (by kernel_rfl) rfl rfl rfl rfl (by kernel_rfl) (by kernel_rfl) (fun K hK=>?_) (fun K hK=>?_)
       ·clear hHeld
        go_simp
        go_at_call 33;(with_reducible refine HGE.out.mono ?_);rintro y w5 ⟨D2,d2,D3,d3,rfl,hce,hb5⟩;have HCE:=Lib.hid hce;have HB5:=Lib.hid hb5;have HW5:=Lib.hid ((belR wr).drew.trans hb5);clear hce hb5
        refine hK.out _ _ (HKP.out _ HW5.out) (fun hHeld=>?_)
        clear hK K
        try simp only [Act.put,List.setIfInBounds_toArray,List.set_cons_zero,List.set_cons_succ]
        refine rh_take 7 (some 53) (v:=?_) rfl rfl (by kernel_rfl) (by kernel_rfl) (by kernel_rfl) (by kernel_rfl) (fun _ _ _ h=>h) hHeld ?_ ?_
        rotate_left
        ·(intro w hSw;(try dsimp only at hSw);go_simp;try with_reducible rfl)
        try simp only [Act.put,List.setIfInBounds_toArray,List.set_cons_zero,List.set_cons_succ]
        refine rh_take 8 (some 61) (v:=?_) rfl rfl (by kernel_rfl) (by kernel_rfl) (by kernel_rfl) (by kernel_rfl) (fun _ _ _ h=>h) hHeld ?_ ?_
        rotate_left
        ·(intro w hSw;(try dsimp only at hSw);go_simp;try with_reducible rfl)
        try simp only [Act.put,List.setIfInBounds_toArray,List.set_cons_zero,List.set_cons_succ]
        refine rh_take 9 (some 62) (v:=?_) rfl rfl (by kernel_rfl) (by kernel_rfl) (by kernel_rfl) (by kernel_rfl) (fun _ _ _ h=>h) hHeld ?_ ?_
        rotate_left
        ·(intro w hSw;(try dsimp only at hSw);go_simp;try with_reducible rfl)
        try simp only [Act.put,List.setIfInBounds_toArray,List.set_cons_zero,List.set_cons_succ]
        refine rh_take 10 (some 63) (v:=?_) rfl rfl (by kernel_rfl) (by kernel_rfl) (by kernel_rfl) (by kernel_rfl) (fun _ _ _ h=>h) hHeld ?_ ?_
        rotate_left
        ·(intro w hSw;(try dsimp only at hSw);go_simp;try with_reducible rfl)
        try simp only [Act.put,List.setIfInBounds_toArray,List.set_cons_zero,List.set_cons_succ]
        refine rh_call 11 (some 12) (by kernel_rfl) rfl rfl (by kernel_rfl) (fun K hK=>?_)
        clear hHeld
        go_simp
        refine hK.out _ _ (HKP.out _ (belA HW5.out _)) (fun hHeld=>?_)
        clear hK K
        try simp only [Act.put,List.setIfInBounds_toArray,List.set_cons_zero,List.set_cons_succ]
        refine rh_call 12 none (by kernel_rfl) rfl rfl (by kernel_rfl) (fun K hK=>?_)
        clear hHeld
        go_simp
        refine hK.out _ _ (HKP.out _ (belA HW5.out _)) (fun hHeld=>?_)
        clear hK K
        try simp only [Act.put,List.setIfInBounds_toArray,List.set_cons_zero,List.set_cons_succ]
        refine rh_take 13 (some 13) (v:=?_) rfl rfl (by kernel_rfl) (by kernel_rfl) (by kernel_rfl) (by kernel_rfl) (fun _ _ _ h=>h) hHeld ?_ ?_
        rotate_left
        ·(intro w hSw;(try dsimp only at hSw);go_simp;try with_reducible rfl)
        try simp only [Act.put,List.setIfInBounds_toArray,List.set_cons_zero,List.set_cons_succ]
        refine rh_take 14 (some 14) (v:=?_) rfl rfl (by kernel_rfl) (by kernel_rfl) (by kernel_rfl) (by kernel_rfl) (fun _ _ _ h=>h) hHeld ?_ ?_
        rotate_left
        ·(intro w hSw;(try dsimp only at hSw);go_simp;try with_reducible rfl)
        try simp only [Act.put,List.setIfInBounds_toArray,List.set_cons_zero,List.set_cons_succ]
        refine wpAnyH_done (by kernel_rfl) ?_ _
        clear hHeld
        go_wp2
        go_meet
        case rel=>exact LfCut.after HCE.out (belR wr).drew HB5.out
       ·clear hHeld
        go_simp
        refine hK.out _ _ (HKP.out _ HBZ.out) (fun hHeld=>?_)
        clear hK K
        try simp only [Act.put,List.setIfInBounds_toArray,List.set_cons_zero,List.set_cons_succ]
        refine rh_call 6 (some 60) (by kernel_rfl) rfl rfl (by kernel_rfl) (fun K hK=>?_)
        clear hHeld
        go_simp
        go_at_call 33;(with_reducible refine HGE2.out.mono ?_);rintro y w5 ⟨D2,d2,D3,d3,rfl,hce,hb5⟩;have HCE:=Lib.hid hce;have HB5:=Lib.hid hb5;have hk5:=HK1.out.below hb5 HK1.out.lt;have z0:=hk5.cell 0;have z1:=hk5.cell 1;have z2:=hk5.cell 2;have z3:=hk5.cell 3;have f0:=hk5.frozen 0;have f1:=hk5.frozen 1;have f2:=hk5.frozen 2;have f3:=hk5.frozen 3;simp at z0 z1 z2 z3;have HW5:=Lib.hid (belT HBZ.out hb5);clear hce hb5 hk5
        refine hK.out _ _ (HKP.out _ HW5.out) (fun hHeld=>?_)
        clear hK K
        try simp only [Act.put,List.setIfInBounds_toArray,List.set_cons_zero,List.set_cons_succ]
        refine rh_take 7 (some 53) (v:=?_) rfl rfl (by kernel_rfl) (by kernel_rfl) (by kernel_rfl) (by kernel_rfl) (fun _ _ _ h=>h) hHeld ?_ ?_
        rotate_left
        ·(intro w hSw;(try dsimp only at hSw);go_simp;try with_reducible rfl)
        try simp only [Act.put,List.setIfInBounds_toArray,List.set_cons_zero,List.set_cons_succ]
        refine rh_take 8 (some 61) (v:=?_) rfl rfl (by kernel_rfl) (by kernel_rfl) (by kernel_rfl) (by kernel_rfl) (fun _ _ _ h=>h) hHeld ?_ ?_
        rotate_left
        ·(intro w hSw;(try dsimp only at hSw);go_simp;try with_reducible rfl)
        try simp only [Act.put,List.setIfInBounds_toArray,List.set_cons_zero,List.set_cons_succ]
        refine rh_take 9 (some 62) (v:=?_) rfl rfl (by kernel_rfl) (by kernel_rfl) (by kernel_rfl) (by kernel_rfl) (fun _ _ _ h=>h) hHeld ?_ ?_
        rotate_left
        ·(intro w hSw;(try dsimp only at hSw);go_simp;try with_reducible rfl)
        try simp only [Act.put,List.setIfInBounds_toArray,List.set_cons_zero,List.set_cons_succ]
        refine rh_take 10 (some 63) (v:=?_) rfl rfl (by kernel_rfl) (by kernel_rfl) (by kernel_rfl) (by kernel_rfl) (fun _ _ _ h=>h) hHeld ?_ ?_
        rotate_left
        ·(intro w hSw;(try dsimp only at hSw);go_simp;try with_reducible rfl)
        try simp only [Act.put,List.setIfInBounds_toArray,List.set_cons_zero,List.set_cons_succ]
        refine rh_call 12 none (by kernel_rfl) rfl rfl (by kernel_rfl) (fun K hK=>?_)
        clear hHeld
        go_simp
        refine hK.out _ _ (HKP.out _ (bel4 HW5.out (Nat.le_refl _) _ _ _ _)) (fun hHeld=>?_)
        clear hK K
        try simp only [Act.put,List.setIfInBounds_toArray,List.set_cons_zero,List.set_cons_succ]
        refine rh_take 13 (some 13) (v:=?_) rfl rfl (by kernel_rfl) (by kernel_rfl) (by kernel_rfl) (by kernel_rfl) (fun _ _ _ h=>h) hHeld ?_ ?_
        rotate_left
        ·(intro w hSw;(try dsimp only at hSw);go_simp;try with_reducible rfl)
        try simp only [Act.put,List.setIfInBounds_toArray,List.set_cons_zero,List.set_cons_succ]
        refine rh_take 14 (some 14) (v:=?_) rfl rfl (by kernel_rfl) (by kernel_rfl) (by kernel_rfl) (by kernel_rfl) (fun _ _ _ h=>h) hHeld ?_ ?_
        rotate_left
        ·(intro w hSw;(try dsimp only at hSw);go_simp;try with_reducible rfl)
        try simp only [Act.put,List.setIfInBounds_toArray,List.set_cons_zero,List.set_cons_succ]
        refine wpAnyH_done (by kernel_rfl) ?_ _
        clear hHeld
        go_wp2
        go_meet
        case rel=>exact LfCut.before HZ1.out HK1.out HCE.out HBZ.out HB5.out
      case rest =>
       obtain ⟨gc,D2,d2,D3,d3,rfl,rfl,rfl,hkc,hce,hbc⟩:=hcut
       have HR5:=Lib.hid (HR.out.below hbc);have HCE:=Lib.hid hce;have HKC:=Lib.hid hkc
       have z0:=hkc.cell 0;have z1:=hkc.cell 1;have z2:=hkc.cell 2;have z3:=hkc.cell 3
       simp [cellC] at z0 z1 z2 z3
       clear hkc hce hbc k0 k1 k2 k3 x3 hsl HGE HGE2 HZ1 HK1 HBZ HRR
       by_cases he:e=0
       case neg =>
        have t9:((e:Int) != 0)=true:=by rw [bne_iff_ne];omega
        have HG:=Lib.hid (HFA.out (k+1) e (by omega) (HGB.out e rfl he) he)
        clear he
        go_wp2
        go_ret2
        exact RetLeaf.bad HG.out HR5.out.n
       case pos =>
        subst he
        have HG:=Lib.hid (HGG.out C q rfl)
        have HU:=Lib.hid (cellC_one C D2 d2 D3 d3)
        have hl5:=HR5.out.lt
        have w3':IntKind.i64.wrap ((at_:Int)+(q:Int))=((at_+q:Nat):Int):=by rw [IntWalk.i64_in _ (by omega)];omega
        have HCM:=Lib.hid (HCE.out.map (base':=w.heap.size+1+1) HR.out.lt fun _ _ _ _ _ _ o=>o)
        go_wp2_with (at_builtin;refine wpList_appN wc (cellC C D2 d2 D3 d3) 4 rfl (by decide) HU.out rfl (.tmp 67) (.tmp 69) 43 rfl (w.heap.size+1+1) 53 (.agg #[.int .u64 0,.int .i64 0,.slice none 0 0,.slice none 0 0]) 64 info_cell4 rfl Tryz.underlying43 _ l.length xs HR5.out.o rfl rfl ?_ ?_ ?_ ?_;omega;omega;exact hl5;intro v7 w7 ho7 hap7;have HR7:=Lib.hid (HR5.out.put HCM.out ho7 hap7);obtain ⟨A8,c8,rfl,_,_,_⟩:=own_form ho7;clear ho7 hap7)
        go_roundw
        case rel=>exact ⟨k+1,at_+q,l ++ [C],_,by omega,by go_num,by go_num,by rw [List.length_append,List.length_singleton];omega,by omega,HG.out,HR7.out⟩
        case measure=>simp [intOf];omega
     ·obtain rfl:k=s.a:=by omega
      have q1:decide ((s.a:Int)<(s.a:Int))=false:=decide_eq_false (by omega)
      have x3:=HR.out.x.cell 3
      simp at x3
      by_cases hmo:at_<s.d.length
      ·have t9:decide ((at_:Int)<(s.d.length:Int))=true:=decide_eq_true (by omega)
       have HG:=Lib.hid (HMO.out l at_ HRL.out hmo)
       go_wp2
       go_ret2
       exact RetLeaf.bad HG.out HR.out.n
      have t9:decide ((at_:Int)<(s.d.length:Int))=false:=decide_eq_false (by omega)
      have t9n:decide (at_<s.d.length)=false:=decide_eq_false hmo
      have HFO2:=Lib.hid (HFO.out l at_ HRL.out hmo);have HGO2:=Lib.hid (HGO.out l at_ HRL.out hmo)
      have hsl:SlR cellR wr wr.heap.size l A9 c9:=SlR.own (R:=cellR) HR.out.o HR.out.c.chunk
      have HSL:=Lib.hid hsl
      clear hmo hsl HFO HGO HMO
      go_wp2
      clear x3 t9 t9n q1
      obtain ⟨wo,hwo⟩:∃ wo,wo=wr:=⟨_,rfl⟩
      subst hwo
      go_loopw [15] (fun i wx=>∃ n k:Nat,k+1=n∧i=.int .i64 (n:Int)∧k≤l.length∧Hid (∀ j,j<k→j+1<l.length→kyC l j<kyC l (j+1))∧Hid (Drw wo wx)) (fun i _=>l.length+1-(intOf i).toNat)
      case atStart=>exact ⟨1,0,rfl,rfl,by omega,fun j hj=>absurd hj (by omega),Drw.refl _⟩
      case round =>
       obtain ⟨n,k,hn,rfl,hk,HU,HD⟩:=hrel
       by_cases hlt:n<l.length
       ·obtain ⟨j,rfl⟩:=HD.out
        obtain ⟨a,E2,e2,E3,e3,rfl,hab,x0,_,_,_,hv⟩:=HSL.out.cellAt hlt
        obtain ⟨a',E2',e2',E3',e3',ea,_,y0,_,_,_,hv'⟩:=HSL.out.cellAt (k:=k) (by omega)
        injection ea with ea;subst ea
        have w1:IntKind.i64.wrap ((n:Int)-1)=(k:Int):=by rw [IntWalk.i64_in _ (by omega)];omega
        have q1:(0:Int)≤(n:Int):=by omega
        have q2:(n:Int)<(l.length:Int):=by omega
        have q3:(0:Int)≤(k:Int):=by omega
        have q4:(k:Int)<(l.length:Int):=by omega
        rw [kyC_get] at x0 y0
        have hno:=risingC_no (l:=l) (k:=k) (by omega)
        rw [hn] at hno
        by_cases hc:kyC l n≤kyC l k
        ·have t1:decide ((kyC l n:Int)≤(kyC l k:Int))=true:=decide_eq_true (by omega)
         have t1n:decide (kyC l n≤kyC l k)=true:=decide_eq_true (by omega)
         have HG:=Lib.hid (HFO2.out (hno (by omega)))
         have HNN:=Lib.hid hn
         clear hno hc hv hv'
         generalize kyC l n=p at *
         generalize kyC l k=q at *
         go_wp2
         go_quiet (fail)
         go_wp2
         go_ret2
         first|exact RetLeaf.bad HG.out (belD HR.out.n _)|exact RetLeaf.bad HG.out (belD (belD HR.out.n _) _)
        ·have t1:decide ((kyC l n:Int)≤(kyC l k:Int))=false:=decide_eq_false (by omega)
         have t1n:decide (kyC l n≤kyC l k)=false:=decide_eq_false (by omega)
         have HN:Hid (∀ j,j<n→j+1<l.length→kyC l j<kyC l (j+1)):=Lib.hid fun j hj hjl=>by
          by_cases e:j=k
          ·subst e;rw [hn];omega
          ·exact HU.out j (by omega) hjl
         have HNN:=Lib.hid hn
         clear hno hc hv hv'
         generalize kyC l n=p at *
         generalize kyC l k=q at *
         go_wp2
         go_quiet (fail)
         go_wp2
         go_roundw
         case rel=>exact ⟨n+1,n,rfl,by go_num,by omega,HN.out,Lib.hid ⟨_,rfl⟩⟩
         case measure=>simp [intOf];omega
       ·have HT:=Lib.hid (HGO2.out ((risingC_iff l).2 fun j hj=>HU.out j (by omega) hj))
        have q2:¬(n:Int)<(l.length:Int):=by omega
        go_wp2
        go_ret2
        obtain ⟨j,rfl⟩:=HD.out
        refine ⟨_,xs,by rw [HT.out];rfl,by rw [HT.out];exact own_mono (own_drewN HR.out.o j) (by omega),by rw [HT.out];exact (HR.out.c.drewN j).map (by omega) fun _ _ _ _ _ _ o=>o,belD HR.out.n j⟩
end Go.Proofs.YtfhmaincnlaapaaGreat
