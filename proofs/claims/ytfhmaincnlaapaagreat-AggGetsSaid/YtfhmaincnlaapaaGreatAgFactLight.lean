/- bushelref12.Light. -/
import Derived.StillTailTactics
import Derived.Deep.RegionHeld3
import Derived.Deep.DeepCutAuto
import Derived.Test.YtfhmaincnlaapaaGreatAgSy2
import Derived.Test.YtfhmaincnlaapaaGreatAgBufInU
import Derived.Test.YtfhmaincnlaapaaGreatAgRefRead
import Derived.Test.YtfhmaincnlaapaaGreatAgFloLess
import Derived.Test.YtfhmaincnlaapaaGreatAgBufSmall
import Derived.Test.YtfhmaincnlaapaaGreatAgRefNodesW
import Derived.Test.YtfhmaincnlaapaaGreatAgSchemaCheck
namespace Go.Proofs.YtfhmaincnlaapaaGreat
open Go.ChangeShapes Go.WideShapes Go.ChangeAt Go.RowKit
set_option linter.unusedVariables false
set_option maxRecDepth 20000 in
set_option maxHeartbeats 4000000 in
theorem refCheck_any (w:World) (B:Nat) (v:Value) (S:Sch) (h:SchAt w B v S) (ho:SchOk S) (hB:B≤w.heap.size) :
 Calls Tryz.prog 45 #[v] w fun y w'=>y=.returned (.int .i64 (checkN S:Int))∧Below w.heap.size w w':=by
 obtain ⟨A0,c0,A1,c1,A2,c2,A3,c3,rfl,r0,r1,r2,r3,b0,b1,b2,b3⟩:=h
 have hw0:=belA (belR w) (.cells #[.slice A0 S.dims.length c0,.slice A1 S.ints.length c1,.slice A2 S.nums.length c2,.slice A3 S.views.length c3] 26)
 have hs0:SchAt (w.alloc (.cells #[.slice A0 S.dims.length c0,.slice A1 S.ints.length c1,.slice A2 S.nums.length c2,.slice A3 S.views.length c3] 26)) B (.agg #[.slice A0 S.dims.length c0,.slice A1 S.ints.length c1,.slice A2 S.nums.length c2,.slice A3 S.views.length c3]) S :=
  ⟨A0,c0,A1,c1,A2,c2,A3,c3,rfl,r0.below (hw0.mono hB),r1.below (hw0.mono hB),r2.below (hw0.mono hB),r3.below (hw0.mono hB),b0,b1,b2,b3⟩
 have hblk:=Blk.new w 26 #[.slice A0 S.dims.length c0,.slice A1 S.ints.length c1,.slice A2 S.nums.length c2,.slice A3 S.views.length c3]
 have R0:=Lib.hid (r0.below (hw0.mono hB));have R3:=Lib.hid (r3.below (hw0.mono hB))
 have HS:=Lib.hid hs0;have HW0:=Lib.hid hw0;have HBLK:=Lib.hid hblk
 clear r0 r1 r2 r3 b0 b1 b2 b3 hs0 hw0 hblk
 by_cases hm:manyOk S
 case neg =>
  have HNO:=Lib.hid (checkN_many hm)
  have hcs:=many_cases hm
  clear hm
  rcases hcs with e|e|e|e|e
  ·have t0:(S.dims.length:Int)<1:=by omega
   clear e
   go_enter Tryz.func45,Tryz.ntmps45
   go_wp2
   go_ret
   exact ⟨by rw [HNO.out];rfl,HW0.out⟩
  all_goals
   have t0:((S.dims.length:Int)==0)=false:=by rw [beq_eq_false_iff_ne];omega
   have e1:(1:Int)≤(S.dims.length:Int):=by omega
   go_enter Tryz.func45,Tryz.ntmps45
   go_wp2
   go_ret
   exact ⟨by rw [HNO.out];rfl,HW0.out⟩
 case pos =>
  have hmm:=hm
  obtain ⟨m1,m2,m3,m4,m5⟩:=hmm
  have t0:((S.dims.length:Int)==0)=false:=by rw [beq_eq_false_iff_ne];omega
  have hnl:(namesL S).length≤300:=by unfold namesL;rw [List.length_append,List.length_append,List.length_map];omega
  have hn:=refNames_any _ B _ S HS.out (Nat.le_trans hB (by simp)) (by omega) (by omega) (by omega)
  have hfl:=fullN_le m1 m2
  have hno1:=fun h1=>checkN_name hm h1
  have hno2:=fun h1 h2=>checkN_dup hm h1 h2
  have hno3:=fun h1 h2 k hk h3=>checkN_keys hm h1 h2 k hk h3
  have hno4:=fun h1 h2 p h3 h4=>checkN_views hm h1 h2 p h3 h4
  have hyes:=fun h1 h2 p h3 h4=>checkN_ok hm h1 h2 p h3 h4
  have NO1:=Lib.hid hno1;have NO2:=Lib.hid hno2;have NO3:=Lib.hid hno3;have NO4:=Lib.hid hno4;have YES:=Lib.hid hyes
  have HN:=Lib.hid hn;have HLS:=Lib.hid (namesL_size ho);have HSH:=Lib.hid (shl_one S.dims.length m1 m2)
  clear hm hn hno1 hno2 hno3 hno4 hyes
  generalize namesL S=L at *
  have hz0:w.heap.size<(w.alloc (.cells #[.slice A0 S.dims.length c0,.slice A1 S.ints.length c1,.slice A2 S.nums.length c2,.slice A3 S.views.length c3] 26)).heap.size:=by simp
  go_enter Tryz.func45,Tryz.ntmps45
  go_wp2_with (go_at_call 37;(with_reducible refine HN.out.mono ?_);rintro y w1 ⟨v1,rfl,ho1,hb1⟩;obtain ⟨A5,c5,rfl,hc5,hc6,_⟩:=own_form ho1;have HR1:=Lib.hid (Rd.own ho1);have HK1:=Lib.hid (HBLK.out.below hb1 hz0);have HR0:=Lib.hid (R0.out.below (hb1.mono (show B≤_ by omega)));have HR3:=Lib.hid (R3.out.below (hb1.mono (show B≤_ by omega)));have hz1:w.heap.size<w1.heap.size:=Nat.lt_of_lt_of_le hz0 hb1.size;have HB1:=Lib.hid (belT HW0.out hb1);clear ho1 hb1 hz0 HBLK R0 R3 HN)
  have hcc:=hc6
  unfold maxLen at hcc
  go_loopw [4] (fun i wr=>∃ k:Nat,k≤L.length∧i=.int .i64 (k:Int)∧Hid (namesTo L k)∧Hid (Below w1.heap.size w1 wr)) (fun i _=>L.length-(intOf i).toNat)
  case atStart=>exact ⟨0,by omega,rfl,fun j _ hj=>by omega,belR w1⟩
  case round =>
   obtain ⟨k,hk,rfl,HA,HBr⟩:=hrel
   have hz:=HBr.out.size
   by_cases hlt:k<L.length
   ·obtain ⟨a,rfl,hab,x0⟩:=(HR1.out.below HBr.out).str hlt
    have q1:(0:Int)≤(k:Int):=by omega
    have q2:(k:Int)<(L.length:Int):=by omega
    have hst:=fun h=>HA.out.snoc hlt h
    have hno:=fun h=>NO1.out (all_isB_no k hlt h)
    have hc:=refIs_any wr L[k]
    generalize L[k]=x at *
    cases hx:isB x with
    | true =>
      rw [hx] at hc
      have HST:=Lib.hid (hst hx);have HC:=Lib.hid hc;clear hx hst hno hc
      go_wp2_with (go_at_call 109;(with_reducible refine HC.out.mono ?_);rintro y w2 ⟨rfl,hb2⟩;have HB2:=Lib.hid hb2;clear hb2)
      go_roundw
      case rel=>exact ⟨k+1,by omega,by go_num,HST,belT HBr.out HB2.out⟩
      case measure=>simp [intOf];omega
    | false =>
      rw [hx] at hc
      have HNO:=Lib.hid (hno hx);have HC:=Lib.hid hc;clear hx hst hno hc
      go_wp2_with (go_at_call 109;(with_reducible refine HC.out.mono ?_);rintro y w2 ⟨rfl,hb2⟩;have HB2:=Lib.hid hb2;clear hb2)
      go_ret
      exact ⟨by rw [HNO.out];rfl,HB1.out.trans ((belT HBr.out HB2.out).mono (Nat.le_of_lt hz1))⟩
   ·obtain rfl:k=L.length:=by omega
    have hall:L.all isB=true:=all_isB fun j hj=>HA.out j hj hj
    have HALL:=Lib.hid hall
    have hc:=refTwice_any wr A5 L.length c5 _ L (HR1.out.below HBr.out) hc5 hc6
    clear hall HA NO1
    cases hd:dupB L with
    | true =>
      have hc2:Calls Tryz.prog 110 #[.slice A5 L.length c5] wr fun y w'=>∃ z,y=.returned (.int .i64 z)∧0≤z∧Below wr.heap.size wr w' :=
       hc.mono fun y w' ⟨z,h1,h2,h3⟩=>⟨z,h1,by rcases h2 with ⟨_,h2⟩|⟨h2,_⟩;(rw [hd] at h2;cases h2);exact h2,belW (belR wr) h3⟩
      have HNO:=Lib.hid (NO2.out HALL.out hd);have HC:=Lib.hid hc2;clear hc hc2 hd
      go_wp2_with (go_at_call 110;(with_reducible refine HC.out.mono ?_);rintro y w2 ⟨z,rfl,hz2,hb2⟩;have HB2:=Lib.hid hb2;clear hb2)
      go_ret
      exact ⟨by rw [HNO.out];rfl,HB1.out.trans ((belT HBr.out HB2.out).mono (Nat.le_of_lt hz1))⟩
    | false =>
      have hc2:Calls Tryz.prog 110 #[.slice A5 L.length c5] wr fun y w'=>y=.returned (.int .i64 (-1))∧Below wr.heap.size wr w' :=
       hc.mono fun y w' ⟨z,h1,h2,h3⟩=>⟨by rcases h2 with ⟨h2,_⟩|⟨_,h2⟩;(rw [h1,h2]);(rw [hd] at h2;cases h2),belW (belR wr) h3⟩
      have HC:=Lib.hid hc2
      have NO3':=Lib.hid (NO3.out HALL.out hd);have NO4':=Lib.hid (NO4.out HALL.out hd);have YES':=Lib.hid (YES.out HALL.out hd)
      clear hc hc2 hd NO2 NO3 NO4 YES HALL
      go_wp2_with (go_at_call 110;(with_reducible refine HC.out.mono ?_);rintro y w2 ⟨rfl,hb2⟩;have HB2:=Lib.hid (belT HBr.out hb2);have hk2:=HK1.out.below HB2.out hz1;have k20:=hk2.cell 0;simp at k20;clear hb2)
      have HR02:=Lib.hid (HR0.out.below (HB2.out.mono (show B≤w1.heap.size by omega)));have HR32:=Lib.hid (HR3.out.below (HB2.out.mono (show B≤w1.heap.size by omega)))
      have HK2:=Lib.hid hk2
      have hz2:w.heap.size<w2.heap.size:=Nat.lt_of_lt_of_le hz1 HB2.out.size
      have HBW:=Lib.hid (HB1.out.trans (HB2.out.mono (Nat.le_of_lt hz1)))
      clear hk2 HR0 HR3 HB1 HBr HC HR1 HK1 HB2 hz
      go_loopw [5,6] (fun v6 i ws=>∃ k p:Nat,k≤S.dims.length∧i=.int .i64 (k:Int)∧v6=.int .i64 (p:Int)∧Hid (keysTo S k=some p)∧Hid (Below w2.heap.size w2 ws)) (fun _ i _=>S.dims.length-(intOf i).toNat)
      case atStart=>exact ⟨0,1,by omega,rfl,rfl,rfl,belR w2⟩
      case round =>
       obtain ⟨k,p,hk,rfl,rfl,HP,HBs⟩:=hrel
       have hz:=HBs.out.size
       have hpl:=keysTo_le S k p HP.out
       by_cases hlt:k<S.dims.length
       ·obtain ⟨a,rfl,hab,x0,x1⟩:=(HR02.out.below (HBs.out.mono (show B≤w2.heap.size by omega))).dim hlt
        have q1:(0:Int)≤(k:Int):=by omega
        have q2:(k:Int)<(S.dims.length:Int):=by omega
        rw [szAt_get S k hlt] at x1
        have hst:=keysTo_succ S k p HP.out
        have hsb:=(ho.dims _ (List.getElem_mem hlt)).2
        rw [szAt_get S k hlt] at hsb
        generalize S.dims[k].1=nm at *
        generalize szAt S k=sz at *
        have k30:=(HK2.out.below HBs.out hz2).cell 0
        simp at k30
        have hfin:=HBW.out.trans (HBs.out.mono (Nat.le_of_lt hz2))
        have HFIN:=Lib.hid hfin;clear hfin
        by_cases s1:sz<1
        ·have HNO:=Lib.hid (NO3'.out (k+1) (by omega) (by rw [hst];exact keyStep_no (by omega)))
         clear hst
         go_wp2
         go_ret
         exact ⟨by rw [HNO.out];rfl,HFIN.out⟩
        ·by_cases s2:4096<sz
         ·have HNO:=Lib.hid (NO3'.out (k+1) (by omega) (by rw [hst];exact keyStep_no (by omega)))
          clear hst
          go_wp2
          go_ret
          exact ⟨by rw [HNO.out];rfl,HFIN.out⟩
         ·obtain ⟨n,rfl⟩:∃ n:Nat,sz=(n:Int):=⟨sz.toNat,by omega⟩
          have hn1:1≤n:=by omega
          have hb1:p*n≤1099511627776*4096:=Nat.mul_le_mul hpl.2 (by omega)
          have hmul:(p:Int)*(n:Int)=((p*n:Nat):Int):=by omega
          by_cases s3:1099511627776<p*n
          ·have HNO:=Lib.hid (NO3'.out (k+1) (by omega) (by rw [hst];exact keyStep_no (by rw [Int.toNat_natCast];omega)))
           clear hst
           generalize p*n=r at *
           go_wp2
           go_ret
           exact ⟨by rw [HNO.out];rfl,HFIN.out⟩
          ·have hst2:=hst.trans (keyStep_yes hn1 (by omega) rfl (by omega))
           have HST:=Lib.hid hst2
           clear hst hst2
           generalize p*n=r at *
           go_wp2
           go_roundw
           case rel=>exact ⟨k+1,r,by omega,by go_num,rfl,HST,HBs⟩
           case measure=>simp [intOf];omega
       ·obtain rfl:k=S.dims.length:=by omega
        have NO4'':=Lib.hid (NO4'.out p HP.out);have YES'':=Lib.hid (YES'.out p HP.out)
        clear NO3' NO4' YES' HP
        have hk3:=HK2.out.below HBs.out hz2
        have k30:=hk3.cell 0;have k33:=hk3.cell 3
        simp at k30 k33
        have HRV:=Lib.hid (HR32.out.below (HBs.out.mono (show B≤w2.heap.size by omega)))
        have HFIN:=Lib.hid (HBW.out.trans (HBs.out.mono (Nat.le_of_lt hz2)))
        have HF:Hid (fullN S=p2 S.dims.length-1):=rfl
        have hpf:p2 S.dims.length=fullN S+1:=by have:=p2_pos S.dims.length;have h:=HF.out;omega
        have h2:∀ W,Calls Tryz.prog 111 #[.int .i64 (S.dims.length:Int)] W fun y w'=>y=.returned (.int .u32 ((fullN S:Int)+1))∧W=w':=fun W=>by
         have:=two_any W S.dims.length (by omega)
         rw [hpf] at this
         exact this
        have hsub:∀ (W:World) (x:Nat),x≤4294967295→Calls Tryz.prog 59 #[.int .u32 (x:Int),.int .u32 (fullN S:Int)] W fun y w'=>y=.returned (.bool (decide (x<fullN S+1)))∧W=w':=fun W x hx=>by
         have h:=sub_any W x (fullN S) (by omega) (by omega)
         rw [show fullN S=p2 S.dims.length-1 from rfl,sub_full x S.dims.length (by omega) (by omega),hpf] at h
         exact h
        have H2:=Lib.hid h2;have HSUB:=Lib.hid hsub
        clear h2 hsub hpf
        generalize fullN S=F at *
        have HK3:=Lib.hid hk3
        clear hk3
        go_wp2_with (go_at_call 111;(with_reducible refine (H2.out _).mono ?_);rintro y w3 ⟨rfl,rfl⟩)
        obtain ⟨ws,hws⟩:∃ ws,ws=wr:=⟨wr,rfl⟩
        subst hws
        go_loopw [9] (fun i wt=>∃ k:Nat,k≤S.views.length∧i=.int .i64 (k:Int)∧Hid (viewsTo S k=true)∧Hid (Drw ws wt)) (fun i _=>S.views.length-(intOf i).toNat)
        case atStart=>exact ⟨0,by omega,rfl,rfl,Drw.refl ws⟩
        case round =>
         obtain ⟨k,hk,rfl,HV,HDr⟩:=hrel
         have hk4:=HK3.out.drw HDr.out
         have k43:=hk4.cell 3
         simp at k43
         have HFT:=Lib.hid (HDr.out.below HFIN.out)
         have HFD:=Lib.hid (HFT.out.drew);have HDD:=Lib.hid HDr.out.drew
         clear hk4 k30 k33
         by_cases hlt:k<S.views.length
         ·obtain ⟨a,rfl,hab,x0,hxl⟩:=(rd_drw HRV.out HDr.out).view ho hlt
          have q1:(0:Int)≤(k:Int):=by omega
          have q2:(k:Int)<(S.views.length:Int):=by omega
          have hst:=viewsTo_succ S k
          rw [HV.out,Bool.true_and] at hst
          have hno:=viewsTo_no S k hlt
          have HV2:=Lib.hid hst;clear hst
          have hcs:=fun W=>HSUB.out W (viewAt S k) hxl
          by_cases s0:F+1≤viewAt S k
          ·have hv:viewOk S k=false:=by unfold viewOk;rw [decide_eq_false (show ¬ viewAt S k<fullN S by rw [HF.out] at s0;unfold fullN;omega)];rfl
           have HNO:=Lib.hid (NO4''.out (hno hv))
           rw [decide_eq_false (show ¬ viewAt S k<F+1 by omega)] at hcs
           generalize viewAt S k=x at *
           have HCS:=Lib.hid hcs
           clear hv hno hcs
           go_wp2
           go_quiet ((go_at_call 59;exact qcallS (HCS.out _)))
           go_wp2
           go_ret
           exact ⟨by rw [HNO.out];rfl,belD HFT.out _⟩
          ·rw [decide_eq_true (show viewAt S k<F+1 by omega)] at hcs
           by_cases s1:F≤viewAt S k
           ·have hv:viewOk S k=false:=by unfold viewOk;rw [decide_eq_false (show ¬ viewAt S k<fullN S by rw [HF.out] at s1;unfold fullN;omega)];rfl
            have HNO:=Lib.hid (NO4''.out (hno hv))
            generalize viewAt S k=x at *
            have t1:((x:Int)==(F:Int))=true:=by rw [beq_iff_eq];omega
            have HCS:=Lib.hid hcs
            clear hv hno hcs
            go_wp2
            go_quiet ((go_at_call 59;exact qcallS (HCS.out _)))
            go_wp2
            go_ret
            exact ⟨by rw [HNO.out];rfl,belD HFT.out _⟩
           ·have t1:((viewAt S k:Int)==(F:Int))=false:=by rw [beq_eq_false_iff_ne];omega
            cases k with
            | zero =>
              have hv:viewOk S 0=true:=by rw [viewOk_zero,decide_eq_true (show viewAt S 0<fullN S by rw [HF.out] at s1;unfold fullN;omega)]
              have HST:Hid (viewsTo S (0+1)=true):=Lib.hid (HV2.out.trans hv)
              rw [add_zero'] at x0
              rw [show ((0:Nat):Int)=0 from rfl]
              generalize viewAt S 0=x at *
              have HCS:=Lib.hid hcs
              clear hv hno HV2 hcs
              go_wp2
              go_quiet ((go_at_call 59;exact qcallS (HCS.out _)))
              go_wp2
              go_roundw
              case rel=>exact ⟨1,by omega,rfl,HST,HDr.out.drewN _⟩
              case measure=>simp [intOf];omega
            | succ j =>
              obtain ⟨a',ea,_,y0,hyl⟩:=(rd_drw HRV.out HDr.out).view ho (k:=j) (by omega)
              injection ea with ea;subst ea
              rw [add_succ] at x0
              have hvk:=viewOk_pos S (j+1) (by omega)
              rw [show j+1-1=j from rfl,decide_eq_true (show viewAt S (j+1)<fullN S by rw [HF.out] at s1;unfold fullN;omega),Bool.true_and] at hvk
              rw [show ((j+1:Nat):Int)=(j:Int)+1 from by omega] at *
              generalize viewAt S (j+1)=x at *
              generalize viewAt S j=y at *
              have HCS:=Lib.hid hcs;clear hcs
              have t3:decide ((0:Int)<(j:Int)+1)=true:=decide_eq_true (by omega)
              have w1:IntKind.i64.wrap (j:Int)=(j:Int):=IntWalk.i64_in _ (by omega)
              have w2:IntKind.i64.wrap ((j:Int)+1-1)=(j:Int):=by rw [show (j:Int)+1-1=(j:Int) from by omega];exact w1
              have w3:(0:Int)≤(j:Int):=by omega
              have w4:(j:Int)<(S.views.length:Int):=by omega
              by_cases s2:y<x
              ·have HST:=Lib.hid (HV2.out.trans (hvk.trans (decide_eq_true s2)))
               have t2:decide ((x:Int)≤(y:Int))=false:=decide_eq_false (by omega)
               clear hvk hno HV2
               go_wp2
               go_quiet ((go_at_call 59;exact qcallS (HCS.out _)))
               go_wp2
               go_roundw
               case rel=>exact ⟨j+1+1,by omega,by go_num,HST,HDr.out.drewN _⟩
               case measure=>simp [intOf];omega
              ·have HNO:=Lib.hid (NO4''.out (hno (hvk.trans (decide_eq_false s2))))
               have t2:decide ((x:Int)≤(y:Int))=true:=decide_eq_true (by omega)
               clear hvk hno HV2
               go_wp2
               go_quiet ((go_at_call 59;exact qcallS (HCS.out _)))
               go_wp2
               go_ret
               exact ⟨by rw [HNO.out];rfl,belD HFT.out _⟩
         ·obtain rfl:k=S.views.length:=by omega
          have HY:=Lib.hid (YES''.out HV.out)
          go_wp2
          go_ret
          exact ⟨by rw [HY.out];rfl,HFT.out⟩
def FactAt (w:World) (B:Nat) (v:Value) (F:FactS):Prop:=∃ v0 v1 v2,v=.agg #[v0,v1,v2]∧FactV w B F v0 v1 v2
theorem FactV.keep {w w':World} {B B':Nat} {F:FactS} {v0 v1 v2:Value} (h:FactV w B F v0 v1 v2) (hb:Below B w w') (hB:B≤B'):FactV w' B' F v0 v1 v2:=by
 obtain ⟨A0,c0,A1,c1,A2,c2,e0,e1,e2,r0,r1,r2,b⟩:=h
 exact ⟨A0,c0,A1,c1,A2,c2,e0,e1,e2,(r0.below hb).more hB,(r1.below hb).more hB,(r2.below hb).more hB,b⟩
theorem SchAt.keep {w w':World} {B B':Nat} {v:Value} {S:Sch} (h:SchAt w B v S) (hb:Below B w w') (hB:B≤B'):SchAt w' B' v S:=by
 obtain ⟨A0,c0,A1,c1,A2,c2,A3,c3,e,r0,r1,r2,r3,b⟩:=h
 exact ⟨A0,c0,A1,c1,A2,c2,A3,c3,e,(r0.below hb).more hB,(r1.below hb).more hB,(r2.below hb).more hB,(r3.below hb).more hB,b⟩
theorem FactAt.keep {w w':World} {B:Nat} {v:Value} {F:FactS} (h:FactAt w B v F) (hb:Below B w w'):FactAt w' B v F:=by
 obtain ⟨v0,v1,v2,e,hv⟩:=h
 exact ⟨v0,v1,v2,e,hv.keep hb (Nat.le_refl _)⟩
def codeAt (F:FactS) (k:Nat):Int:=F.codes.getD k 0
theorem Rd.i64 {w:World} {B:Nat} {A:Option Addr} {l:List Int} (h:Rd w B 1 A l.length (i64s l)) {k:Nat} (hk:k<l.length):∃ a,A=some a∧a.block<B∧w.cell? (a.add k)=some (.int .i64 (l.getD k 0)):=by
 obtain ⟨a,u,rfl,hb,hx,hc⟩:=h.at1 hk
 refine ⟨a,rfl,hb,?_⟩
 rw [show (i64s l)[k]?=some (.int .i64 (l.getD k 0)) from by simp [i64s,List.getD,hk]] at hx
 rw [hc];exact hx.symm
def codeOk (S:Sch) (F:FactS) (k:Nat):Bool:=decide (0≤codeAt F k)&&decide (codeAt F k<szAt S k)
def codesTo (S:Sch) (F:FactS) (k:Nat):Bool:=(List.range k).all (codeOk S F)
def lensOk (S:Sch) (F:FactS):Prop:=F.codes.length=S.dims.length∧F.ints.length=S.ints.length∧F.nums.length=S.nums.length
instance (S:Sch) (F:FactS):Decidable (lensOk S F):=by unfold lensOk;infer_instance
def fitsN (S:Sch) (F:FactS):Nat:=if lensOk S F then (if codesTo S F F.codes.length=true then 0 else 2) else 3
def fitsAt (S:Sch) (l:List FactS) (k:Nat):Nat:=fitsN S (l.getD k ⟨[],[],[]⟩)
theorem i64_ne0 {n:Nat} (h:n≠0):((n:Int) != 0)=true:=by rw [bne_iff_ne];omega
def okTo (S:Sch) (l:List FactS) (k:Nat):Prop:=∀ j,j<k→fitsAt S l j=0
theorem okTo.snoc {S:Sch} {l:List FactS} {k:Nat} (h:okTo S l k) (hk:fitsAt S l k=0):okTo S l (k+1):=fun j hj=>by
 by_cases e:j=k
 ·subst e;exact hk
 ·exact h j (by omega)
def eqTo {α:Type} (z:α) (l m:List α) (k:Nat):Prop:=∀ j,j<k→l.getD j z=m.getD j z
theorem eqTo.snoc {α:Type} {z:α} {l m:List α} {k:Nat} (h:eqTo z l m k) (hk:l.getD k z=m.getD k z):eqTo z l m (k+1):=fun j hj=>by
 by_cases e:j=k
 ·subst e;exact hk
 ·exact h j (by omega)
theorem eqTo.all {α:Type} {z:α} {l m:List α} (hl:l.length=m.length) (h:eqTo z l m l.length):l=m:=by
 apply List.ext_getElem hl
 intro j h1 h2
 have:=h j h1
 simpa [List.getD,h1,h2] using this
theorem Rd.f64 {w:World} {B:Nat} {A:Option Addr} {l:List Nat} (h:Rd w B 1 A l.length (f64s l)) {k:Nat} (hk:k<l.length):∃ a,A=some a∧a.block<B∧w.cell? (a.add k)=some (.float .f64 (l.getD k 0)):=by
 obtain ⟨a,u,rfl,hb,hx,hc⟩:=h.at1 hk
 refine ⟨a,rfl,hb,?_⟩
 rw [show (f64s l)[k]?=some (.float .f64 (l.getD k 0)) from by simp [f64s,List.getD,hk]] at hx
 rw [hc];exact hx.symm
theorem flat_snoc {α:Type} (f:α→List UInt8) (z:α) (l:List α) (k:Nat) (hk:k<l.length):(l.take (k+1)).flatMap f=(l.take k).flatMap f++f (l.getD k z):=by
 rw [List.take_succ_eq_append_getElem hk,List.flatMap_append]
 simp [List.getD,hk]
theorem flat_le {α:Type} (f:α→List UInt8) (c:Nat) (l:List α) (h:∀ x ∈ l,(f x).length≤c):(l.flatMap f).length≤c*l.length:=by
 induction l with
 | nil=>simp
 | cons x l ih =>
   have h1:=h x (by simp)
   have h2:=ih (fun y hy=>h y (by simp [hy]))
   rw [List.flatMap_cons,List.length_append,List.length_cons,Nat.mul_succ]
   omega
theorem encU_9 (x:Nat):(encU x).length≤9:=by have:=wd_le x;rw [encU_length];omega
def vd:List Nat→Nat
 | []=>0
 | d :: l=>d+1000*vd l
theorem vd_cons (d:Nat) (l:List Nat):vd (d :: l)=d+1000*vd l:=rfl
def dig (n:Nat):List Nat:=if h:n=0 then [] else n%1000 :: dig (n/1000)
termination_by n
decreasing_by exact Nat.div_lt_self (by omega) (by decide)
theorem dig_zero:dig 0=[]:=by rw [dig];simp
theorem dig_pos {n:Nat} (h:n≠0):dig n=n%1000 :: dig (n/1000):=by rw [dig];simp [h]
theorem vd_dig (n:Nat):vd (dig n)=n:=by
 induction n using Nat.strongRecOn with
 | ind n ih =>
   by_cases h:n=0
   ·subst h;rw [dig_zero];rfl
   ·rw [dig_pos h]
    unfold vd
    rw [ih (n/1000) (by omega)]
    omega
theorem dig_lt (n:Nat):∀ d ∈ dig n,d<1000:=by
 induction n using Nat.strongRecOn with
 | ind n ih =>
   by_cases h:n=0
   ·subst h;rw [dig_zero];intro d hd;cases hd
   ·rw [dig_pos h]
    intro d hd
    rcases List.mem_cons.1 hd with rfl|hd
    ·omega
    ·exact ih (n/1000) (by omega) d hd
theorem vd_app (l m:List Nat):vd (l++m)=vd l+1000^l.length*vd m:=by
 induction l with
 | nil=>simp [vd]
 | cons d l ih =>
   rw [List.cons_append,vd_cons,vd_cons,ih,List.length_cons,Nat.pow_succ,Nat.mul_add,← Nat.mul_assoc,Nat.mul_comm 1000 (1000^l.length)]
   omega
theorem vd_lt (l:List Nat) (h:∀ d ∈ l,d<1000):vd l<1000^l.length:=by
 induction l with
 | nil=>simp [vd]
 | cons d l ih =>
   unfold vd
   have h1:=h d (by simp)
   have h2:=ih (fun x hx=>h x (by simp [hx]))
   rw [List.length_cons,Nat.pow_succ]
   omega
def tsz:List Nat→Nat
 | []=>0
 | d :: l=>if tsz l=0 then (if d=0 then 0 else 1) else tsz l+1
theorem tsz_le (l:List Nat):tsz l≤l.length:=by
 induction l with
 | nil=>simp [tsz]
 | cons d l ih=>unfold tsz;rw [List.length_cons];split <;> (try split) <;> omega
theorem tsz_zero (l:List Nat):tsz l=0↔vd l=0:=by
 induction l with
 | nil=>simp [tsz,vd]
 | cons d l ih =>
   unfold tsz vd
   split
   ·rename_i h
    have:=ih.1 h
    split <;> omega
   ·rename_i h
    have:vd l≠0:=fun e=>h (ih.2 e)
    omega
theorem take_tsz (l:List Nat) (h:∀ d ∈ l,d<1000):l.take (tsz l)=dig (vd l):=by
 induction l with
 | nil=>simp [tsz,vd,dig_zero]
 | cons d l ih =>
   have hd:=h d (by simp)
   have hl:=ih (fun x hx=>h x (by simp [hx]))
   unfold tsz vd
   split
   ·rename_i h0
    have hz:=(tsz_zero l).1 h0
    split
    ·rename_i hd0;subst hd0;rw [hz];simp [dig_zero]
    ·rename_i hd0
     rw [hz,Nat.mul_zero,Nat.add_zero,dig_pos hd0,Nat.mod_eq_of_lt hd,Nat.div_eq_of_lt hd,dig_zero];simp
   ·rename_i h0
    have hz:vd l≠0:=fun e=>h0 ((tsz_zero l).2 e)
    have e1:(d+1000*vd l)%1000=d:=by omega
    have e2:(d+1000*vd l)/1000=vd l:=by omega
    rw [List.take_succ_cons,hl,dig_pos (n:=d+1000*vd l) (by omega),e1,e2]
theorem tsz_last (l:List Nat) (d:Nat):tsz (l ++ [d])=if d=0 then tsz l else l.length+1:=by
 induction l with
 | nil=>simp [tsz]
 | cons x l ih =>
   rw [List.cons_append]
   unfold tsz
   rw [ih]
   by_cases hd:d=0
   ·rw [if_pos hd,if_pos hd]
   ·rw [if_neg hd,if_neg hd,if_neg (by omega),List.length_cons]
theorem vd_pow (l:List Nat) (k:Nat):vd (List.replicate k 0++l)=1000^k*vd l:=by
 rw [vd_app,List.length_replicate]
 have:vd (List.replicate k 0)=0:=by
  induction k with
  | zero=>rfl
  | succ k ih=>rw [List.replicate_succ];unfold vd;rw [ih]
 omega
theorem dig_len {n k:Nat} (h:n<1000^k):(dig n).length≤k:=by
 induction k generalizing n with
 | zero=>have:n=0:=by simpa using h
         subst this;rw [dig_zero];simp
 | succ k ih =>
   by_cases h0:n=0
   ·subst h0;rw [dig_zero];simp
   ·rw [dig_pos h0,List.length_cons]
    have:=ih (n:=n/1000) (by rw [Nat.pow_succ] at h;omega)
    omega
def dg (l:List Nat) (j:Nat):Nat:=l.getD j 0
theorem dg_get (l:List Nat) (j:Nat) (h:j<l.length):l[j]=dg l j:=by simp [dg,List.getD,h]
theorem dg_far (l:List Nat) (j:Nat) (h:l.length≤j):dg l j=0:=by simp [dg,List.getD,h]
theorem dg_lt (l:List Nat) (j:Nat) (h:∀ d ∈ l,d<1000):dg l j<1000:=by
 rcases Nat.lt_or_ge j l.length with hj|hj
 ·rw [← dg_get l j hj];exact h _ (List.getElem_mem hj)
 ·rw [dg_far l j hj];decide
theorem vd_nil:vd []=0:=rfl
theorem vd_drop (l:List Nat) (i:Nat):vd (l.drop i)=dg l i+1000*vd (l.drop (i+1)):=by
 rcases Nat.lt_or_ge i l.length with hi|hi
 ·rw [List.drop_eq_getElem_cons hi,vd_cons,dg_get l i hi]
 ·rw [List.drop_eq_nil_of_le hi,List.drop_eq_nil_of_le (by omega),dg_far l i hi];rfl
theorem vd_drop_far (l:List Nat) (i:Nat) (h:l.length≤i):vd (l.drop i)=0:=by rw [List.drop_eq_nil_of_le h];rfl
theorem vd_snoc (l:List Nat) (d:Nat):vd (l ++ [d])=vd l+1000^l.length*d:=by rw [vd_app,vd_cons,vd_nil];simp
theorem vd_less {a b:List Nat} (ha:∀ d ∈ a,d<1000) (hb:∀ d ∈ b,d<1000) {i:Nat} (h:vd (a.drop (i+1))=vd (b.drop (i+1))) (hl:dg a i<dg b i):vd a<vd b:=by
 have e1:=vd_drop a i
 have e2:=vd_drop b i
 have hlt:vd (a.drop i)<vd (b.drop i):=by omega
 clear e1 e2 h hl
 induction i with
 | zero=>simpa using hlt
 | succ i ih =>
   apply ih
   have e1:=vd_drop a i
   have e2:=vd_drop b i
   have h1:=dg_lt a i ha
   have h2:=dg_lt b i hb
   omega
def SumR (a b out:List Nat) (i carry:Nat):Prop:=out.length=i∧carry≤1∧(∀ d ∈ out,d<1000)∧vd out+1000^i*(carry+vd (a.drop i)+vd (b.drop i))=vd a+vd b
theorem SumR.zero (a b:List Nat):SumR a b [] 0 0:=⟨rfl,by decide,fun d hd=>(by cases hd),by simp [vd_nil]⟩
theorem SumR.succ {a b out:List Nat} {i carry:Nat} (ha:∀ d ∈ a,d<1000) (hb:∀ d ∈ b,d<1000) (h:SumR a b out i carry):SumR a b (out ++ [(dg a i+dg b i+carry)%1000]) (i+1) ((dg a i+dg b i+carry)/1000):=by
 obtain ⟨h1,h2,h3,h4⟩:=h
 have x1:=dg_lt a i ha
 have x2:=dg_lt b i hb
 refine ⟨by simp [h1],by omega,fun d hd=>?_,?_⟩
 ·rcases List.mem_append.1 hd with hd|hd
  ·exact h3 d hd
  ·obtain rfl:=List.mem_singleton.1 hd;exact Nat.mod_lt _ (by decide)
 ·rw [vd_snoc,h1,← h4,vd_drop a i,vd_drop b i,Nat.pow_succ]
  generalize 1000^i=P
  generalize vd (a.drop (i+1))=x
  generalize vd (b.drop (i+1))=y
  obtain ⟨s,hs⟩:∃ s,dg a i+dg b i+carry=s:=⟨_,rfl⟩
  have e1:carry+(dg a i+1000*x)+(dg b i+1000*y)=s%1000+1000*(s/1000+x+y):=by omega
  rw [hs,e1,Nat.mul_add P (s%1000),Nat.mul_assoc P 1000,Nat.add_assoc]
theorem SumR.end_ {a b out:List Nat} {i carry:Nat} (h:SumR a b out i carry) (h1:a.length≤i) (h2:b.length≤i):vd (out ++ [carry])=vd a+vd b∧∀ d ∈ out ++ [carry],d<1000:=by
 obtain ⟨g1,g2,g3,g4⟩:=h
 rw [vd_drop_far a i h1,vd_drop_far b i h2] at g4
 refine ⟨by rw [vd_snoc,g1,← g4];simp,fun d hd=>?_⟩
 rcases List.mem_append.1 hd with hd|hd
 ·exact g3 d hd
 ·obtain rfl:=List.mem_singleton.1 hd;omega
def RestR (a b out:List Nat) (i borrow:Nat):Prop:=out.length=i∧borrow≤1∧(∀ d ∈ out,d<1000)∧(vd out:Int)+(1000^i:Nat)*((vd (a.drop i):Int)-vd (b.drop i)-borrow)=(vd a:Int)-vd b
theorem RestR.zero (a b:List Nat):RestR a b [] 0 0:=⟨rfl,by decide,fun d hd=>(by cases hd),by simp [vd_nil]⟩
theorem RestR.step {a b out:List Nat} {i borrow d borrow':Nat} (hd:d<1000) (hb':borrow'≤1) (h:RestR a b out i borrow) (he:(dg a i:Int)-dg b i-borrow=(d:Int)-1000*borrow'):RestR a b (out ++ [d]) (i+1) borrow':=by
 obtain ⟨h1,h2,h3,h4⟩:=h
 refine ⟨by simp [h1],hb',fun x hx=>?_,?_⟩
 ·rcases List.mem_append.1 hx with hx|hx
  ·exact h3 x hx
  ·obtain rfl:=List.mem_singleton.1 hx;exact hd
 ·rw [vd_snoc,h1,← h4,vd_drop a i,vd_drop b i,Nat.pow_succ]
  generalize 1000^i=P
  generalize vd (a.drop (i+1))=x
  generalize vd (b.drop (i+1))=y
  have e1:((dg a i+1000*x:Nat):Int)-((dg b i+1000*y:Nat):Int)-borrow=d+1000*((x:Int)-y-borrow'):=by omega
  rw [e1,Int.mul_add]
  simp only [Int.natCast_add,Int.natCast_mul]
  rw [Int.mul_assoc (P:Int),Int.add_assoc]
  rfl
theorem RestR.end_ {a b out:List Nat} (h:∃ borrow,RestR a b out a.length borrow) (hle:vd b≤vd a):vd out=vd a-vd b∧∀ d ∈ out,d<1000:=by
 obtain ⟨borrow,g1,g2,g3,g4⟩:=h
 refine ⟨?_,g3⟩
 rw [vd_drop_far a _ (Nat.le_refl _)] at g4
 have hlt:=vd_lt out g3
 rw [g1] at hlt
 generalize 1000^a.length=P at *
 generalize hx:vd (b.drop a.length)=x at *
 have hz:x+borrow=0:=by
  rcases Nat.eq_zero_or_pos (x+borrow) with h0|h0
  ·exact h0
  ·exfalso
   have e:(P:Int)*((0:Nat)-(x:Int)-borrow)=-((P*(x+borrow):Nat):Int):=by push_cast;rw [show ((0:Int)-x-borrow)=-((x:Int)+borrow) from by omega,Int.mul_neg]
   rw [e] at g4
   have:P*1≤P*(x+borrow):=Nat.mul_le_mul_left _ h0
   omega
 obtain ⟨rfl,rfl⟩:x=0∧borrow=0:=by omega
 simp at g4
 omega
theorem vd_set (l:List Nat) (j x:Nat) (h:j<l.length):vd (l.set j x)+1000^j*dg l j=vd l+1000^j*x:=by
 induction l generalizing j with
 | nil=>simp at h
 | cons d l ih =>
   cases j with
   | zero=>simp [vd_cons,dg];omega
   | succ j =>
     have:=ih j (by simpa using h)
     rw [List.set_cons_succ,vd_cons,vd_cons,Nat.pow_succ]
     have e:dg (d :: l) (j+1)=dg l j:=by simp [dg]
     rw [e,Nat.mul_comm (1000^j) 1000,Nat.mul_assoc,Nat.mul_assoc]
     omega
theorem dg_set_self (l:List Nat) (j x:Nat) (h:j<l.length):dg (l.set j x) j=x:=by simp [dg,List.getD,h]
theorem dg_set_ne (l:List Nat) (j k x:Nat) (h:j≠k):dg (l.set j x) k=dg l k:=by simp [dg,List.getD,List.getElem?_set_ne h]
theorem vd_repl (k:Nat):vd (List.replicate k 0)=0:=by have:=vd_pow [] k;simpa [vd_nil] using this
def MulR (a b out:List Nat) (i:Nat):Prop:=out.length=a.length+b.length+1∧(∀ d ∈ out,d<1000)∧(∀ j,i+b.length≤j→dg out j=0)∧vd out=vd (a.take i)*vd b
def MulI (a b out:List Nat) (i k carry:Nat):Prop:=out.length=a.length+b.length+1∧(∀ d ∈ out,d<1000)∧(∀ j,i+b.length≤j→dg out j=0)∧carry<1000∧vd out+1000^(i+k)*carry=vd (a.take i)*vd b+1000^i*(dg a i*vd (b.take k))
theorem mem_set_lt {l:List Nat} {j x:Nat} (h:∀ d ∈ l,d<1000) (hx:x<1000):∀ d ∈ l.set j x,d<1000:=fun d hd=>by
 rcases List.mem_or_eq_of_mem_set hd with hd|rfl
 ·exact h d hd
 ·exact hx
theorem vd_take_succ (l:List Nat) (k:Nat) (h:k<l.length):vd (l.take (k+1))=vd (l.take k)+1000^k*dg l k:=by
 rw [List.take_succ_eq_append_getElem h,vd_snoc,List.length_take,dg_get l k h,Nat.min_eq_left (by omega)]
theorem MulR.zero (a b:List Nat):MulR a b (List.replicate (a.length+b.length+1) 0) 0:=by
 refine ⟨by simp,fun d hd=>?_,fun j _=>?_,?_⟩
 ·have:=List.eq_of_mem_replicate hd;omega
 ·unfold dg List.getD;rw [List.getElem?_replicate];split <;> rfl
 ·rw [vd_repl];simp [vd_nil]
theorem MulR.start {a b out:List Nat} {i:Nat} (h:MulR a b out i):MulI a b out i 0 0:=⟨h.1,h.2.1,h.2.2.1,by decide,by rw [h.2.2.2];simp [vd_nil]⟩
theorem prod_bd {x y z c:Nat} (hx:x<1000) (hy:y<1000) (hz:z<1000) (hc:c<1000):z+x*y+c<1000000:=by
 have:x*y≤999*999:=Nat.mul_le_mul (by omega) (by omega)
 omega
theorem MulI.succ {a b out:List Nat} {i k carry:Nat} (ha:∀ d ∈ a,d<1000) (hb:∀ d ∈ b,d<1000) (h:MulI a b out i k carry) (hi:i<a.length) (hk:k<b.length) :
 MulI a b (out.set (i+k) ((dg out (i+k)+dg a i*dg b k+carry)%1000)) i (k+1) ((dg out (i+k)+dg a i*dg b k+carry)/1000):=by
 obtain ⟨h1,h2,h3,h4,h5⟩:=h
 have x1:=dg_lt a i ha
 have x2:=dg_lt b k hb
 have x3:=dg_lt out (i+k) h2
 have hbd:=prod_bd x1 x2 x3 h4
 have hs:=vd_set out (i+k) ((dg out (i+k)+dg a i*dg b k+carry)%1000) (by omega)
 refine ⟨by simp [h1],mem_set_lt h2 (Nat.mod_lt _ (by decide)),fun j hj=>by rw [dg_set_ne _ _ _ _ (by omega)];exact h3 j hj,by omega,?_⟩
 rw [vd_take_succ b k hk,Nat.mul_add,Nat.mul_add,← Nat.add_assoc (vd (a.take i)*vd b),← h5,← Nat.add_assoc i k 1,Nat.pow_succ]
 generalize dg out (i+k)=o at *
 generalize dg a i=p at *
 generalize dg b k=q at *
 have e1:1000^i*(p*(1000^k*q))=1000^(i+k)*(p*q):=by rw [Nat.pow_add,← Nat.mul_assoc p,Nat.mul_comm p,Nat.mul_assoc (1000^k),← Nat.mul_assoc (1000^i)]
 rw [e1]
 generalize vd (out.set (i+k) ((o+p*q+carry)%1000))=V' at *
 generalize vd out=V at *
 generalize 1000^(i+k)=P at *
 obtain ⟨s,hss⟩:∃ s,o+p*q+carry=s:=⟨_,rfl⟩
 rw [hss] at hs ⊢
 have e2:P*s=P*o+P*(p*q)+P*carry:=by rw [← hss,Nat.mul_add,Nat.mul_add]
 have e3:P*s=P*(s%1000)+P*1000*(s/1000):=by
  rw [Nat.mul_assoc,← Nat.mul_add,Nat.mod_add_div]
 omega
theorem MulI.end_ {a b out:List Nat} {i carry:Nat} (h:MulI a b out i b.length carry) (hi:i<a.length):MulR a b (out.set (i+b.length) carry) (i+1):=by
 obtain ⟨h1,h2,h3,h4,h5⟩:=h
 have hs:=vd_set out (i+b.length) carry (by omega)
 have h0:=h3 (i+b.length) (Nat.le_refl _)
 refine ⟨by simp [h1],mem_set_lt h2 h4,fun j hj=>by rw [dg_set_ne _ _ _ _ (by omega)];exact h3 j (by omega),?_⟩
 rw [h0,Nat.mul_zero,Nat.add_zero] at hs
 rw [hs,h5,vd_take_succ a i hi,List.take_length,Nat.add_mul,Nat.mul_assoc]
theorem MulR.all {a b out:List Nat} (h:MulR a b out a.length):vd out=vd a*vd b∧∀ d ∈ out,d<1000:=by
 obtain ⟨_,h2,_,h4⟩:=h
 rw [List.take_length] at h4
 exact ⟨h4,h2⟩
def nd (z:Int):Nat:=(dig z.natAbs).length
theorem dig_len2 {n k:Nat} (h:n<2^k):(dig n).length≤k:=dig_len (Nat.lt_of_lt_of_le h (Nat.pow_le_pow_left (by decide) k))
theorem ldiv_step {b r d:Nat} (hb:0<b) (hr:r<b) (hd:d<1000):(d+1000*r)/b<1000:=by
 rw [Nat.div_lt_iff_lt_mul hb]
 have:1000*r+1000≤1000*b:=by omega
 rw [Nat.mul_comm];omega
def DivR (a q:List Nat) (b i r:Nat):Prop:=q.length=a.length∧(∀ d ∈ q,d<1000)∧(∀ j,j<i→dg q j=0)∧r<b∧vd (q.drop i)*b+r=vd (a.drop i)
theorem DivR.start (a:List Nat) (b:Nat) (hb:0<b):DivR a (List.replicate a.length 0) b a.length 0:=by
 refine ⟨by simp,fun d hd=>?_,fun j _=>?_,hb,?_⟩
 ·have:=List.eq_of_mem_replicate hd;omega
 ·unfold dg List.getD;rw [List.getElem?_replicate];split <;> rfl
 ·rw [vd_drop_far _ _ (by simp),vd_drop_far _ _ (Nat.le_refl _)];simp
theorem drop_set_le (l:List Nat) (i x:Nat):(l.set i x).drop (i+1)=l.drop (i+1):=by rw [List.drop_set_of_lt (by omega)]
theorem DivR.step {a q:List Nat} {b i r:Nat} (ha:∀ d ∈ a,d<1000) (h:DivR a q b (i+1) r) (hi:i<a.length):DivR a (q.set i ((dg a i+1000*r)/b)) b i ((dg a i+1000*r)%b):=by
 obtain ⟨h1,h2,h3,h4,h5⟩:=h
 have hb:0<b:=by omega
 have hd:=ldiv_step hb h4 (dg_lt a i ha)
 refine ⟨by simp [h1],mem_set_lt h2 hd,fun j hj=>by rw [dg_set_ne _ _ _ _ (by omega)];exact h3 j (by omega),Nat.mod_lt _ hb,?_⟩
 rw [vd_drop (q.set i _) i,vd_drop a i,dg_set_self _ _ _ (by omega),drop_set_le,← h5,Nat.add_mul]
 have e:=Nat.div_add_mod (dg a i+1000*r) b
 rw [Nat.mul_comm b] at e
 rw [Nat.mul_add,← Nat.mul_assoc]
 generalize (dg a i+1000*r)/b*b=x at *
 generalize (dg a i+1000*r)%b=y at *
 generalize 1000*vd (List.drop (i+1) q)*b=z
 omega
theorem set_zero {q:List Nat} {i:Nat} (h:dg q i=0):q.set i 0=q:=by
 apply List.ext_getElem?
 intro j
 rw [List.getElem?_set]
 split
 ·rename_i e;subst e
  split
  ·rename_i hl
   rw [List.getElem?_eq_getElem hl,dg_get q _ hl,h]
  ·rename_i hl
   rw [List.getElem?_eq_none (by omega)]
 ·rfl
theorem DivR.less {a q:List Nat} {b i r:Nat} (ha:∀ d ∈ a,d<1000) (h:DivR a q b (i+1) r) (hi:i<a.length) (hl:dg a i+1000*r<b):DivR a q b i (dg a i+1000*r):=by
 have h':=h.step ha hi
 rw [Nat.div_eq_of_lt hl,Nat.mod_eq_of_lt hl,set_zero (h.2.2.1 i (by omega))] at h'
 exact h'
theorem DivR.all {a q:List Nat} {b r:Nat} (h:DivR a q b 0 r):vd q=vd a/b∧(∀ d ∈ q,d<1000):=by
 obtain ⟨_,h2,_,h4,h5⟩:=h
 refine ⟨?_,h2⟩
 rw [List.drop_zero,List.drop_zero] at h5
 rw [← h5,Nat.add_comm,Nat.add_mul_div_right _ _ (by omega),Nat.div_eq_of_lt h4];omega
theorem quot_of {b r q:Nat} (h1:q*b≤r) (h2:r<(q+1)*b):r/b=q:=by
 have hb:0<b:=by
  rcases Nat.eq_zero_or_pos b with h0|h0
  ·subst h0;omega
  ·exact h0
 apply Nat.le_antisymm
 ·exact Nat.le_of_lt_succ ((Nat.div_lt_iff_lt_mul hb).2 h2)
 ·exact (Nat.le_div_iff_mul_le hb).2 h1
def pk (kd:Int) (b:Nat) (st:Pst) (l:List (List UInt8×Bool)):Pst:=l.foldl (fun st x=>pput kd b st x.1 x.2) st
def encSq (l:List Nat):List UInt8:=l.flatMap encU
def encWhole (x:WholeS):List UInt8:=encI x.sum++encI x.abs++encU x.sq.length++encSq x.sq++encI x.mn++encI x.mx
def encReal (x:RealS):List UInt8:=encU x.sum.length++x.sum++be 8 (keyB x.mn)++be 8 (keyB x.mx)
def encWholes (l:List WholeS):List UInt8:=l.flatMap encWhole
def encReals (l:List RealS):List UInt8:=l.flatMap encReal
def encCell (C:CellS):List UInt8:=encU C.key++encI C.count++encWholes C.ints++encReals C.nums
theorem encSq_le (l:List Nat):(encSq l).length≤9*l.length:=flat_le _ 9 l fun _ _=>encU_9 _
def lightW (x:WholeS):Bool:=decide (x.sq.length≤20)
def lightR (x:RealS):Bool:=decide (x.sum.length≤300)
def lightC (C:CellS):Bool:=decide (C.ints.length≤10)&&decide (C.nums.length≤10)&&C.ints.all lightW&&C.nums.all lightR
theorem encWhole_le {x:WholeS} (h:lightW x=true):(encWhole x).length≤225:=by
 have h1:=of_decide_eq_true h
 have:=encSq_le x.sq;have:=encI_9 x.sum;have:=encI_9 x.abs;have:=encI_9 x.mn;have:=encI_9 x.mx;have:=encU_9 x.sq.length
 unfold encWhole;simp only [List.length_append];omega
theorem encReal_le {x:RealS} (h:lightR x=true):(encReal x).length≤325:=by
 have h1:=of_decide_eq_true h
 have:=encU_9 x.sum.length
 unfold encReal;simp only [List.length_append,be_length];omega
def hd (b:List UInt8) (i:Nat):Nat:=(b.getD i 0).toNat
def headE (b:List UInt8):Nat :=
 if 0<b.length∧(63<hd b 0∨(hd b 0/32%2=1∧hd b 0/16%2=0)) then 6
 else if 1<b.length∧(69<hd b 1∨(0<hd b 1∧hd b 0/16%2=0)) then 6
 else if 2<b.length∧(70<hd b 1+hd b 2∨(0<hd b 2∧hd b 0/16%2=0)∨(hd b 2=0∧(0<hd b 1∨hd b 0/32%2=1))) then 6
 else 0
def wordB (b:List UInt8) (i:Nat):Nat:=bv ((b.drop (3+4*i)).take 4)
def wordsE (b:List UInt8) (n:Nat):Nat→Nat
 | 0=>if 3+4*n<b.length then 7 else 0
 | k+1=>if b.length<3+4*(n-(k+1))+4 then 5 else if (n-(k+1)=0∨k=0)∧wordB b (n-(k+1))=0 then 6 else wordsE b n k
def readE (b:List UInt8):Nat:=if headE b≠0 then headE b else if b.length<3 then 5 else wordsE b (hd b 2) (hd b 2)
def fullP (S:Sch):Nat:=if checkN S=0 then fullN S else 0
def keysP (S:Sch) (mask:Nat):Nat→Nat
 | 0=>1
 | k+1=>if mask.testBit k then keysP S mask k*(szAt S k).toNat else keysP S mask k
def keysOf (S:Sch) (mask:Nat):Option Nat:=if checkN S=0∧mask<p2 S.dims.length then some (keysP S mask S.dims.length) else none
def okW (x:WholeS):Bool:=decide (0≤x.abs)&&decide (x.sum≤x.abs)&&decide (-x.abs≤x.sum)&&decide (x.mn≤x.mx)&&decide (x.sq.length≤7)&&decide (tsz x.sq=x.sq.length)
def okR (x:RealS):Bool:=decide (readE x.sum=0)&&decide (keyB x.mn≤keyB x.mx)
def rightC (S:Sch) (mask:Nat) (C:CellS):Bool :=
 match keysOf S mask with
 | none=>false
 | some n=>decide (C.key<n)&&decide (1≤C.count)&&decide (C.ints.length=S.ints.length)&&decide (C.nums.length=S.nums.length)&&C.ints.all okW&&C.nums.all okR
def risingC:List CellS→Bool
 | []=>true
 | [_]=>true
 | C :: D :: l=>decide (C.key<D.key)&&risingC (D :: l)
theorem and_hi (a n:Nat) (hn:n≤31) (ha:a<4294967296):a &&& (4294967295-(p2 n-1))=a/p2 n*p2 n:=by
 have e:4294967295-(p2 n-1)=(p2 (32-n)-1)*p2 n:=by
  have h1:p2 (32-n)*p2 n=4294967296:=by
   unfold p2;rw [← Nat.pow_add,show 32-n+n=32 from by omega]
  have:=p2_pos n
  rw [Nat.sub_mul,h1,Nat.one_mul];omega
 rw [e]
 unfold p2
 apply Nat.eq_of_testBit_eq;intro i
 rw [Nat.testBit_and,Nat.testBit_mul_two_pow,Nat.testBit_mul_two_pow,Nat.testBit_two_pow_sub_one,Nat.testBit_div_two_pow]
 by_cases hi:n≤i
 ·by_cases h32:i<32
  ·have h1:decide (i-n<32-n)=true:=decide_eq_true (by omega)
   rw [h1,show i-n+n=i from by omega]
   simp [hi]
  ·have h0:a.testBit i=false:=Nat.testBit_lt_two_pow (Nat.lt_of_lt_of_le ha (by have:=Nat.pow_le_pow_right (show 0<2 by decide) (show 32≤i by omega);simpa using this))
   rw [show i-n+n=i from by omega,h0]
   simp
 ·simp [hi]
theorem bit_of (x i:Nat):(x/p2 i)%2=if x.testBit i then 1 else 0:=by
 rw [Nat.testBit_eq_decide_div_mod_eq]
 unfold p2
 by_cases h:x/2^i%2=1
 ·simp [h]
 ·have:x/2^i%2=0:=by omega
  simp [this]
theorem and32:∀ x:Fin 256,x.val &&& 32=x.val/32%2*32:=by decide +kernel
theorem and16:∀ x:Fin 256,x.val &&& 16=x.val/16%2*16:=by decide +kernel
theorem not32:∀ x:Fin 256,x.val &&& (255-32)=x.val-x.val/32%2*32:=by decide +kernel
theorem or_byte32 (X b:Nat) (hb:b<256):X*256 ||| b=X*256+b:=by
 have:=Nat.shiftLeft_add_eq_or_of_lt (show b<2^8 from hb) X
 rw [Nat.shiftLeft_eq] at this
 exact this.symm
def magP (g:Nat→Nat) (m i:Nat):List Nat:=List.replicate (m-i) 0++((List.range i).map g).reverse
theorem magP_len (g:Nat→Nat) (m i:Nat) (h:i≤m):(magP g m i).length=m:=by unfold magP;simp;omega
theorem magP_succ (g:Nat→Nat) (m i:Nat) (h:i<m):(magP g m i).set (m-1-i) (g i)=magP g m (i+1):=by
 unfold magP
 obtain ⟨k,hk⟩:∃ k,m-i=k+1:=⟨m-i-1,by omega⟩
 have h1:m-1-i=k:=by omega
 have h2:m-(i+1)=k:=by omega
 rw [hk,h1,h2,List.range_succ,List.map_append,List.reverse_append]
 rw [List.replicate_succ',List.append_assoc,List.set_append_right _ _ (by simp)]
 simp
theorem magP_get (g:Nat→Nat) (m i p:Nat) (h:i<m):((magP g m i).set (m-1-i) p)[m-1-i]?=some p:=by
 rw [List.getElem?_set_self (by rw [magP_len g m i (by omega)];omega)]
theorem magP_cur (g:Nat→Nat) (m i:Nat) (h:i<m):(magP g m i)[m-1-i]?=some 0:=by
 unfold magP
 rw [List.getElem?_append_left (by simp;omega),List.getElem?_replicate,if_pos (by omega)]
theorem magP_at (g:Nat→Nat) (m i j:Nat) (h:j<i) (hi:i≤m):(magP g m i)[m-1-j]?=some (g j):=by
 unfold magP
 rw [List.getElem?_append_right (by simp;omega)]
 rw [List.length_replicate,show m-1-j-(m-i)=i-1-j from by omega,List.getElem?_reverse (by simp;omega)]
 simp only [List.length_map,List.length_range]
 rw [show i-1-(i-1-j)=j from by omega]
 simp [h]
theorem all_take_succ {α:Type} (p:α→Bool) (l:List α) (k:Nat) (h:k<l.length):(l.take (k+1)).all p=((l.take k).all p&&p l[k]):=by
 rw [List.take_succ_eq_append_getElem h,List.all_append];simp
theorem all_no {α:Type} (p:α→Bool) (l:List α) (k:Nat) (h:k<l.length) (hp:p l[k]=false):l.all p=false:=by
 rw [List.all_eq_false];exact ⟨l[k],List.getElem_mem h,by simp [hp]⟩
theorem rightC_none (S:Sch) (mask:Nat) (C:CellS) (h:keysOf S mask=none):rightC S mask C=false:=by unfold rightC;rw [h]
theorem rightC_some (S:Sch) (mask n:Nat) (C:CellS) (h:keysOf S mask=some n):rightC S mask C=(decide (C.key<n)&&decide (1≤C.count)&&decide (C.ints.length=S.ints.length)&&decide (C.nums.length=S.nums.length)&&C.ints.all okW&&C.nums.all okR):=by unfold rightC;rw [h]
theorem headE_ok {b:List UInt8} (h0:headE b=0) (h3:3≤b.length):hd b 1+hd b 2≤70∧hd b 0≤63∧(hd b 2=0→hd b 1=0):=by
 unfold headE at h0
 (repeat' split at h0) <;> first|(cases h0;done)|(refine ⟨?_,?_,?_⟩ <;> omega)
theorem readE_head {b:List UInt8} (h:headE b≠0):readE b=headE b:=if_pos h
theorem readE_short {b:List UInt8} (h:headE b=0) (h3:¬ 3≤b.length):readE b=5:=by unfold readE;rw [if_neg (by omega),if_pos (by omega)]
theorem readE_words {b:List UInt8} (h:headE b=0) (h3:3≤b.length):readE b=wordsE b (hd b 2) (hd b 2):=by unfold readE;rw [if_neg (by omega),if_neg (by omega)]
theorem lightC_yes {C:CellS} (h1:C.ints.length≤10) (h2:C.nums.length≤10) (h3:C.ints.all lightW=true) (h4:C.nums.all lightR=true):lightC C=true:=by
 unfold lightC;rw [h3,h4];simp [h1,h2]
theorem factR_mk {w:World} {B:Nat} {F:FactS} {v0 v1 v2:Value} (h:FactV w B F v0 v1 v2) (ho:FactOk F):factR.rep w B F [v0,v1,v2]:=by
 obtain ⟨A0,c0,A1,c1,A2,c2,rfl,rfl,rfl,r0,r1,r2,⟨b0,b0'⟩,⟨b1,b1'⟩,b2,b2'⟩:=h
 refine ⟨[_],[_,_],rfl,⟨A0,c0,_,rfl,b0,b0',r0,chunk_val.2 ⟨rfl,fun x hx=>?_⟩⟩,[_],[_],rfl,⟨A1,c1,_,rfl,b1,b1',r1,chunk_val.2 ⟨rfl,fun x hx=>?_⟩⟩,A2,c2,_,rfl,b2,b2',r2,chunk_val.2 ⟨rfl,ho.nums⟩⟩
 ·exact WalkArith.wf_i64 (ho.codes x hx)
 ·exact WalkArith.wf_i64 (ho.ints x hx)
def lightF (F:FactS):Bool:=decide (F.codes.length≤20)&&decide (F.ints.length≤20)&&decide (F.nums.length≤20)
def lightFs (l:List FactS):Bool:=l.all lightF
def lightTo (l:List FactS) (k:Nat):Prop:=∀ j (hj:j<l.length),j<k→lightF l[j]=true
theorem lightTo.snoc {l:List FactS} {k:Nat} (h:lightTo l k) (hk:k<l.length) (hx:lightF l[k]=true):lightTo l (k+1):=fun j hj hjk=>by
 by_cases e:j=k
 ·subst e;exact hx
 ·exact h j hj (by omega)
theorem lightTo.all {l:List FactS} (h:lightTo l l.length):lightFs l=true:=by
 unfold lightFs;rw [List.all_eq_true]
 intro x hx
 obtain ⟨j,hj,rfl⟩:=List.getElem_of_mem hx
 exact h j hj hj
end Go.Proofs.YtfhmaincnlaapaaGreat
