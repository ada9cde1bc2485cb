/- agg.measure, agg.Get. -/
import Derived.Deep.RegionHeld3
import Derived.Deep.RegionLawGrows
import Derived.Test.YtfhmaincnlaapaaGreatTrCellGet
import Derived.Test.YtfhmaincnlaapaaGreatTrFactGet
import Derived.Test.YtfhmaincnlaapaaGreatTrExactRead
namespace Go.Proofs.YtfhmaincnlaapaaGreat
open Go.ChangeShapes Go.WideShapes Go.ChangeAt Go.RowKit
set_option linter.unusedVariables false
theorem run_store_fR {P:Program} {w:World} {a:Addr} {m:Mode} (k:FloatKind) (b:Nat):(store a (.float k b) m).run P w=stored P w a (.float k b) m:=run_store P w a _ m rfl
attribute [local go_sem] run_store_fR
theorem okW_no {X:WholeS} (h:¬(0≤X.abs∧X.sum≤X.abs∧-X.abs≤X.sum∧X.mn≤X.mx∧X.sq.length≤7∧tsz X.sq=X.sq.length)):okW X=false:=by
 rw [←Bool.not_eq_true]
 intro hh
 unfold okW at hh
 simp only [Bool.and_eq_true,decide_eq_true_iff] at hh
 exact h ⟨hh.1.1.1.1.1,hh.1.1.1.1.2,hh.1.1.1.2,hh.1.1.2,hh.1.2,hh.2⟩
theorem okW_yes {X:WholeS} (h1:0≤X.abs) (h2:X.sum≤X.abs) (h3:-X.abs≤X.sum) (h4:X.mn≤X.mx) (h5:X.sq.length≤7) (h6:tsz X.sq=X.sq.length):okW X=true:=by
 unfold okW;simp [h1,h2,h3,h4,h5,h6]
theorem okR_no {X:RealS} (h:¬(readE X.sum=0∧keyB X.mn≤keyB X.mx)):okR X=false:=by
 rw [←Bool.not_eq_true]
 intro hh
 unfold okR at hh
 simp only [Bool.and_eq_true,decide_eq_true_iff] at hh
 exact h hh
theorem okR_yes {X:RealS} (h1:readE X.sum=0) (h2:keyB X.mn≤keyB X.mx):okR X=true:=by unfold okR;simp [h1,h2]
theorem rightC_no {S:Sch} {mask n:Nat} {C:CellS} (hk:keysOf S mask=some n) (h:¬(C.key<n∧1≤C.count∧C.ints.length=S.ints.length∧C.nums.length=S.nums.length∧C.ints.all okW=true∧C.nums.all okR=true)):rightC S mask C=false:=by
 rw [←Bool.not_eq_true]
 intro hh
 rw [rightC_some S mask n C hk] at hh
 simp only [Bool.and_eq_true,decide_eq_true_iff] at hh
 exact h ⟨hh.1.1.1.1.1,hh.1.1.1.1.2,hh.1.1.1.2,hh.1.1.2,hh.1.2,hh.2⟩
theorem rightC_yes {S:Sch} {mask n:Nat} {C:CellS} (hk:keysOf S mask=some n) (h1:C.key<n) (h2:1≤C.count) (h3:C.ints.length=S.ints.length) (h4:C.nums.length=S.nums.length) (h5:C.ints.all okW=true) (h6:C.nums.all okR=true):rightC S mask C=true:=by
 rw [rightC_some S mask n C hk,h5,h6];simp [h1,h2,h3,h4]
set_option maxRecDepth 20000 in
set_option maxHeartbeats 16000000 in
theorem aggRight_any (w:World) (B:Nat) (v:Value) (S:Sch) (mask:Nat) (C:CellS) (D2:Option Addr) (d2:Nat) (D3:Option Addr) (d3:Nat) (h:SchAt w B v S) (ho:SchOk S) (hv:CellV w B C D2 d2 D3 d3) (hB:B≤w.heap.size) (hm:mask<4294967296) :
 Calls Tryz.prog 24 #[v,.int .u32 (mask:Int),.agg #[.int .u64 (C.key:Int),.int .i64 C.count,.slice D2 C.ints.length d2,.slice D3 C.nums.length d3]] w fun y w'=>y=.returned (.bool (rightC S mask C))∧Below w.heap.size w w':=by
 have hh:=h
 obtain ⟨A0,c0,A1,c1,A2,c2,A3,c3,rfl,r0,r1,r2,r3,b0,b1,b2,b3⟩:=hh
 clear r0 r1 r2 r3 b0 b1 b2 b3
 have hw1:=belA (belR w) (.cells #[.slice A0 S.dims.length c0,.slice A1 S.ints.length c1,.slice A2 S.nums.length c2,.slice A3 S.views.length c3] 26)
 have hw0:=belA hw1 (.cells #[.int .u64 (C.key:Int),.int .i64 C.count,.slice D2 C.ints.length d2,.slice D3 C.nums.length d3] 53)
 have ks:=(Blk.new w 26 #[.slice A0 S.dims.length c0,.slice A1 S.ints.length c1,.slice A2 S.nums.length c2,.slice A3 S.views.length c3]).alloc (.cells #[.int .u64 (C.key:Int),.int .i64 C.count,.slice D2 C.ints.length d2,.slice D3 C.nums.length d3] 53)
 have kc:=Blk.new (w.alloc (.cells #[.slice A0 S.dims.length c0,.slice A1 S.ints.length c1,.slice A2 S.nums.length c2,.slice A3 S.views.length c3] 26)) 53 #[.int .u64 (C.key:Int),.int .i64 C.count,.slice D2 C.ints.length d2,.slice D3 C.nums.length d3]
 have hgc:(w.alloc (.cells #[.slice A0 S.dims.length c0,.slice A1 S.ints.length c1,.slice A2 S.nums.length c2,.slice A3 S.views.length c3] 26)).heap.size=w.heap.size+1:=by simp
 rw [hgc] at kc
 have hc:=keys_any ((w.alloc (.cells #[.slice A0 S.dims.length c0,.slice A1 S.ints.length c1,.slice A2 S.nums.length c2,.slice A3 S.views.length c3] 26)).alloc (.cells #[.int .u64 (C.key:Int),.int .i64 C.count,.slice D2 C.ints.length d2,.slice D3 C.nums.length d3] 53)) B _ S mask (h.keep (hw0.mono hB) (Nat.le_refl _)) ho (by simp;omega) hm
 have HC:=Lib.hid hc;have HW0:=Lib.hid hw0;have KS:=Lib.hid ks;have KC:=Lib.hid kc;have HV:=Lib.hid hv
 have hml:C.ints.length≤9223372036854775807:=by have h1:=hv.ints.1;have h2:=hv.ints.2.1;unfold maxLen at h2;omega
 have hmn:C.nums.length≤9223372036854775807:=by have h1:=hv.nums.1;have h2:=hv.nums.2.1;unfold maxLen at h2;omega
 clear hc hw0 hw1 ks kc hgc h hv
 go_enter Tryz.func24,Tryz.ntmps24
 go_wp2_with fail
 (with_reducible refine HC.out.mono ?_);rintro y w1 ⟨rfl,hb1⟩
 generalize hW:(w.alloc (.cells #[.slice A0 S.dims.length c0,.slice A1 S.ints.length c1,.slice A2 S.nums.length c2,.slice A3 S.views.length c3] 26)).alloc (.cells #[.int .u64 (C.key:Int),.int .i64 C.count,.slice D2 C.ints.length d2,.slice D3 C.nums.length d3] 53)=W at *
 have hWz:W.heap.size=w.heap.size+2:=by rw [←hW];simp
 clear hW
 have hks:=KS.out.below hb1 (by omega)
 have hkc:=KC.out.below hb1 (by omega)
 have s1:=hks.cell 1;have s2:=hks.cell 2
 have m0:=hkc.cell 0;have m1:=hkc.cell 1;have m2:=hkc.cell 2;have m3:=hkc.cell 3
 simp at s1 s2 m0 m1 m2 m3
 have HB1:=Lib.hid hb1
 have HBW:=Lib.hid (HW0.out.trans (hb1.mono (show w.heap.size≤_ by omega)))
 clear hb1 hks hkc HC
 cases hk:keysOf S mask with
 | none =>
   have HF:=Lib.hid (rightC_none S mask C hk)
   simp only [Option.isSome_none,Option.getD_none]
   clear hk
   go_wp2
   go_ret
   exact ⟨(by rw [HF.out]<;>rfl),HBW.out⟩
 | some n =>
   simp only [Option.isSome_some,Option.getD_some]
   have HK:=Lib.hid hk
   clear hk
   by_cases g1:C.key<n
   case neg =>
    have t1:decide ((n:Int)≤(C.key:Int))=true:=decide_eq_true (by omega)
    have HF:=Lib.hid (rightC_no (C:=C) HK.out fun hh=>g1 hh.1)
    have n1:n≤C.key:=by omega
    clear g1
    go_wp2
    go_ret
    exact ⟨(by rw [HF.out]<;>rfl),HBW.out⟩
   have t1:decide ((n:Int)≤(C.key:Int))=false:=decide_eq_false (by omega)
   have t1n:decide (n≤C.key)=false:=decide_eq_false (by omega)
   by_cases g2:1≤C.count
   case neg =>
    have t2:decide (C.count<1)=true:=decide_eq_true (by omega)
    have HF:=Lib.hid (rightC_no (C:=C) HK.out fun hh=>g2 hh.2.1)
    have n2:C.count<1:=by omega
    clear g2
    go_wp2
    go_ret
    exact ⟨(by rw [HF.out]<;>rfl),HBW.out⟩
   have t2:decide (C.count<1)=false:=decide_eq_false (by omega)
   by_cases g3:C.ints.length=S.ints.length
   case neg =>
    have t3:((C.ints.length:Int) != (S.ints.length:Int))=true:=by rw [bne_iff_ne];omega
    have HF:=Lib.hid (rightC_no (C:=C) HK.out fun hh=>g3 hh.2.2.1)
    clear g3
    go_wp2
    go_ret
    exact ⟨(by rw [HF.out]<;>rfl),HBW.out⟩
   have t3:((C.ints.length:Int) != (S.ints.length:Int))=false:=by rw [bne_eq_false_iff_eq];omega
   by_cases g4:C.nums.length=S.nums.length
   case neg =>
    have t4:((C.nums.length:Int) != (S.nums.length:Int))=true:=by rw [bne_iff_ne];omega
    have HF:=Lib.hid (rightC_no (C:=C) HK.out fun hh=>g4 hh.2.2.2.1)
    clear g4
    go_wp2
    go_ret
    exact ⟨(by rw [HF.out]<;>rfl),HBW.out⟩
   have t4:((C.nums.length:Int) != (S.nums.length:Int))=false:=by rw [bne_eq_false_iff_eq];omega
   have HNO:=Lib.hid fun (hb:¬(C.ints.all okW=true∧C.nums.all okR=true))=>rightC_no (C:=C) HK.out fun hh=>hb hh.2.2.2.2
   have HYES:=Lib.hid fun (h5:C.ints.all okW=true) (h6:C.nums.all okR=true)=>rightC_yes HK.out g1 g2 g3 g4 h5 h6
   clear g3 g4 HK
   go_wp2
   clear g1 g2 t1 t1n t2 t3 t4 s1 s2 m0 m1 m2
   go_loopw [55] (fun i wr=>∃ k:Nat,k≤C.ints.length∧i=.int .i64 (k:Int)∧Hid ((C.ints.take k).all okW=true)∧Hid (Below W.heap.size W wr)) (fun i _=>C.ints.length-(intOf i).toNat)
   case atStart=>exact ⟨0,by omega,rfl,rfl,HB1.out⟩
   case round =>
    obtain ⟨k,hk,rfl,HA,HBl⟩:=hrel
    clear m3
    by_cases hlt:k<C.ints.length
    ·obtain ⟨a,Aq,cq,ea,hab,x0,x1,x2,x3,x4,hRq,hq1,hq2,hq3,hs,ha,hmi,hmx⟩:=(HV.out.ints.keep ((HW0.out.trans (HBl.out.mono (show w.heap.size≤_ by omega))).mono hB) (Nat.le_refl _)).wholeAt hlt
     have q1:(0:Int)≤(k:Int):=by omega
     have q2:(k:Int)<(C.ints.length:Int):=by omega
     have hts:=all_take_succ okW C.ints k hlt
     rw [HA.out,Bool.true_and] at hts
     have HN1:=Lib.hid fun (hf:okW C.ints[k]=false)=>HNO.out fun hh=>by rw [all_no okW C.ints k hlt hf] at hh;exact absurd hh.1 (by decide)
     subst ea
     generalize C.ints[k]=X at *
     have hbx:=belA (belR wr) (.cells #[.int .i64 X.sum,.int .i64 X.abs,.slice Aq X.sq.length cq,.int .i64 X.mn,.int .i64 X.mx] 122)
     have hbk:=Blk.new wr 122 #[.int .i64 X.sum,.int .i64 X.abs,.slice Aq X.sq.length cq,.int .i64 X.mn,.int .i64 X.mx]
     have hzr:W.heap.size≤wr.heap.size:=HBl.out.size
     have HBX:=Lib.hid (HBl.out.trans (hbx.mono hzr));have HTS:=Lib.hid hts;have HKX:=Lib.hid hbk
     have HBV:Hid (∀ W',Below W.heap.size W W'→Below w.heap.size w W'):=Lib.hid fun W' hb=>HW0.out.trans (hb.mono (show w.heap.size≤_ by omega))
     have HRQ:=Lib.hid (hRq.below (hbx.mono (show B≤wr.heap.size by omega)))
     have hq2':=hq2
     unfold maxLen at hq2'
     clear hRq hbx hbk hts
     go_wp2
     generalize hX:wr.alloc (.cells #[.int .i64 X.sum,.int .i64 X.abs,.slice Aq X.sq.length cq,.int .i64 X.mn,.int .i64 X.mx] 122)=Wx at *
     clear x0 x1 x2 x3 x4
     have hzx:Wx.heap.size=wr.heap.size+1:=by rw [←hX];simp
     have hbn:wr.heap.size<Wx.heap.size:=by omega
     clear hX
     generalize hbe:wr.heap.size=bn at *
     have y0:=HKX.out.cell 0;have y1:=HKX.out.cell 1;have y2:=HKX.out.cell 2;have y3:=HKX.out.cell 3;have y4:=HKX.out.cell 4
     simp at y0 y1 y2 y3 y4
     by_cases g1:0≤X.abs
     case neg =>
      have t1:decide (X.abs<0)=true:=decide_eq_true (by omega)
      have HF:=Lib.hid (HN1.out (okW_no fun hh=>g1 hh.1))
      clear g1
      go_quiet (fail)
      go_wp2
      go_ret
      exact ⟨(by rw [HF.out]<;>rfl),belD (HBV.out _ HBX.out) _⟩
     have t1:decide (X.abs<0)=false:=decide_eq_false (by omega)
     by_cases g2:X.sum≤X.abs
     case neg =>
      have t2:decide (X.abs<X.sum)=true:=decide_eq_true (by omega)
      have HF:=Lib.hid (HN1.out (okW_no fun hh=>g2 hh.2.1))
      clear g2
      go_quiet (fail)
      go_wp2
      go_ret
      exact ⟨(by rw [HF.out]<;>rfl),belD (HBV.out _ HBX.out) _⟩
     have t2:decide (X.abs<X.sum)=false:=decide_eq_false (by omega)
     have wneg:IntKind.i64.wrap (-X.abs)=-X.abs:=IntWalk.i64_in _ (by omega)
     by_cases g3:-X.abs≤X.sum
     case neg =>
      have t3:decide (X.sum < -X.abs)=true:=decide_eq_true (by omega)
      have HF:=Lib.hid (HN1.out (okW_no fun hh=>g3 hh.2.2.1))
      clear g3
      go_quiet (fail)
      go_wp2
      go_ret
      exact ⟨(by rw [HF.out]<;>rfl),belD (HBV.out _ HBX.out) _⟩
     have t3:decide (X.sum < -X.abs)=false:=decide_eq_false (by omega)
     by_cases g4:X.mn≤X.mx
     case neg =>
      have t4:decide (X.mx<X.mn)=true:=decide_eq_true (by omega)
      have HF:=Lib.hid (HN1.out (okW_no fun hh=>g4 hh.2.2.2.1))
      clear g4
      go_quiet (fail)
      go_wp2
      go_ret
      exact ⟨(by rw [HF.out]<;>rfl),belD (HBV.out _ HBX.out) _⟩
     have t4:decide (X.mx<X.mn)=false:=decide_eq_false (by omega)
     by_cases g5:X.sq.length≤7
     case neg =>
      have t5:decide ((7:Int)<(X.sq.length:Int))=true:=decide_eq_true (by omega)
      have HF:=Lib.hid (HN1.out (okW_no fun hh=>g5 hh.2.2.2.2.1))
      clear g5
      go_quiet (fail)
      go_wp2
      go_ret
      exact ⟨(by rw [HF.out]<;>rfl),belD (HBV.out _ HBX.out) _⟩
     have t5:decide ((7:Int)<(X.sq.length:Int))=false:=decide_eq_false (by omega)
     have htr:=trim_any Wx.drew B Aq cq X.sq HRQ.out.drew (by omega) hq1 hq2
     by_cases g6:tsz X.sq=X.sq.length
     ·have HT2:=Lib.hid (HTS.out.trans (okW_yes g1 g2 g3 g4 g5 g6))
      rw [g6] at htr
      have HT:=Lib.hid htr
      have t6:((X.sq.length:Int) != (X.sq.length:Int))=false:=by simp
      clear htr g1 g2 g3 g4 g5 g6 HN1
      have HS:Hid (Wx.drew.cell? ⟨bn,0,none⟩=some (.int .i64 X.sum)∧Wx.drew.cell? ⟨bn,1,none⟩=some (.int .i64 X.abs)∧Wx.drew.cell? ⟨bn,2,none⟩=some (.slice Aq X.sq.length cq)∧Wx.drew.cell? ⟨bn,3,none⟩=some (.int .i64 X.mn)∧Wx.drew.cell? ⟨bn,4,none⟩=some (.int .i64 X.mx)):=Lib.hid ⟨y0,y1,y2,y3,y4⟩
      go_region_held (fun W=>W.cell? ⟨bn,0,none⟩=some (.int .i64 X.sum)∧W.cell? ⟨bn,1,none⟩=some (.int .i64 X.abs)∧W.cell? ⟨bn,2,none⟩=some (.slice Aq X.sq.length cq)∧W.cell? ⟨bn,3,none⟩=some (.int .i64 X.mn)∧W.cell? ⟨bn,4,none⟩=some (.int .i64 X.mx)) (first|(with_reducible exact HS.out)|(exact hk5)) (first|(go_at_call 71;(with_reducible refine HT.out.mono ?_);rintro y w5 ⟨v5,rfl,ho5,hb5⟩;obtain ⟨A5,c5,rfl,_,_,_⟩:=own_form ho5;have hkx:=HKX.out.drew.below hb5 hbn;have hk5:w5.cell? ⟨bn,0,none⟩=some (.int .i64 X.sum)∧w5.cell? ⟨bn,1,none⟩=some (.int .i64 X.abs)∧w5.cell? ⟨bn,2,none⟩=some (.slice Aq X.sq.length cq)∧w5.cell? ⟨bn,3,none⟩=some (.int .i64 X.mn)∧w5.cell? ⟨bn,4,none⟩=some (.int .i64 X.mx):=⟨hkx.cell 0,hkx.cell 1,hkx.cell 2,hkx.cell 3,hkx.cell 4⟩;have HB5:=Lib.hid (HBX.out.trans ((belD (belR Wx) 1).trans (hb5.mono (Nat.le_refl _)) |>.mono (by omega)));clear hb5 hkx ho5))
      all_goals
       go_wp2
       go_roundw
       case rel=>exact ⟨k+1,by omega,by go_num,HT2.out,HB5.out⟩
       case measure=>simp [intOf];omega
     ·have HF:=Lib.hid (HN1.out (okW_no fun hh=>g6 hh.2.2.2.2.2))
      have HT:=Lib.hid htr
      have t6:((tsz X.sq:Int) != (X.sq.length:Int))=true:=by rw [bne_iff_ne];omega
      clear htr g1 g2 g3 g4 g5 g6 HN1
      have HS:Hid (Wx.drew.cell? ⟨bn,0,none⟩=some (.int .i64 X.sum)∧Wx.drew.cell? ⟨bn,1,none⟩=some (.int .i64 X.abs)∧Wx.drew.cell? ⟨bn,2,none⟩=some (.slice Aq X.sq.length cq)∧Wx.drew.cell? ⟨bn,3,none⟩=some (.int .i64 X.mn)∧Wx.drew.cell? ⟨bn,4,none⟩=some (.int .i64 X.mx)):=Lib.hid ⟨y0,y1,y2,y3,y4⟩
      go_region_held (fun W=>W.cell? ⟨bn,0,none⟩=some (.int .i64 X.sum)∧W.cell? ⟨bn,1,none⟩=some (.int .i64 X.abs)∧W.cell? ⟨bn,2,none⟩=some (.slice Aq X.sq.length cq)∧W.cell? ⟨bn,3,none⟩=some (.int .i64 X.mn)∧W.cell? ⟨bn,4,none⟩=some (.int .i64 X.mx)) (first|(with_reducible exact HS.out)|(exact hk5)) (first|(go_at_call 71;(with_reducible refine HT.out.mono ?_);rintro y w5 ⟨v5,rfl,ho5,hb5⟩;obtain ⟨A5,c5,rfl,_,_,_⟩:=own_form ho5;have hkx:=HKX.out.drew.below hb5 hbn;have hk5:w5.cell? ⟨bn,0,none⟩=some (.int .i64 X.sum)∧w5.cell? ⟨bn,1,none⟩=some (.int .i64 X.abs)∧w5.cell? ⟨bn,2,none⟩=some (.slice Aq X.sq.length cq)∧w5.cell? ⟨bn,3,none⟩=some (.int .i64 X.mn)∧w5.cell? ⟨bn,4,none⟩=some (.int .i64 X.mx):=⟨hkx.cell 0,hkx.cell 1,hkx.cell 2,hkx.cell 3,hkx.cell 4⟩;have HB5:=Lib.hid (HBX.out.trans ((belD (belR Wx) 1).trans (hb5.mono (Nat.le_refl _)) |>.mono (by omega)));clear hb5 hkx ho5))
      all_goals
       go_wp2
       go_ret
       exact ⟨(by rw [HF.out]<;>rfl),HBV.out _ HB5.out⟩
    ·obtain rfl:k=C.ints.length:=by omega
     rw [List.take_length] at HA
     have hkc:=KC.out.below HBl.out (by omega)
     have m3:=hkc.cell 3
     simp at m3
     clear hkc
     have HA1:=HA;have HB2:=HBl
     clear HA HBl
     go_wp2
     go_loopw [104] (fun i ws=>∃ k:Nat,k≤C.nums.length∧i=.int .i64 (k:Int)∧Hid ((C.nums.take k).all okR=true)∧Hid (Below W.heap.size W ws)) (fun i _=>C.nums.length-(intOf i).toNat)
     case atStart=>exact ⟨0,by omega,rfl,rfl,HB2.out⟩
     case round =>
      obtain ⟨k,hk,rfl,HA,HBl⟩:=hrel
      clear m3
      by_cases hlt:k<C.nums.length
      ·obtain ⟨a,Aq,cq,ea,hab,x0,x1,x2,hRq,hq1,hq2,hmi,hmx⟩:=(HV.out.nums.keep ((HW0.out.trans (HBl.out.mono (show w.heap.size≤_ by omega))).mono hB) (Nat.le_refl _)).realAt hlt
       have q1:(0:Int)≤(k:Int):=by omega
       have q2:(k:Int)<(C.nums.length:Int):=by omega
       have hts:=all_take_succ okR C.nums k hlt
       rw [HA.out,Bool.true_and] at hts
       have HN1:=Lib.hid fun (hf:okR C.nums[k]=false)=>HNO.out fun hh=>by rw [all_no okR C.nums k hlt hf] at hh;exact absurd hh.2 (by decide)
       subst ea
       generalize C.nums[k]=X at *
       have hbx:=belA (belR wr) (.cells #[.slice Aq X.sum.length cq,.float .f64 X.mn,.float .f64 X.mx] 60)
       have hbk:=Blk.new wr 60 #[.slice Aq X.sum.length cq,.float .f64 X.mn,.float .f64 X.mx]
       have hzr:W.heap.size≤wr.heap.size:=HBl.out.size
       have hq2':=hq2
       unfold maxLen at hq2'
       have hrd:=read_any (wr.alloc (.cells #[.slice Aq X.sum.length cq,.float .f64 X.mn,.float .f64 X.mx] 60)) B Aq cq X.sum (hRq.below (hbx.mono (show B≤wr.heap.size by omega))) (by simp;omega) (by omega)
       have HBX:=Lib.hid (HBl.out.trans (hbx.mono hzr));have HTS:=Lib.hid hts;have HKX:=Lib.hid hbk;have HRD:=Lib.hid hrd
       have HBV:Hid (∀ W',Below W.heap.size W W'→Below w.heap.size w W'):=Lib.hid fun W' hb=>HW0.out.trans (hb.mono (show w.heap.size≤_ by omega))
       clear hRq hbx hbk hts hrd
       go_wp2_with fail
       (with_reducible refine HRD.out.mono ?_);rintro y w5 ⟨p,rfl,_,hb5⟩
       have hkx:=HKX.out.below hb5 (by simp)
       have y1:=hkx.cell 1;have y2:=hkx.cell 2
       simp at y1 y2
       have HB5:=Lib.hid (HBX.out.trans (hb5.mono (by simp;omega)))
       clear hb5 hkx HKX HBX HRD x0 x1 x2
       by_cases g1:readE X.sum=0
       ·rw [g1]
        have hls:=less_flo X.mx X.mn w5 hmx hmi
        by_cases g2:keyB X.mn≤keyB X.mx
        ·have e:decide (keyB X.mx<keyB X.mn)=false:=decide_eq_false (by omega)
         rw [e] at hls
         have HLS:=Lib.hid hls;have HT2:=Lib.hid (HTS.out.trans (okR_yes g1 g2))
         clear hls e g1 g2
         go_wp2_with (go_at_call 72;(with_reducible refine HLS.out.mono ?_);rintro y w6 ⟨rfl,rfl⟩)
         go_roundw
         case rel=>exact ⟨k+1,by omega,by go_num,HT2.out,HB5.out⟩
         case measure=>simp [intOf];omega
        ·have e:decide (keyB X.mx<keyB X.mn)=true:=decide_eq_true (by omega)
         rw [e] at hls
         have HLS:=Lib.hid hls;have HF:=Lib.hid (HN1.out (okR_no fun hh=>g2 hh.2))
         clear hls e g1 g2
         go_wp2_with (go_at_call 72;(with_reducible refine HLS.out.mono ?_);rintro y w6 ⟨rfl,rfl⟩)
         go_ret
         exact ⟨(by rw [HF.out]<;>rfl),HBV.out _ HB5.out⟩
       ·have t1:=i64_ne0 g1
        have HF:=Lib.hid (HN1.out (okR_no fun hh=>g1 hh.1))
        clear g1
        go_wp2
        go_ret
        exact ⟨(by rw [HF.out]<;>rfl),HBV.out _ HB5.out⟩
      ·obtain rfl:k=C.nums.length:=by omega
       rw [List.take_length] at HA
       have HT:=Lib.hid (HYES.out HA1.out HA.out)
       have HBV:=Lib.hid (HW0.out.trans (HBl.out.mono (show w.heap.size≤_ by omega)))
       go_wp2
       go_ret
       exact ⟨(by rw [HT.out]<;>rfl),HBV.out⟩
end Go.Proofs.YtfhmaincnlaapaaGreat
namespace Go.Proofs.YtfhmaincnlaapaaGreat
open Go.ChangeShapes Go.WideShapes Go.ChangeAt Go.RowKit
set_option linter.unusedVariables false
theorem risingC_no {l:List CellS} {k:Nat} (hk:k+1<l.length) (h:¬kyC l k<kyC l (k+1)):risingC l=false:=by
 rw [←Bool.not_eq_true,risingC_iff];intro hh;exact h (hh k hk)
theorem info_whole:(Tryz.prog.info? 122).map (fun i=>(i.zero,i.size,i.bytes))=some (some (.agg #[.int .i64 0,.int .i64 0,.slice none 0 0,.int .i64 0,.int .i64 0]),5,56):=by kernel_rfl
theorem info_real:(Tryz.prog.info? 60).map (fun i=>(i.zero,i.size,i.bytes))=some (some (.agg #[.slice none 0 0,.float .f64 0,.float .f64 0]),3,40):=by kernel_rfl
theorem own_set_lo {w:World} {base n:Nat} {e:TypeId} {size:Nat} {v:Value} {xs:List Value} (h:w.ownsRow base e size v n xs) {p:Addr} (hp:p.block<base) (u:Value):(w.setCell p u).ownsRow base e size v n xs:=by
 have hg:w.grownBy (w.setCell p u) (some p.block):=⟨rfl,rfl,rfl,by simp,fun k _ hk=>Below.heap_setCell w p u k (fun e=>hk (by rw [e]))⟩
 refine h.kept hg ?_
 cases hv:v.ownBlock with
 | none=>exact .inl rfl
 | some k=>exact .inr fun q=>by injection q with q;have:=(h.lt k hv).1;omega
structure MeaRel (w wr:World) (g gx:Nat) (t:List UInt8) (a b:Int) (v:Value) (qs:List Nat) (p e:Nat):Prop where
 r:Blk wr w.heap.size 122 #[.int .i64 0,.int .i64 0,.slice none 0 0,.int .i64 0,.int .i64 0]
 x:Blk wr gx 122 #[.int .i64 a,.int .i64 b,v,.int .i64 0,.int .i64 0]
 o:wr.ownsRow (gx+1) 39 1 v qs.length (u32n qs)
 i:InS wr g t p e
 n:Only g w wr
 l:w.heap.size+1≤gx
section
variable {w wr w2 w3:World} {g gx:Nat} {t:List UInt8} {a b:Int} {v v':Value} {qs:List Nat} {p e p' e':Nat}
theorem MeaRel.drew (h:MeaRel w wr g gx t a b v qs p e):MeaRel w wr.drew g gx t a b v qs p e:=⟨h.r,h.x,own_drewN h.o 1,h.i,h.n.drew,h.l⟩
theorem MeaRel.alloc (h:MeaRel w wr g gx t a b v qs p e) (o:Obj):MeaRel w (wr.alloc o) g gx t a b v qs p e :=
 ⟨h.r.alloc o,h.x.alloc o,h.o.alloc o,h.i.below (belA (belR wr) o) h.i.lt,h.n.alloc o,h.l⟩
theorem MeaRel.lt (h:MeaRel w wr g gx t a b v qs p e):gx+1≤wr.heap.size:=h.x.lt
theorem MeaRel.only (h:MeaRel w wr g gx t a b v qs p e) (hg:g<w.heap.size) (k:Only g wr w2) (hi:InS w2 g t p' e'):MeaRel w w2 g gx t a b v qs p' e':=by
 have hl:=h.l
 exact ⟨k.blk h.r (by omega),k.blk h.x (by omega),k.own h.o (own_far h.o (by omega)),hi,h.n.trans k,h.l⟩
theorem MeaRel.put (h:MeaRel w wr g gx t a b v qs p e) (hg:g<w.heap.size) (x:Nat) (ho:w3.ownsRow (gx+1) 39 1 v' (qs.length+1) (u32n qs ++ [.int .u32 (x:Int)])) (k:Appd wr w3 v v') :
 Blk w3 gx 122 #[.int .i64 a,.int .i64 b,v,.int .i64 0,.int .i64 0]∧MeaRel w (w3.setCell ⟨gx,2,none⟩ v') g gx t a b v' (qs ++ [x]) p e:=by
 have hl:=h.l
 have hb:Below (gx+1) wr w3:=(Below.refl _ _).grown k.1 h.lt fun j hj=>(h.o.lt j hj).1
 have hr:=h.r.below hb (by omega)
 have hx:=h.x.below hb (by omega)
 have hi:=h.i.below hb (by omega)
 have hset:=Only.set1 w3 gx 2 v'
 have hbel:Below gx w3 (w3.setCell ⟨gx,2,none⟩ v'):=(Below.refl gx w3).setCell (p:=⟨gx,2,none⟩) (Nat.le_refl _) v'
 refine ⟨hx,hset.blk hr (by omega),by simpa using hx.set_ 2 v',?_,hi.below hbel (by omega),(h.n.appd k fun j hj=>.inr (by have:=(h.o.lt j hj).1;omega)).set_ (.inr (by simp only;omega)) _,hl⟩
 have:=hset.own ho (own_far ho (by omega))
 simpa using this
end
set_option maxRecDepth 20000 in
set_option maxHeartbeats 4000000 in
theorem measure_any (w:World) (g:Nat) (t:List UInt8) (p e:Nat) (hi:InS w g t p e) :
 Calls Tryz.prog 88 #[.pointer (some ⟨g,0,none⟩)] w fun y w'=>∃ v,y=.returned (.agg #[.int .i64 (meaS t p e).1.sum,.int .i64 (meaS t p e).1.abs,v,.int .i64 (meaS t p e).1.mn,.int .i64 (meaS t p e).1.mx]) ∧
  w'.ownsRow w.heap.size 39 1 v (meaS t p e).1.sq.length (u32n (meaS t p e).1.sq)∧InS w' g t (meaS t p e).2.1 (meaS t p e).2.2∧Only g w w':=by
 have hgl:=hi.lt
 have hA:∀ W,InS W g t p e→Calls Tryz.prog 87 #[.pointer (some ⟨g,0,none⟩)] W fun y w'=>y=.returned (.int .i64 (meaA t p e).1)∧InS w' g t (meaA t p e).2.1 (meaA t p e).2.2∧Only g W w':=fun W h=>inI_any W g t p e h
 have hB:∀ W,InS W g t (meaA t p e).2.1 (meaA t p e).2.2→Calls Tryz.prog 87 #[.pointer (some ⟨g,0,none⟩)] W fun y w'=>y=.returned (.int .i64 (meaB t p e).1)∧InS w' g t (meaB t p e).2.1 (meaB t p e).2.2∧Only g W w':=fun W h=>inI_any W g t _ _ h
 have hN:∀ W,InS W g t (meaB t p e).2.1 (meaB t p e).2.2→Calls Tryz.prog 41 #[.pointer (some ⟨g,0,none⟩),.int .u64 7] W fun y w'=>y=.returned (.int .u64 ((meaN t p e).1:Int))∧InS w' g t (meaN t p e).2.1 (meaN t p e).2.2∧Only g W w':=fun W h=>inU_any W g t _ _ 7 h
 have hn7:(meaN t p e).1≤7:=inU_le t _ _ 7
 have hQ:meaQ t p e=runN (sqF t) (meaN t p e).2.1 (meaN t p e).2.2 (meaN t p e).1:=rfl
 have hL:∀ W,InS W g t (meaQ t p e).2.1 (meaQ t p e).2.2→Calls Tryz.prog 87 #[.pointer (some ⟨g,0,none⟩)] W fun y w'=>y=.returned (.int .i64 (meaL t p e).1)∧InS w' g t (meaL t p e).2.1 (meaL t p e).2.2∧Only g W w':=fun W h=>inI_any W g t _ _ h
 have hH:∀ W,InS W g t (meaL t p e).2.1 (meaL t p e).2.2→Calls Tryz.prog 87 #[.pointer (some ⟨g,0,none⟩)] W fun y w'=>y=.returned (.int .i64 (meaH t p e).1)∧InS w' g t (meaH t p e).2.1 (meaH t p e).2.2∧Only g W w':=fun W h=>inI_any W g t _ _ h
 have hS:meaS t p e=(⟨(meaA t p e).1,(meaB t p e).1,(meaQ t p e).1,(meaL t p e).1,(meaH t p e).1⟩,(meaH t p e).2):=rfl
 rw [hS]
 clear hS
 generalize meaH t p e=rH at *
 generalize meaL t p e=rL at *
 generalize meaQ t p e=rQ at *
 generalize meaN t p e=rN at *
 generalize meaB t p e=rB at *
 generalize meaA t p e=rA at *
 obtain ⟨a,p1,e1⟩:=rA
 obtain ⟨b,p2,e2⟩:=rB
 obtain ⟨n,p3,e3⟩:=rN
 obtain ⟨qs,p4,e4⟩:=rQ
 obtain ⟨lo,p5,e5⟩:=rL
 obtain ⟨hi_,p6,e6⟩:=rH
 simp only at *
 have hi0:InS (w.alloc (.cells #[.int .i64 0,.int .i64 0,.slice none 0 0,.int .i64 0,.int .i64 0] 122)) g t p e:=hi.below (belA (belR w) _) hgl
 have HA:=Lib.hid (hA _ hi0);have HB:=Lib.hid hB;have HN:=Lib.hid hN;have HQ:=Lib.hid hQ;have HL:=Lib.hid hL;have HH:=Lib.hid hH
 have K0:=Lib.hid (Blk.new w 122 #[.int .i64 0,.int .i64 0,.slice none 0 0,.int .i64 0,.int .i64 0])
 have HO0:=Lib.hid ((Only.refl g w).alloc (.cells #[.int .i64 0,.int .i64 0,.slice none 0 0,.int .i64 0,.int .i64 0] 122))
 clear hA hB hN hQ hL hH hi0 hi
 go_enter Tryz.func88,Tryz.ntmps88
 go_wp2_with fail
 (with_reducible refine HA.out.mono ?_);rintro y w1 ⟨rfl,hi1,ho1⟩
 have hb1:=HB.out _ hi1
 have k1:=ho1.blk K0.out (by omega)
 have HB1:=Lib.hid hb1;have K1:=Lib.hid k1;have HO1:=Lib.hid (HO0.out.trans ho1)
 clear hb1 k1 hi1 ho1
 go_wp2_with fail
 (with_reducible refine HB1.out.mono ?_);rintro y w2 ⟨rfl,hi2,ho2⟩
 have k2:=(ho2.blk K1.out (by omega)).alloc (.cells #[.int .i64 a,.int .i64 b,.slice none 0 0,.int .i64 0,.int .i64 0] 122)
 have kx:=Blk.new w2 122 #[.int .i64 a,.int .i64 b,.slice none 0 0,.int .i64 0,.int .i64 0]
 have hz2:w.heap.size+1≤w2.heap.size:=by have h1:=HO1.out.size;have h2:=ho2.size;have h3:=K1.out.lt;omega
 have hr2:MeaRel w (w2.alloc (.cells #[.int .i64 a,.int .i64 b,.slice none 0 0,.int .i64 0,.int .i64 0] 122)) g w2.heap.size t a b (.slice none 0 0) [] p2 e2 :=
  ⟨k2,kx,World.ownsRow_nil _ _ _ 1,hi2.below (belA (belR w2) _) hi2.lt,(HO1.out.trans ho2).alloc _,hz2⟩
 have hn2:=HN.out _ hr2.i
 have HR2:=Lib.hid hr2;have HN2:=Lib.hid hn2
 clear k2 kx hi2 ho2 hr2 hn2
 go_wp2_with fail
 (with_reducible refine HN2.out.mono ?_);rintro y w3 ⟨rfl,hi3,ho3⟩
 have HR3:=Lib.hid (HR2.out.only hgl ho3 hi3)
 clear hi3 ho3
 generalize hgx:w2.heap.size=gx at *
 clear hgx
 go_wp2
 go_loopw [11] (fun i wr=>∃ (k:Nat) (v:Value),k≤n∧i=.int .u64 (k:Int)∧Hid (MeaRel w wr g gx t a b v (runN (sqF t) p3 e3 k).1 (runN (sqF t) p3 e3 k).2.1 (runN (sqF t) p3 e3 k).2.2)) (fun i _=>n-(intOf i).toNat)
 case atStart=>exact ⟨0,_,by omega,rfl,HR3.out⟩
 case round =>
  obtain ⟨k,v,hk,rfl,HR⟩:=hrel
  have hll:=runN_len (f:=sqF t) (fun _ _ _=>rfl) p3 e3 k
  by_cases hlt:k<n
  ·have q1:(0:Int)≤(k:Int):=by omega
   have q2:(k:Int)<(n:Int):=by omega
   have hs:=runN_succ (sqF t) p3 e3 k
   generalize runN (sqF t) p3 e3 k=st at *
   obtain ⟨xs,pa,ea⟩:=st
   simp only at hs hll HR
   have hcu:∀ W,InS W g t pa ea→Calls Tryz.prog 41 #[.pointer (some ⟨g,0,none⟩),.int .u64 4294967295] W fun y w'=>y=.returned (.int .u64 ((inU t pa ea 4294967295).1:Int))∧InS w' g t (inU t pa ea 4294967295).2.1 (inU t pa ea 4294967295).2.2∧Only g W w':=fun W hW=>inU_any W g t pa ea 4294967295 hW
   have hux:=inU_le t pa ea 4294967295
   have er:sqF t k pa ea=([(inU t pa ea 4294967295).1],(inU t pa ea 4294967295).2):=rfl
   rw [er] at hs
   generalize inU t pa ea 4294967295=r at *
   obtain ⟨x,pb,eb⟩:=r
   simp only at hs hux hcu
   have w3':IntKind.u32.wrap (x:Int)=(x:Int):=by rw [IntKind.wrap_u32];omega
   have HD:=Lib.hid HR.out.drew
   have f0:wr.drew.cell? ⟨gx,2,none⟩=some v:=HD.out.x.cell 2
   have HCU:=Lib.hid hcu;have HS:=Lib.hid hs
   clear hcu hs er
   go_upto_region 4 with (fail)
   go_region_law (first
    | (refine step_appSD (some 19) (by rfl) (by rfl) (.tmp 14) (.tmp 18) 24 (by rfl) (gx+1) 39 (.int .u32 0) 1 4 info_u32 rfl (by decide) Tryz.underlying24 v xs.length (u32n xs) HA5.out.o _ (some ⟨w4.heap.size,0,none⟩) 1 1 [.int .u32 (x:Int)] HRD.out (by rfl) (by rfl) (u32n_one [x]) (by omega) (by omega) hz5 ?_;intro v5 w5 ho5 hap5;obtain ⟨hf5,hr5⟩:=HA5.out.put hgl x ho5 hap5;have c5:=hf5.cell 2;have fr5:=hf5.frozen 2;simp at c5;have HR5:=Lib.hid hr5;obtain ⟨A9,c9,rfl,_,_,_⟩:=own_form ho5;clear ho5 hap5 hf5 hr5)
    | (go_simp;go_at_call 41;(with_reducible refine (HCU.out _ HD.out.i).mono ?_);rintro y w4 ⟨rfl,hi4,ho4⟩;have HR4:=Lib.hid (HD.out.only hgl ho4 hi4);have HA5:=Lib.hid (HR4.out.alloc (.cells #[.int .u32 (x:Int)] 39));have HRD:=Lib.hid (rd_new w4 39 (.int .u32 (x:Int)));have f4:w4.cell? ⟨gx,2,none⟩=some v:=HR4.out.x.cell 2;have f5:(w4.alloc (.cells #[.int .u32 (x:Int)] 39)).cell? ⟨gx,2,none⟩=some v:=HA5.out.x.cell 2;have hz5:gx+1≤(w4.alloc (.cells #[.int .u32 (x:Int)] 39)).heap.size:=HA5.out.lt;clear hi4 ho4))
   all_goals
    go_wp2
    go_roundw
    case rel=>exact ⟨k+1,_,by omega,by go_num,by rw [HS.out];have hx:=HR5.out;rw [hll] at hx;exact Lib.hid hx⟩
    case measure=>simp [intOf];omega
  ·obtain rfl:k=n:=by omega
   rw [←HQ.out] at HR
   simp only at HR
   have HLL:=Lib.hid hll
   clear hll
   obtain ⟨A9,c9,rfl,_,_,_⟩:=own_form HR.out.o
   have hl:=HL.out _ HR.out.i
   have hgx:=HR.out.l
   have HL1:=Lib.hid hl
   clear hl
   go_wp2_with fail
   (with_reducible refine HL1.out.mono ?_);rintro y w4 ⟨rfl,hi4,ho4⟩
   have hr4:=HR.out.only hgl ho4 hi4
   have y3:=hr4.x.cell 3;have f3:=hr4.x.frozen 3
   simp at y3
   have hi5:InS (w4.setCell ⟨gx,3,none⟩ (.int .i64 lo)) g t p5 e5:=hi4.below ((Below.refl gx w4).setCell (p:=⟨gx,3,none⟩) (Nat.le_refl _) _) (by omega)
   have hx5:Blk (w4.setCell ⟨gx,3,none⟩ (.int .i64 lo)) gx 122 #[.int .i64 a,.int .i64 b,.slice A9 qs.length c9,.int .i64 lo,.int .i64 0]:=by simpa using hr4.x.set_ 3 (.int .i64 lo)
   have hr5:=hr4.r.far (p:=⟨gx,3,none⟩) (by simp only [ne_eq];omega) (.int .i64 lo)
   have ho5:=(Only.set1 w4 gx 3 (.int .i64 lo)).own hr4.o (own_far hr4.o (by omega))
   have hn5:=hr4.n.set_ (p:=⟨gx,3,none⟩) (.inr (by simp only;omega)) (.int .i64 lo)
   have hh:=HH.out _ hi5
   have HH1:=Lib.hid hh;have HX5:=Lib.hid hx5;have HR5:=Lib.hid hr5;have HO5:=Lib.hid ho5;have HN5:=Lib.hid hn5
   clear hi4 ho4 hr4 hi5 hx5 hr5 ho5 hn5 hh
   go_wp2_with fail
   (with_reducible refine HH1.out.mono ?_);rintro y w6 ⟨rfl,hi6,ho6⟩
   have hx6:=ho6.blk HX5.out (by omega)
   have hr6:=ho6.blk HR5.out (by omega)
   have hown6:=ho6.own HO5.out (own_far HO5.out (by omega))
   have z0:=hx6.cell 0;have z1:=hx6.cell 1;have z2:=hx6.cell 2;have z3:=hx6.cell 3;have z4:=hx6.cell 4;have f4:=hx6.frozen 4
   have r0:=hr6.cell 0;have r1:=hr6.cell 1;have r2:=hr6.cell 2;have r3:=hr6.cell 3;have r4:=hr6.cell 4
   have s0:=hr6.frozen 0;have s1:=hr6.frozen 1;have s2:=hr6.frozen 2;have s3:=hr6.frozen 3;have s4:=hr6.frozen 4
   simp at z0 z1 z2 z3 z4 r0 r1 r2 r3 r4
   have HFIN:Hid (∀ u0 u1 u2 u3 u4 u5,(((((((w6.setCell ⟨gx,4,none⟩ u0).setCell ⟨w.heap.size,0,none⟩ u1).setCell ⟨w.heap.size,1,none⟩ u2).setCell ⟨w.heap.size,2,none⟩ u3).setCell ⟨w.heap.size,3,none⟩ u4).setCell ⟨w.heap.size,4,none⟩ u5).ownsRow w.heap.size 39 1 (.slice A9 qs.length c9) qs.length (u32n qs)) ∧
    InS ((((((w6.setCell ⟨gx,4,none⟩ u0).setCell ⟨w.heap.size,0,none⟩ u1).setCell ⟨w.heap.size,1,none⟩ u2).setCell ⟨w.heap.size,2,none⟩ u3).setCell ⟨w.heap.size,3,none⟩ u4).setCell ⟨w.heap.size,4,none⟩ u5) g t p6 e6 ∧
    Only g w ((((((w6.setCell ⟨gx,4,none⟩ u0).setCell ⟨w.heap.size,0,none⟩ u1).setCell ⟨w.heap.size,1,none⟩ u2).setCell ⟨w.heap.size,2,none⟩ u3).setCell ⟨w.heap.size,3,none⟩ u4).setCell ⟨w.heap.size,4,none⟩ u5)):=Lib.hid fun u0 u1 u2 u3 u4 u5=>by
    refine ⟨own_mono (own_set_lo (own_set_lo (own_set_lo (own_set_lo (own_set_lo (own_set_lo hown6 (p:=⟨gx,4,none⟩) (Nat.lt_succ_self _) _) (p:=⟨w.heap.size,0,none⟩) (by simp only;omega) _) (p:=⟨w.heap.size,1,none⟩) (by simp only;omega) _) (p:=⟨w.heap.size,2,none⟩) (by simp only;omega) _) (p:=⟨w.heap.size,3,none⟩) (by simp only;omega) _) (p:=⟨w.heap.size,4,none⟩) (by simp only;omega) _) (by omega),?_,?_⟩
    ·exact hi6.below (((((((Below.refl w.heap.size w6).setCell (p:=⟨gx,4,none⟩) (by simp only;omega) _).setCell (p:=⟨w.heap.size,0,none⟩) (Nat.le_refl _) _).setCell (p:=⟨w.heap.size,1,none⟩) (Nat.le_refl _) _).setCell (p:=⟨w.heap.size,2,none⟩) (Nat.le_refl _) _).setCell (p:=⟨w.heap.size,3,none⟩) (Nat.le_refl _) _).setCell (p:=⟨w.heap.size,4,none⟩) (Nat.le_refl _) _) (by omega)
    ·exact (((((((HN5.out.trans ho6).set_ (p:=⟨gx,4,none⟩) (.inr (by simp only;omega)) _).set_ (p:=⟨w.heap.size,0,none⟩) (.inr (Nat.le_refl _)) _).set_ (p:=⟨w.heap.size,1,none⟩) (.inr (Nat.le_refl _)) _).set_ (p:=⟨w.heap.size,2,none⟩) (.inr (Nat.le_refl _)) _).set_ (p:=⟨w.heap.size,3,none⟩) (.inr (Nat.le_refl _)) _).set_ (p:=⟨w.heap.size,4,none⟩) (.inr (Nat.le_refl _)) _)
   clear hi6 ho6 hx6 hr6 hown6
   go_wp2
   refine bodyPost_ret (v:=.agg #[.int .i64 a,.int .i64 b,.slice A9 qs.length c9,.int .i64 lo,.int .i64 hi_]) (by simp [results,Tryz.results88,go_sem, *]) rfl ⟨_,rfl,HFIN.out _ _ _ _ _ _⟩
end Go.Proofs.YtfhmaincnlaapaaGreat
