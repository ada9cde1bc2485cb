/- exact.head. -/
import Derived.Deep.RegionHeld3
import Derived.Deep.RegionLawGrows
import Derived.Laws.BitsAllLaws
import Derived.Test.YtfhmaincnlaapaaGreatAgGetFWalks
import Derived.Test.YtfhmaincnlaapaaGreatAgRefNodesW
import Derived.Test.YtfhmaincnlaapaaGreatAgSchemaCheck
import Derived.Test.YtfhmaincnlaapaaGreatAgFactLight
import Derived.Test.YtfhmaincnlaapaaGreatAgEncC
import Derived.Test.YtfhmaincnlaapaaGreatAgAggPut
namespace Go.Proofs.YtfhmaincnlaapaaGreat
open Go.ChangeShapes Go.WideShapes Go.ChangeAt Go.RowKit
set_option linter.unusedVariables false
theorem run_store_fC {P:Program} {w:World} {a:Addr} {m:Mode} (k:FloatKind) (b:Nat):(store a (.float k b) m).run P w=stored P w a (.float k b) m:=run_store P w a _ m rfl
attribute [local go_sem] run_store_fC
theorem refUL_any (x:Nat) (w:World) (hx:x<18446744073709551616) :
 Calls Tryz.prog 51 #[.int .u64 (x:Int)] w fun e w'=>∃ v',e=.returned v'∧w'.ownsRow w.heap.size 5 1 v' (encU x).length (u8s (encU x))∧Below w.heap.size w w':=by
 rw [encU_length];exact refU_any x w hx
theorem refFL_any (b:Nat) (w:World) (hb:b<18446744073709551616) :
 Calls Tryz.prog 53 #[.float .f64 b] w fun e w'=>∃ v',e=.returned v'∧w'.ownsRow w.heap.size 5 1 v' (be 8 (keyB b)).length (u8s (be 8 (keyB b)))∧Below w.heap.size w w':=by
 rw [be_length];exact refF_any b w hb
theorem own_app {w:World} {b n:Nat} {e:TypeId} {v:Value} {L m:List UInt8} (hn:L.length=n) (h:w.ownsRow b e 1 v (n+m.length) (u8s L++u8s m)):∃ N,(L++m).length=N∧N≤n+m.length∧w.ownsRow b e 1 v N (u8s (L++m)) :=
 ⟨n+m.length,by rw [List.length_append,hn],Nat.le_refl _,by rw [u8s_append];exact h⟩
set_option maxRecDepth 20000 in
set_option maxHeartbeats 16000000 in
theorem refPutC_any (w:World) (B:Nat) (C:CellS) (D2:Option Addr) (d2:Nat) (D3:Option Addr) (d3:Nat) (hv:CellV w B C D2 d2 D3 d3) (hl:lightC C=true) (hB:B≤w.heap.size) :
 Calls Tryz.prog 35 #[.agg #[.int .u64 (C.key:Int),.int .i64 C.count,.slice D2 C.ints.length d2,.slice D3 C.nums.length d3]] w fun y w'=>∃ v',y=.returned v'∧w'.ownsRow w.heap.size 5 1 v' (encCell C).length (u8s (encCell C))∧Below w.heap.size w w':=by
 have hw0:=belA (belR w) (.cells #[.int .u64 (C.key:Int),.int .i64 C.count,.slice D2 C.ints.length d2,.slice D3 C.nums.length d3] 53)
 have hbk:=Blk.new w 53 #[.int .u64 (C.key:Int),.int .i64 C.count,.slice D2 C.ints.length d2,.slice D3 C.nums.length d3]
 obtain ⟨hk1,hk2,hsi,hsn⟩:=hv.keep (hw0.mono hB) (Nat.le_refl _)
 obtain ⟨l1,l2,l3,l4⟩:=lightC_parts hl
 have HWL:=Lib.hid (putW_le hl);have HRL:=Lib.hid (putR_le hl);have HL3:=Lib.hid l3;have HL4:=Lib.hid l4
 have HU0:=Lib.hid (fun W=>refUL_any C.key W hk1);have HI0:=Lib.hid (fun W=>refI_any C.count W hk2.1 hk2.2)
 have u9:=encU_9 C.key;have i9:=encI_9 C.count
 have hzW:(w.alloc (.cells #[.int .u64 (C.key:Int),.int .i64 C.count,.slice D2 C.ints.length d2,.slice D3 C.nums.length d3] 53)).heap.size=w.heap.size+1:=by simp
 have G1:=Lib.hid hsi;have G2:=Lib.hid hsn
 clear hsi hsn hv hl l3 l4
 go_enter Tryz.func35,Tryz.ntmps35
 go_wp2_with fail
 generalize w.alloc (.cells #[.int .u64 (C.key:Int),.int .i64 C.count,.slice D2 C.ints.length d2,.slice D3 C.nums.length d3] 53)=W at *
 have HW0:=Lib.hid hw0;have HKC:=Lib.hid hbk;have HZW:=Lib.hid hzW
 have HKD:=Lib.hid (HKC.out.drew);have HBD:=Lib.hid ((belR W).drew)
 clear hw0 hbk hzW
 have HS0:Hid (W.drew.cell? ⟨w.heap.size,0,none⟩=some (.int .u64 (C.key:Int))∧W.drew.cell? ⟨w.heap.size,1,none⟩=some (.int .i64 C.count)):=Lib.hid ⟨HKC.out.cell 0,HKC.out.cell 1⟩
 go_region_held3 (fun W=>W.cell? ⟨w.heap.size,0,none⟩=some (.int .u64 (C.key:Int))∧W.cell? ⟨w.heap.size,1,none⟩=some (.int .i64 C.count)) (first|(with_reducible exact HS0.out)|(exact hk4)|(exact hk5)|(exact hk6)) (first
  | (go_at_call 51;(with_reducible refine (HU0.out _).mono ?_);rintro y w4 ⟨v4,rfl,ho4,hb4⟩;obtain ⟨A4,c4,rfl,_,_,_⟩:=own_form ho4;have HR4:=Lib.hid (Rd.own ho4);have HM4:=Lib.hid ho4;have HB4:=Lib.hid (belT HBD.out hb4);have hz4:=HB4.out.size;have K4:=Lib.hid (HKD.out.below hb4 HKD.out.lt);have hk4:w4.cell? ⟨w.heap.size,0,none⟩=some (.int .u64 (C.key:Int))∧w4.cell? ⟨w.heap.size,1,none⟩=some (.int .i64 C.count):=⟨K4.out.cell 0,K4.out.cell 1⟩;clear ho4 hb4)
  | (go_at_call 52;(with_reducible refine (HI0.out _).mono ?_);rintro y w5 ⟨v5,rfl,ho5,hb5⟩;obtain ⟨A5,c5,rfl,_,_,_⟩:=own_form ho5;have HOl5:=Lib.hid (own_below HM4.out hb5 (Nat.le_refl _));have HR5:=Lib.hid (Rd.own ho5);have HM5:=Lib.hid ho5;have HB5:=Lib.hid (belT HB4.out hb5);have hz5:=HB5.out.size;have K5:=Lib.hid (K4.out.below hb5 K4.out.lt);have hk5:w5.cell? ⟨w.heap.size,0,none⟩=some (.int .u64 (C.key:Int))∧w5.cell? ⟨w.heap.size,1,none⟩=some (.int .i64 C.count):=⟨K5.out.cell 0,K5.out.cell 1⟩;clear ho5 hb5)
  | (refine step_appSD (some 15) (by rfl) (by rfl) (.tmp 11) (.tmp 14) 27 (by rfl) W.heap.size 5 (.int .u8 0) 1 1 info_u8 rfl (by decide) Tryz.underlying27 (.slice A4 (encU C.key).length c4) (encU C.key).length (u8s (encU C.key)) HOl5.out _ (A5) ((encI C.count).length) (c5) (u8s (encI C.count)) HR5.out (by rfl) (by rfl) (u8s_one _) (by omega) (by omega) (Nat.le_trans (Nat.le_refl _) HB5.out.size) ?_;intro v6 w6 ho6 hap6;obtain ⟨N6,hN6,hle6,ho6⟩:=own_app (L:=encU C.key) (m:=encI C.count) rfl ho6;have HN6:=Lib.hid hN6;have HO6:=Lib.hid ho6;have HB6:=Lib.hid (HB5.out.trans (hap6.below (Nat.le_trans (Nat.le_refl _) HB5.out.size) HOl5.out));have hz6:=HB6.out.size;obtain ⟨A6,c6,rfl,_,_,_⟩:=own_form HO6.out;have K6:=Lib.hid (hap6.blk K5.out (own_blk_ne HOl5.out K5.out (by decide)));have hk6:w6.cell? ⟨w.heap.size,0,none⟩=some (.int .u64 (C.key:Int))∧w6.cell? ⟨w.heap.size,1,none⟩=some (.int .i64 C.count):=⟨K6.out.cell 0,K6.out.cell 1⟩;clear hN6 ho6 hap6))
 have ho6:=HO6.out
 have hn6:=HN6.out
 rw [← putW_zero] at ho6 hn6
 have HO:=Lib.hid ho6;have HB:=Lib.hid HB6.out;have HNN:=Lib.hid hn6
 have HBW:=Lib.hid (show B≤W.heap.size by rw [HZW.out];omega)
 clear ho6 hn6
 go_wp2
 go_loopw [3,4] (fun vo vi wr=>∃ k n:Nat,k≤C.ints.length∧vi=.int .i64 (k:Int)∧Hid ((putW C k).length=n)∧Hid (wr.ownsRow W.heap.size 5 1 vo n (u8s (putW C k)))∧Hid (Below W.heap.size W wr)) (fun _ vi _=>C.ints.length-(intOf vi).toNat)
 case atStart=>exact ⟨0,_,by omega,rfl,HNN,HO,HB⟩
 case round =>
  obtain ⟨k,n,hk,rfl,HNL,HO,HBl⟩:=hrel
  have HKCr:=Lib.hid (HKC.out.below HBl.out HKC.out.lt)
  have m2:=HKCr.out.cell 2;have m3:=HKCr.out.cell 3
  simp at m2 m3
  have hzr:=HBl.out.size
  obtain ⟨A0,c0,rfl,_,_,_⟩:=own_form HO.out
  by_cases hlt:k<C.ints.length
  ·obtain ⟨a,Aq,cq,ea,hab,x0,x1,x2,x3,x4,hRq,hq1,hq2,hq3,hs,ha,hmn,hmx⟩:=G1.out.wholeAt hlt
   have tr:∀ p:Addr,p.block=a.block→wr.cell? p=W.cell? p:=fun p hp=>HBl.out.cell (by have:=HBW.out;omega)
   have X0:=(tr _ (block_add _ _)).trans x0;have X1:=(tr ⟨_,_,none⟩ (block_add _ _)).trans x1;have X2:=(tr ⟨_,_,none⟩ (block_add _ _)).trans x2;have X3:=(tr ⟨_,_,none⟩ (block_add _ _)).trans x3;have X4:=(tr ⟨_,_,none⟩ (block_add _ _)).trans x4
   have q1:(0:Int)≤(k:Int):=by omega
   have q2:(k:Int)<(C.ints.length:Int):=by omega
   have hsn:=putW_succ C k hlt
   have hll:=HWL.out k
   rw [HNL.out] at hll
   have hq20:=HL3.out _ (List.getElem_mem hlt)
   have HRQ:=Lib.hid (fun W' (hW:Below W.heap.size W W')=>hRq.below (hW.mono HBW.out))
   subst ea
   generalize C.ints[k]=X at *
   generalize putW C k=L at *
   have HI1:=Lib.hid (fun W=>refI_any X.sum W hs.1 hs.2);have HI2:=Lib.hid (fun W=>refI_any X.abs W ha.1 ha.2);have HI3:=Lib.hid (fun W=>refI_any X.mn W hmn.1 hmn.2);have HI4:=Lib.hid (fun W=>refI_any X.mx W hmx.1 hmx.2)
   have HU1:=Lib.hid (fun W=>refUL_any X.sq.length W (by omega))
   have wl:IntKind.u64.wrap (X.sq.length:Int)=(X.sq.length:Int):=by rw [IntKind.wrap_u64];omega
   have j1:=encI_9 X.sum;have j2:=encI_9 X.abs;have j3:=encI_9 X.mn;have j4:=encI_9 X.mx;have j5:=encU_9 X.sq.length;have j6:=encSq_le X.sq
   have HSN:=Lib.hid hsn;have HQ3:=Lib.hid hq3
   have KX0:=Lib.hid (Blk.new wr 122 #[.int .i64 X.sum,.int .i64 X.abs,.slice Aq X.sq.length cq,.int .i64 X.mn,.int .i64 X.mx])
   have HBX:=Lib.hid (HBl.out.alloc hzr (.cells #[.int .i64 X.sum,.int .i64 X.abs,.slice Aq X.sq.length cq,.int .i64 X.mn,.int .i64 X.mx] 122))
   have HOX:=Lib.hid (HO.out.alloc (.cells #[.int .i64 X.sum,.int .i64 X.abs,.slice Aq X.sq.length cq,.int .i64 X.mn,.int .i64 X.mx] 122))
   clear x0 x1 x2 x3 x4 tr hRq hsn hq3 hs ha hmn hmx
   go_wp2
   generalize wr.alloc (.cells #[.int .i64 X.sum,.int .i64 X.abs,.slice Aq X.sq.length cq,.int .i64 X.mn,.int .i64 X.mx] 122)=Wx at *
   generalize hbn:wr.heap.size=bn at *
   have KX1:=Lib.hid (KX0.out.drew);have HBX1:=Lib.hid (HBX.out.drew);have HOX1:Hid (Wx.drew.ownsRow W.heap.size 5 1 (.slice A0 n c0) n (u8s L)):=Lib.hid HOX.out
   have HS1:Hid (Wx.drew.cell? ⟨bn,0,none⟩=some (.int .i64 X.sum)∧Wx.drew.cell? ⟨bn,1,none⟩=some (.int .i64 X.abs)):=Lib.hid ⟨KX0.out.cell 0,KX0.out.cell 1⟩
   clear X0 X1 X2 X3 X4 hbn
   go_region_held3 (fun W=>W.cell? ⟨bn,0,none⟩=some (.int .i64 X.sum)∧W.cell? ⟨bn,1,none⟩=some (.int .i64 X.abs)) (first|(with_reducible exact HS1.out)|(exact hk11)|(exact hk12)|(exact hk13)|(exact hk14)) (first
    | (go_at_call 52;(with_reducible refine (HI1.out _).mono ?_);rintro y w11 ⟨v11,rfl,ho11,hb11⟩;obtain ⟨A11,c11,rfl,_,_,_⟩:=own_form ho11;have HOl11:=Lib.hid (own_below HOX1.out hb11 (Nat.le_refl _));have HR11:=Lib.hid (Rd.own ho11);have HM11:=Lib.hid ho11;have HB11:=Lib.hid (belT HBX1.out hb11);have hz11:=HB11.out.size;have K11:=Lib.hid (KX1.out.below hb11 KX1.out.lt);have hk11:w11.cell? ⟨bn,0,none⟩=some (.int .i64 X.sum)∧w11.cell? ⟨bn,1,none⟩=some (.int .i64 X.abs):=⟨K11.out.cell 0,K11.out.cell 1⟩;clear ho11 hb11)
    | (refine step_appSD (some 32) (by rfl) (by rfl) (.tmp 28) (.tmp 31) 27 (by rfl) W.heap.size 5 (.int .u8 0) 1 1 info_u8 rfl (by decide) Tryz.underlying27 (.slice A0 n c0) n (u8s (L)) HOl11.out _ (A11) ((encI X.sum).length) (c11) (u8s (encI X.sum)) HR11.out (by rfl) (by rfl) (u8s_one _) (by omega) (by omega) (Nat.le_trans (Nat.le_refl _) HB11.out.size) ?_;intro v12 w12 ho12 hap12;obtain ⟨N12,hN12,hle12,ho12⟩:=own_app (L:=L) (m:=encI X.sum) HNL.out ho12;have HN12:=Lib.hid hN12;have HO12:=Lib.hid ho12;have HB12:=Lib.hid (HB11.out.trans (hap12.below (Nat.le_trans (Nat.le_refl _) HB11.out.size) HOl11.out));have hz12:=HB12.out.size;obtain ⟨A12,c12,rfl,_,_,_⟩:=own_form HO12.out;have K12:=Lib.hid (hap12.blk K11.out (own_blk_ne HOl11.out K11.out (by decide)));have hk12:w12.cell? ⟨bn,0,none⟩=some (.int .i64 X.sum)∧w12.cell? ⟨bn,1,none⟩=some (.int .i64 X.abs):=⟨K12.out.cell 0,K12.out.cell 1⟩;clear hN12 ho12 hap12)
    | (go_at_call 52;(with_reducible refine (HI2.out _).mono ?_);rintro y w13 ⟨v13,rfl,ho13,hb13⟩;obtain ⟨A13,c13,rfl,_,_,_⟩:=own_form ho13;have HOl13:=Lib.hid (own_below HO12.out hb13 (Nat.le_refl _));have HR13:=Lib.hid (Rd.own ho13);have HM13:=Lib.hid ho13;have HB13:=Lib.hid (belT HB12.out hb13);have hz13:=HB13.out.size;have K13:=Lib.hid (K12.out.below hb13 K12.out.lt);have hk13:w13.cell? ⟨bn,0,none⟩=some (.int .i64 X.sum)∧w13.cell? ⟨bn,1,none⟩=some (.int .i64 X.abs):=⟨K13.out.cell 0,K13.out.cell 1⟩;clear ho13 hb13)
    | (refine step_appSD (some 36) (by rfl) (by rfl) (.tmp 32) (.tmp 35) 27 (by rfl) W.heap.size 5 (.int .u8 0) 1 1 info_u8 rfl (by decide) Tryz.underlying27 (.slice A12 N12 c12) N12 (u8s ((L++encI X.sum))) HOl13.out _ (A13) ((encI X.abs).length) (c13) (u8s (encI X.abs)) HR13.out (by rfl) (by rfl) (u8s_one _) (by omega) (by omega) (Nat.le_trans (Nat.le_refl _) HB13.out.size) ?_;intro v14 w14 ho14 hap14;obtain ⟨N14,hN14,hle14,ho14⟩:=own_app (L:=(L++encI X.sum)) (m:=encI X.abs) HN12.out ho14;have HN14:=Lib.hid hN14;have HO14:=Lib.hid ho14;have HB14:=Lib.hid (HB13.out.trans (hap14.below (Nat.le_trans (Nat.le_refl _) HB13.out.size) HOl13.out));have hz14:=HB14.out.size;obtain ⟨A14,c14,rfl,_,_,_⟩:=own_form HO14.out;have K14:=Lib.hid (hap14.blk K13.out (own_blk_ne HOl13.out K13.out (by decide)));have hk14:w14.cell? ⟨bn,0,none⟩=some (.int .i64 X.sum)∧w14.cell? ⟨bn,1,none⟩=some (.int .i64 X.abs):=⟨K14.out.cell 0,K14.out.cell 1⟩;clear hN14 ho14 hap14))
   have y2:=K14.out.cell 2
   simp at y2
   have KXA:=K14;have HOA:=HO14;have HBA:=HB14;have HNA:=HN14
   go_wp2_with (first
    | (go_at_call 51;(with_reducible refine (HU1.out _).mono ?_);rintro y w21 ⟨v21,rfl,ho21,hb21⟩;obtain ⟨A21,c21,rfl,_,_,_⟩:=own_form ho21;have HOl21:=Lib.hid (own_below HOA.out hb21 (Nat.le_refl _));have HR21:=Lib.hid (Rd.own ho21);have HM21:=Lib.hid ho21;have HB21:=Lib.hid (belT HBA.out hb21);have hz21:=HB21.out.size;have K21:=Lib.hid (KXA.out.below hb21 KXA.out.lt);clear ho21 hb21)
    | (at_builtin;refine wpList_appS _ rfl _ _ 27 rfl W.heap.size 5 _ 1 1 info_u8 rfl (by decide) Tryz.underlying27 _ N14 (u8s (((L++encI X.sum)++encI X.abs))) HOl21.out rfl _ _ _ _ (u8s (encU X.sq.length)) HR21.out rfl (u8s_one _) ?_ ?_ ?_ ?_;omega;omega;exact (Nat.le_trans (Nat.le_refl _) HB21.out.size);intro v22 w22 ho22 hap22;obtain ⟨N22,hN22,hle22,ho22⟩:=own_app (L:=((L++encI X.sum)++encI X.abs)) (m:=encU X.sq.length) HNA.out ho22;have HN22:=Lib.hid hN22;have HO22:=Lib.hid ho22;have HB22:=Lib.hid (HB21.out.trans (hap22.below (Nat.le_trans (Nat.le_refl _) HB21.out.size) HOl21.out));have hz22:=HB22.out.size;obtain ⟨A22,c22,rfl,_,_,_⟩:=own_form HO22.out;have K22:=Lib.hid (hap22.blk K21.out (own_blk_ne HOl21.out K21.out (by decide)));clear hN22 ho22 hap22))
   obtain ⟨LB,hLB⟩:∃ LB,(((L++encI X.sum)++encI X.abs)++encU X.sq.length)=LB:=⟨_,rfl⟩
   have hn0:=HN22.out
   have hob:=HO22.out
   rw [hLB] at hn0 hob
   have HLB:=Lib.hid hLB
   have HN0:Hid ((LB++encSq (X.sq.take 0)).length=N22):=Lib.hid (by rw [List.take_zero,show encSq []=[] from rfl,List.append_nil];exact hn0)
   have HOB:Hid (w22.ownsRow W.heap.size 5 1 (.slice A22 N22 c22) N22 (u8s (LB++encSq (X.sq.take 0)))):=Lib.hid (by rw [List.take_zero,show encSq []=[] from rfl,List.append_nil];exact hob)
   have hlb:LB.length≤4000:=by rw [hn0];omega
   clear hLB hn0 hob
   go_loopw [3,6] (fun vo vi ws=>∃ j n2:Nat,j≤X.sq.length∧vi=.int .i64 (j:Int)∧Hid ((LB++encSq (X.sq.take j)).length=n2)∧Hid (ws.ownsRow W.heap.size 5 1 vo n2 (u8s (LB++encSq (X.sq.take j))))∧Hid (Below W.heap.size W ws)∧Hid (Blk ws bn 122 #[.int .i64 X.sum,.int .i64 X.abs,.slice Aq X.sq.length cq,.int .i64 X.mn,.int .i64 X.mx])) (fun _ vi _=>X.sq.length-(intOf vi).toNat)
   case atStart=>exact ⟨0,_,by omega,rfl,HN0,HOB,HB22,K22⟩
   case round =>
    obtain ⟨j,n2,hj,rfl,HNs,HOs,HBs,KXs⟩:=hrel
    have y2:=KXs.out.cell 2
    simp at y2
    obtain ⟨A0,c0,rfl,_,_,_⟩:=own_form HOs.out
    have hle:=encSq_le (X.sq.take j)
    rw [List.length_take,Nat.min_eq_left hj] at hle
    have hn2:n2≤4200:=by have h:=HNs.out;rw [List.length_append] at h;omega
    by_cases hjl:j<X.sq.length
    ·obtain ⟨a',ea',hab',z0⟩:=(HRQ.out wr HBs.out).u32n hjl
     have hcs:=encSq_succ X.sq j hjl
     have hx32:X.sq.getD j 0<4294967296:=by
      have:X.sq.getD j 0=X.sq[j]:=by simp [List.getD,hjl]
      rw [this];exact HQ3.out _ (List.getElem_mem hjl)
     subst ea'
     generalize X.sq.getD j 0=x at *
     have p1:(0:Int)≤(j:Int):=by omega
     have p2:(j:Int)<(X.sq.length:Int):=by omega
     have wx:IntKind.u64.wrap (x:Int)=(x:Int):=by rw [IntKind.wrap_u64];omega
     have HUX:=Lib.hid (fun W=>refUL_any x W (by omega))
     have ux:=encU_9 x
     have HCS:=Lib.hid hcs
     obtain ⟨LL,hLL⟩:∃ LL,LB++encSq (X.sq.take j)=LL:=⟨_,rfl⟩
     have HOL:=HOs
     have HNS:=HNs
     rw [hLL] at HOL HNS
     have HLL:=Lib.hid hLL
     clear hcs hle hLL HOs HNs
     go_wp2_with (first
      | (go_at_call 51;(with_reducible refine (HUX.out _).mono ?_);rintro y w31 ⟨v31,rfl,ho31,hb31⟩;obtain ⟨A31,c31,rfl,_,_,_⟩:=own_form ho31;have HOl31:=Lib.hid (own_below HOL.out hb31 (Nat.le_refl _));have HR31:=Lib.hid (Rd.own ho31);have HM31:=Lib.hid ho31;have HB31:=Lib.hid (belT HBs.out hb31);have hz31:=HB31.out.size;have K31:=Lib.hid (KXs.out.below hb31 KXs.out.lt);clear ho31 hb31)
      | (at_builtin;refine wpList_appS _ rfl _ _ 27 rfl W.heap.size 5 _ 1 1 info_u8 rfl (by decide) Tryz.underlying27 _ n2 (u8s (LL)) HOl31.out rfl _ _ _ _ (u8s (encU x)) HR31.out rfl (u8s_one _) ?_ ?_ ?_ ?_;omega;omega;exact (Nat.le_trans (Nat.le_refl _) HB31.out.size);intro v32 w32 ho32 hap32;obtain ⟨N32,hN32,hle32,ho32⟩:=own_app (L:=LL) (m:=encU x) HNS.out ho32;have HN32:=Lib.hid hN32;have HO32:=Lib.hid ho32;have HB32:=Lib.hid (HB31.out.trans (hap32.below (Nat.le_trans (Nat.le_refl _) HB31.out.size) HOl31.out));have hz32:=HB32.out.size;obtain ⟨A32,c32,rfl,_,_,_⟩:=own_form HO32.out;have K32:=Lib.hid (hap32.blk K31.out (own_blk_ne HOl31.out K31.out (by decide)));clear hN32 ho32 hap32))
     go_roundw
     case rel=>exact ⟨j+1,N32,by omega,by go_num,Lib.hid (by have h:=HN32.out;rw [← HLL.out] at h;rw [HCS.out,← List.append_assoc];exact h),Lib.hid (by have h:=HO32.out;rw [← HLL.out] at h;rw [HCS.out,← List.append_assoc];exact h),HB32,K32⟩
     case measure=>simp [intOf];omega
    ·obtain rfl:j=X.sq.length:=by omega
     have p2:¬ (X.sq.length:Int)<(X.sq.length:Int):=by omega
     obtain ⟨LL,hLL⟩:∃ LL,LB++encSq (X.sq.take X.sq.length)=LL:=⟨_,rfl⟩
     have HOL0:=HOs
     have HNS:=HNs
     rw [hLL] at HOL0 HNS
     have HOL:Hid (wr.drew.ownsRow W.heap.size 5 1 (.slice A0 n2 c0) n2 (u8s LL)):=Lib.hid HOL0.out
     have HLL:=Lib.hid hLL
     have KXd:=Lib.hid (KXs.out.drew);have HBd:=Lib.hid (HBs.out.drew)
     have HS2:Hid (wr.drew.cell? ⟨bn,3,none⟩=some (.int .i64 X.mn)∧wr.drew.cell? ⟨bn,4,none⟩=some (.int .i64 X.mx)):=Lib.hid ⟨KXs.out.cell 3,KXs.out.cell 4⟩
     clear hle hLL HOs HNs HOL0
     go_upto_region 12 with (fail)
     go_region_held3 (fun W=>W.cell? ⟨bn,3,none⟩=some (.int .i64 X.mn)∧W.cell? ⟨bn,4,none⟩=some (.int .i64 X.mx)) (first|(with_reducible exact HS2.out)|(exact hk41)|(exact hk42)|(exact hk43)|(exact hk44)) (first
      | (go_at_call 52;(with_reducible refine (HI3.out _).mono ?_);rintro y w41 ⟨v41,rfl,ho41,hb41⟩;obtain ⟨A41,c41,rfl,_,_,_⟩:=own_form ho41;have HOl41:=Lib.hid (own_below HOL.out hb41 (Nat.le_refl _));have HR41:=Lib.hid (Rd.own ho41);have HM41:=Lib.hid ho41;have HB41:=Lib.hid (belT HBd.out hb41);have hz41:=HB41.out.size;have K41:=Lib.hid (KXd.out.below hb41 KXd.out.lt);have hk41:w41.cell? ⟨bn,3,none⟩=some (.int .i64 X.mn)∧w41.cell? ⟨bn,4,none⟩=some (.int .i64 X.mx):=⟨K41.out.cell 3,K41.out.cell 4⟩;clear ho41 hb41)
      | (refine step_appSD (some 64) (by rfl) (by rfl) (.tmp 60) (.tmp 63) 27 (by rfl) W.heap.size 5 (.int .u8 0) 1 1 info_u8 rfl (by decide) Tryz.underlying27 (.slice A0 n2 c0) n2 (u8s (LL)) HOl41.out _ (A41) ((encI X.mn).length) (c41) (u8s (encI X.mn)) HR41.out (by rfl) (by rfl) (u8s_one _) (by omega) (by omega) (Nat.le_trans (Nat.le_refl _) HB41.out.size) ?_;intro v42 w42 ho42 hap42;obtain ⟨N42,hN42,hle42,ho42⟩:=own_app (L:=LL) (m:=encI X.mn) HNS.out ho42;have HN42:=Lib.hid hN42;have HO42:=Lib.hid ho42;have HB42:=Lib.hid (HB41.out.trans (hap42.below (Nat.le_trans (Nat.le_refl _) HB41.out.size) HOl41.out));have hz42:=HB42.out.size;obtain ⟨A42,c42,rfl,_,_,_⟩:=own_form HO42.out;have K42:=Lib.hid (hap42.blk K41.out (own_blk_ne HOl41.out K41.out (by decide)));have hk42:w42.cell? ⟨bn,3,none⟩=some (.int .i64 X.mn)∧w42.cell? ⟨bn,4,none⟩=some (.int .i64 X.mx):=⟨K42.out.cell 3,K42.out.cell 4⟩;clear hN42 ho42 hap42)
      | (go_at_call 52;(with_reducible refine (HI4.out _).mono ?_);rintro y w43 ⟨v43,rfl,ho43,hb43⟩;obtain ⟨A43,c43,rfl,_,_,_⟩:=own_form ho43;have HOl43:=Lib.hid (own_below HO42.out hb43 (Nat.le_refl _));have HR43:=Lib.hid (Rd.own ho43);have HM43:=Lib.hid ho43;have HB43:=Lib.hid (belT HB42.out hb43);have hz43:=HB43.out.size;have K43:=Lib.hid (K42.out.below hb43 K42.out.lt);have hk43:w43.cell? ⟨bn,3,none⟩=some (.int .i64 X.mn)∧w43.cell? ⟨bn,4,none⟩=some (.int .i64 X.mx):=⟨K43.out.cell 3,K43.out.cell 4⟩;clear ho43 hb43)
      | (refine step_appSD (some 68) (by rfl) (by rfl) (.tmp 64) (.tmp 67) 27 (by rfl) W.heap.size 5 (.int .u8 0) 1 1 info_u8 rfl (by decide) Tryz.underlying27 (.slice A42 N42 c42) N42 (u8s ((LL++encI X.mn))) HOl43.out _ (A43) ((encI X.mx).length) (c43) (u8s (encI X.mx)) HR43.out (by rfl) (by rfl) (u8s_one _) (by omega) (by omega) (Nat.le_trans (Nat.le_refl _) HB43.out.size) ?_;intro v44 w44 ho44 hap44;obtain ⟨N44,hN44,hle44,ho44⟩:=own_app (L:=(LL++encI X.mn)) (m:=encI X.mx) HN42.out ho44;have HN44:=Lib.hid hN44;have HO44:=Lib.hid ho44;have HB44:=Lib.hid (HB43.out.trans (hap44.below (Nat.le_trans (Nat.le_refl _) HB43.out.size) HOl43.out));have hz44:=HB44.out.size;obtain ⟨A44,c44,rfl,_,_,_⟩:=own_form HO44.out;have K44:=Lib.hid (hap44.blk K43.out (own_blk_ne HOl43.out K43.out (by decide)));have hk44:w44.cell? ⟨bn,3,none⟩=some (.int .i64 X.mn)∧w44.cell? ⟨bn,4,none⟩=some (.int .i64 X.mx):=⟨K44.out.cell 3,K44.out.cell 4⟩;clear hN44 ho44 hap44))
     go_wp2
     go_roundw
     case rel=>exact ⟨k+1,N44,by omega,by go_num,Lib.hid (by have h:=HN44.out;rw [← HLL.out,← HLB.out,List.take_length] at h;rw [HSN.out];exact h),Lib.hid (by have h:=HO44.out;rw [← HLL.out,← HLB.out,List.take_length] at h;rw [HSN.out];exact h),HB44⟩
     case measure=>simp [intOf];omega
  ·obtain rfl:k=C.ints.length:=by omega
   have q2:¬ (C.ints.length:Int)<(C.ints.length:Int):=by omega
   have hoR:=HO.out
   rw [putW_all] at hoR
   have hnR:=HNL.out
   rw [putW_all] at hnR
   have HOR:=Lib.hid hoR;have HNR:=Lib.hid hnR
   clear hoR hnR HO HNL
   go_wp2
   go_loopw [3,7] (fun vo vi wr=>∃ k n:Nat,k≤C.nums.length∧vi=.int .i64 (k:Int)∧Hid ((putR C k).length=n)∧Hid (wr.ownsRow W.heap.size 5 1 vo n (u8s (putR C k)))∧Hid (Below W.heap.size W wr)) (fun _ vi _=>C.nums.length-(intOf vi).toNat)
   case atStart=>exact ⟨0,n,by omega,rfl,HNR,HOR,HBl⟩
   case round =>
    clear m3 hzr HKCr HBl
    obtain ⟨k,n,hk,rfl,HNL,HO,HBl⟩:=hrel
    have HKCr:=Lib.hid (HKC.out.below HBl.out HKC.out.lt)
    have m3:=HKCr.out.cell 3
    simp at m3
    have hzr:=HBl.out.size
    obtain ⟨A0,c0,rfl,_,_,_⟩:=own_form HO.out
    by_cases hlt:k<C.nums.length
    ·obtain ⟨a,Aq,cq,ea,hab,x0,x1,x2,hRq,hq1,hq2,hmn,hmx⟩:=G2.out.realAt hlt
     have tr:∀ p:Addr,p.block=a.block→wr.cell? p=W.cell? p:=fun p hp=>HBl.out.cell (by have:=HBW.out;omega)
     have X0:=(tr _ (block_add _ _)).trans x0;have X1:=(tr ⟨_,_,none⟩ (block_add _ _)).trans x1;have X2:=(tr ⟨_,_,none⟩ (block_add _ _)).trans x2
     have q1:(0:Int)≤(k:Int):=by omega
     have q2:(k:Int)<(C.nums.length:Int):=by omega
     have hsn:=putR_succ C k hlt
     have hll:=HRL.out k
     rw [HNL.out] at hll
     have hq300:=HL4.out _ (List.getElem_mem hlt)
     have HRQ:=Lib.hid (fun W' (hW:Below W.heap.size W W')=>hRq.below (hW.mono HBW.out))
     subst ea
     generalize C.nums[k]=X at *
     generalize putR C k=L at *
     have HF1:=Lib.hid (fun W=>refFL_any X.mn W hmn);have HF2:=Lib.hid (fun W=>refFL_any X.mx W hmx)
     have HU1:=Lib.hid (fun W=>refUL_any X.sum.length W (by omega))
     have wl:IntKind.u64.wrap (X.sum.length:Int)=(X.sum.length:Int):=by rw [IntKind.wrap_u64];omega
     have j1:(be 8 (keyB X.mn)).length≤8:=by rw [be_length];exact Nat.le_refl _
     have j2:(be 8 (keyB X.mx)).length≤8:=by rw [be_length];exact Nat.le_refl _
     have j5:=encU_9 X.sum.length
     have HSN:=Lib.hid hsn
     have KX0:=Lib.hid (Blk.new wr 60 #[.slice Aq X.sum.length cq,.float .f64 X.mn,.float .f64 X.mx])
     have HBX:=Lib.hid (HBl.out.alloc hzr (.cells #[.slice Aq X.sum.length cq,.float .f64 X.mn,.float .f64 X.mx] 60))
     have HOX:=Lib.hid (HO.out.alloc (.cells #[.slice Aq X.sum.length cq,.float .f64 X.mn,.float .f64 X.mx] 60))
     clear x0 x1 x2 tr hRq hsn hmn hmx
     go_wp2
     generalize wr.alloc (.cells #[.slice Aq X.sum.length cq,.float .f64 X.mn,.float .f64 X.mx] 60)=Wx at *
     generalize hbn:wr.heap.size=bn at *
     have KX1:=Lib.hid (KX0.out.drew);have HBX1:=Lib.hid (HBX.out.drew);have HOX1:Hid (Wx.drew.ownsRow W.heap.size 5 1 (.slice A0 n c0) n (u8s L)):=Lib.hid HOX.out
     have HS1:Hid (Wx.drew.cell? ⟨bn,0,none⟩=some (.slice Aq X.sum.length cq)):=Lib.hid (KX0.out.cell 0)
     clear X0 X1 X2 hbn
     go_region_held3 (fun W=>W.cell? ⟨bn,0,none⟩=some (.slice Aq X.sum.length cq)) (first|(with_reducible exact HS1.out)|(exact hk51)|(exact hk52)|(exact hk53)) (first
      | (go_at_call 51;(with_reducible refine (HU1.out _).mono ?_);rintro y w51 ⟨v51,rfl,ho51,hb51⟩;obtain ⟨A51,c51,rfl,_,_,_⟩:=own_form ho51;have HOl51:=Lib.hid (own_below HOX1.out hb51 (Nat.le_refl _));have HR51:=Lib.hid (Rd.own ho51);have HM51:=Lib.hid ho51;have HB51:=Lib.hid (belT HBX1.out hb51);have hz51:=HB51.out.size;have K51:=Lib.hid (KX1.out.below hb51 KX1.out.lt);have hk51:w51.cell? ⟨bn,0,none⟩=some (.slice Aq X.sum.length cq):=K51.out.cell 0;clear ho51 hb51)
      | (refine step_appSD (some 87) (by rfl) (by rfl) (.tmp 81) (.tmp 86) 27 (by rfl) W.heap.size 5 (.int .u8 0) 1 1 info_u8 rfl (by decide) Tryz.underlying27 (.slice A0 n c0) n (u8s (L)) HOl51.out _ (A51) ((encU X.sum.length).length) (c51) (u8s (encU X.sum.length)) HR51.out (by rfl) (by rfl) (u8s_one _) (by omega) (by omega) (Nat.le_trans (Nat.le_refl _) HB51.out.size) ?_;intro v52 w52 ho52 hap52;obtain ⟨N52,hN52,hle52,ho52⟩:=own_app (L:=L) (m:=encU X.sum.length) HNL.out ho52;have HN52:=Lib.hid hN52;have HO52:=Lib.hid ho52;have HB52:=Lib.hid (HB51.out.trans (hap52.below (Nat.le_trans (Nat.le_refl _) HB51.out.size) HOl51.out));have hz52:=HB52.out.size;obtain ⟨A52,c52,rfl,_,_,_⟩:=own_form HO52.out;have K52:=Lib.hid (hap52.blk K51.out (own_blk_ne HOl51.out K51.out (by decide)));have hk52:w52.cell? ⟨bn,0,none⟩=some (.slice Aq X.sum.length cq):=K52.out.cell 0;clear hN52 ho52 hap52)
      | (refine step_appSD (some 90) (by rfl) (by rfl) (.tmp 87) (.tmp 89) 27 (by rfl) W.heap.size 5 (.int .u8 0) 1 1 info_u8 rfl (by decide) Tryz.underlying27 (.slice A52 N52 c52) N52 (u8s ((L++encU X.sum.length))) HO52.out _ (Aq) (X.sum.length) (cq) (u8s (X.sum)) (HRQ.out _ HB52.out) (by rfl) (by rfl) (u8s_one _) (by omega) (by omega) (Nat.le_trans (Nat.le_refl _) HB52.out.size) ?_;intro v53 w53 ho53 hap53;obtain ⟨N53,hN53,hle53,ho53⟩:=own_app (L:=(L++encU X.sum.length)) (m:=X.sum) HN52.out ho53;have HN53:=Lib.hid hN53;have HO53:=Lib.hid ho53;have HB53:=Lib.hid (HB52.out.trans (hap53.below (Nat.le_trans (Nat.le_refl _) HB52.out.size) HO52.out));have hz53:=HB53.out.size;obtain ⟨A53,c53,rfl,_,_,_⟩:=own_form HO53.out;have K53:=Lib.hid (hap53.blk K52.out (own_blk_ne HO52.out K52.out (by decide)));have hk53:w53.cell? ⟨bn,0,none⟩=some (.slice Aq X.sum.length cq):=K53.out.cell 0;clear hN53 ho53 hap53))
     have HSX:Hid (w53.drew.cell? ⟨bn,1,none⟩=some (.float .f64 X.mn)∧w53.drew.cell? ⟨bn,2,none⟩=some (.float .f64 X.mx)):=Lib.hid ⟨K53.out.cell 1,K53.out.cell 2⟩
     have HOY:Hid (w53.drew.ownsRow W.heap.size 5 1 (.slice A53 N53 c53) N53 (u8s ((L++encU X.sum.length)++X.sum))):=Lib.hid HO53.out
     have HBY:=Lib.hid (HB53.out.drew);have KXY:=Lib.hid (K53.out.drew)
     go_upto_region 18 with (fail)
     go_region_held3 (fun W=>W.cell? ⟨bn,1,none⟩=some (.float .f64 X.mn)∧W.cell? ⟨bn,2,none⟩=some (.float .f64 X.mx)) (first|(with_reducible exact HSX.out)|(exact hk61)|(exact hk62)|(exact hk63)|(exact hk64)) (first
      | (go_at_call 53;(with_reducible refine (HF1.out _).mono ?_);rintro y w61 ⟨v61,rfl,ho61,hb61⟩;obtain ⟨A61,c61,rfl,_,_,_⟩:=own_form ho61;have HOl61:=Lib.hid (own_below HOY.out hb61 (Nat.le_refl _));have HR61:=Lib.hid (Rd.own ho61);have HM61:=Lib.hid ho61;have HB61:=Lib.hid (belT HBY.out hb61);have hz61:=HB61.out.size;have K61:=Lib.hid (KXY.out.below hb61 KXY.out.lt);have hk61:w61.cell? ⟨bn,1,none⟩=some (.float .f64 X.mn)∧w61.cell? ⟨bn,2,none⟩=some (.float .f64 X.mx):=⟨K61.out.cell 1,K61.out.cell 2⟩;clear ho61 hb61)
      | (refine step_appSD (some 95) (by rfl) (by rfl) (.tmp 91) (.tmp 94) 27 (by rfl) W.heap.size 5 (.int .u8 0) 1 1 info_u8 rfl (by decide) Tryz.underlying27 (.slice A53 N53 c53) N53 (u8s (((L++encU X.sum.length)++X.sum))) HOl61.out _ (A61) ((be 8 (keyB X.mn)).length) (c61) (u8s (be 8 (keyB X.mn))) HR61.out (by rfl) (by rfl) (u8s_one _) (by omega) (by omega) (Nat.le_trans (Nat.le_refl _) HB61.out.size) ?_;intro v62 w62 ho62 hap62;obtain ⟨N62,hN62,hle62,ho62⟩:=own_app (L:=((L++encU X.sum.length)++X.sum)) (m:=be 8 (keyB X.mn)) HN53.out ho62;have HN62:=Lib.hid hN62;have HO62:=Lib.hid ho62;have HB62:=Lib.hid (HB61.out.trans (hap62.below (Nat.le_trans (Nat.le_refl _) HB61.out.size) HOl61.out));have hz62:=HB62.out.size;obtain ⟨A62,c62,rfl,_,_,_⟩:=own_form HO62.out;have K62:=Lib.hid (hap62.blk K61.out (own_blk_ne HOl61.out K61.out (by decide)));have hk62:w62.cell? ⟨bn,1,none⟩=some (.float .f64 X.mn)∧w62.cell? ⟨bn,2,none⟩=some (.float .f64 X.mx):=⟨K62.out.cell 1,K62.out.cell 2⟩;clear hN62 ho62 hap62)
      | (go_at_call 53;(with_reducible refine (HF2.out _).mono ?_);rintro y w63 ⟨v63,rfl,ho63,hb63⟩;obtain ⟨A63,c63,rfl,_,_,_⟩:=own_form ho63;have HOl63:=Lib.hid (own_below HO62.out hb63 (Nat.le_refl _));have HR63:=Lib.hid (Rd.own ho63);have HM63:=Lib.hid ho63;have HB63:=Lib.hid (belT HB62.out hb63);have hz63:=HB63.out.size;have K63:=Lib.hid (K62.out.below hb63 K62.out.lt);have hk63:w63.cell? ⟨bn,1,none⟩=some (.float .f64 X.mn)∧w63.cell? ⟨bn,2,none⟩=some (.float .f64 X.mx):=⟨K63.out.cell 1,K63.out.cell 2⟩;clear ho63 hb63)
      | (refine step_appSD (some 99) (by rfl) (by rfl) (.tmp 95) (.tmp 98) 27 (by rfl) W.heap.size 5 (.int .u8 0) 1 1 info_u8 rfl (by decide) Tryz.underlying27 (.slice A62 N62 c62) N62 (u8s ((((L++encU X.sum.length)++X.sum)++be 8 (keyB X.mn)))) HOl63.out _ (A63) ((be 8 (keyB X.mx)).length) (c63) (u8s (be 8 (keyB X.mx))) HR63.out (by rfl) (by rfl) (u8s_one _) (by omega) (by omega) (Nat.le_trans (Nat.le_refl _) HB63.out.size) ?_;intro v64 w64 ho64 hap64;obtain ⟨N64,hN64,hle64,ho64⟩:=own_app (L:=(((L++encU X.sum.length)++X.sum)++be 8 (keyB X.mn))) (m:=be 8 (keyB X.mx)) HN62.out ho64;have HN64:=Lib.hid hN64;have HO64:=Lib.hid ho64;have HB64:=Lib.hid (HB63.out.trans (hap64.below (Nat.le_trans (Nat.le_refl _) HB63.out.size) HOl63.out));have hz64:=HB64.out.size;obtain ⟨A64,c64,rfl,_,_,_⟩:=own_form HO64.out;have K64:=Lib.hid (hap64.blk K63.out (own_blk_ne HOl63.out K63.out (by decide)));have hk64:w64.cell? ⟨bn,1,none⟩=some (.float .f64 X.mn)∧w64.cell? ⟨bn,2,none⟩=some (.float .f64 X.mx):=⟨K64.out.cell 1,K64.out.cell 2⟩;clear hN64 ho64 hap64))
     go_wp2
     go_roundw
     case rel=>exact ⟨k+1,N64,by omega,by go_num,Lib.hid (by have h:=HN64.out;rw [HSN.out];exact h),Lib.hid (by have h:=HO64.out;rw [HSN.out];exact h),HB64⟩
     case measure=>simp [intOf];omega
    ·obtain rfl:k=C.nums.length:=by omega
     have q2:¬ (C.nums.length:Int)<(C.nums.length:Int):=by omega
     have ho7:=HO.out
     have hn7:=HNL.out
     rw [putR_all] at ho7 hn7
     have HO7:=Lib.hid ho7;have HN7:=Lib.hid hn7
     have HBF:=Lib.hid (HW0.out.trans (HBl.out.mono (by rw [HZW.out];omega)))
     clear ho7 hn7 HO HNL
     go_wp2
     go_ret
     exact ⟨_,rfl,by rw [HN7.out];exact own_mono HO7.out (by rw [HZW.out];omega),HBF.out⟩
end Go.Proofs.YtfhmaincnlaapaaGreat
namespace Go.Proofs.YtfhmaincnlaapaaGreat
open Go.ChangeShapes Go.WideShapes Go.ChangeAt Go.RowKit
set_option linter.unusedVariables false
def FaO (w:World) (base:Nat):List FactS→List Value→Prop
 | [],xs=>xs=[]
 | F :: l,xs=>∃ v0 v1 v2 rest,xs=v0 :: v1 :: v2 :: rest∧w.ownsRow base 3 1 v0 F.codes.length (i64s F.codes)∧w.ownsRow base 2 1 v1 F.ints.length (i64s F.ints) ∧
  w.ownsRow base 57 1 v2 F.nums.length (f64s F.nums)∧FaO w base l rest
section
variable {w w':World} {base g:Nat} {l:List FactS} {xs:List Value}
theorem FaO.map (h:FaO w base l xs) (h0:∀ v n ys,w.ownsRow base 3 1 v n ys→w'.ownsRow base 3 1 v n ys) (h1:∀ v n ys,w.ownsRow base 2 1 v n ys→w'.ownsRow base 2 1 v n ys)
 (h2:∀ v n ys,w.ownsRow base 57 1 v n ys→w'.ownsRow base 57 1 v n ys):FaO w' base l xs:=by
 induction l generalizing xs with
 | nil=>exact h
 | cons F l ih =>
   obtain ⟨v0,v1,v2,rest,rfl,o0,o1,o2,hr⟩:=h
   exact ⟨v0,v1,v2,rest,rfl,h0 _ _ _ o0,h1 _ _ _ o1,h2 _ _ _ o2,ih hr⟩
theorem FaO.only (h:FaO w base l xs) (k:Only g w w') (hg:g<base):FaO w' base l xs :=
 h.map (fun v n ys ho=>k.own ho (own_far ho hg)) (fun v n ys ho=>k.own ho (own_far ho hg)) (fun v n ys ho=>k.own ho (own_far ho hg))
theorem FaO.alloc (h:FaO w base l xs) (o:Obj):FaO (w.alloc o) base l xs:=h.map (fun v n ys ho=>ho.alloc o) (fun v n ys ho=>ho.alloc o) (fun v n ys ho=>ho.alloc o)
theorem FaO.drewN (h:FaO w base l xs) (k:Nat):FaO (w.drewN k) base l xs:=h.map (fun v n ys ho=>ho) (fun v n ys ho=>ho) (fun v n ys ho=>ho)
theorem FaO.appd {v v':Value} {b n:Nat} {ys:List Value} (h:FaO w base l xs) (k:Appd w w' v v') (ho:w.ownsRow b 86 3 v n ys):FaO w' base l xs :=
 h.map (fun _ _ _ h'=>k.kept h' (own_own_ne h' ho (by decide))) (fun _ _ _ h'=>k.kept h' (own_own_ne h' ho (by decide))) (fun _ _ _ h'=>k.kept h' (own_own_ne h' ho (by decide)))
theorem FaO.snoc {F:FactS} {v0 v1 v2:Value} (h:FaO w base l xs) (o0:w.ownsRow base 3 1 v0 F.codes.length (i64s F.codes)) (o1:w.ownsRow base 2 1 v1 F.ints.length (i64s F.ints))
 (o2:w.ownsRow base 57 1 v2 F.nums.length (f64s F.nums)):FaO w base (l ++ [F]) (xs ++ [v0,v1,v2]):=by
 induction l generalizing xs with
 | nil=>cases h;exact ⟨v0,v1,v2,[],rfl,o0,o1,o2,rfl⟩
 | cons F' l ih =>
   obtain ⟨u0,u1,u2,rest,rfl,p0,p1,p2,hr⟩:=h
   exact ⟨u0,u1,u2,rest ++ [v0,v1,v2],rfl,p0,p1,p2,ih hr⟩
theorem FaO.chunk (h:FaO w base l xs) (ho:∀ F ∈ l,FactOk F):Chunk factR w w.heap.size l xs:=by
 induction l generalizing xs with
 | nil=>exact h
 | cons F l ih =>
   obtain ⟨v0,v1,v2,rest,rfl,o0,o1,o2,hr⟩:=h
   obtain ⟨A0,c0,rfl,a0,b0,_⟩:=own_form o0
   obtain ⟨A1,c1,rfl,a1,b1,_⟩:=own_form o1
   obtain ⟨A2,c2,rfl,a2,b2,_⟩:=own_form o2
   refine ⟨[_,_,_],rest,rfl,factR_mk ⟨A0,c0,A1,c1,A2,c2,rfl,rfl,rfl,Rd.own o0,Rd.own o1,Rd.own o2,⟨a0,b0⟩,⟨a1,b1⟩,a2,b2⟩ (ho F (by simp)),ih hr fun F' hF=>ho F' (by simp [hF])⟩
end
theorem sch_manyOk {S:Sch} (h:checkN S=0):S.dims.length≤6∧S.ints.length≤3∧S.nums.length≤2∧∀ k,k<S.dims.length→1≤szAt S k∧szAt S k≤4096:=by
 obtain ⟨hm,p,hp⟩:=checkN_zero h
 unfold manyOk at hm
 exact ⟨by omega,by omega,by omega,keysTo_some S _ p hp⟩
structure GetRel (w wr:World) (g:Nat) (t:List UInt8) (SV:Array Value) (ov:Value) (m:List FactS) (p e:Nat):Prop where
 s:Blk wr w.heap.size 26 SV
 o:∃ xs,wr.ownsRow (g+1) 86 3 ov m.length xs∧FaO wr (g+1) m xs
 i:InS wr g t p e
 b:Below w.heap.size w wr
theorem GetRel.one {w wr w2 w3:World} {g:Nat} {t:List UInt8} {SV:Array Value} {ov ov':Value} {m:List FactS} {F:FactS} {p' e':Nat} {v0 v1 v2:Value} {xs:List Value} (hg:w.heap.size+1≤g)
 (s:Blk wr w.heap.size 26 SV) (b:Below w.heap.size w wr) (o:wr.ownsRow (g+1) 86 3 ov m.length xs) (f:FaO wr (g+1) m xs) (hgl:g<wr.heap.size)
 (o0:w2.ownsRow wr.heap.size 3 1 v0 F.codes.length (i64s F.codes)) (o1:w2.ownsRow wr.heap.size 2 1 v1 F.ints.length (i64s F.ints)) (o2:w2.ownsRow wr.heap.size 57 1 v2 F.nums.length (f64s F.nums))
 (i:InS w2 g t p' e') (k:Only g wr w2) (ho:w3.ownsRow (g+1) 86 3 ov' (m.length+1) (xs ++ [v0,v1,v2])) (hap:Appd w2 w3 ov ov'):GetRel w w3 g t SV ov' (m ++ [F]) p' e':=by
 have ow2:=k.own o (own_far o (by omega))
 have hz:=k.size
 have hb3:Below (g+1) w2 w3:=hap.below (by omega) ow2
 have hzb:=b.size
 refine ⟨(k.blk s (by omega)).below hb3 (by omega),⟨_,by rw [List.length_append];exact ho,?_⟩,i.below hb3 (by omega),(b.trans (k.below (by omega) (by omega))).trans (hb3.mono (by omega))⟩
 exact ((f.only k (by omega)).appd hap ow2).snoc (own_mono (hap.kept o0 (own_own_ne o0 ow2 (by decide))) (by omega)) (own_mono (hap.kept o1 (own_own_ne o1 ow2 (by decide))) (by omega)) (own_mono (hap.kept o2 (own_own_ne o2 ow2 (by decide))) (by omega))
theorem GetRel.drw {w wr w2:World} {g:Nat} {t:List UInt8} {SV:Array Value} {ov:Value} {m:List FactS} {p e:Nat} (h:GetRel w wr g t SV ov m p e) (k:Drw wr w2):GetRel w w2 g t SV ov m p e:=by
 obtain ⟨n,rfl⟩:=k
 obtain ⟨xs,h1,h2⟩:=h.o
 exact ⟨h.s,⟨xs,h1,h2.drewN n⟩,h.i,below_drewN h.b n⟩
def headN (n x0 x1 x2:Nat):Nat :=
 if 0<n∧(63<x0∨(x0/32%2=1∧x0/16%2=0)) then 6
 else if 1<n∧(69<x1∨(0<x1∧x0/16%2=0)) then 6
 else if 2<n∧(70<x1+x2∨(0<x2∧x0/16%2=0)∨(x2=0∧(0<x1∨x0/32%2=1))) then 6
 else 0
theorem headE_eq (b:List UInt8):headE b=headN b.length (hd b 0) (hd b 1) (hd b 2):=rfl
theorem hd_get (b:List UInt8) (i:Nat) (h:i<b.length):hd b i=(b[i]).toNat:=by
 unfold hd;rw [List.getD_eq_getElem?_getD,List.getElem?_eq_getElem h];rfl
set_option maxRecDepth 20000 in
theorem head_nil (w:World) (A:Option Addr) (c:Nat):Calls Tryz.prog 132 #[.slice A 0 c] w fun y w'=>y=.returned (.int .i64 0)∧Drw w w':=by
 go_enter Tryz.func132,Tryz.ntmps132
 go_wp2
 go_quiet (fail)
 go_wp2
 go_ret
 exact ⟨rfl,⟨_,rfl⟩⟩
set_option maxRecDepth 20000 in
set_option maxHeartbeats 8000000 in
theorem head_some (w:World) (a:Addr) (n c x0 x1 x2:Nat) (h1:1≤n) (hx0:x0<256) (hx1:x1<256) (hx2:x2<256) (k0:w.cell? a=some (.int .u8 (x0:Int)))
 (k1:2≤n→w.cell? (a.add 1)=some (.int .u8 (x1:Int))∧w.cell? ⟨a.block,a.off+1,none⟩=some (.int .u8 (x1:Int)))
 (k2:3≤n→w.cell? (a.add 2)=some (.int .u8 (x2:Int))∧w.cell? ⟨a.block,a.off+2,none⟩=some (.int .u8 (x2:Int))) :
 Calls Tryz.prog 132 #[.slice (some a) n c] w fun y w'=>y=.returned (.int .i64 (headN n x0 x1 x2:Int))∧Drw w w':=by
 have a32:bits .and .u8 (x0:Int) 32=((x0/32%2*32:Nat):Int):=by
  have:=u8_and_nat x0 32 hx0 (by decide)
  rw [show x0 &&& 32=x0/32%2*32 from and32 ⟨x0,hx0⟩] at this
  exact this
 have a16:bits .and .u8 (x0:Int) 16=((x0/16%2*16:Nat):Int):=by
  have:=u8_and_nat x0 16 hx0 (by decide)
  rw [show x0 &&& 16=x0/16%2*16 from and16 ⟨x0,hx0⟩] at this
  exact this
 have p0:x0/32%2=0∨x0/32%2=1:=by omega
 have q0:x0/16%2=0∨x0/16%2=1:=by omega
 have g0:decide ((0:Int)<(n:Int))=true:=decide_eq_true (by omega)
 by_cases c0:63<x0
 ·have t0:decide ((63:Int)<(x0:Int))=true:=decide_eq_true (by omega)
  have e:headN n x0 x1 x2=6:=by unfold headN;(repeat' split) <;> omega
  rw [e]
  clear e
  go_enter Tryz.func132,Tryz.ntmps132
  go_wp2
  go_ret
  exact ⟨rfl,Drw.refl _⟩
 have t0:decide ((63:Int)<(x0:Int))=false:=decide_eq_false (by omega)
 rcases p0 with hp|hp
 ·rcases q0 with hq|hq
  ·have b32:bits .and .u8 (x0:Int) 32=0:=by rw [a32,hp];rfl
   have b16:bits .and .u8 (x0:Int) 16=0:=by rw [a16,hq];rfl
   clear a32 a16
   by_cases n2:2≤n
   case neg =>
    obtain rfl:n=1:=by omega
    have e:headN 1 x0 x1 x2=0:=by unfold headN;(repeat' split) <;> omega
    rw [e]
    clear e
    go_enter Tryz.func132,Tryz.ntmps132
    go_wp2
    go_quiet (fail)
    go_wp2
    go_ret
    exact ⟨rfl,⟨_,rfl⟩⟩
   obtain ⟨k1a,k1b⟩:=k1 n2
   have g1:decide ((1:Int)<(n:Int))=true:=decide_eq_true (by omega)
   by_cases c1:69<x1
   ·have t1:decide ((69:Int)<(x1:Int))=true:=decide_eq_true (by omega)
    have e:headN n x0 x1 x2=6:=by unfold headN;(repeat' split) <;> omega
    rw [e]
    clear e
    go_enter Tryz.func132,Tryz.ntmps132
    go_wp2
    go_ret
    exact ⟨rfl,Drw.refl _⟩
   have t1:decide ((69:Int)<(x1:Int))=false:=decide_eq_false (by omega)
   have d1:x1=0∨0<x1:=by omega
   rcases d1 with rfl|d1
   ·simp only [show ((0:Nat):Int)=0 from rfl] at *
    by_cases n3:3≤n
    case neg =>
     obtain rfl:n=2:=by omega
     have e:headN 2 x0 0 x2=0:=by unfold headN;(repeat' split) <;> omega
     rw [e]
     clear e
     go_enter Tryz.func132,Tryz.ntmps132
     go_wp2
     go_quiet (fail)
     go_wp2
     go_ret
     exact ⟨rfl,⟨_,rfl⟩⟩
    obtain ⟨k2a,k2b⟩:=k2 n3
    have g2:decide ((2:Int)<(n:Int))=true:=decide_eq_true (by omega)
    by_cases c2:70<x2
    ·have t2:decide ((70:Int)<(x2:Int))=true:=decide_eq_true (by omega)
     have e:headN n x0 0 x2=6:=by unfold headN;(repeat' split) <;> omega
     rw [e]
     clear e
     go_enter Tryz.func132,Tryz.ntmps132
     go_wp2
     go_quiet (fail)
     go_wp2
     go_ret
     exact ⟨rfl,⟨_,rfl⟩⟩
    have t2:decide ((70:Int)<(x2:Int))=false:=decide_eq_false (by omega)
    have d2:x2=0∨0<x2:=by omega
    rcases d2 with rfl|d2
    ·simp only [show ((0:Nat):Int)=0 from rfl] at *
     have e:headN n x0 0 0=0:=by unfold headN;(repeat' split) <;> omega
     rw [e]
     clear e
     go_enter Tryz.func132,Tryz.ntmps132
     go_wp2
     go_quiet (fail)
     go_wp2
     go_ret
     exact ⟨rfl,⟨_,rfl⟩⟩
    ·have s2:decide ((0:Int)<(x2:Int))=true:=decide_eq_true (by omega)
     have s3:((x2:Int)==0)=false:=by rw [beq_eq_false_iff_ne];omega
     have e:headN n x0 0 x2=6:=by unfold headN;(repeat' split) <;> omega
     rw [e]
     clear e
     go_enter Tryz.func132,Tryz.ntmps132
     go_wp2
     go_quiet (fail)
     go_wp2
     go_ret
     exact ⟨rfl,⟨_,rfl⟩⟩
   ·have s1:decide ((0:Int)<(x1:Int))=true:=decide_eq_true (by omega)
    have e:headN n x0 x1 x2=6:=by unfold headN;(repeat' split) <;> omega
    rw [e]
    clear e
    go_enter Tryz.func132,Tryz.ntmps132
    go_wp2
    go_ret
    exact ⟨rfl,Drw.refl _⟩
  ·have b32:bits .and .u8 (x0:Int) 32=0:=by rw [a32,hp];rfl
   have b16:bits .and .u8 (x0:Int) 16=16:=by rw [a16,hq];rfl
   clear a32 a16
   by_cases n2:2≤n
   case neg =>
    obtain rfl:n=1:=by omega
    have e:headN 1 x0 x1 x2=0:=by unfold headN;(repeat' split) <;> omega
    rw [e]
    clear e
    go_enter Tryz.func132,Tryz.ntmps132
    go_wp2
    go_quiet (fail)
    go_wp2
    go_ret
    exact ⟨rfl,⟨_,rfl⟩⟩
   obtain ⟨k1a,k1b⟩:=k1 n2
   have g1:decide ((1:Int)<(n:Int))=true:=decide_eq_true (by omega)
   by_cases c1:69<x1
   ·have t1:decide ((69:Int)<(x1:Int))=true:=decide_eq_true (by omega)
    have e:headN n x0 x1 x2=6:=by unfold headN;(repeat' split) <;> omega
    rw [e]
    clear e
    go_enter Tryz.func132,Tryz.ntmps132
    go_wp2
    go_ret
    exact ⟨rfl,Drw.refl _⟩
   have t1:decide ((69:Int)<(x1:Int))=false:=decide_eq_false (by omega)
   have d1:x1=0∨0<x1:=by omega
   rcases d1 with rfl|d1
   ·simp only [show ((0:Nat):Int)=0 from rfl] at *
    by_cases n3:3≤n
    case neg =>
     obtain rfl:n=2:=by omega
     have e:headN 2 x0 0 x2=0:=by unfold headN;(repeat' split) <;> omega
     rw [e]
     clear e
     go_enter Tryz.func132,Tryz.ntmps132
     go_wp2
     go_quiet (fail)
     go_wp2
     go_ret
     exact ⟨rfl,⟨_,rfl⟩⟩
    obtain ⟨k2a,k2b⟩:=k2 n3
    have g2:decide ((2:Int)<(n:Int))=true:=decide_eq_true (by omega)
    by_cases c2:70<x2
    ·have t2:decide ((70:Int)<(x2:Int))=true:=decide_eq_true (by omega)
     have e:headN n x0 0 x2=6:=by unfold headN;(repeat' split) <;> omega
     rw [e]
     clear e
     go_enter Tryz.func132,Tryz.ntmps132
     go_wp2
     go_quiet (fail)
     go_wp2
     go_ret
     exact ⟨rfl,⟨_,rfl⟩⟩
    have t2:decide ((70:Int)<(x2:Int))=false:=decide_eq_false (by omega)
    have d2:x2=0∨0<x2:=by omega
    rcases d2 with rfl|d2
    ·simp only [show ((0:Nat):Int)=0 from rfl] at *
     have e:headN n x0 0 0=0:=by unfold headN;(repeat' split) <;> omega
     rw [e]
     clear e
     go_enter Tryz.func132,Tryz.ntmps132
     go_wp2
     go_quiet (fail)
     go_wp2
     go_ret
     exact ⟨rfl,⟨_,rfl⟩⟩
    ·have s2:decide ((0:Int)<(x2:Int))=true:=decide_eq_true (by omega)
     have s3:((x2:Int)==0)=false:=by rw [beq_eq_false_iff_ne];omega
     have e:headN n x0 0 x2=0:=by unfold headN;(repeat' split) <;> omega
     rw [e]
     clear e
     go_enter Tryz.func132,Tryz.ntmps132
     go_wp2
     go_quiet (fail)
     go_wp2
     go_ret
     exact ⟨rfl,⟨_,rfl⟩⟩
   ·have s1:decide ((0:Int)<(x1:Int))=true:=decide_eq_true (by omega)
    by_cases n3:3≤n
    case neg =>
     obtain rfl:n=2:=by omega
     have e:headN 2 x0 x1 x2=0:=by unfold headN;(repeat' split) <;> omega
     rw [e]
     clear e
     go_enter Tryz.func132,Tryz.ntmps132
     go_wp2
     go_quiet (fail)
     go_wp2
     go_ret
     exact ⟨rfl,⟨_,rfl⟩⟩
    obtain ⟨k2a,k2b⟩:=k2 n3
    have g2:decide ((2:Int)<(n:Int))=true:=decide_eq_true (by omega)
    by_cases c2:70<x1+x2
    ·have t2:decide ((70:Int)<(x1:Int)+(x2:Int))=true:=decide_eq_true (by omega)
     have e:headN n x0 x1 x2=6:=by unfold headN;(repeat' split) <;> omega
     rw [e]
     clear e
     go_enter Tryz.func132,Tryz.ntmps132
     go_wp2
     go_quiet (fail)
     go_wp2
     go_ret
     exact ⟨rfl,⟨_,rfl⟩⟩
    have t2:decide ((70:Int)<(x1:Int)+(x2:Int))=false:=decide_eq_false (by omega)
    have d2:x2=0∨0<x2:=by omega
    rcases d2 with rfl|d2
    ·simp only [show ((0:Nat):Int)=0 from rfl] at *
     have t3:decide ((70:Int)<(x1:Int))=false:=decide_eq_false (by omega)
     have e:headN n x0 x1 0=6:=by unfold headN;(repeat' split) <;> omega
     rw [e]
     clear e
     go_enter Tryz.func132,Tryz.ntmps132
     go_wp2
     go_quiet (fail)
     go_wp2
     go_ret
     exact ⟨rfl,⟨_,rfl⟩⟩
    ·have s2:decide ((0:Int)<(x2:Int))=true:=decide_eq_true (by omega)
     have s3:((x2:Int)==0)=false:=by rw [beq_eq_false_iff_ne];omega
     have e:headN n x0 x1 x2=0:=by unfold headN;(repeat' split) <;> omega
     rw [e]
     clear e
     go_enter Tryz.func132,Tryz.ntmps132
     go_wp2
     go_quiet (fail)
     go_wp2
     go_ret
     exact ⟨rfl,⟨_,rfl⟩⟩
 ·rcases q0 with hq|hq
  ·have b32:bits .and .u8 (x0:Int) 32=32:=by rw [a32,hp];rfl
   have b16:bits .and .u8 (x0:Int) 16=0:=by rw [a16,hq];rfl
   clear a32 a16
   have e:headN n x0 x1 x2=6:=by unfold headN;(repeat' split) <;> omega
   rw [e]
   clear e
   go_enter Tryz.func132,Tryz.ntmps132
   go_wp2
   go_ret
   exact ⟨rfl,Drw.refl _⟩
  ·have b32:bits .and .u8 (x0:Int) 32=32:=by rw [a32,hp];rfl
   have b16:bits .and .u8 (x0:Int) 16=16:=by rw [a16,hq];rfl
   clear a32 a16
   by_cases n2:2≤n
   case neg =>
    obtain rfl:n=1:=by omega
    have e:headN 1 x0 x1 x2=0:=by unfold headN;(repeat' split) <;> omega
    rw [e]
    clear e
    go_enter Tryz.func132,Tryz.ntmps132
    go_wp2
    go_quiet (fail)
    go_wp2
    go_ret
    exact ⟨rfl,⟨_,rfl⟩⟩
   obtain ⟨k1a,k1b⟩:=k1 n2
   have g1:decide ((1:Int)<(n:Int))=true:=decide_eq_true (by omega)
   by_cases c1:69<x1
   ·have t1:decide ((69:Int)<(x1:Int))=true:=decide_eq_true (by omega)
    have e:headN n x0 x1 x2=6:=by unfold headN;(repeat' split) <;> omega
    rw [e]
    clear e
    go_enter Tryz.func132,Tryz.ntmps132
    go_wp2
    go_ret
    exact ⟨rfl,Drw.refl _⟩
   have t1:decide ((69:Int)<(x1:Int))=false:=decide_eq_false (by omega)
   have d1:x1=0∨0<x1:=by omega
   rcases d1 with rfl|d1
   ·simp only [show ((0:Nat):Int)=0 from rfl] at *
    by_cases n3:3≤n
    case neg =>
     obtain rfl:n=2:=by omega
     have e:headN 2 x0 0 x2=0:=by unfold headN;(repeat' split) <;> omega
     rw [e]
     clear e
     go_enter Tryz.func132,Tryz.ntmps132
     go_wp2
     go_quiet (fail)
     go_wp2
     go_ret
     exact ⟨rfl,⟨_,rfl⟩⟩
    obtain ⟨k2a,k2b⟩:=k2 n3
    have g2:decide ((2:Int)<(n:Int))=true:=decide_eq_true (by omega)
    by_cases c2:70<x2
    ·have t2:decide ((70:Int)<(x2:Int))=true:=decide_eq_true (by omega)
     have e:headN n x0 0 x2=6:=by unfold headN;(repeat' split) <;> omega
     rw [e]
     clear e
     go_enter Tryz.func132,Tryz.ntmps132
     go_wp2
     go_quiet (fail)
     go_wp2
     go_ret
     exact ⟨rfl,⟨_,rfl⟩⟩
    have t2:decide ((70:Int)<(x2:Int))=false:=decide_eq_false (by omega)
    have d2:x2=0∨0<x2:=by omega
    rcases d2 with rfl|d2
    ·simp only [show ((0:Nat):Int)=0 from rfl] at *
     have e:headN n x0 0 0=6:=by unfold headN;(repeat' split) <;> omega
     rw [e]
     clear e
     go_enter Tryz.func132,Tryz.ntmps132
     go_wp2
     go_quiet (fail)
     go_wp2
     go_ret
     exact ⟨rfl,⟨_,rfl⟩⟩
    ·have s2:decide ((0:Int)<(x2:Int))=true:=decide_eq_true (by omega)
     have s3:((x2:Int)==0)=false:=by rw [beq_eq_false_iff_ne];omega
     have e:headN n x0 0 x2=0:=by unfold headN;(repeat' split) <;> omega
     rw [e]
     clear e
     go_enter Tryz.func132,Tryz.ntmps132
     go_wp2
     go_quiet (fail)
     go_wp2
     go_ret
     exact ⟨rfl,⟨_,rfl⟩⟩
   ·have s1:decide ((0:Int)<(x1:Int))=true:=decide_eq_true (by omega)
    by_cases n3:3≤n
    case neg =>
     obtain rfl:n=2:=by omega
     have e:headN 2 x0 x1 x2=0:=by unfold headN;(repeat' split) <;> omega
     rw [e]
     clear e
     go_enter Tryz.func132,Tryz.ntmps132
     go_wp2
     go_quiet (fail)
     go_wp2
     go_ret
     exact ⟨rfl,⟨_,rfl⟩⟩
    obtain ⟨k2a,k2b⟩:=k2 n3
    have g2:decide ((2:Int)<(n:Int))=true:=decide_eq_true (by omega)
    by_cases c2:70<x1+x2
    ·have t2:decide ((70:Int)<(x1:Int)+(x2:Int))=true:=decide_eq_true (by omega)
     have e:headN n x0 x1 x2=6:=by unfold headN;(repeat' split) <;> omega
     rw [e]
     clear e
     go_enter Tryz.func132,Tryz.ntmps132
     go_wp2
     go_quiet (fail)
     go_wp2
     go_ret
     exact ⟨rfl,⟨_,rfl⟩⟩
    have t2:decide ((70:Int)<(x1:Int)+(x2:Int))=false:=decide_eq_false (by omega)
    have d2:x2=0∨0<x2:=by omega
    rcases d2 with rfl|d2
    ·simp only [show ((0:Nat):Int)=0 from rfl] at *
     have t3:decide ((70:Int)<(x1:Int))=false:=decide_eq_false (by omega)
     have e:headN n x0 x1 0=6:=by unfold headN;(repeat' split) <;> omega
     rw [e]
     clear e
     go_enter Tryz.func132,Tryz.ntmps132
     go_wp2
     go_quiet (fail)
     go_wp2
     go_ret
     exact ⟨rfl,⟨_,rfl⟩⟩
    ·have s2:decide ((0:Int)<(x2:Int))=true:=decide_eq_true (by omega)
     have s3:((x2:Int)==0)=false:=by rw [beq_eq_false_iff_ne];omega
     have e:headN n x0 x1 x2=0:=by unfold headN;(repeat' split) <;> omega
     rw [e]
     clear e
     go_enter Tryz.func132,Tryz.ntmps132
     go_wp2
     go_quiet (fail)
     go_wp2
     go_ret
     exact ⟨rfl,⟨_,rfl⟩⟩
theorem head_any (w:World) (B:Nat) (A:Option Addr) (c:Nat) (b:List UInt8) (hR:Rd w B 1 A b.length (u8s b)) :
 Calls Tryz.prog 132 #[.slice A b.length c] w fun y w'=>y=.returned (.int .i64 (headE b:Int))∧Drw w w':=by
 rw [headE_eq]
 cases b with
 | nil=>exact head_nil w A c
 | cons x t =>
   obtain ⟨a,rfl,hab,k0⟩:=hR.byte (k:=0) (by simp)
   rw [add_zero'] at k0
   have hl:∀ i,hd (x :: t) i<256:=fun i=>UInt8.toNat_lt _
   have hc:∀ i (h:i<(x :: t).length),w.cell? (a.add i)=some (.int .u8 ((hd (x :: t) i:Nat):Int)):=fun i h=>by
    obtain ⟨a',e,_,hx⟩:=hR.byte h
    injection e with e;subst e
    rw [hd_get _ _ h];exact hx
   exact head_some w a _ c _ _ _ (by simp) (hl 0) (hl 1) (hl 2) (by have:=hc 0 (by simp);rwa [add_zero'] at this)
    (fun h=>⟨hc 1 (by omega),by have:=hc 1 (by omega);rw [show (1:Nat)=0+1 from rfl,add_succ] at this;exact this⟩)
    (fun h=>⟨hc 2 (by omega),by have:=hc 2 (by omega);rw [show (2:Nat)=1+1 from rfl,add_succ] at this;exact this⟩)
end Go.Proofs.YtfhmaincnlaapaaGreat
