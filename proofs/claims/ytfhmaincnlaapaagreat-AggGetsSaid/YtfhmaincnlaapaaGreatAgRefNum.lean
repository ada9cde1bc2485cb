/- bushelref02.Num: words of 32 bits to a number. -/
import Derived.Test.YtfhmaincnlaapaaGreatAgFactLight
import Derived.Test.YtfhmaincnlaapaaGreatAgAggGet
import Derived.Test.YtfhmaincnlaapaaGreatAgNumSums
import Derived.Test.YtfhmaincnlaapaaGreatAgNumMul
namespace Go.Proofs.YtfhmaincnlaapaaGreat
open Go.ChangeShapes Go.WideShapes Go.ChangeAt Go.RowKit
set_option linter.unusedVariables false
theorem nat01_big (w:World):Calls Tryz.prog 114 #[.int .u64 4294967296] w fun y w'=>RetNum w ((4294967296:Nat):Int) y w':=nat01_any w 4294967296 (by decide)
theorem NumV.put {w:World} {g B n c n0 c0:Nat} {b b0:Bool} {A A0:Option Addr} {z:Int} (h:NumV w B b A n c z) (hk:Blk w g 134 #[.bool b0,.slice A0 n0 c0]) (hB:B≤w.heap.size) :
 NumV ((w.setCell ⟨g,0,none⟩ (.bool b)).setCell ⟨g,1,none⟩ (.slice A n c)) ((w.setCell ⟨g,0,none⟩ (.bool b)).setCell ⟨g,1,none⟩ (.slice A n c)).heap.size b A n c z∧Blk ((w.setCell ⟨g,0,none⟩ (.bool b)).setCell ⟨g,1,none⟩ (.slice A n c)) g 134 #[.bool b,.slice A n c]:=by
 have h1:=h.rd.farB hk (i64n_not_bool _ _ _ _ _) 0 (.bool b)
 have h2:=h1.farB (hk.set_ 0 (.bool b)) (i64n_not_bool _ _ _ _ _) 1 (.slice A n c)
 exact ⟨⟨h.sgn,h.len,h2.more (by simpa using hB),h.hc,h.hm⟩,(hk.set_ 0 (.bool b)).set_ 1 (.slice A n c)⟩
def NumRel (w wr:World) (z:Int):Prop:=∃ b A n c,Blk wr (w.heap.size+1) 134 #[.bool b,.slice A n c]∧Blk wr w.heap.size 134 #[.bool false,.slice none 0 0]∧NumV wr wr.heap.size b A n c z∧Below w.heap.size w wr
set_option maxRecDepth 20000 in
set_option maxHeartbeats 4000000 in
theorem num02_any (w:World) (B:Nat) (A:Option Addr) (c:Nat) (L:List Nat) (hR:Rd w B 1 A L.length (u32n L)) (hd:∀ d ∈ L,d<4294967296) (hn:L.length≤1000) (hB:B≤w.heap.size) :
 Calls Tryz.prog 137 #[.slice A L.length c] w fun y w'=>RetNum w ((vw L:Nat):Int) y w':=by
 have HR:=Lib.hid hR;have HD:=Lib.hid hd
 clear hR hd
 go_enter Tryz.func137,Tryz.ntmps137
 go_wp2
 go_loopg [4] L.length (fun g i wr=>∃ k:Nat,k≤L.length∧g=k∧i=.int .i64 ((k:Int)-1)∧NumRel w wr ((vw (L.drop k):Nat):Int))
 case atStart =>
  refine ⟨L.length,Nat.le_refl _,rfl,by go_num,?_⟩
  rw [List.drop_length]
  have K1:=Blk.new (w.alloc (.cells #[.bool false,.slice none 0 0] 134)) 134 #[.bool false,.slice none 0 0]
  rw [show (w.alloc (.cells #[.bool false,.slice none 0 0] 134)).heap.size=w.heap.size+1 from by simp] at K1
  exact ⟨false,none,0,0,K1,(Blk.new w 134 #[.bool false,.slice none 0 0]).alloc _,NumV.zero _ _,belA (belA (belR w) _) _⟩
 case round =>
  obtain ⟨_,hk,rfl,rfl,b,A1,n1,c1,hkk,hk0,hv,hb⟩:=hrel
  have x0:wr.cell? ⟨w.heap.size+1,0,none⟩=some (.bool b):=hkk.cell 0
  have x1:wr.cell? ⟨w.heap.size+1,1,none⟩=some (.slice A1 n1 c1):=hkk.cell 1
  cases gk with
  | zero =>
    rw [List.drop_zero] at hv
    have r0:wr.cell? ⟨w.heap.size,0,none⟩=some (.bool false):=hk0.cell 0;have r1:wr.cell? ⟨w.heap.size,1,none⟩=some (.slice none 0 0):=hk0.cell 1;have f0:wr.frozen? ⟨w.heap.size,0,none⟩=false:=hk0.frozen 0;have f1:wr.frozen? ⟨w.heap.size,1,none⟩=false:=hk0.frozen 1
    have HV:=Lib.hid hv;have HK:=Lib.hid hk0;have HB:=Lib.hid hb
    clear hv hk0 hb hkk
    simp only [show ((0:Nat):Int)-1=-1 from rfl]
    go_wp2
    exact bodyPost_ret (v:=.agg #[.bool b,.slice A1 n1 c1]) (by simp [results,Tryz.results137,go_sem, *]) rfl (RetNum.store HV.out HK.out HB.out (Nat.le_refl _) (Nat.le_refl _))
  | succ k =>
    obtain ⟨a,rfl,hab,xx⟩:=(HR.out.below (hb.mono hB)).u32n (k:=k) (by omega)
    have x2:wr.cell? (a.add k)=some (.int .u32 ((dg L k:Nat):Int)):=xx
    clear xx
    have hdk:=dg_ltW L k HD.out
    have hv1:=vd_dropW L k
    have hbt:=vw_bits (L.drop (k+1)) (fun d h=>HD.out d (List.mem_of_mem_drop h))
    rw [List.length_drop] at hbt
    have hmt:=mul_bits hbt
    obtain ⟨V,hV⟩:∃ V,vw (L.drop (k+1))=V:=⟨_,rfl⟩
    rw [hV] at hv hv1 hbt hmt
    obtain ⟨D,hD⟩:∃ D,dg L k=D:=⟨_,rfl⟩
    rw [hD] at x2 hdk hv1
    have hn1:n1≤1000000:=by have:=hv.len_le (k:=32*(L.length-(k+1))) (by rw [Int.natAbs_natCast];exact hbt);omega
    have wD:IntKind.u64.wrap (D:Int)=(D:Int):=by rw [IntKind.wrap_u64];omega
    have e3:((k+1:Nat):Int)-1=(k:Int):=by omega
    have q1:(0:Int)≤(k:Int):=by omega
    have q2:(k:Int)<(L.length:Int):=by omega
    have HBIG:=Lib.hid (fun W=>nat01_big W)
    have HND:=Lib.hid (fun W=>nat01_any W D (by omega))
    have HK:=Lib.hid hkk.drew;have HK0:=Lib.hid hk0.drew;have HV:=Lib.hid (hv.keep (belR wr).drew (Nat.le_refl _));have HB:=Lib.hid hb;have HV1:=Lib.hid hv1;have HMT:=Lib.hid hmt
    have hlt:=hkk.lt
    rw [e3]
    clear hkk hk0 hv hb hv1 hbt hmt hV hD e3 HR HD
    go_wp2_with fail
    go_region_with (first
     | (go_at_call 114;(with_reducible refine (HBIG.out _).mono ?_);rintro y w1 ⟨b2,A2,n2,c2,rfl,hv2,hb2⟩;have K1:=HK.out.below hb2 hlt;have y0:w1.cell? ⟨w.heap.size+1,0,none⟩=some (.bool b):=K1.cell 0;have y1:w1.cell? ⟨w.heap.size+1,1,none⟩=some (.slice A1 n1 c1):=K1.cell 1;have y2:=(hb2.cell (p:=a.add k) (by rw [block_add];exact Nat.lt_of_lt_of_le hab (by show B≤wr.heap.size;omega))).trans x2;have HM:=Lib.hid (mul01_any w1 w1.heap.size b A1 n1 c1 _ b2 A2 n2 c2 _ (HV.out.keep hb2 hb2.size) hv2 (Nat.le_refl _) hn1 (by have:=hv2.len_le (k:=33) (by decide);omega));have HB2:=Lib.hid hb2;have HK1:=Lib.hid K1;clear hv2 hb2 K1)
     | (go_at_call 186;(with_reducible refine HM.out.mono ?_);rintro y w2 ⟨b3,A3,n3,c3,rfl,hv3,hb3⟩;have z2:=(hb3.cell (p:=a.add k) (by have:=HB2.out.size;rw [block_add];exact Nat.lt_of_lt_of_le hab (by have:wr.drew.heap.size=wr.heap.size:=rfl;omega))).trans y2;have HV3:=Lib.hid hv3;have HB3:=Lib.hid (HB2.out.trans (hb3.mono HB2.out.size));clear hv3 hb3)
     | (go_at_call 114;(with_reducible refine (HND.out _).mono ?_);rintro y w3 ⟨b4,A4,n4,c4,rfl,hv4,hb4⟩;have HA:=Lib.hid (add01_any w3 w3.heap.size b3 A3 n3 c3 _ b4 A4 n4 c4 _ (HV3.out.keep hb4 hb4.size) hv4 (Nat.le_refl _) (by have:=HV3.out.len_le (by rw [← Int.natCast_mul,Int.natAbs_natCast];exact HMT.out);omega) (by have:=hv4.len_le (k:=64) (by rw [Int.natAbs_natCast];omega);omega));have HB4:=Lib.hid (HB3.out.trans (hb4.mono HB3.out.size));clear hv4 hb4)
     | (go_at_call 185;(with_reducible refine HA.out.mono ?_);rintro y w4 ⟨b5,A5,n5,c5,rfl,hv5,hb5⟩;have hb6:=HB4.out.trans (hb5.mono HB4.out.size);have hk6:=HK.out.below hb6 hlt;have hk7:=HK0.out.below hb6 (by have:wr.drew.heap.size=wr.heap.size:=rfl;omega);have g0:w4.frozen? ⟨w.heap.size+1,0,none⟩=false:=hk6.frozen 0;have g1:w4.frozen? ⟨w.heap.size+1,1,none⟩=false:=hk6.frozen 1;have t0:w4.cell? ⟨w.heap.size+1,0,none⟩=some (.bool b):=hk6.cell 0;have t1:w4.cell? ⟨w.heap.size+1,1,none⟩=some (.slice A1 n1 c1):=hk6.cell 1;have HV5:=Lib.hid hv5;have HK6:=Lib.hid hk6;have HK7:=Lib.hid hk7;have HB6:=Lib.hid ((belD HB.out 1).trans (hb6.mono (by have:wr.drew.heap.size=wr.heap.size:=rfl;have:=HB.out.size;omega)));clear hv5 hb6 hk6 hk7 hb5))
    all_goals
     have hz:(V:Int)*((4294967296:Nat):Int)+(D:Int)=((vw (L.drop k):Nat):Int):=by rw [HV1.out];omega
     have hp:=(hz ▸ HV5.out).put HK6.out (Nat.le_refl _)
     have hk9:=(HK7.out.far (p:=⟨w.heap.size+1,0,none⟩) (by simp only [ne_eq];omega) (.bool b5)).far (p:=⟨w.heap.size+1,1,none⟩) (by simp only [ne_eq];omega) (.slice A5 n5 c5)
     have hb9:=(HB6.out.setCell (p:=⟨w.heap.size+1,0,none⟩) (Nat.le_succ _) (.bool b5)).setCell (p:=⟨w.heap.size+1,1,none⟩) (Nat.le_succ _) (.slice A5 n5 c5)
     have HP:=Lib.hid hp;have HK9:=Lib.hid hk9;have HB9:=Lib.hid hb9
     clear hz hp hk9 hb9
     go_wp2
     go_roundg k
     case measure=>omega
     case rel=>exact ⟨k,by omega,rfl,by go_num,b5,A5,n5,c5,HP.out.2,HK9.out,HP.out.1,HB9.out⟩
end Go.Proofs.YtfhmaincnlaapaaGreat
