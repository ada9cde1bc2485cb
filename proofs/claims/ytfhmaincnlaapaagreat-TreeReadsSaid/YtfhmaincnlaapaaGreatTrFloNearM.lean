/- What bushelref03.Nearest finds: the unit and the digits, in plain Lean; below, for both its cases. -/
import Derived.Test.YtfhmaincnlaapaaGreatTrGetFWalks
import Derived.Test.YtfhmaincnlaapaaGreatTrRefCheck
import Derived.Test.YtfhmaincnlaapaaGreatTrNumFits
import Derived.Test.YtfhmaincnlaapaaGreatTrNumDiv
namespace Go.Proofs.YtfhmaincnlaapaaGreat
open Go.ChangeShapes Go.WideShapes Go.ChangeAt Go.RowKit
set_option linter.unusedVariables false
theorem p2_natAbs (q:Nat):((p2 q:Nat):Int).natAbs<2^(q+1):=by
 rw [Int.natAbs_natCast];unfold p2;exact Nat.pow_lt_pow_right (by decide) (by omega)
theorem p2_dbl (q:Nat):((p2 q:Nat):Int)*((p2 q:Nat):Int)=((p2 (q+q):Nat):Int):=by
 rw [←Int.natCast_mul];unfold p2;rw [←Nat.pow_add]
theorem p2_dbl1 (q:Nat):((p2 (q+q):Nat):Int)*2=((p2 (q+q+1):Nat):Int):=by
 unfold p2;rw [Nat.pow_succ];omega
theorem p2_zero:((p2 0:Nat):Int)=((1:Nat):Int):=rfl
set_option maxRecDepth 20000 in
set_option maxHeartbeats 8000000 in
theorem power01_any (n:Nat):∀ (w:World) (B:Nat) (b:Bool) (A:Option Addr) (k c:Nat),n≤100000→NumV w B b A k c 2→B≤w.heap.size →
 Calls Tryz.prog 211 #[.agg #[.bool b,.slice A k c],.int .i64 (n:Int)] w fun y w'=>RetNum w ((p2 n:Nat):Int) y w':=by
 induction n using Nat.strongRecOn with
 | ind n ih =>
   intro w B b A k c hn hv hB
   have K2:=Blk.new (w.alloc (.cells #[.bool b,.slice A k c] 134)) 134 #[.bool false,.slice none 0 0]
   have K1:=(Blk.new w 134 #[.bool b,.slice A k c]).alloc (.cells #[.bool false,.slice none 0 0] 134)
   have hz:(w.alloc (.cells #[.bool b,.slice A k c] 134)).heap.size=w.heap.size+1:=by simp
   rw [hz] at K2
   have hw:Below w.heap.size w ((w.alloc (.cells #[.bool b,.slice A k c] 134)).alloc (.cells #[.bool false,.slice none 0 0] 134)):=belA (belA (belR w) _) _
   have hzz:((w.alloc (.cells #[.bool b,.slice A k c] 134)).alloc (.cells #[.bool false,.slice none 0 0] 134)).heap.size=w.heap.size+1+1:=by simp
   by_cases h0:n=0
   ·subst h0
    have HK:=Lib.hid K2;have HW:=Lib.hid hw;have HZ:=Lib.hid hzz
    have HN:=Lib.hid (fun W=>nat01_one W)
    clear K1 K2 hw hz hzz ih
    simp only [show ((0:Nat):Int)=0 from rfl]
    go_enter Tryz.func211,Tryz.ntmps211
    go_wp2_with fail
    (with_reducible refine (HN.out _).mono ?_);rintro y w4 ⟨bd,Ad,nd_,cd,rfl,hvd,hbd⟩
    have hk4:=HK.out.below hbd (by have:=HZ.out;omega)
    have hb4:Below w.heap.size w w4:=HW.out.trans (hbd.mono (by have:=HZ.out;omega))
    have r0:w4.cell? ⟨w.heap.size+1,0,none⟩=some (.bool false):=hk4.cell 0;have r1:w4.cell? ⟨w.heap.size+1,1,none⟩=some (.slice none 0 0):=hk4.cell 1;have f0:w4.frozen? ⟨w.heap.size+1,0,none⟩=false:=hk4.frozen 0;have f1:w4.frozen? ⟨w.heap.size+1,1,none⟩=false:=hk4.frozen 1
    have HVX:=Lib.hid hvd;have HK4:=Lib.hid hk4;have HB4:=Lib.hid hb4
    clear hvd hk4 hb4 hbd
    go_wp2
    refine bodyPost_ret (v:=.agg #[.bool bd,.slice Ad nd_ cd]) (by simp [results,Tryz.results211,go_sem, *]) rfl ?_
    rw [p2_zero]
    exact RetNum.store HVX.out HK4.out HB4.out (by omega) (Nat.le_refl _)
   ·obtain ⟨q,r,hq,hr⟩:∃ q r,n=q+q+r∧r<2:=⟨n/2,n%2,by omega,by omega⟩
    have hih:=ih q (by omega)
    have t1:decide ((n:Int)≤0)=false:=decide_eq_false (by omega)
    have e1:(n:Int)/2=(q:Int):=by omega
    have e2:(n:Int)%2=(r:Int):=by omega
    have HIH:=Lib.hid (fun W hW=>hih W B b A k c (by omega) (hv.keep hW (Nat.le_refl _)) (Nat.le_trans hB hW.size):∀ W,Below B w W→_)
    have hpa:=p2_natAbs q
    have hpa2:=p2_natAbs (q+q)
    have HK1:=Lib.hid K1;have HK2:=Lib.hid K2;have HW:=Lib.hid hw;have HZ:=Lib.hid hzz;have HV:=Lib.hid hv
    have hnb:(n:Int)≤100000:=by omega
    have hn0:(0:Int)<(n:Int):=by omega
    have HQ:=Lib.hid hq
    clear K1 K2 hw hz hzz ih hih hv h0 hq
    go_enter Tryz.func211,Tryz.ntmps211
    go_wp2_with fail
    (with_reducible refine (HIH.out _ (HW.out.mono hB)).mono ?_);rintro y w1 ⟨bh,Ah,nh,ch,rfl,hvh,hbh⟩
    have hz1:=hbh.size
    have K1':=HK1.out.below hbh (by have:=HZ.out;omega)
    have K2':=HK2.out.below hbh (by have:=HZ.out;omega)
    have hb1:Below w.heap.size w w1:=HW.out.trans (hbh.mono (by have:=HZ.out;omega))
    have hva:NumV w1 w1.heap.size b A k c 2:=HV.out.keep (hb1.mono hB) (by have:=hb1.size;omega)
    obtain ⟨W5,hW5⟩:∃ W5,W5=w1.alloc (.cells #[.bool bh,.slice Ah nh ch] 134):=⟨_,rfl⟩
    have hz5:W5.heap.size=w1.heap.size+1:=by rw [hW5];simp
    have k5:Blk W5 w1.heap.size 134 #[.bool bh,.slice Ah nh ch]:=by rw [hW5];exact Blk.new w1 _ _
    have k1:Blk W5 w.heap.size 134 #[.bool b,.slice A k c]:=by rw [hW5];exact K1'.alloc _
    have k2:Blk W5 (w.heap.size+1) 134 #[.bool false,.slice none 0 0]:=by rw [hW5];exact K2'.alloc _
    have hb5:Below w1.heap.size w1 W5:=by rw [hW5];exact belA (belR w1) _
    have hnh:nh≤1000000:=by have:=hvh.len_le hpa;omega
    have M1:=Lib.hid (mul01_any W5.drew w1.heap.size bh Ah nh ch ((p2 q:Nat):Int) bh Ah nh ch ((p2 q:Nat):Int) (hvh.keep hb5.drew (Nat.le_refl _)) (hvh.keep hb5.drew (Nat.le_refl _)) (by show w1.heap.size≤W5.heap.size;omega) hnh hnh)
    have M1':=Lib.hid (mul01_any W5 w1.heap.size bh Ah nh ch ((p2 q:Nat):Int) bh Ah nh ch ((p2 q:Nat):Int) (hvh.keep hb5 (Nat.le_refl _)) (hvh.keep hb5 (Nat.le_refl _)) (by omega) hnh hnh)
    have HVA:=Lib.hid (hva.keep hb5 (Nat.le_refl _));have HK5:=Lib.hid k5;have HKA:=Lib.hid k1;have HKR:=Lib.hid k2;have HZ5:=Lib.hid hz5
    have HBW:=Lib.hid (show Below w.heap.size w W5 from hb1.trans (hb5.mono hb1.size))
    have hkn:k≤1000000:=by have:=hva.len_le (k:=2) (by decide);omega
    have HZ1:=Lib.hid (show w.heap.size+1+1≤w1.heap.size by have:=HZ.out;omega)
    have HW5:=Lib.hid hW5
    have c0:=k5.cell 0;have c1:=k5.cell 1;have d0:=k1.cell 0;have d1:=k1.cell 1
    simp at c0 c1 d0 d1
    clear k5 k1 k2 K1' K2' hb1 hva hb5 hvh hbh hz5 hz1 hW5
    rcases (show r=0∨r=1 by omega) with rfl|rfl
    ·simp only [show ((0:Nat):Int)=0 from rfl] at e2
     go_wp2_with fail
     rw [←HW5.out]
     (with_reducible refine M1'.out.mono ?_);rintro y w6 ⟨b6,A6,n6,c6,rfl,hv6,hb6⟩
     have hk3:=HKR.out.below hb6 (by have:=HZ5.out;have:=HZ1.out;omega)
     have r0:w6.cell? ⟨w.heap.size+1,0,none⟩=some (.bool false):=hk3.cell 0
     have r1:w6.cell? ⟨w.heap.size+1,1,none⟩=some (.slice none 0 0):=hk3.cell 1
     have f0:w6.frozen? ⟨w.heap.size+1,0,none⟩=false:=hk3.frozen 0
     have f1:w6.frozen? ⟨w.heap.size+1,1,none⟩=false:=hk3.frozen 1
     rw [p2_dbl,show q+q=n from by have:=HQ.out;omega] at hv6
     have HK3:=Lib.hid hk3;have HV6:=Lib.hid hv6;have HB6:=Lib.hid (belT HBW.out hb6)
     clear hk3 hv6 hb6
     go_wp2
     exact bodyPost_ret (v:=.agg #[.bool b6,.slice A6 n6 c6]) (by simp [results,Tryz.results211,go_sem, *]) rfl (RetNum.store HV6.out HK3.out HB6.out (by omega) (Nat.le_refl _))
    ·simp only [show ((1:Nat):Int)=1 from rfl] at e2
     go_wp2_with fail
     rw [←HW5.out]
     have HS0:Hid (W5.drew.cell? ⟨w1.heap.size,0,none⟩=some (.bool bh)∧W5.drew.cell? ⟨w1.heap.size,1,none⟩=some (.slice Ah nh ch)∧W5.drew.cell? ⟨w.heap.size,0,none⟩=some (.bool b)∧W5.drew.cell? ⟨w.heap.size,1,none⟩=some (.slice A k c)):=Lib.hid ⟨c0,c1,d0,d1⟩
     go_region_held (fun W=>W.cell? ⟨w1.heap.size,0,none⟩=some (.bool bh)∧W.cell? ⟨w1.heap.size,1,none⟩=some (.slice Ah nh ch)∧W.cell? ⟨w.heap.size,0,none⟩=some (.bool b)∧W.cell? ⟨w.heap.size,1,none⟩=some (.slice A k c)) (first|(with_reducible exact HS0.out)|(exact hk6)|(exact hk7)|(refine ⟨?_,?_,?_,?_⟩<;>(rw [World.cell?_setCell_far _ _ _ _ (by simp only [ne_eq];have:=HZ1.out;omega),World.cell?_setCell_far _ _ _ _ (by simp only [ne_eq];have:=HZ1.out;omega)];first|exact hk7.1|exact hk7.2.1|exact hk7.2.2.1|exact hk7.2.2.2))) (first
      | (go_at_call 186;(with_reducible refine M1.out.mono ?_);rintro y w6 ⟨b6,A6,n6,c6,rfl,hv6,hb6⟩;have k5':=HK5.out.drew.below hb6 (by show w1.heap.size<W5.heap.size;have:=HZ5.out;omega);have ka':=HKA.out.drew.below hb6 (by show w.heap.size<W5.heap.size;have:=HZ5.out;have:=HZ1.out;omega);have hk6:w6.cell? ⟨w1.heap.size,0,none⟩=some (.bool bh)∧w6.cell? ⟨w1.heap.size,1,none⟩=some (.slice Ah nh ch)∧w6.cell? ⟨w.heap.size,0,none⟩=some (.bool b)∧w6.cell? ⟨w.heap.size,1,none⟩=some (.slice A k c):=⟨k5'.cell 0,k5'.cell 1,ka'.cell 0,ka'.cell 1⟩;have HB56:=Lib.hid ((belR W5).drew.trans hb6);rw [p2_dbl] at hv6;have hn6:n6≤1000000:=(by have:=hv6.len_le hpa2;omega);have M2:=Lib.hid (mul01_any w6 w6.heap.size b6 A6 n6 c6 _ b A k c 2 hv6 (HVA.out.keep (HB56.out.mono (by have:=HZ5.out;omega)) (by have:=HZ5.out;have:=HB56.out.size;omega)) (Nat.le_refl _) hn6 hkn);have HK56:=Lib.hid k5';have HKA6:=Lib.hid ka';clear k5' ka' hv6 hb6)
      | (go_at_call 186;(with_reducible refine M2.out.mono ?_);rintro y w7 ⟨b7,A7,n7,c7,rfl,hv7,hb7⟩;have k5':=HK56.out.below hb7 HK56.out.lt;have ka':=HKA6.out.below hb7 HKA6.out.lt;have hk7:w7.cell? ⟨w1.heap.size,0,none⟩=some (.bool bh)∧w7.cell? ⟨w1.heap.size,1,none⟩=some (.slice Ah nh ch)∧w7.cell? ⟨w.heap.size,0,none⟩=some (.bool b)∧w7.cell? ⟨w.heap.size,1,none⟩=some (.slice A k c):=⟨k5'.cell 0,k5'.cell 1,ka'.cell 0,ka'.cell 1⟩;have HB57:=Lib.hid (HB56.out.trans (hb7.mono HB56.out.size));have hk3:=HKR.out.below HB57.out (by have:=HZ5.out;have:=HZ1.out;omega);have r0:w7.cell? ⟨w.heap.size+1,0,none⟩=some (.bool false):=hk3.cell 0;have r1:w7.cell? ⟨w.heap.size+1,1,none⟩=some (.slice none 0 0):=hk3.cell 1;have f0:w7.frozen? ⟨w.heap.size+1,0,none⟩=false:=hk3.frozen 0;have f1:w7.frozen? ⟨w.heap.size+1,1,none⟩=false:=hk3.frozen 1;have HK3:=Lib.hid hk3;have HV7:=Lib.hid hv7;clear k5' ka' hv7 hb7 hk3))
     all_goals
      have hv7:=HV7.out
      rw [p2_dbl1,show q+q+1=n from by have:=HQ.out;omega] at hv7
      have HV8:=Lib.hid hv7
      have HB7:=Lib.hid (HBW.out.trans (HB57.out.mono HBW.out.size))
      clear hv7
      go_wp2
      exact bodyPost_ret (v:=.agg #[.bool b7,.slice A7 n7 c7]) (by simp [results,Tryz.results211,go_sem, *]) rfl (RetNum.store HV8.out HK3.out HB7.out (by omega) (Nat.le_refl _))
set_option maxRecDepth 20000 in
theorem two01_any (w:World) (n:Nat) (hn:n≤100000):Calls Tryz.prog 197 #[.int .i64 (n:Int)] w fun y w'=>RetNum w ((p2 n:Nat):Int) y w':=by
 have HK:=Lib.hid (Blk.new w 134 #[.bool false,.slice none 0 0])
 have HN:=Lib.hid (fun W=>nat01_two W)
 go_enter Tryz.func197,Tryz.ntmps197
 go_wp2_with fail
 (with_reducible refine (HN.out _).mono ?_);rintro y w4 ⟨bd,Ad,nd_,cd,rfl,hvd,hbd⟩
 have HP:=Lib.hid (power01_any n w4 w4.heap.size bd Ad nd_ cd hn hvd (Nat.le_refl _))
 have HB4:=Lib.hid ((belA (belR w) (.cells #[.bool false,.slice none 0 0] 134)).trans (hbd.mono (by simp)))
 have HK4:=Lib.hid (HK.out.below hbd (by simp))
 clear hvd hbd
 go_wp2_with fail
 (with_reducible refine HP.out.mono ?_);rintro y w7 ⟨b7,A7,n7,c7,rfl,hv7,hb7⟩
 have hk3:=HK4.out.below hb7 (by have:=HK4.out.lt;omega)
 have r0:w7.cell? ⟨w.heap.size,0,none⟩=some (.bool false):=hk3.cell 0
 have r1:w7.cell? ⟨w.heap.size,1,none⟩=some (.slice none 0 0):=hk3.cell 1
 have f0:w7.frozen? ⟨w.heap.size,0,none⟩=false:=hk3.frozen 0
 have f1:w7.frozen? ⟨w.heap.size,1,none⟩=false:=hk3.frozen 1
 have HK3:=Lib.hid hk3;have HV7:=Lib.hid hv7;have HB7:=Lib.hid (belT HB4.out hb7)
 clear hk3 hv7 hb7
 go_wp2
 exact bodyPost_ret (v:=.agg #[.bool b7,.slice A7 n7 c7]) (by simp [results,Tryz.results197,go_sem, *]) rfl (RetNum.store HV7.out HK3.out HB7.out (Nat.le_refl _) (Nat.le_refl _))
set_option linter.unusedSimpArgs false
def RetIs (w:World) (b:Bool) (y:Ending) (w':World):Prop:=y=.returned (.bool b)∧Below w.heap.size w w'
theorem cmp_lt0 (a b:Nat):decide (cmpZ (a:Int) (b:Int)<0)=decide (a<b):=by
 by_cases h:a<b
 ·rw [cmp_lt h,decide_eq_true h];rfl
 ·have:=cmp_ge0 h
  rw [decide_eq_false h];simpa using this
theorem p2_len {d:Nat} {w:World} {B n c:Nat} {b:Bool} {A:Option Addr} (h:NumV w B b A n c ((p2 d:Nat):Int)):n≤d+1 :=
 h.len_le (p2_natAbs d)
set_option maxRecDepth 20000 in
set_option maxHeartbeats 4000000 in
theorem below_ge (w:World) (B:Nat) (A1:Option Addr) (n1 c1 p:Nat) (A2:Option Addr) (n2 c2 q:Nat) (e k:Int) (d:Nat) (hd:k-e=(d:Int)) (h1:NumV w B false A1 n1 c1 (p:Int)) (h2:NumV w B false A2 n2 c2 (q:Int)) (hB:B≤w.heap.size) (hn1:n1≤100000) (hn2:n2≤100000) (hdd:d≤90000) (he:-100000≤e∧e≤100000) :
 Calls Tryz.prog 195 #[.agg #[.bool false,.slice A1 n1 c1],.agg #[.bool false,.slice A2 n2 c2],.int .i64 e,.int .i64 k] w fun y w'=>RetIs w (decide (p<q*p2 d)) y w':=by
 obtain ⟨W0,hW0⟩:∃ W0,W0=(w.alloc (.cells #[.bool false,.slice A1 n1 c1] 134)).alloc (.cells #[.bool false,.slice A2 n2 c2] 134):=⟨_,rfl⟩
 have hw:Below w.heap.size w W0:=by rw [hW0];exact belA (belA (belR w) _) _
 have k1:Blk W0 w.heap.size 134 #[.bool false,.slice A1 n1 c1]:=by rw [hW0];exact (Blk.new w _ _).alloc _
 have k2:Blk W0 (w.heap.size+1) 134 #[.bool false,.slice A2 n2 c2]:=by
  rw [hW0];have:=Blk.new (w.alloc (.cells #[.bool false,.slice A1 n1 c1] 134)) 134 #[.bool false,.slice A2 n2 c2]
  simpa using this
 have a0:=k1.cell 0;have a1:=k1.cell 1;have b0:=k2.cell 0;have b1:=k2.cell 1
 simp at a0 a1 b0 b1
 have l1:=k1.lt;have l2:=k2.lt
 have H1:=Lib.hid (fun W (hb:Below w.heap.size w W)=>h1.keep (hb.mono hB) (Nat.le_trans hB hb.size):∀ W,Below w.heap.size w W→NumV W W.heap.size false A1 n1 c1 (p:Int))
 have H2:=Lib.hid (fun W (hb:Below w.heap.size w W)=>h2.keep (hb.mono hB) (Nat.le_trans hB hb.size):∀ W,Below w.heap.size w W→NumV W W.heap.size false A2 n2 c2 (q:Int))
 have HTW:=Lib.hid (fun W=>two01_any W d (by omega))
 have HW0:=Lib.hid hW0;have HBW:=Lib.hid hw
 have wd:IntKind.i64.wrap (d:Int)=(d:Int):=IntWalk.i64_in _ (by omega)
 have gk:decide (k≥e)=true:=decide_eq_true (by omega)
 clear hW0 hw k1 k2 h1 h2
 go_enter Tryz.func195,Tryz.ntmps195
 go_upto_region 2 with (fail)
 rw [←HW0.out]
 have HKP:Hid (∀ W,Below W0.heap.size W0 W→W.cell? ⟨w.heap.size,0,none⟩=some (.bool false)∧W.cell? ⟨w.heap.size,1,none⟩=some (.slice A1 n1 c1)∧W.cell? ⟨w.heap.size+1,0,none⟩=some (.bool false)∧W.cell? ⟨w.heap.size+1,1,none⟩=some (.slice A2 n2 c2)):=Lib.hid fun W hb=>⟨(hb.cell (p:=⟨w.heap.size,0,none⟩) (by simp only;omega)).trans a0,(hb.cell (p:=⟨w.heap.size,1,none⟩) (by simp only;omega)).trans a1,(hb.cell (p:=⟨w.heap.size+1,0,none⟩) (by simp only;omega)).trans b0,(hb.cell (p:=⟨w.heap.size+1,1,none⟩) (by simp only;omega)).trans b1⟩
 clear a0 a1 b0 b1
 refine wp_region_held_drew (S:=(fun W=>W.cell? ⟨w.heap.size,0,none⟩=some (.bool false)∧W.cell? ⟨w.heap.size,1,none⟩=some (.slice A1 n1 c1)∧W.cell? ⟨w.heap.size+1,0,none⟩=some (.bool false)∧W.cell? ⟨w.heap.size+1,1,none⟩=some (.slice A2 n2 c2))) (by kernel_rfl) (HKP.out _ (belR W0).drew) (fun hHeld=>?_)
 refine rh_take 0 (some 12) (v:=?_) rfl rfl (by kernel_rfl) (by kernel_rfl) (by kernel_rfl) (by kernel_rfl) (fun _ _ _ h=>h) hHeld ?_ ?_
 rotate_left
 ·(intro w hSw;(try dsimp only at hSw);go_simp;try with_reducible rfl)
 try simp only [Act.put,List.setIfInBounds_toArray,List.set_cons_zero,List.set_cons_succ]
 refine rh_take 1 (some 13) (v:=?_) rfl rfl (by kernel_rfl) (by kernel_rfl) (by kernel_rfl) (by kernel_rfl) (fun _ _ _ h=>h) hHeld ?_ ?_
 rotate_left
 ·(intro w hSw;(try dsimp only at hSw);go_simp;try with_reducible rfl)
 try simp only [Act.put,List.setIfInBounds_toArray,List.set_cons_zero,List.set_cons_succ]
 refine rh_take 2 (some 14) (v:=?_) rfl rfl (by kernel_rfl) (by kernel_rfl) (by kernel_rfl) (by kernel_rfl) (fun _ _ _ h=>h) hHeld ?_ ?_
 rotate_left
 ·(intro w hSw;(try dsimp only at hSw);go_simp;try with_reducible rfl)
 try simp only [Act.put,List.setIfInBounds_toArray,List.set_cons_zero,List.set_cons_succ]
 refine rh_take 3 (some 15) (v:=?_) rfl rfl (by kernel_rfl) (by kernel_rfl) (by kernel_rfl) (by kernel_rfl) (fun _ _ _ h=>h) hHeld ?_ ?_
 rotate_left
 ·(intro w hSw;(try dsimp only at hSw);go_simp;try with_reducible rfl)
 try simp only [Act.put,List.setIfInBounds_toArray,List.set_cons_zero,List.set_cons_succ]
 refine rh_take 4 (some 16) (v:=?_) rfl rfl (by kernel_rfl) (by kernel_rfl) (by kernel_rfl) (by kernel_rfl) (fun _ _ _ h=>h) hHeld ?_ ?_
 rotate_left
 ·(intro w hSw;(try dsimp only at hSw);go_simp;try with_reducible rfl)
 try simp only [Act.put,List.setIfInBounds_toArray,List.set_cons_zero,List.set_cons_succ]
 try rw [hd]
 refine rh_call 5 (some 17) (by kernel_rfl) rfl rfl (by kernel_rfl) (fun K hK=>?_)
 clear hHeld
 go_simp
 go_at_call 197;(with_reducible refine (HTW.out _).mono ?_);rintro y w7 ⟨b7,A7,n7,c7,rfl,hv7,hb7⟩;have HB7:=Lib.hid ((belR W0).drew.trans hb7);have hn7:=p2_len hv7;have HMU:=Lib.hid (mul01_any w7 w7.heap.size false A2 n2 c2 (q:Int) b7 A7 n7 c7 _ (H2.out w7 (belT HBW.out HB7.out)) hv7 (Nat.le_refl _) (by omega) (by omega));clear hv7 hb7 hn7
 refine hK.out _ _ (HKP.out _ HB7.out) (fun hHeld=>?_)
 clear hK K
 try simp only [Act.put,List.setIfInBounds_toArray,List.set_cons_zero,List.set_cons_succ]
 refine rh_call 6 (some 18) (by kernel_rfl) rfl rfl (by kernel_rfl) (fun K hK=>?_)
 clear hHeld
 go_simp
 go_at_call 186;(with_reducible refine HMU.out.mono ?_);rintro y w8 ⟨b8,A8,n8,c8,rfl,hv8,hb8⟩;rw [←Int.natCast_mul] at hv8;have HB8:=Lib.hid (belT HB7.out hb8);have HCP:=Lib.hid (cmp01_any w8 w8.heap.size false A1 n1 c1 (p:Int) b8 A8 n8 c8 _ (H1.out w8 (belT HBW.out HB8.out)) hv8 (Nat.le_refl _));clear hv8 hb8
 refine hK.out _ _ (HKP.out _ HB8.out) (fun hHeld=>?_)
 clear hK K
 try simp only [Act.put,List.setIfInBounds_toArray,List.set_cons_zero,List.set_cons_succ]
 refine rh_call 7 (some 19) (by kernel_rfl) rfl rfl (by kernel_rfl) (fun K hK=>?_)
 clear hHeld
 go_simp
 go_at_call 199;(with_reducible refine HCP.out.mono ?_);rintro y w9 ⟨rfl,hb9⟩;have HB9:=Lib.hid (belT HB8.out hb9);clear hb9
 refine hK.out _ _ (HKP.out _ HB9.out) (fun hHeld=>?_)
 clear hK K
 try simp only [Act.put,List.setIfInBounds_toArray,List.set_cons_zero,List.set_cons_succ]
 refine rh_take 8 (some 20) (v:=?_) rfl rfl (by kernel_rfl) (by kernel_rfl) (by kernel_rfl) (by kernel_rfl) (fun _ _ _ h=>h) hHeld ?_ ?_
 rotate_left
 ·(intro w hSw;(try dsimp only at hSw);go_simp;try with_reducible rfl)
 try simp only [Act.put,List.setIfInBounds_toArray,List.set_cons_zero,List.set_cons_succ]
 refine rh_take 9 (some 8) (v:=?_) rfl rfl (by kernel_rfl) (by kernel_rfl) (by kernel_rfl) (by kernel_rfl) (fun _ _ _ h=>h) hHeld ?_ ?_
 rotate_left
 ·(intro w hSw;(try dsimp only at hSw);go_simp;try with_reducible rfl)
 try simp only [Act.put,List.setIfInBounds_toArray,List.set_cons_zero,List.set_cons_succ]
 refine wpAnyH_done (by kernel_rfl) ?_ _
 clear hHeld
 go_wp2
 go_ret
 refine ⟨?_,belT HBW.out HB9.out⟩
 have h0:decide (cmpZ (p:Int) ((q:Int)*(p2 d:Int))<0)=decide (p<q*p2 d):=by rw [←Int.natCast_mul];exact cmp_lt0 _ _
 rw [←h0]
 rfl
set_option maxRecDepth 20000 in
set_option maxHeartbeats 4000000 in
theorem below_lt (w:World) (B:Nat) (A1:Option Addr) (n1 c1 p:Nat) (A2:Option Addr) (n2 c2 q:Nat) (e k:Int) (d:Nat) (hd:e-k=(d:Int)) (hd0:0<d) (h1:NumV w B false A1 n1 c1 (p:Int)) (h2:NumV w B false A2 n2 c2 (q:Int)) (hB:B≤w.heap.size) (hn1:n1≤100000) (hn2:n2≤100000) (hdd:d≤90000) (he:-100000≤e∧e≤100000) :
 Calls Tryz.prog 195 #[.agg #[.bool false,.slice A1 n1 c1],.agg #[.bool false,.slice A2 n2 c2],.int .i64 e,.int .i64 k] w fun y w'=>RetIs w (decide (p*p2 d<q)) y w':=by
 obtain ⟨W0,hW0⟩:∃ W0,W0=(w.alloc (.cells #[.bool false,.slice A1 n1 c1] 134)).alloc (.cells #[.bool false,.slice A2 n2 c2] 134):=⟨_,rfl⟩
 have hw:Below w.heap.size w W0:=by rw [hW0];exact belA (belA (belR w) _) _
 have k1:Blk W0 w.heap.size 134 #[.bool false,.slice A1 n1 c1]:=by rw [hW0];exact (Blk.new w _ _).alloc _
 have k2:Blk W0 (w.heap.size+1) 134 #[.bool false,.slice A2 n2 c2]:=by
  rw [hW0];have:=Blk.new (w.alloc (.cells #[.bool false,.slice A1 n1 c1] 134)) 134 #[.bool false,.slice A2 n2 c2]
  simpa using this
 have a0:=k1.cell 0;have a1:=k1.cell 1;have b0:=k2.cell 0;have b1:=k2.cell 1
 simp at a0 a1 b0 b1
 have l1:=k1.lt;have l2:=k2.lt
 have H1:=Lib.hid (fun W (hb:Below w.heap.size w W)=>h1.keep (hb.mono hB) (Nat.le_trans hB hb.size):∀ W,Below w.heap.size w W→NumV W W.heap.size false A1 n1 c1 (p:Int))
 have H2:=Lib.hid (fun W (hb:Below w.heap.size w W)=>h2.keep (hb.mono hB) (Nat.le_trans hB hb.size):∀ W,Below w.heap.size w W→NumV W W.heap.size false A2 n2 c2 (q:Int))
 have HTW:=Lib.hid (fun W=>two01_any W d (by omega))
 have HW0:=Lib.hid hW0;have HBW:=Lib.hid hw
 have wd:IntKind.i64.wrap (d:Int)=(d:Int):=IntWalk.i64_in _ (by omega)
 have gk:decide (k≥e)=false:=decide_eq_false (by omega)
 clear hW0 hw k1 k2 h1 h2
 go_enter Tryz.func195,Tryz.ntmps195
 go_upto_region 3 with (fail)
 rw [←HW0.out]
 have HKP:Hid (∀ W,Below W0.heap.size W0 W→W.cell? ⟨w.heap.size,0,none⟩=some (.bool false)∧W.cell? ⟨w.heap.size,1,none⟩=some (.slice A1 n1 c1)∧W.cell? ⟨w.heap.size+1,0,none⟩=some (.bool false)∧W.cell? ⟨w.heap.size+1,1,none⟩=some (.slice A2 n2 c2)):=Lib.hid fun W hb=>⟨(hb.cell (p:=⟨w.heap.size,0,none⟩) (by simp only;omega)).trans a0,(hb.cell (p:=⟨w.heap.size,1,none⟩) (by simp only;omega)).trans a1,(hb.cell (p:=⟨w.heap.size+1,0,none⟩) (by simp only;omega)).trans b0,(hb.cell (p:=⟨w.heap.size+1,1,none⟩) (by simp only;omega)).trans b1⟩
 clear a0 a1 b0 b1
 refine wp_region_held_drew (S:=(fun W=>W.cell? ⟨w.heap.size,0,none⟩=some (.bool false)∧W.cell? ⟨w.heap.size,1,none⟩=some (.slice A1 n1 c1)∧W.cell? ⟨w.heap.size+1,0,none⟩=some (.bool false)∧W.cell? ⟨w.heap.size+1,1,none⟩=some (.slice A2 n2 c2))) (by kernel_rfl) (HKP.out _ (belR W0).drew) (fun hHeld=>?_)
 refine rh_take 0 (some 21) (v:=?_) rfl rfl (by kernel_rfl) (by kernel_rfl) (by kernel_rfl) (by kernel_rfl) (fun _ _ _ h=>h) hHeld ?_ ?_
 rotate_left
 ·(intro w hSw;(try dsimp only at hSw);go_simp;try with_reducible rfl)
 try simp only [Act.put,List.setIfInBounds_toArray,List.set_cons_zero,List.set_cons_succ]
 refine rh_take 1 (some 22) (v:=?_) rfl rfl (by kernel_rfl) (by kernel_rfl) (by kernel_rfl) (by kernel_rfl) (fun _ _ _ h=>h) hHeld ?_ ?_
 rotate_left
 ·(intro w hSw;(try dsimp only at hSw);go_simp;try with_reducible rfl)
 try simp only [Act.put,List.setIfInBounds_toArray,List.set_cons_zero,List.set_cons_succ]
 refine rh_take 2 (some 23) (v:=?_) rfl rfl (by kernel_rfl) (by kernel_rfl) (by kernel_rfl) (by kernel_rfl) (fun _ _ _ h=>h) hHeld ?_ ?_
 rotate_left
 ·(intro w hSw;(try dsimp only at hSw);go_simp;try with_reducible rfl)
 try simp only [Act.put,List.setIfInBounds_toArray,List.set_cons_zero,List.set_cons_succ]
 refine rh_take 3 (some 24) (v:=?_) rfl rfl (by kernel_rfl) (by kernel_rfl) (by kernel_rfl) (by kernel_rfl) (fun _ _ _ h=>h) hHeld ?_ ?_
 rotate_left
 ·(intro w hSw;(try dsimp only at hSw);go_simp;try with_reducible rfl)
 try simp only [Act.put,List.setIfInBounds_toArray,List.set_cons_zero,List.set_cons_succ]
 refine rh_take 6 (some 27) (v:=?_) rfl rfl (by kernel_rfl) (by kernel_rfl) (by kernel_rfl) (by kernel_rfl) (fun _ _ _ h=>h) hHeld ?_ ?_
 rotate_left
 ·(intro w hSw;(try dsimp only at hSw);go_simp;try with_reducible rfl)
 try simp only [Act.put,List.setIfInBounds_toArray,List.set_cons_zero,List.set_cons_succ]
 try rw [hd]
 refine rh_call 4 (some 25) (by kernel_rfl) rfl rfl (by kernel_rfl) (fun K hK=>?_)
 clear hHeld
 go_simp
 go_at_call 197;(with_reducible refine (HTW.out _).mono ?_);rintro y w7 ⟨b7,A7,n7,c7,rfl,hv7,hb7⟩;have HB7:=Lib.hid ((belR W0).drew.trans hb7);have hn7:=p2_len hv7;have HMU:=Lib.hid (mul01_any w7 w7.heap.size false A1 n1 c1 (p:Int) b7 A7 n7 c7 _ (H1.out w7 (belT HBW.out HB7.out)) hv7 (Nat.le_refl _) (by omega) (by omega));clear hv7 hb7 hn7
 refine hK.out _ _ (HKP.out _ HB7.out) (fun hHeld=>?_)
 clear hK K
 try simp only [Act.put,List.setIfInBounds_toArray,List.set_cons_zero,List.set_cons_succ]
 refine rh_call 5 (some 26) (by kernel_rfl) rfl rfl (by kernel_rfl) (fun K hK=>?_)
 clear hHeld
 go_simp
 go_at_call 186;(with_reducible refine HMU.out.mono ?_);rintro y w8 ⟨b8,A8,n8,c8,rfl,hv8,hb8⟩;rw [←Int.natCast_mul] at hv8;have HB8:=Lib.hid (belT HB7.out hb8);have HCP:=Lib.hid (cmp01_any w8 w8.heap.size b8 A8 n8 c8 _ false A2 n2 c2 (q:Int) hv8 (H2.out w8 (belT HBW.out HB8.out)) (Nat.le_refl _));clear hv8 hb8
 refine hK.out _ _ (HKP.out _ HB8.out) (fun hHeld=>?_)
 clear hK K
 try simp only [Act.put,List.setIfInBounds_toArray,List.set_cons_zero,List.set_cons_succ]
 refine rh_call 7 (some 28) (by kernel_rfl) rfl rfl (by kernel_rfl) (fun K hK=>?_)
 clear hHeld
 go_simp
 go_at_call 199;(with_reducible refine HCP.out.mono ?_);rintro y w9 ⟨rfl,hb9⟩;have HB9:=Lib.hid (belT HB8.out hb9);clear hb9
 refine hK.out _ _ (HKP.out _ HB9.out) (fun hHeld=>?_)
 clear hK K
 try simp only [Act.put,List.setIfInBounds_toArray,List.set_cons_zero,List.set_cons_succ]
 refine rh_take 8 (some 29) (v:=?_) rfl rfl (by kernel_rfl) (by kernel_rfl) (by kernel_rfl) (by kernel_rfl) (fun _ _ _ h=>h) hHeld ?_ ?_
 rotate_left
 ·(intro w hSw;(try dsimp only at hSw);go_simp;try with_reducible rfl)
 try simp only [Act.put,List.setIfInBounds_toArray,List.set_cons_zero,List.set_cons_succ]
 refine rh_take 9 (some 8) (v:=?_) rfl rfl (by kernel_rfl) (by kernel_rfl) (by kernel_rfl) (by kernel_rfl) (fun _ _ _ h=>h) hHeld ?_ ?_
 rotate_left
 ·(intro w hSw;(try dsimp only at hSw);go_simp;try with_reducible rfl)
 try simp only [Act.put,List.setIfInBounds_toArray,List.set_cons_zero,List.set_cons_succ]
 refine wpAnyH_done (by kernel_rfl) ?_ _
 clear hHeld
 go_wp2
 go_ret
 refine ⟨?_,belT HBW.out HB9.out⟩
 have h0:decide (cmpZ ((p:Int)*(p2 d:Int)) (q:Int)<0)=decide (p*p2 d<q):=by rw [←Int.natCast_mul];exact cmp_lt0 _ _
 rw [←h0]
 rfl
end Go.Proofs.YtfhmaincnlaapaaGreat
namespace Go.Proofs.YtfhmaincnlaapaaGreat
open Go.ChangeShapes Go.WideShapes Go.ChangeAt Go.RowKit Ieee
set_option linter.unusedVariables false
theorem ex_irg:ex irg=2046:=by decide
theorem mg_irg:mg irg=4503599627370496:=by decide
theorem vl_irg_eq:vl irg=2^FF:=by
 have h1:=ex_irg
 have h2:=FF_eq
 rw [vl,mg_irg,show (4503599627370496:Nat)=2^52 from by decide,←Nat.pow_add]
 exact congrArg (fun x=>2^x) (show 52+ex irg=FF by omega)
theorem vl_half_irg:2*vl (irg-4503599627370496)=vl irg:=by
 have h2:mg (irg-4503599627370496)=4503599627370496:=by decide
 have h3:ex irg=ex (irg-4503599627370496)+1:=by decide
 rw [vl,vl,mg_irg,h2,h3,Nat.pow_succ]
 generalize (2:Nat)^ex (irg-4503599627370496)=x
 omega
theorem half_log {m l:Nat} (hl:m.log2=l) (h52:l≤52) (i:Int):(Datum.number false m i).quotient 54 (.number false 4503599627370496 (-51))=some (.number false (2*(m*2^(54-l))) (i-56+l)):=by
 have hne:¬((4503599627370496:Nat)=0):=by omega
 simp only [Datum.quotient]
 rw [if_neg hne]
 have e0:54+Nat.log2 4503599627370496-m.log2=54-l+52:=by rw [log2_52,hl];omega
 have hp:m*2^(54-l+52)=m*2^(54-l)*4503599627370496:=by rw [Nat.pow_add,←Nat.mul_assoc]
 have e1:m <<< (54-l+52)/4503599627370496=m*2^(54-l):=by rw [Nat.shiftLeft_eq,hp,Nat.mul_div_cancel _ (by decide)]
 have e2:m <<< (54-l+52)%4503599627370496=0:=by rw [Nat.shiftLeft_eq,hp,Nat.mul_mod_left]
 simp only [e0,e1,e2]
 have e3:i - -51-((54-l+52:Nat):Int)-1=i-56+l:=by omega
 have e4:2*(m*2^(54-l))+((0:Nat) != 0).toNat=2*(m*2^(54-l)):=by simp
 rw [e3,e4]
 rfl
theorem div_even (r x:Nat) (h:r<irg) (he:vl r=2*x) (hx:0<x):∃ s,FloatKind.f64.format.div r 4611686018427387904=some s∧0<s∧s<r∧vl s=x:=by
 rcases Nat.lt_or_ge r 9007199254740992 with hr|hr
 ·have hexr:ex r=0:=by unfold ex;split<;>omega
  have hmgr:mg r=r:=by unfold mg;split<;>omega
  have hvr:vl r=r:=by rw [vl,hexr,hmgr];omega
  rw [hvr] at he
  have hxr:x<4503599627370496:=by omega
  have hvx:vl x=x:=by
   have e1:ex x=0:=by unfold ex;rw [if_pos hxr]
   have e2:mg x=x:=by unfold mg;rw [if_pos hxr]
   rw [vl,e1,e2];omega
  refine ⟨x,?_,hx,by omega,hvx⟩
  have hr0:r≠0:=by omega
  have hl1:=Nat.log2_self_le hr0
  have hl2:r.log2≤52:=by
   have c:2^r.log2<2^53:=by
    have:(2:Nat)^53=9007199254740992:=by decide
    omega
   have:=(Nat.pow_lt_pow_iff_right (by decide:1<2)).1 c
   omega
  obtain ⟨l,hl⟩:∃ l,r.log2=l:=⟨_,rfl⟩
  rw [hl] at hl1 hl2
  have e:FloatKind.f64.format.div r 4611686018427387904=some (double.nearest false (2*(r*2^(54-l))) (-1074+((0:Nat):Int)-56+l)):=by
   show ((double.read r).quotient 54 (double.read 4611686018427387904)).map double.write=_
   rw [read_pos r h,read_two,hmgr,hexr,half_log hl hl2]
   rfl
  rw [e]
  refine congrArg some ?_
  rw [nearest_exact false _ _ x 0 (56-l) hx (by omega) (by omega) ?_]
  ·rfl
  ·rw [hvx,he,Nat.pow_zero,Nat.mul_one]
   have:2^(56-l)=2^(54-l)*4:=by rw [show 56-l=54-l+2 from by omega,Nat.pow_add]
   rw [this]
   generalize 2^(54-l)=t
   rw [Nat.mul_assoc,←Nat.mul_assoc,show 2*2=4 from rfl,Nat.mul_comm 4,Nat.mul_assoc]
 ·obtain ⟨s,h1,h2,h3,h4⟩:=div_two r hr h
  exact ⟨s,h1,h3,by omega,by omega⟩
theorem mul_over (r:Nat) (h0:irg-4503599627370496≤r) (h:r<irg):FloatKind.f64.format.mul r 4611686018427387904=some irg:=by
 obtain ⟨hm1,hm2,hm3,hm4⟩:=mg_bound r h
 have hex:ex r=2045:=by unfold irg at h0 h;omega
 have hmg:4503599627370496≤mg r:=by unfold irg at h0;omega
 show double.mul r 4611686018427387904=_
 unfold Format.mul
 rw [read_pos r h,read_two]
 simp only [Datum.product,Option.map_some,Format.write]
 refine congrArg some ?_
 have hmag:mg r*4503599627370496≠0:=by
  have:=Nat.mul_pos (show 0<mg r by omega) (show 0<4503599627370496 by decide)
  omega
 have hlog:(mg r*4503599627370496).log2=104:=by
  refine log2_eq ?_ ?_
  ·have:(2:Nat)^104=4503599627370496*4503599627370496:=by decide
   rw [this];exact Nat.mul_le_mul_right _ hmg
  ·have:(2:Nat)^(104+1)=9007199254740992*4503599627370496:=by decide
   rw [this];exact Nat.mul_lt_mul_of_pos_right hm1 (by decide)
 unfold Format.nearest
 rw [if_neg hmag]
 simp only [lp_eq,bi_eq,ir_eq,hlog,hex]
 have hf:(double.fractionBits:Int)=52:=rfl
 have hlast:max (-1074+((2045:Nat):Int) + -51+((104:Nat):Int)-(double.fractionBits:Int)) (-1074)=972:=by rw [hf];omega
 rw [hlast]
 have e1:(-1074+((2045:Nat):Int) + -51-972).toNat=0:=by omega
 have e2:(972-(-1074+((2045:Nat):Int) + -51)).toNat=52:=by omega
 have e3:((972:Int) - -1074).toNat=2046:=by omega
 rw [e1,e2,e3,Nat.shiftLeft_zero,show (false ^^ false)=false from rfl,show (4503599627370496:Nat)=2^52 from by decide,cut_exact false (mg r) 52 (by omega)]
 have hge:min (2046*2^52+mg r) 9218868437227405312=9218868437227405312:=by
  have:(2:Nat)^52=4503599627370496:=by decide
  omega
 rw [hge]
 rfl
set_option maxRecDepth 20000 in
set_option maxHeartbeats 4000000 in
theorem times_any (w:World) (v a r0:Nat) (hv0:0<v) (hr0:r0<irg) (hvl:vl r0=v*UU) (ha:a≤5000) :
 Calls Tryz.prog 196 #[.float .f64 r0,.int .i64 ((a:Int)-1074)] w fun y w'=>(∃ r,y=.returned (.float .f64 r)∧r≤irg∧(v*2^a<2^FF→r<irg∧vl r=v*2^a)∧(2^FF≤v*2^a→r=irg))∧Drws w w':=by
 have hr00:0<r0:=by
  rcases Nat.eq_zero_or_pos r0 with h|h
  ·subst h;rw [vl_zero] at hvl;have:=Nat.mul_pos hv0 UU_pos;omega
  ·exact h
 have hz0:(FloatKind.f64.format.order 0 0==some .eq)=true:=by decide
 by_cases hge:EE≤a
 ·obtain ⟨j0,hj0⟩:∃ j0,a=j0+EE:=⟨a-EE,by omega⟩
  have hj1:(a:Int)-1074=(j0:Int):=by have:=EE_eq;omega
  have hst:vl r0*2^j0=v*2^a:=by rw [hvl,UU_eq,hj0,Nat.pow_add,Nat.mul_assoc,Nat.mul_comm (2^EE)]
  have hjb:j0≤5000:=by omega
  rw [hj1]
  have HST:=Lib.hid hst;have HR0:=Lib.hid hr0
  clear hj1 hst hvl hj0 hge hr0
  generalize v*2^a=V at *
  go_enter Tryz.func196,Tryz.ntmps196
  go_wp2
  go_loopw [0,1] (fun x e wr=>∃ r1 j:Nat,0<r1∧r1≤irg∧x=.float .f64 r1∧e=.int .i64 (j:Int)∧j≤j0∧Hid ((r1<irg→vl r1*2^j=V)∧(r1=irg→2^FF≤V))∧Hid (Drws w wr)) (fun _ e _=>(intOf e).toNat)
  case atStart=>exact ⟨r0,j0,hr00,by have:=HR0.out;omega,rfl,rfl,Nat.le_refl _,⟨fun _=>HST.out,fun h=>by have:=HR0.out;omega⟩,drws_refl _⟩
  case round =>
   obtain ⟨r1,j,h10,h11,rfl,rfl,hj,HE,HD⟩:=hrel
   have H11:=Lib.hid h11
   cases j with
   | zero =>
     have hf:(r1<irg→vl r1=V)∧(r1=irg→2^FF≤V):=⟨fun h=>by have:=HE.out.1 h;simpa using this,HE.out.2⟩
     have HF:=Lib.hid hf
     simp only [show ((0:Nat):Int)=0 from rfl]
     clear HE hf h11
     go_wp2
     go_loopw [0,1] (fun x e wr=>x=.float .f64 r1∧e=.int .i64 0∧Hid (Drws w wr)) (fun _ _ _=>0)
     case atStart=>exact ⟨rfl,rfl,HD.out⟩
     case round =>
      obtain ⟨rfl,rfl,HD⟩:=hrel
      go_wp2
      go_ret
      refine ⟨⟨r1,rfl,H11.out,fun h=>?_,fun h=>?_⟩,HD.out⟩
      ·rcases Nat.lt_or_ge r1 irg with hl|hl
       ·exact ⟨hl,HF.out.1 hl⟩
       ·have:=HF.out.2 (by have:=H11.out;omega);omega
      ·rcases Nat.lt_or_ge r1 irg with hl|hl
       ·have h1:=HF.out.1 hl;have h2:=vl_lt hl;rw [vl_irg_eq] at h2;omega
       ·have:=H11.out;omega
   | succ j =>
     have g1:decide ((0:Int)<((j+1:Nat):Int))=true:=decide_eq_true (by omega)
     have e3:((j+1:Nat):Int)-1=(j:Int):=by omega
     rcases Nat.lt_or_ge r1 irg with hl|hl
     ·have hrg:rg r1=r1:=(sv_pos r1 h11).2.2
      have hrun:=run_float_arith (P:=Tryz.prog) wr .sub 57 .f64 r1 r1 0 (sub_self_num r1 (by rw [hrg];exact hl))
      have hV:=HE.out.1 hl
      by_cases hlow:r1<irg-4503599627370496
      ·obtain ⟨s,hmul,hs1,hs2,hs3⟩:=mul_two r1 h10 hlow
       have hrun2:=run_float_arith (P:=Tryz.prog) wr .mul 57 .f64 r1 4611686018427387904 s hmul
       have hn:(s<irg→vl s*2^j=V)∧(s=irg→2^FF≤V):=⟨fun _=>by rw [hs3,←hV,Nat.pow_succ,Nat.mul_comm 2,Nat.mul_assoc,Nat.mul_comm 2],fun h=>by omega⟩
       have HN:=Lib.hid hn;have S1:=Lib.hid hs1;have S2:=Lib.hid hs2
       clear hn hs1 hs2 hs3 hmul hlow hV hrg hl h11
       go_wp2
       go_roundw
       case rel=>exact ⟨s,j,by have:=S1.out;omega,Nat.le_of_lt S2.out,rfl,(by first|rfl|rw [e3]|go_num),by omega,HN.out,HD.out⟩
       case measure=>simp [intOf]
      ·have hmul:=mul_over r1 (by omega) hl
       have hrun2:=run_float_arith (P:=Tryz.prog) wr .mul 57 .f64 r1 4611686018427387904 irg hmul
       have hn:(irg<irg→vl irg*2^j=V)∧(irg=irg→2^FF≤V):=⟨fun h=>by omega,fun _=>by
        have h1:vl (irg-4503599627370496)≤vl r1:=by
         rcases Nat.lt_or_ge (irg-4503599627370496) r1 with h2|h2
         ·exact Nat.le_of_lt (vl_lt h2)
         ·rw [show r1=irg-4503599627370496 from by omega];exact Nat.le_refl _
        have h2:=vl_half_irg
        rw [vl_irg_eq] at h2
        rw [←hV,←h2,Nat.pow_succ]
        have h3:1≤2^j:=Nat.one_le_two_pow
        have h4:vl r1*1≤vl r1*2^j:=Nat.mul_le_mul_left _ h3
        rw [←Nat.mul_assoc];omega⟩
       have HN:=Lib.hid hn
       clear hn hmul hlow hV hrg hl h11
       go_wp2
       go_roundw
       case rel=>exact ⟨irg,j,irg_pos,Nat.le_refl _,rfl,(by first|rfl|rw [e3]|go_num),by omega,HN.out,HD.out⟩
       case measure=>simp [intOf]
     ·obtain rfl:r1=irg:=by omega
      have hs:=sub_self_inf irg (by decide)
      obtain ⟨q,hq,hql,hrun⟩:=run_sub_bad (P:=Tryz.prog) 57 wr irg irg hs
      have hq0:(FloatKind.f64.format.order q 0==some .eq)=false:=by
       have:FloatKind.f64.format.order q 0=none:=order_nan q 0 (.inl (by unfold nanB at hq;simpa using hq))
       rw [this];rfl
      have HF:=Lib.hid (HE.out.2 rfl)
      have g2:¬(((j+1:Nat):Int)<0):=by omega
      have g3:decide (((j+1:Nat):Int)<0)=false:=decide_eq_false g2
      clear hs h11 hl HE
      go_wp2
      go_loopw [0,1] (fun x e wr=>x=.float .f64 irg∧e=.int .i64 ((j+1:Nat):Int)∧Hid (Drws w wr)) (fun _ _ _=>0)
      case atStart=>exact ⟨rfl,rfl,drws_drew HD.out⟩
      case round =>
       obtain ⟨rfl,rfl,HD⟩:=hrel
       go_wp2
       go_ret
       exact ⟨⟨irg,rfl,Nat.le_refl _,fun h=>by have:=HF.out;omega,fun _=>rfl⟩,HD.out⟩
 ·obtain ⟨j0,hj0⟩:∃ j0,EE=a+j0:=⟨EE-a,by omega⟩
  have hj1:(a:Int)-1074=-(j0:Int):=by have:=EE_eq;omega
  have hst:vl r0=v*2^a*2^j0:=by rw [hvl,UU_eq,hj0,Nat.pow_add,Nat.mul_assoc]
  have hjb:j0≤1074:=by have:=EE_eq;omega
  have hV0:0<v*2^a:=Nat.mul_pos hv0 (Nat.two_pow_pos _)
  have hVF:v*2^a<2^FF:=by
   have h1:=vl_lt hr0
   rw [vl_irg_eq,hst] at h1
   have h2:v*2^a*1≤v*2^a*2^j0:=Nat.mul_le_mul_left _ Nat.one_le_two_pow
   omega
  have hjp:0<j0:=by omega
  rw [hj1]
  have HST:=Lib.hid hst;have HR0:=Lib.hid hr0;have HVF:=Lib.hid hVF
  have g0:decide ((0:Int) < -(j0:Int))=false:=decide_eq_false (by omega)
  clear hj1 hst hvl hj0 hge hr0 hVF
  generalize v*2^a=V at *
  go_enter Tryz.func196,Tryz.ntmps196
  go_wp2
  go_loopw [0,1] (fun x e wr=>x=.float .f64 r0∧e=.int .i64 (-(j0:Int))∧Hid (Drws w wr)) (fun _ _ _=>0)
  case atStart=>exact ⟨rfl,rfl,drws_refl _⟩
  case round =>
   obtain ⟨rfl,rfl,HD⟩:=hrel
   go_wp2
   clear g0
   go_loopw [0,1] (fun x e wr=>∃ r1 j:Nat,0<r1∧r1<irg∧x=.float .f64 r1∧e=.int .i64 (-(j:Int))∧j≤j0∧Hid (vl r1=V*2^j)∧Hid (Drws w wr)) (fun _ e _=>(-(intOf e)).toNat)
   case atStart=>exact ⟨r0,j0,hr00,HR0.out,rfl,rfl,Nat.le_refl _,HST.out,HD.out⟩
   case round =>
    obtain ⟨r1,j,h10,h11,rfl,rfl,hj,HE,HD⟩:=hrel
    cases j with
    | zero =>
      have hf:vl r1=V:=by have:=HE.out;simpa using this
      have HF:=Lib.hid hf;have H11:=Lib.hid h11
      simp only [show -((0:Nat):Int)=0 from rfl]
      clear hf h11
      go_wp2
      go_ret
      exact ⟨⟨r1,rfl,Nat.le_of_lt H11.out,fun _=>⟨H11.out,HF.out⟩,fun h=>by have:=HVF.out;omega⟩,HD.out⟩
    | succ j =>
      have g1:decide (-((j+1:Nat):Int)<0)=true:=decide_eq_true (by omega)
      have e3:-((j+1:Nat):Int)+1=-(j:Int):=by omega
      have hne:(FloatKind.f64.format.order r1 0 != some .eq)=true:=by
       have:=ord_eq r1 0 (Nat.le_of_lt h11) (Nat.zero_le _)
       rw [decide_eq_false (by omega)] at this
       rw [bne,this];rfl
      have h2x:vl r1=2*(V*2^j):=by rw [HE.out,Nat.pow_succ,←Nat.mul_assoc,Nat.mul_comm]
      obtain ⟨s,hdiv,hs1,hs2,hs3⟩:=div_even r1 (V*2^j) h11 h2x (Nat.mul_pos hV0 (Nat.two_pow_pos _))
      have hrun:=run_float_arith (P:=Tryz.prog) wr .quo 57 .f64 r1 4611686018427387904 s hdiv
      have HN:=Lib.hid hs3;have S1:=Lib.hid hs1;have S2:=Lib.hid (show s<irg by omega)
      clear hs1 hs2 hs3 hdiv h2x h11
      go_wp2
      go_roundw
      case rel=>exact ⟨s,j,S1.out,S2.out,rfl,(by first|rfl|rw [e3]|go_num),by omega,HN.out,HD.out⟩
      case measure=>simp [intOf];omega
def belX (p q x a:Nat):Bool:=decide (p*p2 x<q*p2 (a+7926+53))
def upP (p x a:Nat):Nat:=p*p2 (x-(a+7926))
def upQ (q x a:Nat):Nat:=q*p2 (a+7926-x)
def rnd (P Q:Nat):Nat:=if Q<P%Q+P%Q∨P%Q+P%Q=Q∧P/Q%2=1 then P/Q+1 else P/Q
def NearOk (p q x r:Nat):Prop:=∃ a,(∀ b,b<a→belX p q x b=false)∧((2045<a∧a≤2098∧r=irg)∨(a≤2045∧belX p q x a=true∧r≤irg ∧
 (rnd (upP p x a) (upQ q x a)*2^a<2^FF→r<irg∧vl r=rnd (upP p x a) (upQ q x a)*2^a)∧(2^FF≤rnd (upP p x a) (upQ q x a)*2^a→r=irg)))
def RetFlo (w:World) (S:Nat→Prop) (y:Ending) (w':World):Prop:=∃ r,y=.returned (.float .f64 r)∧S r∧Below w.heap.size w w'
theorem p2_add (a b:Nat):p2 (a+b)=p2 a*p2 b:=by unfold p2;exact Nat.pow_add ..
theorem mul_sw (a b c:Nat):a*(b*c)=a*c*b:=by ac_rfl
theorem p2_0:p2 0=1:=rfl
theorem near_iff (p q x y j:Nat):(p*p2 x<q*p2 (y+j))↔(p*p2 (x-y)<q*p2 (y-x)*p2 j):=by
 rcases Nat.le_total x y with h|h
 ·obtain ⟨d,rfl⟩:∃ d,y=x+d:=⟨y-x,by omega⟩
  rw [show x-(x+d)=0 from by omega,show x+d-x=d from by omega,p2_0,Nat.mul_one,p2_add,p2_add]
  have e:q*(p2 x*p2 d*p2 j)=q*p2 d*p2 j*p2 x:=by ac_rfl
  rw [e]
  exact Nat.mul_lt_mul_right (p2_pos x)
 ·obtain ⟨d,rfl⟩:∃ d,x=y+d:=⟨x-y,by omega⟩
  rw [show y+d-y=d from by omega,show y-(y+d)=0 from by omega,p2_0,Nat.mul_one,p2_add,p2_add]
  have e1:p*(p2 y*p2 d)=p*p2 d*p2 y:=by ac_rfl
  have e2:q*(p2 y*p2 j)=q*p2 j*p2 y:=by ac_rfl
  rw [e1,e2]
  exact Nat.mul_lt_mul_right (p2_pos y)
theorem p2_53:p2 53=9007199254740992:=by decide
theorem belX_hi {p q x a:Nat} (h:belX p q x a=true):upP p x a<upQ q x a*9007199254740992:=by
 rw [belX,decide_eq_true_iff,near_iff,p2_53] at h
 exact h
theorem p2_52:p2 52=4503599627370496:=by decide
theorem belX_lo {p q x a:Nat} (h:belX p q x a=false):upQ q x (a+1)*4503599627370496≤upP p x (a+1):=by
 rw [belX,decide_eq_false_iff_not,show a+7926+53=a+1+7926+52 from by omega,near_iff,p2_52] at h
 exact Nat.le_of_not_lt h
theorem upQ_pos {q:Nat} (x a:Nat) (h:0<q):0<upQ q x a:=Nat.mul_pos h (p2_pos _)
theorem rnd_le {P Q:Nat} (hQ:0<Q) (h:P<Q*9007199254740992):P/Q<9007199254740992∧rnd P Q≤9007199254740992:=by
 have h1:P/Q<9007199254740992:=by rw [Nat.div_lt_iff_lt_mul hQ,Nat.mul_comm];exact h
 refine ⟨h1,?_⟩
 unfold rnd
 split<;>omega
theorem rnd_ge {P Q:Nat} (hQ:0<Q) (h:Q*4503599627370496≤P):0<rnd P Q:=by
 have h1:4503599627370496≤P/Q:=by rw [Nat.le_div_iff_mul_le hQ,Nat.mul_comm];exact h
 unfold rnd
 split<;>omega
theorem belX_mono {p q x a b:Nat} (h:belX p q x a=true) (hab:a≤b):belX p q x b=true:=by
 rw [belX,decide_eq_true_iff] at h ⊢
 exact Nat.lt_of_lt_of_le h (Nat.mul_le_mul_left _ (p2_le _ _ (by omega)))
theorem belX_anti {p q x a b:Nat} (h:belX p q x a=false) (hab:b≤a):belX p q x b=false:=by
 cases hb:belX p q x b with
 | false=>rfl
 | true=>rw [belX_mono hb hab] at h;cases h
theorem belowX_any (w:World) (B:Nat) (A1:Option Addr) (n1 c1 p:Nat) (A2:Option Addr) (n2 c2 q x a:Nat) (h1:NumV w B false A1 n1 c1 (p:Int)) (h2:NumV w B false A2 n2 c2 (q:Int)) (hB:B≤w.heap.size) (hn1:n1≤100000) (hn2:n2≤100000) (hx:x≤12000) (ha:a≤3000) :
 Calls Tryz.prog 195 #[.agg #[.bool false,.slice A1 n1 c1],.agg #[.bool false,.slice A2 n2 c2],.int .i64 ((x:Int)-9000),.int .i64 ((a:Int)-1074+53)] w fun y w'=>RetIs w (belX p q x a) y w':=by
 rcases Nat.lt_or_ge (a+7926+53) x with h|h
 ·obtain ⟨d,rfl⟩:∃ d,x=a+7926+53+d:=⟨x-(a+7926+53),by omega⟩
  have:=below_lt w B A1 n1 c1 p A2 n2 c2 q (((a+7926+53+d:Nat):Int)-9000) ((a:Int)-1074+53) d (by omega) (by omega) h1 h2 hB hn1 hn2 (by omega) (by omega)
  have e:decide (p*p2 d<q)=belX p q (a+7926+53+d) a:=by
   rw [belX,decide_eq_decide,p2_add _ d,mul_sw]
   exact (Nat.mul_lt_mul_right (p2_pos _)).symm
  rwa [e] at this
 ·obtain ⟨d,hd⟩:∃ d,a+7926+53=x+d:=⟨a+7926+53-x,by omega⟩
  have:=below_ge w B A1 n1 c1 p A2 n2 c2 q ((x:Int)-9000) ((a:Int)-1074+53) d (by omega) h1 h2 hB hn1 hn2 (by omega) (by omega)
  have e:decide (p<q*p2 d)=belX p q x a:=by
   rw [belX,hd,decide_eq_decide,p2_add,mul_sw]
   exact (Nat.mul_lt_mul_right (p2_pos _)).symm
  rwa [e] at this
def fi (n:Nat):Nat:=if n<9007199254740992 then ir n else c53
theorem fi_of (n:Nat) (h:n≤9007199254740992):floatOfInt .f64 (n:Int)=fi n∧fi n<irg∧vl (fi n)=n*UU:=by
 unfold fi
 split
 ·next hn=>exact ⟨ofInt_exact n hn,(ir_vl n hn).1,(ir_vl n hn).2⟩
 ·obtain rfl:n=9007199254740992:=by omega
  exact ⟨by decide +kernel,c53_lt,c53_vl⟩
set_option maxRecDepth 20000 in
set_option maxHeartbeats 4000000 in
theorem times_zero (w:World):Calls Tryz.prog 196 #[.float .f64 0,.int .i64 (-1074)] w fun y w'=>y=.returned (.float .f64 0)∧Drws w w':=by
 have hz0:(FloatKind.f64.format.order 0 0==some .eq)=true:=by decide
 go_enter Tryz.func196,Tryz.ntmps196
 go_wp2
 go_loopw [0,1] (fun x e wr=>x=.float .f64 0∧e=.int .i64 (-1074)∧Hid (Drws w wr)) (fun _ _ _=>0)
 case atStart=>exact ⟨rfl,rfl,drws_refl _⟩
 case round =>
  obtain ⟨rfl,rfl,HD⟩:=hrel
  go_wp2
  go_loopw [0,1] (fun x e wr=>x=.float .f64 0∧e=.int .i64 (-1074)∧Hid (Drws w wr)) (fun _ _ _=>0)
  case atStart=>exact ⟨rfl,rfl,HD.out⟩
  case round =>
   obtain ⟨rfl,rfl,HD⟩:=hrel
   go_wp2
   go_ret
   exact ⟨rfl,HD.out⟩
theorem timesV_any (w:World) (v a:Nat) (hv:v≤9007199254740992) (h0:v=0→a=0) (ha:a≤5000) :
 Calls Tryz.prog 196 #[.float .f64 (fi v),.int .i64 ((a:Int)-1074)] w fun y w'=>(∃ r,y=.returned (.float .f64 r)∧r≤irg∧(v*2^a<2^FF→r<irg∧vl r=v*2^a)∧(2^FF≤v*2^a→r=irg))∧Drws w w':=by
 obtain ⟨_,h1,h2⟩:=fi_of v hv
 rcases Nat.eq_zero_or_pos v with h|h
 ·obtain rfl:=h
  obtain rfl:=h0 rfl
  have e:fi 0=0:=rfl
  rw [e]
  refine (times_zero w).mono ?_
  rintro y w' ⟨rfl,hd⟩
  refine ⟨⟨0,rfl,Nat.zero_le _,fun _=>⟨irg_pos,by rw [vl_zero,Nat.zero_mul]⟩,fun h=>?_⟩,hd⟩
  have:=Nat.two_pow_pos FF
  omega
 ·exact times_any w v a (fi v) h h1 h2 ha
end Go.Proofs.YtfhmaincnlaapaaGreat
