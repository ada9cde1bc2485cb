/- bushelref01: Sub, Fits, Int. -/
import Derived.Deep.RegionHeld3
import Derived.StillTailTactics
import Derived.Laws.OwnMore
import Derived.Deep.DeepCutAuto
import Derived.Test.YtfhmaincnlaapaaGreatTrNumSums
namespace Go.Proofs.YtfhmaincnlaapaaGreat
open Go.ChangeShapes Go.WideShapes Go.ChangeAt Go.RowKit
set_option linter.unusedVariables false
theorem Rd.farB {w:World} {B size n g:Nat} {A:Option Addr} {xs:List Value} {t:TypeId} {cs:Array Value} (h:Rd w B size A n xs) (hk:Blk w g t cs) (hx:∀ u∈xs,u∉cs.toList) (i:Nat) (u:Value):Rd (w.setCell ⟨g,i,none⟩ u) B size A n xs:=by
 refine ⟨h.1,fun hn=>?_⟩
 obtain ⟨a,e,hb,hc⟩:=h.2 hn
 refine ⟨a,e,hb,fun j v hv=>?_⟩
 have h1:=hc j v hv
 by_cases hg:g=(a.add j).block
 ·exfalso
  unfold World.cell? at h1
  unfold Blk at hk
  rw [←hg,hk] at h1
  simp only at h1
  split at h1
  ·cases h1
  ·refine hx v (List.mem_of_getElem? hv) ?_
   rw [←Array.getElem?_toList] at h1
   exact List.mem_of_getElem? h1
 ·rw [←h1]
  exact World.cell?_setCell_far w _ _ _ hg
theorem i64n_not_bool (l:List Nat) (b:Bool) (A:Option Addr) (n c:Nat):∀ u∈i64n l,u∉(#[.bool b,.slice A n c]:Array Value).toList:=by
 intro u hu
 obtain ⟨x,_,rfl⟩:=List.mem_map.1 hu
 simp
theorem RetNum.store {w w2:World} {g B n c:Nat} {b:Bool} {A:Option Addr} {z:Int} (h:NumV w2 B b A n c z) (hk:Blk w2 g 134 #[.bool false,.slice none 0 0]) (hb:Below w.heap.size w w2) (hg:w.heap.size≤g) (hB:B≤w2.heap.size) :
 RetNum w z (.returned (.agg #[.bool b,.slice A n c])) ((w2.setCell ⟨g,0,none⟩ (.bool b)).setCell ⟨g,1,none⟩ (.slice A n c)):=by
 refine ⟨b,A,n,c,rfl,⟨h.sgn,h.len,?_,h.hc,h.hm⟩,(hb.setCell hg _).setCell hg _⟩
 have h1:=h.rd.farB hk (i64n_not_bool _ _ _ _ _) 0 (.bool b)
 have h2:=h1.farB (hk.set_ 0 (.bool b)) (i64n_not_bool _ _ _ _ _) 1 (.slice A n c)
 exact h2.more (by simpa using hB)
theorem neg_sg (z:Int) (b:Bool) (h:b=decide (z<0)):sgZ (!b) z.natAbs=-z:=by
 subst h
 unfold sgZ
 by_cases h:z<0<;>simp [h]<;>omega
set_option maxRecDepth 20000 in
theorem neg01_any (w:World) (B:Nat) (b:Bool) (A:Option Addr) (n c:Nat) (z:Int) (h:NumV w B b A n c z) (hB:B≤w.heap.size) :
 Calls Tryz.prog 138 #[.agg #[.bool b,.slice A n c]] w fun y w'=>RetNum w (-z) y w':=by
 have hs:=neg_sg z b h.sgn
 obtain ⟨hsg,rfl,hR,hc,hm⟩:=h
 clear hsg
 have hw:=belA (belA (belR w) (.cells #[.bool b,.slice A (dig z.natAbs).length c] 134)) (.cells #[.bool false,.slice none 0 0] 134)
 have hmd:=made_any ((w.alloc (.cells #[.bool b,.slice A (dig z.natAbs).length c] 134)).alloc (.cells #[.bool false,.slice none 0 0] 134)) B A c (dig z.natAbs) (!b) (hR.below (hw.mono hB)) (dig_lt _) hc hm (by simp;omega)
 rw [vd_dig,hs] at hmd
 have k2:=Blk.new (w.alloc (.cells #[.bool b,.slice A (dig z.natAbs).length c] 134)) 134 #[.bool false,.slice none 0 0]
 rw [show (w.alloc (.cells #[.bool b,.slice A (dig z.natAbs).length c] 134)).heap.size=w.heap.size+1 from by simp] at k2
 have HW:=Lib.hid hw;have HMD:=Lib.hid hmd;have K2:=Lib.hid k2
 clear hw hmd hR hs k2
 go_enter Tryz.func138,Tryz.ntmps138
 go_wp2_with fail
 (with_reducible refine HMD.out.mono ?_);rintro y w2 ⟨b2,A2,n2,c2,rfl,hv,hb2⟩
 have hk:=K2.out.below hb2 (by simp)
 have HV:=Lib.hid hv;have HK:=Lib.hid hk;have HB2:=Lib.hid (HW.out.trans (hb2.mono (by simp;omega)))
 have x0:=hk.cell 0;have x1:=hk.cell 1;have f0:=hk.frozen 0;have f1:=hk.frozen 1
 simp at x0 x1
 clear hv hk hb2
 go_wp2
 exact bodyPost_ret (v:=.agg #[.bool b2,.slice A2 n2 c2]) (by simp [results,Tryz.results138,go_sem, *]) rfl (RetNum.store HV.out HK.out HB2.out (by omega) (Nat.le_refl _))
theorem add_sg (z1 z2:Int) (b:Bool) (h1:b=decide (z1<0)) (h2:b=decide (z2<0)):sgZ b (z1.natAbs+z2.natAbs)=z1+z2:=by
 unfold sgZ
 cases b
 ·have:=of_decide_eq_false h1.symm;have:=of_decide_eq_false h2.symm;simp;omega
 ·have:=of_decide_eq_true h1.symm;have:=of_decide_eq_true h2.symm;simp;omega
theorem sub_sg (z1 z2:Int) (b b':Bool) (h1:b=decide (z1<0)) (h2:b'=decide (z2<0)) (hn:b≠b') (hle:z2.natAbs≤z1.natAbs):sgZ b (z1.natAbs-z2.natAbs)=z1+z2:=by
 unfold sgZ
 cases b
 ·have:=of_decide_eq_false h1.symm
  cases b'
  ·exact absurd rfl hn
  ·have:=of_decide_eq_true h2.symm;simp;omega
 ·have:=of_decide_eq_true h1.symm
  cases b'
  ·have:=of_decide_eq_false h2.symm;simp;omega
  ·exact absurd rfl hn
abbrev numC (b:Bool) (A:Option Addr) (n c:Nat):Array Value:=#[.bool b,.slice A n c]
def Two (w:World) (g1 g2:Nat) (x y:Array Value):Prop:=Blk w g1 134 x∧Blk w g2 134 y
theorem Two.below {w w':World} {B g1 g2:Nat} {x y:Array Value} (h:Two w g1 g2 x y) (hb:Below B w w') (h1:g1<B) (h2:g2<B):Two w' g1 g2 x y:=⟨h.1.below hb h1,h.2.below hb h2⟩
theorem Two.drew {w:World} {g1 g2:Nat} {x y:Array Value} (h:Two w g1 g2 x y):Two w.drew g1 g2 x y:=h
set_option maxRecDepth 20000 in
set_option maxHeartbeats 8000000 in
theorem add01_any (w:World) (B:Nat) (b1:Bool) (A1:Option Addr) (n1 c1:Nat) (z1:Int) (b2:Bool) (A2:Option Addr) (n2 c2:Nat) (z2:Int) (h1:NumV w B b1 A1 n1 c1 z1) (h2:NumV w B b2 A2 n2 c2 z2) (hB:B≤w.heap.size) (hn1:n1≤1000000) (hn2:n2≤1000000) :
 Calls Tryz.prog 185 #[.agg #[.bool b1,.slice A1 n1 c1],.agg #[.bool b2,.slice A2 n2 c2]] w fun y w'=>RetNum w (z1+z2) y w':=by
 have hs:=add_sg z1 z2 b1 h1.sgn
 have hss:=sub_sg z1 z2 b1 b2 h1.sgn h2.sgn
 have hss':=sub_sg z2 z1 b2 b1 h2.sgn h1.sgn
 have hsg2:=h2.sgn
 obtain ⟨hsg,rfl,hR1,hc1,hm1⟩:=h1
 obtain ⟨hsg',rfl,hR2,hc2,hm2⟩:=h2
 clear hsg hsg'
 have hl1:=dig_lt z1.natAbs
 have hl2:=dig_lt z2.natAbs
 have hv1:=vd_dig z1.natAbs
 have hv2:=vd_dig z2.natAbs
 generalize dig z1.natAbs=l1 at *
 generalize dig z2.natAbs=l2 at *
 obtain ⟨W0,hW0⟩:∃ W0,W0=((w.alloc (.cells (numC b1 A1 l1.length c1) 134)).alloc (.cells (numC b2 A2 l2.length c2) 134)).alloc (.cells #[.bool false,.slice none 0 0] 134):=⟨_,rfl⟩
 have hz0:W0.heap.size=w.heap.size+3:=by rw [hW0];simp
 have hw:Below w.heap.size w W0:=by rw [hW0];exact belA (belA (belA (belR w) _) _) _
 have k1:Blk W0 w.heap.size 134 (numC b1 A1 l1.length c1):=by rw [hW0];exact ((Blk.new w _ _).alloc _).alloc _
 have k2:Blk W0 (w.heap.size+1) 134 (numC b2 A2 l2.length c2):=by
  rw [hW0];have:=(Blk.new (w.alloc (.cells (numC b1 A1 l1.length c1) 134)) 134 (numC b2 A2 l2.length c2)).alloc (.cells #[.bool false,.slice none 0 0] 134)
  simpa using this
 have k3:Blk W0 (w.heap.size+1+1) 134 #[.bool false,.slice none 0 0]:=by
  rw [hW0];have:=Blk.new ((w.alloc (.cells (numC b1 A1 l1.length c1) 134)).alloc (.cells (numC b2 A2 l2.length c2) 134)) 134 #[.bool false,.slice none 0 0]
  simpa using this
 have hr1:Rd W0 B 1 A1 l1.length (i64n l1):=hR1.below (hw.mono hB)
 have hr2:Rd W0 B 1 A2 l2.length (i64n l2):=hR2.below (hw.mono hB)
 have hlt:=less01_any W0 B A1 A2 c1 c2 l1 l2 hr1 hr2 hl1 hl2 (by omega) (by omega)
 have hsum:=sum01_any W0.drew B A1 A2 c1 c2 l1 l2 hr1 hr2 hl1 hl2 hn1 hn2 (by show B≤W0.heap.size;omega)
 have hrs1:=fun hle=>rest01_any W0.drew B A1 A2 c1 c2 l1 l2 hr1 hr2 hl1 hl2 hn1 hn2 (by show B≤W0.heap.size;omega) hle
 have hrs2:=fun hle=>rest01_any W0.drew B A2 A1 c2 c1 l2 l1 hr2 hr1 hl2 hl1 hn2 hn1 (by show B≤W0.heap.size;omega) hle
 rw [←hv1,←hv2] at hs hss hss'
 have hte:∃ t,Two W0 w.heap.size (w.heap.size+1) (numC b1 A1 l1.length c1) (numC b2 A2 l2.length c2)=t:=⟨_,rfl⟩
 have HTW:=Lib.hid (show Two W0 w.heap.size (w.heap.size+1) (numC b1 A1 l1.length c1) (numC b2 A2 l2.length c2) from ⟨k1,k2⟩)
 have HW:=Lib.hid hw;have K3:=Lib.hid k3;have HZ0:=Lib.hid hz0
 have HLT:=Lib.hid hlt;have HSUM:=Lib.hid hsum;have HRS1:=Lib.hid hrs1;have HRS2:=Lib.hid hrs2;have HS:=Lib.hid hs;have HSS:=Lib.hid hss;have HSS':=Lib.hid hss'
 have x0:=k1.cell 0;have x1:=k1.cell 1;have y0:=k2.cell 0;have y1:=k2.cell 1
 simp at x0 x1 y0 y1
 have HEQ:=Lib.hid hsg2
 clear hw k1 k2 k3 hr1 hr2 hlt hsum hrs1 hrs2 hs hss hss' hte hR1 hR2 hv1 hv2 hz0 hsg2
 have HW0:=Lib.hid hW0
 clear hW0
 cases b1<;>cases b2
 case false.false =>
  go_enter Tryz.func185,Tryz.ntmps185
  go_wp2
  rw [←HW0.out]
  have HS0:Hid (W0.drew.cell? ⟨w.heap.size,0,none⟩=some (.bool false)∧W0.drew.cell? ⟨w.heap.size,1,none⟩=some (.slice A1 l1.length c1)∧W0.drew.cell? ⟨w.heap.size+1,1,none⟩=some (.slice A2 l2.length c2)):=Lib.hid ⟨x0,x1,y1⟩
  go_region_held (fun W=>W.cell? ⟨w.heap.size,0,none⟩=some (.bool false)∧W.cell? ⟨w.heap.size,1,none⟩=some (.slice A1 l1.length c1)∧W.cell? ⟨w.heap.size+1,1,none⟩=some (.slice A2 l2.length c2)) (first|(with_reducible exact HS0.out)|(exact hk5)|(exact hk6)|(refine ⟨?_,?_,?_⟩<;>(rw [World.cell?_setCell_far _ _ _ _ (by simp only [ne_eq];omega),World.cell?_setCell_far _ _ _ _ (by simp only [ne_eq];omega)];first|exact hk6.1|exact hk6.2.1|exact hk6.2.2))) (first
   | (go_at_call 208;(with_reducible refine HSUM.out.mono ?_);rintro y w5 ⟨A5,c5,L5,rfl,ho5,hc5,hm5,hp5,hb5⟩;have ht5:=Two.below (HTW.out.drew) hb5 (by show w.heap.size<W0.heap.size;have:=HZ0.out;omega) (by show w.heap.size+1<W0.heap.size;have:=HZ0.out;omega);have hk5:w5.cell? ⟨w.heap.size,0,none⟩=some (.bool false)∧w5.cell? ⟨w.heap.size,1,none⟩=some (.slice A1 l1.length c1)∧w5.cell? ⟨w.heap.size+1,1,none⟩=some (.slice A2 l2.length c2):=⟨ht5.1.cell 0,ht5.1.cell 1,ht5.2.cell 1⟩;have HL5:=Lib.hid hp5.2.1;have HO5:=Lib.hid ho5;have HP5:=Lib.hid hp5;have HT5:=Lib.hid ht5;have HB5:=Lib.hid ((belR W0).drew.trans hb5);clear ho5 hp5 ht5 hb5)
   | (go_at_call 187;(with_reducible refine (made_any w5 w5.heap.size A5 c5 L5 _ (Rd.own HO5.out) HL5.out hc5 hm5 (Nat.le_refl _)).mono ?_);rintro y w6 ⟨b6,A6,n6,c6,rfl,hv6,hb6⟩;have ht6:=Two.below HT5.out hb6 (by have:=HB5.out.size;have:=HZ0.out;omega) (by have:=HB5.out.size;have:=HZ0.out;omega);have hk6:w6.cell? ⟨w.heap.size,0,none⟩=some (.bool false)∧w6.cell? ⟨w.heap.size,1,none⟩=some (.slice A1 l1.length c1)∧w6.cell? ⟨w.heap.size+1,1,none⟩=some (.slice A2 l2.length c2):=⟨ht6.1.cell 0,ht6.1.cell 1,ht6.2.cell 1⟩;have hk3:=K3.out.below (HB5.out.trans (hb6.mono HB5.out.size)) (by have:=HZ0.out;omega);have r0:w6.cell? ⟨w.heap.size+1+1,0,none⟩=some (.bool false):=hk3.cell 0;have r1:w6.cell? ⟨w.heap.size+1+1,1,none⟩=some (.slice none 0 0):=hk3.cell 1;have f0:w6.frozen? ⟨w.heap.size+1+1,0,none⟩=false:=hk3.frozen 0;have f1:w6.frozen? ⟨w.heap.size+1+1,1,none⟩=false:=hk3.frozen 1;have HK3:=Lib.hid hk3;have HV6:=Lib.hid hv6;have HB6:=Lib.hid (show Below W0.heap.size W0 w6 from HB5.out.trans (hb6.mono HB5.out.size));clear hv6 ht6 hb6 hk3))
  all_goals
   have hv6:=HV6.out
   rw [HP5.out.1,HS.out HEQ.out] at hv6
   have HV7:=Lib.hid hv6
   have hb7:Below w.heap.size w w6:=HW.out.trans (HB6.out.mono (by have:=HZ0.out;omega))
   have HB7:=Lib.hid hb7
   clear hv6 hb7
   go_wp2
   exact bodyPost_ret (v:=.agg #[.bool b6,.slice A6 n6 c6]) (by simp [results,Tryz.results185,go_sem, *]) rfl (RetNum.store HV7.out HK3.out HB7.out (by omega) (Nat.le_refl _))
 case true.true =>
  go_enter Tryz.func185,Tryz.ntmps185
  go_wp2
  rw [←HW0.out]
  have HS0:Hid (W0.drew.cell? ⟨w.heap.size,0,none⟩=some (.bool true)∧W0.drew.cell? ⟨w.heap.size,1,none⟩=some (.slice A1 l1.length c1)∧W0.drew.cell? ⟨w.heap.size+1,1,none⟩=some (.slice A2 l2.length c2)):=Lib.hid ⟨x0,x1,y1⟩
  go_region_held (fun W=>W.cell? ⟨w.heap.size,0,none⟩=some (.bool true)∧W.cell? ⟨w.heap.size,1,none⟩=some (.slice A1 l1.length c1)∧W.cell? ⟨w.heap.size+1,1,none⟩=some (.slice A2 l2.length c2)) (first|(with_reducible exact HS0.out)|(exact hk5)|(exact hk6)|(refine ⟨?_,?_,?_⟩<;>(rw [World.cell?_setCell_far _ _ _ _ (by simp only [ne_eq];omega),World.cell?_setCell_far _ _ _ _ (by simp only [ne_eq];omega)];first|exact hk6.1|exact hk6.2.1|exact hk6.2.2))) (first
   | (go_at_call 208;(with_reducible refine HSUM.out.mono ?_);rintro y w5 ⟨A5,c5,L5,rfl,ho5,hc5,hm5,hp5,hb5⟩;have ht5:=Two.below (HTW.out.drew) hb5 (by show w.heap.size<W0.heap.size;have:=HZ0.out;omega) (by show w.heap.size+1<W0.heap.size;have:=HZ0.out;omega);have hk5:w5.cell? ⟨w.heap.size,0,none⟩=some (.bool true)∧w5.cell? ⟨w.heap.size,1,none⟩=some (.slice A1 l1.length c1)∧w5.cell? ⟨w.heap.size+1,1,none⟩=some (.slice A2 l2.length c2):=⟨ht5.1.cell 0,ht5.1.cell 1,ht5.2.cell 1⟩;have HL5:=Lib.hid hp5.2.1;have HO5:=Lib.hid ho5;have HP5:=Lib.hid hp5;have HT5:=Lib.hid ht5;have HB5:=Lib.hid ((belR W0).drew.trans hb5);clear ho5 hp5 ht5 hb5)
   | (go_at_call 187;(with_reducible refine (made_any w5 w5.heap.size A5 c5 L5 _ (Rd.own HO5.out) HL5.out hc5 hm5 (Nat.le_refl _)).mono ?_);rintro y w6 ⟨b6,A6,n6,c6,rfl,hv6,hb6⟩;have ht6:=Two.below HT5.out hb6 (by have:=HB5.out.size;have:=HZ0.out;omega) (by have:=HB5.out.size;have:=HZ0.out;omega);have hk6:w6.cell? ⟨w.heap.size,0,none⟩=some (.bool true)∧w6.cell? ⟨w.heap.size,1,none⟩=some (.slice A1 l1.length c1)∧w6.cell? ⟨w.heap.size+1,1,none⟩=some (.slice A2 l2.length c2):=⟨ht6.1.cell 0,ht6.1.cell 1,ht6.2.cell 1⟩;have hk3:=K3.out.below (HB5.out.trans (hb6.mono HB5.out.size)) (by have:=HZ0.out;omega);have r0:w6.cell? ⟨w.heap.size+1+1,0,none⟩=some (.bool false):=hk3.cell 0;have r1:w6.cell? ⟨w.heap.size+1+1,1,none⟩=some (.slice none 0 0):=hk3.cell 1;have f0:w6.frozen? ⟨w.heap.size+1+1,0,none⟩=false:=hk3.frozen 0;have f1:w6.frozen? ⟨w.heap.size+1+1,1,none⟩=false:=hk3.frozen 1;have HK3:=Lib.hid hk3;have HV6:=Lib.hid hv6;have HB6:=Lib.hid (show Below W0.heap.size W0 w6 from HB5.out.trans (hb6.mono HB5.out.size));clear hv6 ht6 hb6 hk3))
  all_goals
   have hv6:=HV6.out
   rw [HP5.out.1,HS.out HEQ.out] at hv6
   have HV7:=Lib.hid hv6
   have hb7:Below w.heap.size w w6:=HW.out.trans (HB6.out.mono (by have:=HZ0.out;omega))
   have HB7:=Lib.hid hb7
   clear hv6 hb7
   go_wp2
   exact bodyPost_ret (v:=.agg #[.bool b6,.slice A6 n6 c6]) (by simp [results,Tryz.results185,go_sem, *]) rfl (RetNum.store HV7.out HK3.out HB7.out (by omega) (Nat.le_refl _))
 case false.true =>
  by_cases hle:vd l2≤vd l1
  ·have hlt:=HLT.out
   have t1:decide ((0:Int)≤cmpN (vd l1) (vd l2))=true:=decide_eq_true (by unfold cmpN;(repeat' split)<;>omega)
   have HRS:=Lib.hid (HRS1.out hle);have HZZ:=Lib.hid (HSS.out (by decide) hle)
   generalize cmpN (vd l1) (vd l2)=cc at *
   have HLT2:=Lib.hid hlt
   clear hlt HLT hle
   go_enter Tryz.func185,Tryz.ntmps185
   go_wp2_with fail
   rw [←HW0.out]
   (with_reducible refine HLT2.out.mono ?_);rintro y w1 ⟨rfl,rfl⟩
   go_wp2
   have HS0:Hid (W0.drew.cell? ⟨w.heap.size,0,none⟩=some (.bool false)∧W0.drew.cell? ⟨w.heap.size,1,none⟩=some (.slice A1 l1.length c1)∧W0.drew.cell? ⟨w.heap.size+1,1,none⟩=some (.slice A2 l2.length c2)):=Lib.hid ⟨x0,x1,y1⟩
   go_region_held (fun W=>W.cell? ⟨w.heap.size,0,none⟩=some (.bool false)∧W.cell? ⟨w.heap.size,1,none⟩=some (.slice A1 l1.length c1)∧W.cell? ⟨w.heap.size+1,1,none⟩=some (.slice A2 l2.length c2)) (first|(with_reducible exact HS0.out)|(exact hk5)|(exact hk6)|(refine ⟨?_,?_,?_⟩<;>(rw [World.cell?_setCell_far _ _ _ _ (by simp only [ne_eq];omega),World.cell?_setCell_far _ _ _ _ (by simp only [ne_eq];omega)];first|exact hk6.1|exact hk6.2.1|exact hk6.2.2))) (first
    | (go_at_call 210;(with_reducible refine HRS.out.mono ?_);rintro y w5 ⟨A5,c5,L5,rfl,ho5,hc5,hm5,hp5,hb5⟩;have ht5:=Two.below (HTW.out.drew) hb5 (by show w.heap.size<W0.heap.size;have:=HZ0.out;omega) (by show w.heap.size+1<W0.heap.size;have:=HZ0.out;omega);have hk5:w5.cell? ⟨w.heap.size,0,none⟩=some (.bool false)∧w5.cell? ⟨w.heap.size,1,none⟩=some (.slice A1 l1.length c1)∧w5.cell? ⟨w.heap.size+1,1,none⟩=some (.slice A2 l2.length c2):=⟨ht5.1.cell 0,ht5.1.cell 1,ht5.2.cell 1⟩;have HL5:=Lib.hid hp5.2.1;have HO5:=Lib.hid ho5;have HP5:=Lib.hid hp5;have HT5:=Lib.hid ht5;have HB5:=Lib.hid ((belR W0).drew.trans hb5);clear ho5 hp5 ht5 hb5)
    | (go_at_call 187;(with_reducible refine (made_any w5 w5.heap.size A5 c5 L5 _ (Rd.own HO5.out) HL5.out hc5 hm5 (Nat.le_refl _)).mono ?_);rintro y w6 ⟨b6,A6,n6,c6,rfl,hv6,hb6⟩;have ht6:=Two.below HT5.out hb6 (by have:=HB5.out.size;have:=HZ0.out;omega) (by have:=HB5.out.size;have:=HZ0.out;omega);have hk6:w6.cell? ⟨w.heap.size,0,none⟩=some (.bool false)∧w6.cell? ⟨w.heap.size,1,none⟩=some (.slice A1 l1.length c1)∧w6.cell? ⟨w.heap.size+1,1,none⟩=some (.slice A2 l2.length c2):=⟨ht6.1.cell 0,ht6.1.cell 1,ht6.2.cell 1⟩;have hk3:=K3.out.below (HB5.out.trans (hb6.mono HB5.out.size)) (by have:=HZ0.out;omega);have r0:w6.cell? ⟨w.heap.size+1+1,0,none⟩=some (.bool false):=hk3.cell 0;have r1:w6.cell? ⟨w.heap.size+1+1,1,none⟩=some (.slice none 0 0):=hk3.cell 1;have f0:w6.frozen? ⟨w.heap.size+1+1,0,none⟩=false:=hk3.frozen 0;have f1:w6.frozen? ⟨w.heap.size+1+1,1,none⟩=false:=hk3.frozen 1;have HK3:=Lib.hid hk3;have HV6:=Lib.hid hv6;have HB6:=Lib.hid (show Below W0.heap.size W0 w6 from HB5.out.trans (hb6.mono HB5.out.size));clear hv6 ht6 hb6 hk3))
   all_goals
    have hv6:=HV6.out
    rw [HP5.out.1,HZZ.out] at hv6
    have HV7:=Lib.hid hv6
    have hb7:Below w.heap.size w w6:=HW.out.trans (HB6.out.mono (by have:=HZ0.out;omega))
    have HB7:=Lib.hid hb7
    clear hv6 hb7
    go_wp2
    exact bodyPost_ret (v:=.agg #[.bool b6,.slice A6 n6 c6]) (by simp [results,Tryz.results185,go_sem, *]) rfl (RetNum.store HV7.out HK3.out HB7.out (by omega) (Nat.le_refl _))
  ·have hlt:=HLT.out
   have t1:decide ((0:Int)≤cmpN (vd l1) (vd l2))=false:=decide_eq_false (by unfold cmpN;(repeat' split)<;>omega)
   have HRS:=Lib.hid (HRS2.out (by omega));have HZZ:=Lib.hid ((HSS'.out (by decide) (by omega)).trans (Int.add_comm _ _))
   generalize cmpN (vd l1) (vd l2)=cc at *
   have HLT2:=Lib.hid hlt
   clear hlt HLT hle
   go_enter Tryz.func185,Tryz.ntmps185
   go_wp2_with fail
   rw [←HW0.out]
   (with_reducible refine HLT2.out.mono ?_);rintro y w1 ⟨rfl,rfl⟩
   go_wp2
   have HS0:Hid (W0.drew.cell? ⟨w.heap.size+1,0,none⟩=some (.bool true)∧W0.drew.cell? ⟨w.heap.size+1,1,none⟩=some (.slice A2 l2.length c2)∧W0.drew.cell? ⟨w.heap.size,1,none⟩=some (.slice A1 l1.length c1)):=Lib.hid ⟨y0,y1,x1⟩
   go_region_held (fun W=>W.cell? ⟨w.heap.size+1,0,none⟩=some (.bool true)∧W.cell? ⟨w.heap.size+1,1,none⟩=some (.slice A2 l2.length c2)∧W.cell? ⟨w.heap.size,1,none⟩=some (.slice A1 l1.length c1)) (first|(with_reducible exact HS0.out)|(exact hk5)|(exact hk6)|(refine ⟨?_,?_,?_⟩<;>(rw [World.cell?_setCell_far _ _ _ _ (by simp only [ne_eq];omega),World.cell?_setCell_far _ _ _ _ (by simp only [ne_eq];omega)];first|exact hk6.1|exact hk6.2.1|exact hk6.2.2))) (first
    | (go_at_call 210;(with_reducible refine HRS.out.mono ?_);rintro y w5 ⟨A5,c5,L5,rfl,ho5,hc5,hm5,hp5,hb5⟩;have ht5:=Two.below (HTW.out.drew) hb5 (by show w.heap.size<W0.heap.size;have:=HZ0.out;omega) (by show w.heap.size+1<W0.heap.size;have:=HZ0.out;omega);have hk5:w5.cell? ⟨w.heap.size+1,0,none⟩=some (.bool true)∧w5.cell? ⟨w.heap.size+1,1,none⟩=some (.slice A2 l2.length c2)∧w5.cell? ⟨w.heap.size,1,none⟩=some (.slice A1 l1.length c1):=⟨ht5.2.cell 0,ht5.2.cell 1,ht5.1.cell 1⟩;have HL5:=Lib.hid hp5.2.1;have HO5:=Lib.hid ho5;have HP5:=Lib.hid hp5;have HT5:=Lib.hid ht5;have HB5:=Lib.hid ((belR W0).drew.trans hb5);clear ho5 hp5 ht5 hb5)
    | (go_at_call 187;(with_reducible refine (made_any w5 w5.heap.size A5 c5 L5 _ (Rd.own HO5.out) HL5.out hc5 hm5 (Nat.le_refl _)).mono ?_);rintro y w6 ⟨b6,A6,n6,c6,rfl,hv6,hb6⟩;have ht6:=Two.below HT5.out hb6 (by have:=HB5.out.size;have:=HZ0.out;omega) (by have:=HB5.out.size;have:=HZ0.out;omega);have hk6:w6.cell? ⟨w.heap.size+1,0,none⟩=some (.bool true)∧w6.cell? ⟨w.heap.size+1,1,none⟩=some (.slice A2 l2.length c2)∧w6.cell? ⟨w.heap.size,1,none⟩=some (.slice A1 l1.length c1):=⟨ht6.2.cell 0,ht6.2.cell 1,ht6.1.cell 1⟩;have hk3:=K3.out.below (HB5.out.trans (hb6.mono HB5.out.size)) (by have:=HZ0.out;omega);have r0:w6.cell? ⟨w.heap.size+1+1,0,none⟩=some (.bool false):=hk3.cell 0;have r1:w6.cell? ⟨w.heap.size+1+1,1,none⟩=some (.slice none 0 0):=hk3.cell 1;have f0:w6.frozen? ⟨w.heap.size+1+1,0,none⟩=false:=hk3.frozen 0;have f1:w6.frozen? ⟨w.heap.size+1+1,1,none⟩=false:=hk3.frozen 1;have HK3:=Lib.hid hk3;have HV6:=Lib.hid hv6;have HB6:=Lib.hid (show Below W0.heap.size W0 w6 from HB5.out.trans (hb6.mono HB5.out.size));clear hv6 ht6 hb6 hk3))
   all_goals
    have hv6:=HV6.out
    rw [HP5.out.1,HZZ.out] at hv6
    have HV7:=Lib.hid hv6
    have hb7:Below w.heap.size w w6:=HW.out.trans (HB6.out.mono (by have:=HZ0.out;omega))
    have HB7:=Lib.hid hb7
    clear hv6 hb7
    go_wp2
    exact bodyPost_ret (v:=.agg #[.bool b6,.slice A6 n6 c6]) (by simp [results,Tryz.results185,go_sem, *]) rfl (RetNum.store HV7.out HK3.out HB7.out (by omega) (Nat.le_refl _))
 case true.false =>
  by_cases hle:vd l2≤vd l1
  ·have hlt:=HLT.out
   have t1:decide ((0:Int)≤cmpN (vd l1) (vd l2))=true:=decide_eq_true (by unfold cmpN;(repeat' split)<;>omega)
   have HRS:=Lib.hid (HRS1.out hle);have HZZ:=Lib.hid (HSS.out (by decide) hle)
   generalize cmpN (vd l1) (vd l2)=cc at *
   have HLT2:=Lib.hid hlt
   clear hlt HLT hle
   go_enter Tryz.func185,Tryz.ntmps185
   go_wp2_with fail
   rw [←HW0.out]
   (with_reducible refine HLT2.out.mono ?_);rintro y w1 ⟨rfl,rfl⟩
   go_wp2
   have HS0:Hid (W0.drew.cell? ⟨w.heap.size,0,none⟩=some (.bool true)∧W0.drew.cell? ⟨w.heap.size,1,none⟩=some (.slice A1 l1.length c1)∧W0.drew.cell? ⟨w.heap.size+1,1,none⟩=some (.slice A2 l2.length c2)):=Lib.hid ⟨x0,x1,y1⟩
   go_region_held (fun W=>W.cell? ⟨w.heap.size,0,none⟩=some (.bool true)∧W.cell? ⟨w.heap.size,1,none⟩=some (.slice A1 l1.length c1)∧W.cell? ⟨w.heap.size+1,1,none⟩=some (.slice A2 l2.length c2)) (first|(with_reducible exact HS0.out)|(exact hk5)|(exact hk6)|(refine ⟨?_,?_,?_⟩<;>(rw [World.cell?_setCell_far _ _ _ _ (by simp only [ne_eq];omega),World.cell?_setCell_far _ _ _ _ (by simp only [ne_eq];omega)];first|exact hk6.1|exact hk6.2.1|exact hk6.2.2))) (first
    | (go_at_call 210;(with_reducible refine HRS.out.mono ?_);rintro y w5 ⟨A5,c5,L5,rfl,ho5,hc5,hm5,hp5,hb5⟩;have ht5:=Two.below (HTW.out.drew) hb5 (by show w.heap.size<W0.heap.size;have:=HZ0.out;omega) (by show w.heap.size+1<W0.heap.size;have:=HZ0.out;omega);have hk5:w5.cell? ⟨w.heap.size,0,none⟩=some (.bool true)∧w5.cell? ⟨w.heap.size,1,none⟩=some (.slice A1 l1.length c1)∧w5.cell? ⟨w.heap.size+1,1,none⟩=some (.slice A2 l2.length c2):=⟨ht5.1.cell 0,ht5.1.cell 1,ht5.2.cell 1⟩;have HL5:=Lib.hid hp5.2.1;have HO5:=Lib.hid ho5;have HP5:=Lib.hid hp5;have HT5:=Lib.hid ht5;have HB5:=Lib.hid ((belR W0).drew.trans hb5);clear ho5 hp5 ht5 hb5)
    | (go_at_call 187;(with_reducible refine (made_any w5 w5.heap.size A5 c5 L5 _ (Rd.own HO5.out) HL5.out hc5 hm5 (Nat.le_refl _)).mono ?_);rintro y w6 ⟨b6,A6,n6,c6,rfl,hv6,hb6⟩;have ht6:=Two.below HT5.out hb6 (by have:=HB5.out.size;have:=HZ0.out;omega) (by have:=HB5.out.size;have:=HZ0.out;omega);have hk6:w6.cell? ⟨w.heap.size,0,none⟩=some (.bool true)∧w6.cell? ⟨w.heap.size,1,none⟩=some (.slice A1 l1.length c1)∧w6.cell? ⟨w.heap.size+1,1,none⟩=some (.slice A2 l2.length c2):=⟨ht6.1.cell 0,ht6.1.cell 1,ht6.2.cell 1⟩;have hk3:=K3.out.below (HB5.out.trans (hb6.mono HB5.out.size)) (by have:=HZ0.out;omega);have r0:w6.cell? ⟨w.heap.size+1+1,0,none⟩=some (.bool false):=hk3.cell 0;have r1:w6.cell? ⟨w.heap.size+1+1,1,none⟩=some (.slice none 0 0):=hk3.cell 1;have f0:w6.frozen? ⟨w.heap.size+1+1,0,none⟩=false:=hk3.frozen 0;have f1:w6.frozen? ⟨w.heap.size+1+1,1,none⟩=false:=hk3.frozen 1;have HK3:=Lib.hid hk3;have HV6:=Lib.hid hv6;have HB6:=Lib.hid (show Below W0.heap.size W0 w6 from HB5.out.trans (hb6.mono HB5.out.size));clear hv6 ht6 hb6 hk3))
   all_goals
    have hv6:=HV6.out
    rw [HP5.out.1,HZZ.out] at hv6
    have HV7:=Lib.hid hv6
    have hb7:Below w.heap.size w w6:=HW.out.trans (HB6.out.mono (by have:=HZ0.out;omega))
    have HB7:=Lib.hid hb7
    clear hv6 hb7
    go_wp2
    exact bodyPost_ret (v:=.agg #[.bool b6,.slice A6 n6 c6]) (by simp [results,Tryz.results185,go_sem, *]) rfl (RetNum.store HV7.out HK3.out HB7.out (by omega) (Nat.le_refl _))
  ·have hlt:=HLT.out
   have t1:decide ((0:Int)≤cmpN (vd l1) (vd l2))=false:=decide_eq_false (by unfold cmpN;(repeat' split)<;>omega)
   have HRS:=Lib.hid (HRS2.out (by omega));have HZZ:=Lib.hid ((HSS'.out (by decide) (by omega)).trans (Int.add_comm _ _))
   generalize cmpN (vd l1) (vd l2)=cc at *
   have HLT2:=Lib.hid hlt
   clear hlt HLT hle
   go_enter Tryz.func185,Tryz.ntmps185
   go_wp2_with fail
   rw [←HW0.out]
   (with_reducible refine HLT2.out.mono ?_);rintro y w1 ⟨rfl,rfl⟩
   go_wp2
   have HS0:Hid (W0.drew.cell? ⟨w.heap.size+1,0,none⟩=some (.bool false)∧W0.drew.cell? ⟨w.heap.size+1,1,none⟩=some (.slice A2 l2.length c2)∧W0.drew.cell? ⟨w.heap.size,1,none⟩=some (.slice A1 l1.length c1)):=Lib.hid ⟨y0,y1,x1⟩
   go_region_held (fun W=>W.cell? ⟨w.heap.size+1,0,none⟩=some (.bool false)∧W.cell? ⟨w.heap.size+1,1,none⟩=some (.slice A2 l2.length c2)∧W.cell? ⟨w.heap.size,1,none⟩=some (.slice A1 l1.length c1)) (first|(with_reducible exact HS0.out)|(exact hk5)|(exact hk6)|(refine ⟨?_,?_,?_⟩<;>(rw [World.cell?_setCell_far _ _ _ _ (by simp only [ne_eq];omega),World.cell?_setCell_far _ _ _ _ (by simp only [ne_eq];omega)];first|exact hk6.1|exact hk6.2.1|exact hk6.2.2))) (first
    | (go_at_call 210;(with_reducible refine HRS.out.mono ?_);rintro y w5 ⟨A5,c5,L5,rfl,ho5,hc5,hm5,hp5,hb5⟩;have ht5:=Two.below (HTW.out.drew) hb5 (by show w.heap.size<W0.heap.size;have:=HZ0.out;omega) (by show w.heap.size+1<W0.heap.size;have:=HZ0.out;omega);have hk5:w5.cell? ⟨w.heap.size+1,0,none⟩=some (.bool false)∧w5.cell? ⟨w.heap.size+1,1,none⟩=some (.slice A2 l2.length c2)∧w5.cell? ⟨w.heap.size,1,none⟩=some (.slice A1 l1.length c1):=⟨ht5.2.cell 0,ht5.2.cell 1,ht5.1.cell 1⟩;have HL5:=Lib.hid hp5.2.1;have HO5:=Lib.hid ho5;have HP5:=Lib.hid hp5;have HT5:=Lib.hid ht5;have HB5:=Lib.hid ((belR W0).drew.trans hb5);clear ho5 hp5 ht5 hb5)
    | (go_at_call 187;(with_reducible refine (made_any w5 w5.heap.size A5 c5 L5 _ (Rd.own HO5.out) HL5.out hc5 hm5 (Nat.le_refl _)).mono ?_);rintro y w6 ⟨b6,A6,n6,c6,rfl,hv6,hb6⟩;have ht6:=Two.below HT5.out hb6 (by have:=HB5.out.size;have:=HZ0.out;omega) (by have:=HB5.out.size;have:=HZ0.out;omega);have hk6:w6.cell? ⟨w.heap.size+1,0,none⟩=some (.bool false)∧w6.cell? ⟨w.heap.size+1,1,none⟩=some (.slice A2 l2.length c2)∧w6.cell? ⟨w.heap.size,1,none⟩=some (.slice A1 l1.length c1):=⟨ht6.2.cell 0,ht6.2.cell 1,ht6.1.cell 1⟩;have hk3:=K3.out.below (HB5.out.trans (hb6.mono HB5.out.size)) (by have:=HZ0.out;omega);have r0:w6.cell? ⟨w.heap.size+1+1,0,none⟩=some (.bool false):=hk3.cell 0;have r1:w6.cell? ⟨w.heap.size+1+1,1,none⟩=some (.slice none 0 0):=hk3.cell 1;have f0:w6.frozen? ⟨w.heap.size+1+1,0,none⟩=false:=hk3.frozen 0;have f1:w6.frozen? ⟨w.heap.size+1+1,1,none⟩=false:=hk3.frozen 1;have HK3:=Lib.hid hk3;have HV6:=Lib.hid hv6;have HB6:=Lib.hid (show Below W0.heap.size W0 w6 from HB5.out.trans (hb6.mono HB5.out.size));clear hv6 ht6 hb6 hk3))
   all_goals
    have hv6:=HV6.out
    rw [HP5.out.1,HZZ.out] at hv6
    have HV7:=Lib.hid hv6
    have hb7:Below w.heap.size w w6:=HW.out.trans (HB6.out.mono (by have:=HZ0.out;omega))
    have HB7:=Lib.hid hb7
    clear hv6 hb7
    go_wp2
    exact bodyPost_ret (v:=.agg #[.bool b6,.slice A6 n6 c6]) (by simp [results,Tryz.results185,go_sem, *]) rfl (RetNum.store HV7.out HK3.out HB7.out (by omega) (Nat.le_refl _))
theorem nat01_one (w:World):Calls Tryz.prog 114 #[.int .u64 1] w fun y w'=>RetNum w ((1:Nat):Int) y w':=nat01_any w 1 (by decide)
theorem nat01_two (w:World):Calls Tryz.prog 114 #[.int .u64 2] w fun y w'=>RetNum w 2 y w':=nat01_any w 2 (by decide)
theorem nd_le {z:Int} {k:Nat} (h:z.natAbs<2^k):nd z≤k:=dig_len2 h
theorem NumV.len_le {w:World} {B:Nat} {b:Bool} {A:Option Addr} {n c:Nat} {z:Int} (h:NumV w B b A n c z) {k:Nat} (hz:z.natAbs<2^k):n≤k:=by rw [h.len];exact nd_le hz
def cmpZ (x y:Int):Int:=if x<y then -1 else if y<x then 1 else 0
theorem cmpZ_pos {x y:Int} (hx:decide (x<0)=false) (hy:decide (y<0)=false):cmpZ x y=cmpN x.natAbs y.natAbs:=by
 have:=of_decide_eq_false hx;have:=of_decide_eq_false hy
 unfold cmpZ cmpN;(repeat' split)<;>omega
theorem cmpZ_neg {x y:Int} (hx:decide (x<0)=true) (hy:decide (y<0)=true):cmpZ x y=cmpN y.natAbs x.natAbs:=by
 have:=of_decide_eq_true hx;have:=of_decide_eq_true hy
 unfold cmpZ cmpN;(repeat' split)<;>omega
theorem cmpZ_pn {x y:Int} (hx:decide (x<0)=false) (hy:decide (y<0)=true):cmpZ x y=1:=by
 have:=of_decide_eq_false hx;have:=of_decide_eq_true hy
 unfold cmpZ;(repeat' split)<;>omega
theorem cmpZ_np {x y:Int} (hx:decide (x<0)=true) (hy:decide (y<0)=false):cmpZ x y=-1:=by
 have:=of_decide_eq_true hx;have:=of_decide_eq_false hy
 unfold cmpZ;(repeat' split)<;>omega
set_option maxRecDepth 20000 in
set_option maxHeartbeats 4000000 in
theorem cmp01_any (w:World) (B:Nat) (b1:Bool) (A1:Option Addr) (n1 c1:Nat) (z1:Int) (b2:Bool) (A2:Option Addr) (n2 c2:Nat) (z2:Int) (h1:NumV w B b1 A1 n1 c1 z1) (h2:NumV w B b2 A2 n2 c2 z2) (hB:B≤w.heap.size) :
 Calls Tryz.prog 199 #[.agg #[.bool b1,.slice A1 n1 c1],.agg #[.bool b2,.slice A2 n2 c2]] w fun y w'=>y=.returned (.int .i64 (cmpZ z1 z2))∧Below w.heap.size w w':=by
 obtain ⟨hs1,rfl,hR1,hc1,hm1⟩:=h1
 obtain ⟨hs2,rfl,hR2,hc2,hm2⟩:=h2
 have e1:=@cmpZ_pos z1 z2;have e2:=@cmpZ_neg z1 z2;have e3:=@cmpZ_pn z1 z2;have e4:=@cmpZ_np z1 z2
 rw [←hs1,←hs2] at e1 e2 e3 e4
 clear hs1 hs2
 obtain ⟨cc,hcc⟩:∃ cc,cmpZ z1 z2=cc:=⟨_,rfl⟩
 rw [hcc] at e1 e2 e3 e4 ⊢
 clear hcc
 have hw:Below w.heap.size w ((w.alloc (.cells #[.bool b1,.slice A1 (dig z1.natAbs).length c1] 134)).alloc (.cells #[.bool b2,.slice A2 (dig z2.natAbs).length c2] 134)):=belA (belA (belR w) _) _
 have l1:=less01_any ((w.alloc (.cells #[.bool b1,.slice A1 (dig z1.natAbs).length c1] 134)).alloc (.cells #[.bool b2,.slice A2 (dig z2.natAbs).length c2] 134)) B A1 A2 c1 c2 _ _ (hR1.below (hw.mono hB)) (hR2.below (hw.mono hB)) (dig_lt _) (dig_lt _) (by omega) (by omega)
 have l2:=less01_any ((w.alloc (.cells #[.bool b1,.slice A1 (dig z1.natAbs).length c1] 134)).alloc (.cells #[.bool b2,.slice A2 (dig z2.natAbs).length c2] 134)) B A2 A1 c2 c1 _ _ (hR2.below (hw.mono hB)) (hR1.below (hw.mono hB)) (dig_lt _) (dig_lt _) (by omega) (by omega)
 rw [vd_dig,vd_dig] at l1 l2
 have HW:=Lib.hid hw;have L1:=Lib.hid l1;have L2:=Lib.hid l2
 generalize (dig z1.natAbs).length=n1 at *
 generalize (dig z2.natAbs).length=n2 at *
 clear hw l1 l2 hR1 hR2
 cases b1<;>cases b2
 case false.true =>
  obtain rfl:=e3 rfl rfl
  clear e1 e2 e3 e4
  go_enter Tryz.func199,Tryz.ntmps199
  go_wp2
  go_ret
  exact ⟨rfl,HW.out⟩
 case true.false =>
  obtain rfl:=e4 rfl rfl
  clear e1 e2 e3 e4
  go_enter Tryz.func199,Tryz.ntmps199
  go_wp2
  go_ret
  exact ⟨rfl,HW.out⟩
 case false.false =>
  have E:=Lib.hid (e1 rfl rfl)
  clear e1 e2 e3 e4
  go_enter Tryz.func199,Tryz.ntmps199
  go_wp2_with (go_at_call 209;(with_reducible refine L1.out.mono ?_);rintro y w1 ⟨rfl,rfl⟩)
  go_ret
  exact ⟨by rw [E.out]<;>rfl,HW.out⟩
 case true.true =>
  have E:=Lib.hid (e2 rfl rfl)
  clear e1 e2 e3 e4
  go_enter Tryz.func199,Tryz.ntmps199
  go_wp2_with (go_at_call 209;(with_reducible refine L2.out.mono ?_);rintro y w1 ⟨rfl,rfl⟩)
  go_ret
  exact ⟨by rw [E.out]<;>rfl,HW.out⟩
theorem vd_drop_le (l:List Nat) (k:Nat):vd (l.drop k)≤vd l:=by
 induction k with
 | zero=>simp
 | succ k ih=>have:=vd_drop l k;omega
set_option maxRecDepth 20000 in
set_option maxHeartbeats 4000000 in
theorem uint01_any (w:World) (B:Nat) (b:Bool) (A:Option Addr) (n c:Nat) (z:Int) (h:NumV w B b A n c z) (hB:B≤w.heap.size) (hz:z.natAbs<18446744073709551616) :
 Calls Tryz.prog 200 #[.agg #[.bool b,.slice A n c]] w fun y w'=>y=.returned (.int .u64 (z.natAbs:Int))∧Below w.heap.size w w':=by
 have hn:=h.len_le (k:=64) hz
 obtain ⟨hsg,rfl,hR,hc,hm⟩:=h
 clear hsg
 have hw:Below w.heap.size w (w.alloc (.cells #[.bool b,.slice A (dig z.natAbs).length c] 134)):=belA (belR w) _
 have hv:=vd_dig z.natAbs
 have hl:=dig_lt z.natAbs
 have HK:=Lib.hid (Blk.new w 134 #[.bool b,.slice A (dig z.natAbs).length c])
 generalize dig z.natAbs=l at *
 rw [←hv] at hz ⊢
 have HR:=Lib.hid (hR.below (hw.mono hB));have HW:=Lib.hid hw;have HDR:=Lib.hid (vd_drop l);have HLE:=Lib.hid (vd_drop_le l);have HLT:=Lib.hid (fun k=>dg_lt l k hl)
 clear hw hR hv hl
 go_enter Tryz.func200,Tryz.ntmps200
 go_wp2
 generalize w.alloc (.cells #[.bool b,.slice A l.length c] 134)=W at *
 have x1:=HK.out.cell 1
 simp at x1
 go_loop [3,4] (fun vx vi=>∃ k x:Nat,k≤l.length∧vi=.int .i64 ((k:Int)-1)∧vx=.int .u64 (x:Int)∧Hid (vd (l.drop k)=x)) (fun _ vi=>(intOf vi+1).toNat)
 case atStart=>exact ⟨l.length,0,Nat.le_refl _,rfl,rfl,Lib.hid (vd_drop_far _ _ (Nat.le_refl _))⟩
 case round =>
  obtain ⟨k,x,hk,rfl,rfl,HX⟩:=hrel
  cases k with
  | zero =>
    have hx:=HX.out
    rw [List.drop_zero] at hx
    have HXX:=Lib.hid hx
    simp only [show ((0:Nat):Int)-1=-1 from rfl]
    clear hx HX
    go_wp2
    go_ret
    exact ⟨by rw [HXX.out]<;>rfl,HW.out⟩
  | succ k =>
    obtain ⟨a,rfl,hab,x0⟩:=HR.out.i64n (k:=k) (by omega)
    have v1:=HDR.out k
    have v2:=HLE.out k
    have v3:=HLT.out k
    rw [HX.out] at v1
    have e3:((k+1:Nat):Int)-1=(k:Int):=by omega
    have q1:(0:Int)≤(k:Int):=by omega
    have q2:(k:Int)<(l.length:Int):=by omega
    rw [e3]
    generalize dg l k=d at *
    obtain ⟨y,hy⟩:∃ y,vd (l.drop k)=y:=⟨_,rfl⟩
    rw [hy] at v1 v2
    have b1:(x:Int)*1000<18446744073709551616:=by omega
    have b2:(x:Int)*1000+(d:Int)<18446744073709551616:=by omega
    have b3:(d:Int)<1000:=by omega
    have HY:=Lib.hid hy;have HV1:=Lib.hid v1
    clear e3 hy v1 v2 v3
    go_wp2
    go_round
    case rel=>exact ⟨k,y,by omega,rfl,(by congr 1;have:=HV1.out;omega),HY⟩
    case measure=>first|(simp [intOf];done)|(simp [intOf];omega)
def DigW (w wr:World) (g:Nat) (L:List Nat):Prop:=Blk wr g 3 (i64n L).toArray∧Below w.heap.size w wr
theorem i64n_set (L:List Nat) (j x:Nat):(i64n L).toArray.setIfInBounds j (.int .i64 (x:Int))=(i64n (L.set j x)).toArray:=by
 simp [i64n,List.map_set]
theorem DigW.put {w wr:World} {g:Nat} {L:List Nat} (h:DigW w wr g L) (hg:w.heap.size≤g) (j x:Nat):DigW w (wr.setCell ⟨g,j,none⟩ (.int .i64 (x:Int))) g (L.set j x):=by
 obtain ⟨h3,h4⟩:=h
 refine ⟨?_,h4.setCell hg _⟩
 have:=h3.set_ j (.int .i64 (x:Int))
 rw [i64n_set] at this
 exact this
theorem DigW.at {w wr:World} {g:Nat} {L:List Nat} (h:DigW w wr g L) {j:Nat} (hj:j<L.length):wr.cell? ⟨g,j,none⟩=some (.int .i64 (dg L j:Int)):=by
 rw [h.1.cell]
 simp [i64n,dg,List.getD,hj]
theorem DigW.drew {w wr:World} {g:Nat} {L:List Nat} (h:DigW w wr g L):DigW w wr.drew g L:=⟨h.1.drew,h.2.drew⟩
theorem DigW.drewN {w wr:World} {g:Nat} {L:List Nat} (h:DigW w wr g L) (n:Nat):DigW w (wr.drewN n) g L:=⟨h.1.drewN n,belD h.2 n⟩
theorem DigW.rd {w wr:World} {g:Nat} {L:List Nat} (h:DigW w wr g L):Rd wr wr.heap.size 1 (some ⟨g,0,none⟩) L.length (i64n L):=by
 refine ⟨by simp [i64n],fun hn=>⟨_,rfl,h.1.lt,fun j u hu=>?_⟩⟩
 have hj:(⟨g,0,none⟩:Addr).add j=⟨g,j,none⟩:=by unfold Addr.add;split<;>simp_all
 rw [hj,h.1.cell]
 simpa using hu
theorem made_i64 (n:Nat):madeCells #[.int .i64 0] n=(i64n (List.replicate n 0)).toArray:=by
 apply Array.ext'
 rw [toList_madeCells_one]
 simp [i64n]
theorem mul_sg (z1 z2:Int) (b b':Bool) (h1:b=decide (z1<0)) (h2:b'=decide (z2<0)):sgZ (b != b') (z1.natAbs*z2.natAbs)=z1*z2:=by
 unfold sgZ
 have hm:((z1.natAbs*z2.natAbs:Nat):Int)=(z1.natAbs:Int)*(z2.natAbs:Int):=by simp
 rw [hm]
 cases b
 ·have h1':=of_decide_eq_false h1.symm
  have e1:(z1.natAbs:Int)=z1:=by omega
  cases b'
  ·have h2':=of_decide_eq_false h2.symm
   have e2:(z2.natAbs:Int)=z2:=by omega
   rw [e1,e2];rfl
  ·have h2':=of_decide_eq_true h2.symm
   have e2:(z2.natAbs:Int)=-z2:=by omega
   rw [e1,e2];show -(z1 * -z2)=z1*z2;rw [Int.mul_neg,Int.neg_neg]
 ·have h1':=of_decide_eq_true h1.symm
  have e1:(z1.natAbs:Int)=-z1:=by omega
  cases b'
  ·have h2':=of_decide_eq_false h2.symm
   have e2:(z2.natAbs:Int)=z2:=by omega
   rw [e1,e2];show -(-z1*z2)=z1*z2;rw [Int.neg_mul,Int.neg_neg]
  ·have h2':=of_decide_eq_true h2.symm
   have e2:(z2.natAbs:Int)=-z2:=by omega
   rw [e1,e2];show -z1 * -z2=z1*z2;rw [Int.neg_mul,Int.mul_neg,Int.neg_neg]
set_option maxRecDepth 20000 in
set_option maxHeartbeats 16000000 in
theorem mul01_any (w:World) (B:Nat) (b1:Bool) (A1:Option Addr) (n1 c1:Nat) (z1:Int) (b2:Bool) (A2:Option Addr) (n2 c2:Nat) (z2:Int) (h1:NumV w B b1 A1 n1 c1 z1) (h2:NumV w B b2 A2 n2 c2 z2) (hB:B≤w.heap.size) (hn1:n1≤1000000) (hn2:n2≤1000000) :
 Calls Tryz.prog 186 #[.agg #[.bool b1,.slice A1 n1 c1],.agg #[.bool b2,.slice A2 n2 c2]] w fun y w'=>RetNum w (z1*z2) y w':=by
 have hs:=mul_sg z1 z2 b1 b2 h1.sgn h2.sgn
 obtain ⟨hsg,rfl,hR1,hc1,hm1⟩:=h1
 obtain ⟨hsg',rfl,hR2,hc2,hm2⟩:=h2
 clear hsg hsg'
 have hl1:=dig_lt z1.natAbs
 have hl2:=dig_lt z2.natAbs
 have hv1:=vd_dig z1.natAbs
 have hv2:=vd_dig z2.natAbs
 generalize dig z1.natAbs=l1 at *
 generalize dig z2.natAbs=l2 at *
 obtain ⟨W0,hW0⟩:∃ W0,W0=((w.alloc (.cells (numC b1 A1 l1.length c1) 134)).alloc (.cells (numC b2 A2 l2.length c2) 134)).alloc (.cells #[.bool false,.slice none 0 0] 134):=⟨_,rfl⟩
 have hz0:W0.heap.size=w.heap.size+1+1+1:=by rw [hW0];simp
 have hw:Below w.heap.size w W0:=by rw [hW0];exact belA (belA (belA (belR w) _) _) _
 have k1:Blk W0 w.heap.size 134 (numC b1 A1 l1.length c1):=by rw [hW0];exact ((Blk.new w _ _).alloc _).alloc _
 have k2:Blk W0 (w.heap.size+1) 134 (numC b2 A2 l2.length c2):=by
  rw [hW0];have:=(Blk.new (w.alloc (.cells (numC b1 A1 l1.length c1) 134)) 134 (numC b2 A2 l2.length c2)).alloc (.cells #[.bool false,.slice none 0 0] 134)
  simpa using this
 have k3:Blk W0 (w.heap.size+1+1) 134 #[.bool false,.slice none 0 0]:=by
  rw [hW0];have:=Blk.new ((w.alloc (.cells (numC b1 A1 l1.length c1) 134)).alloc (.cells (numC b2 A2 l2.length c2) 134)) 134 #[.bool false,.slice none 0 0]
  simpa using this
 obtain ⟨m0,hm0⟩:∃ m0,l1.length+l2.length=m0:=⟨_,rfl⟩
 have wa1:(l1.length:Int)+(l2.length:Int)=(m0:Int):=by omega
 obtain ⟨m,hm⟩:∃ m,m0+1=m:=⟨_,rfl⟩
 have wa2:(m0:Int)+1=(m:Int):=by omega
 have HMK:=Lib.hid (fun w=>run_make_row' (P:=Tryz.prog) 82 3 (.int .i64 0) 8 Tryz.underlying82 info_i64n rfl .i64 .i64 m (by omega) (by omega) w)
 have hmk:=HMK.out
 have hD0:DigW W0 (W0.alloc (.cells (madeCells #[.int .i64 0] m) 3)) W0.heap.size (List.replicate (l1.length+l2.length+1) 0):=by
  refine ⟨?_,belA (belR W0) _⟩
  rw [hm0,hm,←made_i64]
  exact Blk.new W0 _ _
 have HD0:=Lib.hid hD0;have HM0:=Lib.hid hm0;have HMM:=Lib.hid hm
 have HW:=Lib.hid hw;have K1:=Lib.hid k1;have K2:=Lib.hid k2;have K3:=Lib.hid k3;have HZ0:=Lib.hid hz0
 have HR1:=Lib.hid (fun W (hW:Below W0.heap.size W0 W)=>hR1.below (hw.trans (hW.mono (by omega)) |>.mono hB))
 have HR2:=Lib.hid (fun W (hW:Below W0.heap.size W0 W)=>hR2.below (hw.trans (hW.mono (by omega)) |>.mono hB))
 have HL1:=Lib.hid hl1;have HL2:=Lib.hid hl2
 have HS:Hid (sgZ (b1 != b2) (vd l1*vd l2)=z1*z2):=Lib.hid (by rw [hv1,hv2];exact hs)
 have HW0:=Lib.hid hW0
 clear hD0 hm0 hm hw k1 k2 k3 hz0 hR1 hR2 hv1 hv2 hs hW0 hl1 hl2
 go_enter Tryz.func186,Tryz.ntmps186
 go_wp2
 rw [←HW0.out]
 go_loopw [6] (fun vi wr=>∃ (i:Nat) (out:List Nat),i≤l1.length∧vi=.int .i64 (i:Int)∧Hid (MulR l1 l2 out i)∧Hid (DigW W0 wr (w.heap.size+1+1+1) out)) (fun vi _=>l1.length-(intOf vi).toNat)
 case atStart=>exact ⟨0,_,by omega,rfl,MulR.zero l1 l2,by have h:=HD0.out;rw [HZ0.out] at h;exact h⟩
 case round =>
  obtain ⟨i,out,hi,rfl,HM,HD⟩:=hrel
  have hz:w.heap.size+1+1+1=W0.heap.size:=HZ0.out.symm
  have x1:wr.cell? ⟨w.heap.size,1,none⟩=some (.slice A1 l1.length c1):=(K1.out.below HD.out.2 (by omega)).cell 1
  have y1:wr.cell? ⟨w.heap.size+1,1,none⟩=some (.slice A2 l2.length c2):=(K2.out.below HD.out.2 (by omega)).cell 1
  have x0:wr.cell? ⟨w.heap.size,0,none⟩=some (.bool b1):=(K1.out.below HD.out.2 (by omega)).cell 0
  have y0:wr.cell? ⟨w.heap.size+1,0,none⟩=some (.bool b2):=(K2.out.below HD.out.2 (by omega)).cell 0
  have hol:out.length=m:=by have h1:=HM.out.1;have h2:=HM0.out;have h3:=HMM.out;omega
  have HZ:=Lib.hid hz
  clear hz
  by_cases hlt:i<l1.length
  ·have q1:(i:Int)<(l1.length:Int):=by omega
   have HMI:=Lib.hid HM.out.start
   clear x0 y0
   go_wp2
   go_loopw [7,8] (fun vc vk ws=>∃ (k carry:Nat) (o:List Nat),k≤l2.length∧vk=.int .i64 (k:Int)∧vc=.int .i64 (carry:Int)∧carry<1000∧Hid (MulI l1 l2 o i k carry)∧Hid (DigW W0 ws (w.heap.size+1+1+1) o)) (fun _ vk _=>l2.length-(intOf vk).toNat)
   case atStart=>exact ⟨0,0,out,by omega,rfl,rfl,by omega,HMI.out,HD.out⟩
   case round =>
    obtain ⟨k,carry,o,hk,rfl,rfl,hcar,HI,HDI⟩:=hrel
    have hz:=HZ.out
    have x1:wr.cell? ⟨w.heap.size,1,none⟩=some (.slice A1 l1.length c1):=(K1.out.below HDI.out.2 (by omega)).cell 1
    have y1:wr.cell? ⟨w.heap.size+1,1,none⟩=some (.slice A2 l2.length c2):=(K2.out.below HDI.out.2 (by omega)).cell 1
    have hol2:o.length=m:=by have h1:=HI.out.1;have h2:=HM0.out;have h3:=HMM.out;omega
    clear hz
    by_cases hkl:k<l2.length
    ·have q2:(k:Int)<(l2.length:Int):=by omega
     obtain ⟨ik,hik⟩:∃ ik,i+k=ik:=⟨_,rfl⟩
     have hikm:ik<m:=by have h2:=HM0.out;have h3:=HMM.out;omega
     obtain ⟨a,ea,hab,z1⟩:=(HR1.out wr HDI.out.2).i64n hlt
     obtain ⟨a',ea',hab',z2⟩:=(HR2.out wr HDI.out.2).i64n hkl
     have z3:=HDI.out.at (j:=ik) (by omega)
     have hsu:=HI.out.succ HL1.out HL2.out hlt hkl
     rw [hik] at hsu
     have g1:=dg_lt l1 i HL1.out
     have g2:=dg_lt l2 k HL2.out
     have g3:=dg_lt o ik HI.out.2.1
     have hbd:=prod_bd g1 g2 g3 hcar
     have hpb:dg l1 i*dg l2 k≤999*999:=Nat.mul_le_mul (by omega) (by omega)
     have hput:=fun x n=>(HDI.out.drewN n).put (by rw [HZ.out];exact Nat.le_refl _) ik x
     have hfz:=HDI.out.1.frozen ik
     subst ea ea'
     generalize dg l1 i=p at *
     generalize dg l2 k=q at *
     generalize dg o ik=r at *
     obtain ⟨pq,hpq⟩:∃ pq,p*q=pq:=⟨_,rfl⟩
     rw [hpq] at hsu hbd hpb
     obtain ⟨s,hs⟩:∃ s,r+pq+carry=s:=⟨_,rfl⟩
     rw [hs] at hsu hbd
     have e1:IntKind.i64.wrap ((p:Int)*(q:Int))=(pq:Int):=by rw [←Int.natCast_mul,hpq];exact IntWalk.i64_in _ (by omega)
     have e2:IntKind.i64.wrap ((r:Int)+(pq:Int))=((r+pq:Nat):Int):=by rw [IntWalk.i64_in _ (by omega)];omega
     obtain ⟨rp,hrp⟩:∃ rp,r+pq=rp:=⟨_,rfl⟩
     rw [hrp] at e2 hs
     have e3:IntKind.i64.wrap ((rp:Int)+(carry:Int))=(s:Int):=by rw [IntWalk.i64_in _ (by omega)];omega
     have e4:IntKind.i64.wrap ((i:Int)+(k:Int))=(ik:Int):=by rw [IntWalk.i64_in _ (by omega)];omega
     have e5:(i:Int)+(k:Int)=(ik:Int):=by omega
     have e8:IntKind.i64.wrap (ik:Int)=(ik:Int):=IntWalk.i64_in _ (by omega)
     have q3:(0:Int)≤(ik:Int):=by omega
     have q4:(ik:Int)<(m:Int):=by omega
     have q5:(0:Int)≤(i:Int):=by omega
     have q6:(0:Int)≤(k:Int):=by omega
     have HSU:=Lib.hid hsu;have HPUT:=Lib.hid hput
     have HE6:Hid ((s:Int)%1000=((s%1000:Nat):Int)):=Lib.hid (by omega)
     have HE7:Hid ((s:Int)/1000=((s/1000:Nat):Int)):=Lib.hid (by omega)
     clear hsu hput hpq hs hrp hik
     go_wp2
     go_quiet (fail)
     go_wp2
     go_roundw
     case rel=>exact ⟨k+1,s/1000,o.set ik (s%1000),by omega,by go_num,by rw [HE7.out],by omega,HSU.out,by have h:=HPUT.out (s%1000) nq;rw [←HE6.out] at h;exact Lib.hid h⟩
     case measure=>simp [intOf];omega
    ·obtain rfl:k=l2.length:=by omega
     have q2:¬(l2.length:Int)<(l2.length:Int):=by omega
     have hend:=HI.out.end_ hlt
     obtain ⟨il,hil⟩:∃ il,i+l2.length=il:=⟨_,rfl⟩
     rw [hil] at hend
     have hilm:il<m:=by have h2:=HM0.out;have h3:=HMM.out;omega
     have z3:=HDI.out.at (j:=il) (by omega)
     have hfz:=HDI.out.1.frozen il
     have e5:(i:Int)+(l2.length:Int)=(il:Int):=by omega
     have q3:(0:Int)≤(il:Int):=by omega
     have q4:(il:Int)<(m:Int):=by omega
     have HPUT:=Lib.hid (HDI.out.put (by rw [HZ.out];exact Nat.le_refl _) il carry)
     have HEND:=Lib.hid hend
     clear hend hil
     go_wp2
     go_roundw
     case rel=>exact ⟨i+1,o.set il carry,by omega,by go_num,HEND.out,HPUT.out⟩
     case measure=>simp [intOf];omega
  ·obtain rfl:i=l1.length:=by omega
   have q1:¬(l1.length:Int)<(l1.length:Int):=by omega
   obtain ⟨hv,hd⟩:=HM.out.all
   have hrd:=HD.out.rd
   rw [hol] at hrd
   have hmd:=fun bb=>made_any wr wr.heap.size (some ⟨w.heap.size+1+1+1,0,none⟩) m out bb (by rw [hol];exact hrd) hd (by omega) (by simp [maxLen];omega) (Nat.le_refl _)
   rw [hol,hv] at hmd
   have HMD:=Lib.hid (hmd (b1 != b2))
   have HKR:=Lib.hid (K3.out.below HD.out.2 (by have:=HZ.out;omega))
   have HBW:=Lib.hid (HW.out.trans (HD.out.2.mono (by have:=HZ.out;omega)))
   have hmd2:=HMD.out
   rw [HS.out] at hmd2
   have HMD2:=Lib.hid hmd2
   clear hv hd hrd hmd hmd2 HMD
   cases b1<;>cases b2
   all_goals
    go_wp2_with fail
    (refine HMD2.out.mono ?_);rintro y w6 ⟨b6,A6,n6,c6,rfl,hv6,hb6⟩
    have hk3:=HKR.out.below hb6 (by have:=HBW.out.size;have:=HKR.out.lt;omega)
    have r0:w6.cell? ⟨w.heap.size+1+1,0,none⟩=some (.bool false):=hk3.cell 0
    have r1:w6.cell? ⟨w.heap.size+1+1,1,none⟩=some (.slice none 0 0):=hk3.cell 1
    have f0:w6.frozen? ⟨w.heap.size+1+1,0,none⟩=false:=hk3.frozen 0
    have f1:w6.frozen? ⟨w.heap.size+1+1,1,none⟩=false:=hk3.frozen 1
    have HK3:=Lib.hid hk3;have HV6:=Lib.hid hv6;have HB6:=Lib.hid (belT HBW.out hb6)
    clear hk3 hv6 hb6
    go_wp2
    exact bodyPost_ret (v:=.agg #[.bool b6,.slice A6 n6 c6]) (by simp [results,Tryz.results186,go_sem, *]) rfl (RetNum.store HV6.out HK3.out HB6.out (by omega) (Nat.le_refl _))
theorem NumV.drew {w:World} {B:Nat} {b:Bool} {A:Option Addr} {n c:Nat} {z:Int} (h:NumV w B b A n c z):NumV w.drew B b A n c z:=⟨h.sgn,h.len,h.rd.drew,h.hc,h.hm⟩
set_option maxRecDepth 20000 in
set_option maxHeartbeats 8000000 in
theorem sub01_any (w:World) (B:Nat) (b1:Bool) (A1:Option Addr) (n1 c1:Nat) (z1:Int) (b2:Bool) (A2:Option Addr) (n2 c2:Nat) (z2:Int) (h1:NumV w B b1 A1 n1 c1 z1) (h2:NumV w B b2 A2 n2 c2 z2) (hB:B≤w.heap.size) (hn1:n1≤1000000) (hn2:n2≤1000000) :
 Calls Tryz.prog 212 #[.agg #[.bool b1,.slice A1 n1 c1],.agg #[.bool b2,.slice A2 n2 c2]] w fun y w'=>RetNum w (z1-z2) y w':=by
 obtain ⟨W0,hW0⟩:∃ W0,W0=((w.alloc (.cells #[.bool b1,.slice A1 n1 c1] 134)).alloc (.cells #[.bool b2,.slice A2 n2 c2] 134)).alloc (.cells #[.bool false,.slice none 0 0] 134):=⟨_,rfl⟩
 have hz0:W0.heap.size=w.heap.size+1+1+1:=by rw [hW0];simp
 have hw:Below w.heap.size w W0:=by rw [hW0];exact belA (belA (belA (belR w) _) _) _
 have k1:Blk W0 w.heap.size 134 #[.bool b1,.slice A1 n1 c1]:=by rw [hW0];exact ((Blk.new w _ _).alloc _).alloc _
 have k2:Blk W0 (w.heap.size+1) 134 #[.bool b2,.slice A2 n2 c2]:=by
  rw [hW0];have:=(Blk.new (w.alloc (.cells #[.bool b1,.slice A1 n1 c1] 134)) 134 #[.bool b2,.slice A2 n2 c2]).alloc (.cells #[.bool false,.slice none 0 0] 134)
  simpa using this
 have k3:Blk W0 (w.heap.size+1+1) 134 #[.bool false,.slice none 0 0]:=by
  rw [hW0];have:=Blk.new ((w.alloc (.cells #[.bool b1,.slice A1 n1 c1] 134)).alloc (.cells #[.bool b2,.slice A2 n2 c2] 134)) 134 #[.bool false,.slice none 0 0]
  simpa using this
 have hv1:=h1.keep (hw.mono hB) (Nat.le_refl _)
 have hv2:=h2.keep (hw.mono hB) (Nat.le_refl _)
 have HNEG:=Lib.hid (neg01_any W0.drew B b2 A2 n2 c2 z2 hv2.drew (by show B≤W0.heap.size;omega))
 have hl2:nd z2≤1000000:=by have:=h2.nd;omega
 have hl2':nd (-z2)≤1000000:=by unfold nd at *;rw [Int.natAbs_neg];exact hl2
 have x0:=k1.cell 0;have x1:=k1.cell 1;have y0:=k2.cell 0;have y1:=k2.cell 1
 simp at x0 x1 y0 y1
 have HW0:=Lib.hid hW0;have HW:=Lib.hid hw;have K1:=Lib.hid k1;have K2:=Lib.hid k2;have K3:=Lib.hid k3;have HZ:=Lib.hid hz0;have HV1:=Lib.hid hv1;have HL2:=Lib.hid hl2'
 clear hW0 hw k1 k2 k3 hz0 hv1 hv2 h1 h2 hl2 hl2'
 go_enter Tryz.func212,Tryz.ntmps212
 go_wp2
 rw [←HW0.out]
 have HS0:Hid (W0.drew.cell? ⟨w.heap.size,0,none⟩=some (.bool b1)∧W0.drew.cell? ⟨w.heap.size,1,none⟩=some (.slice A1 n1 c1)∧W0.drew.cell? ⟨w.heap.size+1,0,none⟩=some (.bool b2)∧W0.drew.cell? ⟨w.heap.size+1,1,none⟩=some (.slice A2 n2 c2)):=Lib.hid ⟨x0,x1,y0,y1⟩
 go_region_held (fun W=>W.cell? ⟨w.heap.size,0,none⟩=some (.bool b1)∧W.cell? ⟨w.heap.size,1,none⟩=some (.slice A1 n1 c1)∧W.cell? ⟨w.heap.size+1,0,none⟩=some (.bool b2)∧W.cell? ⟨w.heap.size+1,1,none⟩=some (.slice A2 n2 c2)) (first|(with_reducible exact HS0.out)|(exact hk5)|(exact hk6)|(refine ⟨?_,?_,?_,?_⟩<;>(rw [World.cell?_setCell_far _ _ _ _ (by simp only [ne_eq];omega),World.cell?_setCell_far _ _ _ _ (by simp only [ne_eq];omega)];first|exact hk6.1|exact hk6.2.1|exact hk6.2.2.1|exact hk6.2.2.2))) (first
  | (go_at_call 138;(with_reducible refine HNEG.out.mono ?_);rintro y w5 ⟨b5,A5,n5,c5,rfl,hv5,hb5⟩;have ka:=K1.out.drew.below hb5 K1.out.lt;have kb:=K2.out.drew.below hb5 K2.out.lt;have hk5:w5.cell? ⟨w.heap.size,0,none⟩=some (.bool b1)∧w5.cell? ⟨w.heap.size,1,none⟩=some (.slice A1 n1 c1)∧w5.cell? ⟨w.heap.size+1,0,none⟩=some (.bool b2)∧w5.cell? ⟨w.heap.size+1,1,none⟩=some (.slice A2 n2 c2):=⟨ka.cell 0,ka.cell 1,kb.cell 0,kb.cell 1⟩;have HB5:=Lib.hid ((belR W0).drew.trans hb5);have hn5:n5≤1000000:=(by have:=hv5.nd;have:=HL2.out;omega);have HADD:=Lib.hid (add01_any w5 w5.heap.size b1 A1 n1 c1 z1 b5 A5 n5 c5 (-z2) (HV1.out.keep (HB5.out.mono (by have:=HZ.out;omega)) (by have:=HB5.out.size;have:=HZ.out;omega)) hv5 (Nat.le_refl _) hn1 hn5);have HKA:=Lib.hid ka;have HKB:=Lib.hid kb;clear ka kb hv5 hb5)
  | (go_at_call 185;(with_reducible refine HADD.out.mono ?_);rintro y w6 ⟨b6,A6,n6,c6,rfl,hv6,hb6⟩;have ka:=HKA.out.below hb6 HKA.out.lt;have kb:=HKB.out.below hb6 HKB.out.lt;have hk6:w6.cell? ⟨w.heap.size,0,none⟩=some (.bool b1)∧w6.cell? ⟨w.heap.size,1,none⟩=some (.slice A1 n1 c1)∧w6.cell? ⟨w.heap.size+1,0,none⟩=some (.bool b2)∧w6.cell? ⟨w.heap.size+1,1,none⟩=some (.slice A2 n2 c2):=⟨ka.cell 0,ka.cell 1,kb.cell 0,kb.cell 1⟩;have HB6:=Lib.hid (HB5.out.trans (hb6.mono HB5.out.size));have hk3:=K3.out.below HB6.out K3.out.lt;have r0:w6.cell? ⟨w.heap.size+1+1,0,none⟩=some (.bool false):=hk3.cell 0;have r1:w6.cell? ⟨w.heap.size+1+1,1,none⟩=some (.slice none 0 0):=hk3.cell 1;have f0:w6.frozen? ⟨w.heap.size+1+1,0,none⟩=false:=hk3.frozen 0;have f1:w6.frozen? ⟨w.heap.size+1+1,1,none⟩=false:=hk3.frozen 1;have HK3:=Lib.hid hk3;have HV6:=Lib.hid hv6;clear ka kb hv6 hb6 hk3))
 all_goals
  have hv6:=HV6.out
  rw [show z1 + -z2=z1-z2 from by omega] at hv6
  have HV7:=Lib.hid hv6
  have HB7:=Lib.hid (HW.out.trans (HB6.out.mono (by have:=HZ.out;omega)))
  clear hv6
  go_wp2
  exact bodyPost_ret (v:=.agg #[.bool b6,.slice A6 n6 c6]) (by simp [results,Tryz.results212,go_sem, *]) rfl (RetNum.store HV7.out HK3.out HB7.out (by omega) (Nat.le_refl _))
end Go.Proofs.YtfhmaincnlaapaaGreat
