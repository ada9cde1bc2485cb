/- bushelref01.Div, of numbers that aren't below 0. -/
import Derived.Deep.RegionLawGrows
import Derived.Deep.DeepCutAuto
import Derived.Test.YtfhmaincnlaapaaGreatTrBufOutKeep
import Derived.Test.YtfhmaincnlaapaaGreatTrReadLeaf
import Derived.Test.YtfhmaincnlaapaaGreatTrNumFits
import Derived.Test.YtfhmaincnlaapaaGreatTrRefNum
namespace Go.Proofs.YtfhmaincnlaapaaGreat
open Go.ChangeShapes Go.WideShapes Go.ChangeAt Go.RowKit
set_option linter.unusedVariables false
structure DivW (w wr:World) (A1:Option Addr) (n1 c1:Nat) (A2:Option Addr) (n2 c2:Nat) (Q:List Nat) (bR:Bool) (AR:Option Addr) (nR cR R:Nat):Prop where
 a:Blk wr w.heap.size 134 #[.bool false,.slice A1 n1 c1]
 b:Blk wr (w.heap.size+1) 134 #[.bool false,.slice A2 n2 c2]
 x:Blk wr (w.heap.size+1+1) 134 #[.bool false,.slice none 0 0]
 y:Blk wr (w.heap.size+1+1+1) 134 #[.bool false,.slice none 0 0]
 q:Blk wr (w.heap.size+1+1+1+1) 3 (i64n Q).toArray
 r:Blk wr (w.heap.size+1+1+1+1+1) 134 #[.bool bR,.slice AR nR cR]
 d:Blk wr (w.heap.size+1+1+1+1+1+1) 134 #[.bool false,.slice A2 n2 c2]
 v:NumV wr wr.heap.size bR AR nR cR (R:Int)
 n:Below w.heap.size w wr
section
variable {w wr w':World} {A1 A2 AR AS:Option Addr} {n1 c1 n2 c2 nR cR nS cS R R' i x:Nat} {Q:List Nat} {bR bS:Bool}
theorem DivW.lt (h:DivW w wr A1 n1 c1 A2 n2 c2 Q bR AR nR cR R):w.heap.size+1+1+1+1+1+1<wr.heap.size:=h.d.lt
theorem DivW.below (h:DivW w wr A1 n1 c1 A2 n2 c2 Q bR AR nR cR R) (hb:Below wr.heap.size wr w'):DivW w w' A1 n1 c1 A2 n2 c2 Q bR AR nR cR R :=
 ⟨h.a.below hb h.a.lt,h.b.below hb h.b.lt,h.x.below hb h.x.lt,h.y.below hb h.y.lt,h.q.below hb h.q.lt,h.r.below hb h.r.lt,h.d.below hb h.d.lt,h.v.keep hb hb.size,belT h.n hb⟩
theorem DivW.drew (h:DivW w wr A1 n1 c1 A2 n2 c2 Q bR AR nR cR R):DivW w wr.drew A1 n1 c1 A2 n2 c2 Q bR AR nR cR R:=h.below (belR wr).drew
theorem DivW.putR (h:DivW w wr A1 n1 c1 A2 n2 c2 Q bR AR nR cR R) (hv:NumV wr wr.heap.size bS AS nS cS (R':Int)) :
 DivW w ((wr.setCell ⟨w.heap.size+1+1+1+1+1,0,none⟩ (.bool bS)).setCell ⟨w.heap.size+1+1+1+1+1,1,none⟩ (.slice AS nS cS)) A1 n1 c1 A2 n2 c2 Q bS AS nS cS R':=by
 have hp:=hv.put h.r (Nat.le_refl _)
 exact ⟨(h.a.far (by simp only [ne_eq];omega) _).far (by simp only [ne_eq];omega) _,(h.b.far (by simp only [ne_eq];omega) _).far (by simp only [ne_eq];omega) _,(h.x.far (by simp only [ne_eq];omega) _).far (by simp only [ne_eq];omega) _,(h.y.far (by simp only [ne_eq];omega) _).far (by simp only [ne_eq];omega) _,(h.q.far (by simp only [ne_eq];omega) _).far (by simp only [ne_eq];omega) _,
  hp.2,(h.d.far (by simp only [ne_eq];omega) _).far (by simp only [ne_eq];omega) _,hp.1,(h.n.setCell (by simp only;omega) _).setCell (by simp only;omega) _⟩
theorem DivW.putQ (h:DivW w wr A1 n1 c1 A2 n2 c2 Q bR AR nR cR R) (hf:∀ a,AR=some a→w.heap.size+1+1+1+1+1≤a.block):DivW w (wr.setCell ⟨w.heap.size+1+1+1+1,i,none⟩ (.int .i64 (x:Int))) A1 n1 c1 A2 n2 c2 (Q.set i x) bR AR nR cR R:=by
 have hq:=h.q.set_ i (.int .i64 (x:Int))
 rw [i64n_set] at hq
 refine ⟨h.a.far (by simp only [ne_eq];omega) _,h.b.far (by simp only [ne_eq];omega) _,h.x.far (by simp only [ne_eq];omega) _,h.y.far (by simp only [ne_eq];omega) _,hq,h.r.far (by simp only [ne_eq];omega) _,h.d.far (by simp only [ne_eq];omega) _,⟨h.v.sgn,h.v.len,?_,h.v.hc,h.v.hm⟩,h.n.setCell (by simp only;omega) _⟩
 have hr:=h.v.rd
 refine ⟨hr.1,fun hn=>?_⟩
 obtain ⟨a,e,hb,hc⟩:=hr.2 hn
 have hfa:=hf a e
 refine ⟨a,e,by simpa using hb,fun j u hu=>?_⟩
 rw [World.cell?_setCell_far _ _ _ _ (by rw [block_add];simp only [ne_eq];omega)]
 exact hc j u hu
end
theorem far2 (W:World) (p:Addr) (g:Nat) (u v:Value) (hne:g≠p.block):((W.setCell ⟨g,0,none⟩ u).setCell ⟨g,1,none⟩ v).cell? p=W.cell? p:=by
 rw [World.cell?_setCell_far _ _ _ _ hne,World.cell?_setCell_far _ _ _ _ hne]
theorem NumV.far2 {w:World} {B g n c n0 c0:Nat} {b b0:Bool} {A A0:Option Addr} {z:Int} (h:NumV w B b A n c z) (hk:Blk w g 134 #[.bool b0,.slice A0 n0 c0]) (u:Bool) (A':Option Addr) (n' c':Nat) :
 NumV ((w.setCell ⟨g,0,none⟩ (.bool u)).setCell ⟨g,1,none⟩ (.slice A' n' c')) B b A n c z :=
 ⟨h.sgn,h.len,(h.rd.farB hk (i64n_not_bool _ _ _ _ _) 0 (.bool u)).farB (hk.set_ 0 (.bool u)) (i64n_not_bool _ _ _ _ _) 1 (.slice A' n' c'),h.hc,h.hm⟩
def DivX (w wx:World) (A1:Option Addr) (n1 c1:Nat) (A2:Option Addr) (n2 c2:Nat) (Q:List Nat) (X:Nat):Prop:=∃ b6 A5 m6 c6,DivW w wx A1 n1 c1 A2 n2 c2 Q b6 A5 m6 c6 X∧∀ a,A5=some a→w.heap.size+1+1+1+1+1≤a.block
theorem cmp_lt {x y:Nat} (h:x<y):cmpZ (x:Int) (y:Int)=-1:=by unfold cmpZ;rw [if_pos (by omega)]
theorem cmp_ge0 {x y:Nat} (h:¬x<y):decide (cmpZ (x:Int) (y:Int)<0)=false:=by
 rw [decide_eq_false_iff_not];unfold cmpZ;(repeat' split)<;>omega
theorem cmp_le {x y:Int} (h:x≤y):decide (cmpZ x y≤0)=true:=by
 rw [decide_eq_true_iff];unfold cmpZ;(repeat' split)<;>omega
theorem cmp_gt {x y:Int} (h:¬x≤y):decide (cmpZ x y≤0)=false:=by
 rw [decide_eq_false_iff_not];unfold cmpZ;(repeat' split)<;>omega
theorem NumV.dlen {w:World} {B:Nat} {b:Bool} {A:Option Addr} {n c:Nat} {x:Nat} (h:NumV w B b A n c (x:Int)) {k:Nat} (hx:x<1000^k):n≤k:=by
 rw [h.len,Int.natAbs_natCast];exact dig_len hx
theorem pow_dig (z n:Nat) (h:(dig z).length=n):z<1000^n:=by
 have:=vd_lt (dig z) (dig_lt z)
 rwa [vd_dig,h] at this
theorem thous (n:Nat):1000^(n+1)=1000*1000^n:=by rw [Nat.pow_succ,Nat.mul_comm]
def RetTwo (w:World) (x r:Nat) (y:Ending) (w':World):Prop:=∃ b3 A3 n3 c3 b4 A4 n4 c4,y=.returned (.tuple #[.agg #[.bool b3,.slice A3 n3 c3],.agg #[.bool b4,.slice A4 n4 c4]])∧NumV w' w'.heap.size b3 A3 n3 c3 (x:Int)∧NumV w' w'.heap.size b4 A4 n4 c4 (r:Int)∧Below w.heap.size w w'
theorem i64n_cons (d:Nat) (l:List Nat):[Value.int .i64 ((d:Nat):Int)]++i64n l=i64n (d::l):=rfl
theorem vd_head (d R:Nat):vd (d::dig R)=d+1000*R:=by rw [vd_cons,vd_dig]
theorem head_lt (d R:Nat) (hd:d<1000):∀ x∈d::dig R,x<1000:=fun x hx=>by
 rcases List.mem_cons.1 hx with rfl|hx
 ·exact hd
 ·exact dig_lt R x hx
theorem sgZ_ff (x:Nat):sgZ false x=(x:Int):=rfl
section
variable {P:Program} {ops:Array Oper} {Q:Exit→Act→World→Prop} {md:Region.Mode} {S:World→Prop}
theorem rh_law (i:Nat) (d:Option Tmp) {o:Oper} {fuel:Nat} {listed:Array Bool} {a:Act} {w:World} (hr:Region.ready md ops listed=[i]) (ho:ops[i]?=some o) (hd:o.dst=d)
 (hw:Region.wanted o (yielded ops a.tmps)=true)
 (h:∀ K':Act→World→Prop,Shut (∀ a w,S w→(S w→wpAnyH P md ops Q S fuel (listed.setIfInBounds i true) a w)→K' a w)→if Region.wanted o (yielded ops a.tmps)=true then Oper.wp P o a w K' Q else True):wpAnyH P md ops Q S (fuel+1) listed a w :=
 rh_call i d hr ho hd hw fun K hK=>by have:=h K hK;rwa [if_pos hw] at this
end
set_option maxRecDepth 20000 in
set_option maxHeartbeats 16000000 in
theorem div01_any (w:World) (B:Nat) (A1:Option Addr) (n1 c1 z1:Nat) (A2:Option Addr) (n2 c2 z2:Nat) (h1:NumV w B false A1 n1 c1 (z1:Int)) (h2:NumV w B false A2 n2 c2 (z2:Int)) (hB:B≤w.heap.size) (hn1:n1≤100000) (hn2:n2≤100000) (hp:0<z2) :
 Calls Tryz.prog 198 #[.agg #[.bool false,.slice A1 n1 c1],.agg #[.bool false,.slice A2 n2 c2]] w fun y w'=>RetTwo w (z1/z2) (z1%z2) y w':=by
 obtain ⟨W0,hW0⟩:∃ W0,W0=((((((w.alloc (.cells #[.bool false,.slice A1 n1 c1] 134)).alloc (.cells #[.bool false,.slice A2 n2 c2] 134)).alloc (.cells #[.bool false,.slice none 0 0] 134)).alloc (.cells #[.bool false,.slice none 0 0] 134)).alloc (.cells (madeCells #[.int .i64 0] n1) 3)).alloc (.cells #[.bool false,.slice none 0 0] 134)).alloc (.cells #[.bool false,.slice A2 n2 c2] 134):=⟨_,rfl⟩
 have hd0:DivW w W0 A1 n1 c1 A2 n2 c2 (List.replicate n1 0) false none 0 0 0:=by
  rw [hW0]
  refine ⟨((((((Blk.new w _ _).alloc _).alloc _).alloc _).alloc _).alloc _).alloc _,?_,?_,?_,?_,?_,?_,NumV.zero _ _,belA (belA (belA (belA (belA (belA (belA (belR w) _) _) _) _) _) _) _⟩
  ·have:=(((((Blk.new (w.alloc (.cells #[.bool false,.slice A1 n1 c1] 134)) 134 #[.bool false,.slice A2 n2 c2]).alloc (.cells #[.bool false,.slice none 0 0] 134)).alloc (.cells #[.bool false,.slice none 0 0] 134)).alloc (.cells (madeCells #[.int .i64 0] n1) 3)).alloc (.cells #[.bool false,.slice none 0 0] 134)).alloc (.cells #[.bool false,.slice A2 n2 c2] 134)
   simpa using this
  ·have:=((((Blk.new ((w.alloc (.cells #[.bool false,.slice A1 n1 c1] 134)).alloc (.cells #[.bool false,.slice A2 n2 c2] 134)) 134 #[.bool false,.slice none 0 0]).alloc (.cells #[.bool false,.slice none 0 0] 134)).alloc (.cells (madeCells #[.int .i64 0] n1) 3)).alloc (.cells #[.bool false,.slice none 0 0] 134)).alloc (.cells #[.bool false,.slice A2 n2 c2] 134)
   simpa using this
  ·have:=(((Blk.new (((w.alloc (.cells #[.bool false,.slice A1 n1 c1] 134)).alloc (.cells #[.bool false,.slice A2 n2 c2] 134)).alloc (.cells #[.bool false,.slice none 0 0] 134)) 134 #[.bool false,.slice none 0 0]).alloc (.cells (madeCells #[.int .i64 0] n1) 3)).alloc (.cells #[.bool false,.slice none 0 0] 134)).alloc (.cells #[.bool false,.slice A2 n2 c2] 134)
   simpa using this
  ·rw [←made_i64]
   have:=((Blk.new ((((w.alloc (.cells #[.bool false,.slice A1 n1 c1] 134)).alloc (.cells #[.bool false,.slice A2 n2 c2] 134)).alloc (.cells #[.bool false,.slice none 0 0] 134)).alloc (.cells #[.bool false,.slice none 0 0] 134)) 3 (madeCells #[.int .i64 0] n1)).alloc (.cells #[.bool false,.slice none 0 0] 134)).alloc (.cells #[.bool false,.slice A2 n2 c2] 134)
   simpa using this
  ·have:=(Blk.new (((((w.alloc (.cells #[.bool false,.slice A1 n1 c1] 134)).alloc (.cells #[.bool false,.slice A2 n2 c2] 134)).alloc (.cells #[.bool false,.slice none 0 0] 134)).alloc (.cells #[.bool false,.slice none 0 0] 134)).alloc (.cells (madeCells #[.int .i64 0] n1) 3)) 134 #[.bool false,.slice none 0 0]).alloc (.cells #[.bool false,.slice A2 n2 c2] 134)
   simpa using this
  ·have:=Blk.new ((((((w.alloc (.cells #[.bool false,.slice A1 n1 c1] 134)).alloc (.cells #[.bool false,.slice A2 n2 c2] 134)).alloc (.cells #[.bool false,.slice none 0 0] 134)).alloc (.cells #[.bool false,.slice none 0 0] 134)).alloc (.cells (madeCells #[.int .i64 0] n1) 3)).alloc (.cells #[.bool false,.slice none 0 0] 134)) 134 #[.bool false,.slice A2 n2 c2]
   simpa using this
 have hl1:=h1.len
 have hl2:=h2.len
 rw [Int.natAbs_natCast] at hl1 hl2
 have hz2:=pow_dig z2 n2 hl2.symm
 have hz1:=pow_dig z1 n1 hl1.symm
 have ht1:=thous n2
 have hdl:=dig_lt z1
 have hdiv0:DivR (dig z1) (List.replicate n1 0) z2 n1 0:=by rw [hl1];exact DivR.start (dig z1) z2 hp
 have H1:=Lib.hid (fun W (hb:Below w.heap.size w W)=>h1.keep (hb.mono hB) (Nat.le_trans hB hb.size):∀ W,Below w.heap.size w W→NumV W W.heap.size false A1 n1 c1 (z1:Int))
 have HR1:=Lib.hid (fun W (hb:Below w.heap.size w W)=>by have:=h1.rd.below (hb.mono hB);rw [Int.natAbs_natCast,hl1] at this;exact this:∀ W,Below w.heap.size w W→Rd W B 1 A1 (dig z1).length (i64n (dig z1)))
 have H2:=Lib.hid (fun W (hb:Below w.heap.size w W)=>h2.keep (hb.mono hB) (Nat.le_trans hB hb.size):∀ W,Below w.heap.size w W→NumV W W.heap.size false A2 n2 c2 (z2:Int))
 have hmk:=fun w=>run_make_row' (P:=Tryz.prog) 82 3 (.int .i64 0) 8 Tryz.underlying82 info_i64n rfl .i64 .i64 n1 (by omega) (by omega) w
 have HW0:=Lib.hid hW0;have HD0:=Lib.hid hd0;have HDL:=Lib.hid hdl;have HL1:=Lib.hid hl1;have HDV0:=Lib.hid hdiv0
 have HZ2:=Lib.hid hz2;have HZ1:=Lib.hid hz1;have HT1:=Lib.hid ht1
 clear hW0 hd0 h1 h2 hl1 hl2 hdl hdiv0 hz2 hz1 ht1
 go_enter Tryz.func198,Tryz.ntmps198
 go_wp2
 rw [←HW0.out]
 clear hmk
 go_loopg [9] n1 (fun g i wr=>∃ (k:Nat) (Q:List Nat) (bR:Bool) (AR:Option Addr) (nR cR R:Nat),k≤n1∧g=k∧i=.int .i64 ((k:Int)-1)∧Hid (DivW w wr A1 n1 c1 A2 n2 c2 Q bR AR nR cR R)∧Hid (DivR (dig z1) Q z2 k R))
 case atStart=>exact ⟨n1,_,_,_,_,_,_,Nat.le_refl _,rfl,by go_num,HD0.out,HDV0.out⟩
 case round =>
  obtain ⟨_,Q,bR,AR,nR,cR,R,hk,rfl,rfl,HD,HV⟩:=hrel
  cases gk with
  | zero =>
    simp only [show ((0:Nat):Int)-1=-1 from rfl]
    obtain ⟨hqv,hqd⟩:=HV.out.all
    rw [vd_dig] at hqv
    have hql:Q.length=n1:=by rw [HV.out.1,HL1.out]
    have hz9:=HD.out.q.lt
    have hmd:=made_at wr wr.heap.size (some ⟨w.heap.size+1+1+1+1,0,none⟩) n1 Q false (show DigW wr wr _ Q from ⟨HD.out.q,belR wr⟩).rd hqd (by omega) (by unfold maxLen;omega) (Nat.le_refl _)
    rw [sgZ_ff,hqv,hql] at hmd
    have a0:=HD.out.a.cell 0;have a1:=HD.out.a.cell 1;have b0:=HD.out.b.cell 0;have b1:=HD.out.b.cell 1
    simp at a0 a1 b0 b1
    have HMD:=Lib.hid hmd
    have HZQ:Hid (z1/z2<1000^n1):=Lib.hid (Nat.lt_of_le_of_lt (Nat.div_le_self _ _) HZ1.out)
    have HQZ:Hid (z1/z2*z2<1000^n1):=Lib.hid (Nat.lt_of_le_of_lt (Nat.div_mul_le_self _ _) HZ1.out)
    have hxl:(z1:Int)-((z1/z2*z2:Nat):Int)=((z1%z2:Nat):Int):=by have h1:=Nat.div_add_mod z1 z2;have h2:=Nat.div_mul_le_self z1 z2;rw [Nat.mul_comm] at h1;omega
    have HXL:=Lib.hid hxl
    obtain ⟨Z,hZ⟩:∃ Z,z1/z2=Z:=⟨_,rfl⟩
    rw [hZ] at HMD HZQ HQZ HXL
    obtain ⟨Y,hY⟩:∃ Y,z1%z2=Y:=⟨_,rfl⟩
    rw [hY] at HXL
    have HZ:=Lib.hid hZ;have HY:=Lib.hid hY
    clear hqv hqd hql hmd hxl hZ hY
    go_wp2_with fail
    (with_reducible refine HMD.out.mono ?_);rintro y w8 ⟨b6,m6,c6,rfl,hv8,hb8⟩
    have hd8:=HD.out.below hb8
    have hm6:m6≤n1:=hv8.dlen HZQ.out
    obtain ⟨W9,hW9⟩:∃ W9,W9=w8.alloc (.cells #[.bool b6,.slice (some ⟨w.heap.size+1+1+1+1,0,none⟩) m6 c6] 134):=⟨_,rfl⟩
    have hz8:W9.heap.size=w8.heap.size+1:=by rw [hW9];simp
    have hb9:Below w8.heap.size w8 W9:=by rw [hW9];exact belA (belR w8) _
    have hkx:Blk W9 w8.heap.size 134 #[.bool b6,.slice (some ⟨w.heap.size+1+1+1+1,0,none⟩) m6 c6]:=by rw [hW9];exact Blk.new w8 _ _
    have hd9:=hd8.below hb9
    have HW9:=Lib.hid hW9;have HKX:=Lib.hid hkx;have HD9:=Lib.hid hd9;have HV9:=Lib.hid (hv8.keep hb9 hb9.size)
    have HK4:=Lib.hid hd9.x;have HK5:=Lib.hid hd9.y;have HBW9:=Lib.hid hd9.n
    clear a0 a1 b0 b1
    have a0:=hd8.a.cell 0;have a1:=hd8.a.cell 1;have b0:=hd8.b.cell 0;have b1:=hd8.b.cell 1
    simp at a0 a1 b0 b1
    have hgx8:=hd8.lt
    clear hv8 hb8 hd8 hW9 hb9
    have z0:w.heap.size<w8.heap.size:=by omega
    have z1':w.heap.size+1<w8.heap.size:=by omega
    have z2':w.heap.size<w8.heap.size+1:=by omega
    have z3':w.heap.size+1<w8.heap.size+1:=by omega
    go_upto_region 20 with (fail)
    clear z0 z1' z2' z3'
    rw [←HW9.out]
    clear a0 a1 b0 b1
    have a0:=hd9.a.cell 0;have a1:=hd9.a.cell 1;have b0:=hd9.b.cell 0;have b1:=hd9.b.cell 1
    have x0:=hkx.cell 0;have x1:=hkx.cell 1
    simp at a0 a1 b0 b1 x0 x1
    obtain ⟨gx,hgx⟩:∃ gx,w8.heap.size=gx:=⟨_,rfl⟩
    rw [hgx] at x0 x1 hz8 hgx8 ⊢
    have HMU:=Lib.hid (mul01_any W9.drew W9.heap.size b6 (some ⟨w.heap.size+1+1+1+1,0,none⟩) m6 c6 (Z:Int) false A2 n2 c2 (z2:Int) (HV9.out.keep (belR W9).drew (Nat.le_refl _)) (H2.out W9.drew HBW9.out.drew) (Nat.le_refl _) (by omega) (by omega))
    have h9z:=HD9.out.lt
    clear hd9 hkx
    have HKP:Hid (∀ W,Below W9.heap.size W9 W→W.cell? ⟨w.heap.size,0,none⟩=some (.bool false)∧W.cell? ⟨w.heap.size,1,none⟩=some (.slice A1 n1 c1)∧W.cell? ⟨w.heap.size+1,0,none⟩=some (.bool false)∧W.cell? ⟨w.heap.size+1,1,none⟩=some (.slice A2 n2 c2)∧W.cell? ⟨gx,0,none⟩=some (.bool b6)∧W.cell? ⟨gx,1,none⟩=some (.slice (some ⟨w.heap.size+1+1+1+1,0,none⟩) m6 c6)):=Lib.hid fun W hb=>⟨(hb.cell (p:=⟨w.heap.size,0,none⟩) (by simp only;omega)).trans a0,(hb.cell (p:=⟨w.heap.size,1,none⟩) (by simp only;omega)).trans a1,(hb.cell (p:=⟨w.heap.size+1,0,none⟩) (by simp only;omega)).trans b0,(hb.cell (p:=⟨w.heap.size+1,1,none⟩) (by simp only;omega)).trans b1,(hb.cell (p:=⟨gx,0,none⟩) (by simp only;omega)).trans x0,(hb.cell (p:=⟨gx,1,none⟩) (by simp only;omega)).trans x1⟩
    clear a0 a1 b0 b1 x0 x1
    refine wp_region_held_drew (S:=(fun W=>W.cell? ⟨w.heap.size,0,none⟩=some (.bool false)∧W.cell? ⟨w.heap.size,1,none⟩=some (.slice A1 n1 c1)∧W.cell? ⟨w.heap.size+1,0,none⟩=some (.bool false)∧W.cell? ⟨w.heap.size+1,1,none⟩=some (.slice A2 n2 c2)∧W.cell? ⟨gx,0,none⟩=some (.bool b6)∧W.cell? ⟨gx,1,none⟩=some (.slice (some ⟨w.heap.size+1+1+1+1,0,none⟩) m6 c6))) (by kernel_rfl) (HKP.out _ (belR W9).drew) (fun hHeld=>?_)
    refine rh_take 0 (some 95) (v:=?_) rfl rfl (by kernel_rfl) (by kernel_rfl) (by kernel_rfl) (by kernel_rfl) (fun _ _ _ h=>h) hHeld ?_ ?_
    rotate_left
    ·(intro w hSw;(try dsimp only at hSw);go_simp;try with_reducible rfl)
    try simp only [Act.put,List.setIfInBounds_toArray,List.set_cons_zero,List.set_cons_succ]
    refine rh_take 1 (some 96) (v:=?_) rfl rfl (by kernel_rfl) (by kernel_rfl) (by kernel_rfl) (by kernel_rfl) (fun _ _ _ h=>h) hHeld ?_ ?_
    rotate_left
    ·(intro w hSw;(try dsimp only at hSw);go_simp;try with_reducible rfl)
    try simp only [Act.put,List.setIfInBounds_toArray,List.set_cons_zero,List.set_cons_succ]
    refine rh_take 2 (some 97) (v:=?_) rfl rfl (by kernel_rfl) (by kernel_rfl) (by kernel_rfl) (by kernel_rfl) (fun _ _ _ h=>h) hHeld ?_ ?_
    rotate_left
    ·(intro w hSw;(try dsimp only at hSw);go_simp;try with_reducible rfl)
    try simp only [Act.put,List.setIfInBounds_toArray,List.set_cons_zero,List.set_cons_succ]
    refine rh_take 3 (some 98) (v:=?_) rfl rfl (by kernel_rfl) (by kernel_rfl) (by kernel_rfl) (by kernel_rfl) (fun _ _ _ h=>h) hHeld ?_ ?_
    rotate_left
    ·(intro w hSw;(try dsimp only at hSw);go_simp;try with_reducible rfl)
    try simp only [Act.put,List.setIfInBounds_toArray,List.set_cons_zero,List.set_cons_succ]
    refine rh_call 4 (some 99) (by kernel_rfl) rfl rfl (by kernel_rfl) (fun K hK=>?_)
    clear hHeld
    go_simp
    go_at_call 186;(with_reducible refine HMU.out.mono ?_);rintro y w11 ⟨bN,AN,nN,cN,rfl,hvN,hbN⟩;have HB11:=Lib.hid ((belR W9).drew.trans hbN);rw [←Int.natCast_mul] at hvN;have HSU:=Lib.hid (sub01_any w11 w11.heap.size false A1 n1 c1 (z1:Int) bN AN nN cN _ (H1.out w11 (HBW9.out.trans (HB11.out.mono HBW9.out.size))) hvN (Nat.le_refl _) (by omega) (by have:=hvN.dlen HQZ.out;omega));clear hvN hbN
    refine hK.out _ _ (HKP.out _ HB11.out) (fun hHeld=>?_)
    clear hK K
    try simp only [Act.put,List.setIfInBounds_toArray,List.set_cons_zero,List.set_cons_succ]
    refine rh_call 5 (some 100) (by kernel_rfl) rfl rfl (by kernel_rfl) (fun K hK=>?_)
    clear hHeld
    go_simp
    go_at_call 212;(with_reducible refine HSU.out.mono ?_);rintro y w12 ⟨bS,AS,nS,cS,rfl,hvS,hbS⟩;have HB12:=Lib.hid (belT HB11.out hbS);rw [HXL.out] at hvS;have HVS:=Lib.hid hvS;have hk4:=HK4.out.below HB12.out HK4.out.lt;have hk5:=HK5.out.below HB12.out HK5.out.lt;have r0:=hk4.cell 0;have r1:=hk4.cell 1;have f0:=hk4.frozen 0;have f1:=hk4.frozen 1;have u0:=hk5.cell 0;have u1:=hk5.cell 1;have g0:=hk5.frozen 0;have g1:=hk5.frozen 1;simp at r0 r1 u0 u1;have HK42:=Lib.hid hk4;have HK52:=Lib.hid hk5;clear hvS hbS hk4 hk5
    refine hK.out _ _ (HKP.out _ HB12.out) (fun hHeld=>?_)
    clear hK K
    try simp only [Act.put,List.setIfInBounds_toArray,List.set_cons_zero,List.set_cons_succ]
    refine rh_call 6 none (by kernel_rfl) rfl rfl (by kernel_rfl) (fun K hK=>?_)
    clear hHeld
    go_simp
    refine hK.out _ _ (⟨(far2 _ _ _ _ _ (by simp only [ne_eq];omega)).trans (HKP.out _ HB12.out).1,(far2 _ _ _ _ _ (by simp only [ne_eq];omega)).trans (HKP.out _ HB12.out).2.1,(far2 _ _ _ _ _ (by simp only [ne_eq];omega)).trans (HKP.out _ HB12.out).2.2.1,(far2 _ _ _ _ _ (by simp only [ne_eq];omega)).trans (HKP.out _ HB12.out).2.2.2.1,(far2 _ _ _ _ _ (by simp only [ne_eq];omega)).trans (HKP.out _ HB12.out).2.2.2.2.1,(far2 _ _ _ _ _ (by simp only [ne_eq];omega)).trans (HKP.out _ HB12.out).2.2.2.2.2⟩) (fun hHeld=>?_)
    clear hK K
    try simp only [Act.put,List.setIfInBounds_toArray,List.set_cons_zero,List.set_cons_succ]
    refine rh_call 7 none (by kernel_rfl) rfl rfl (by kernel_rfl) (fun K hK=>?_)
    clear hHeld
    go_simp
    refine hK.out _ _ (⟨((far2 _ _ _ _ _ (by simp only [ne_eq];omega)).trans (far2 _ _ _ _ _ (by simp only [ne_eq];omega))).trans (HKP.out _ HB12.out).1,((far2 _ _ _ _ _ (by simp only [ne_eq];omega)).trans (far2 _ _ _ _ _ (by simp only [ne_eq];omega))).trans (HKP.out _ HB12.out).2.1,((far2 _ _ _ _ _ (by simp only [ne_eq];omega)).trans (far2 _ _ _ _ _ (by simp only [ne_eq];omega))).trans (HKP.out _ HB12.out).2.2.1,((far2 _ _ _ _ _ (by simp only [ne_eq];omega)).trans (far2 _ _ _ _ _ (by simp only [ne_eq];omega))).trans (HKP.out _ HB12.out).2.2.2.1,((far2 _ _ _ _ _ (by simp only [ne_eq];omega)).trans (far2 _ _ _ _ _ (by simp only [ne_eq];omega))).trans (HKP.out _ HB12.out).2.2.2.2.1,((far2 _ _ _ _ _ (by simp only [ne_eq];omega)).trans (far2 _ _ _ _ _ (by simp only [ne_eq];omega))).trans (HKP.out _ HB12.out).2.2.2.2.2⟩) (fun hHeld=>?_)
    clear hK K
    try simp only [Act.put,List.setIfInBounds_toArray,List.set_cons_zero,List.set_cons_succ]
    refine wpAnyH_done (by kernel_rfl) ?_ _
    clear hHeld
    go_wp2
    refine bodyPost_ret (v:=.tuple #[.agg #[.bool b6,.slice (some ⟨w.heap.size+1+1+1+1,0,none⟩) m6 c6],.agg #[.bool bS,.slice AS nS cS]]) (by simp [results,Tryz.results198,go_sem, *]) rfl ?_
    have hvx:=(((HV9.out.keep HB12.out HB12.out.size).far2 HK42.out b6 (some ⟨w.heap.size+1+1+1+1,0,none⟩) m6 c6).far2 ((HK52.out.far (p:=⟨w.heap.size+1+1,0,none⟩) (by simp only [ne_eq];omega) (.bool b6)).far (p:=⟨w.heap.size+1+1,1,none⟩) (by simp only [ne_eq];omega) (.slice (some ⟨w.heap.size+1+1+1+1,0,none⟩) m6 c6)) bS AS nS cS)
    have hvs:=((HVS.out.far2 HK42.out b6 (some ⟨w.heap.size+1+1+1+1,0,none⟩) m6 c6).far2 ((HK52.out.far (p:=⟨w.heap.size+1+1,0,none⟩) (by simp only [ne_eq];omega) (.bool b6)).far (p:=⟨w.heap.size+1+1,1,none⟩) (by simp only [ne_eq];omega) (.slice (some ⟨w.heap.size+1+1+1+1,0,none⟩) m6 c6)) bS AS nS cS)
    rw [HZ.out,HY.out]
    refine ⟨_,_,_,_,_,_,_,_,rfl,⟨hvx.sgn,hvx.len,hvx.rd.more (by simp),hvx.hc,hvx.hm⟩,⟨hvs.sgn,hvs.len,hvs.rd.more (by simp),hvs.hc,hvs.hm⟩,?_⟩
    exact ((((HBW9.out.trans (HB12.out.mono HBW9.out.size)).setCell (p:=⟨w.heap.size+1+1,0,none⟩) (by simp only;omega) _).setCell (p:=⟨w.heap.size+1+1,1,none⟩) (by simp only;omega) _).setCell (p:=⟨w.heap.size+1+1+1,0,none⟩) (by simp only;omega) _).setCell (p:=⟨w.heap.size+1+1+1,1,none⟩) (by simp only;omega) _
  | succ k =>
    have e3:((k+1:Nat):Int)-1=(k:Int):=by omega
    rw [e3]
    clear e3
    obtain ⟨a,rfl,hab,xd⟩:=(HR1.out wr HD.out.n).i64n (k:=k) (by rw [←HL1.out];omega)
    have hdk:=dg_lt (dig z1) k HDL.out
    have hst:=fun hi=>HV.out.step HDL.out hi
    have hls:=fun hi=>HV.out.less HDL.out hi
    have hRz:=HV.out.2.2.2.1
    generalize dg (dig z1) k=dd at *
    have hX:dd+1000*R<1000*z2:=by omega
    have r0:wr.cell? ⟨w.heap.size+1+1+1+1+1,0,none⟩=some (.bool bR):=HD.out.r.cell 0
    have r1:wr.cell? ⟨w.heap.size+1+1+1+1+1,1,none⟩=some (.slice AR nR cR):=HD.out.r.cell 1
    have a1:wr.cell? ⟨w.heap.size,1,none⟩=some (.slice (some a) n1 c1):=HD.out.a.cell 1
    have q1:(0:Int)≤(k:Int):=by omega
    have q2:(k:Int)<(n1:Int):=by omega
    have hnR:nR≤n2:=HD.out.v.dlen (by have:=HZ2.out;omega)
    have hrd:=HD.out.v.rd
    rw [Int.natAbs_natCast] at hrd
    have hlR:=HD.out.v.len
    rw [Int.natAbs_natCast] at hlR
    have hlt:=HD.out.lt
    have hwz:=HD.out.n.size
    have HO:=Lib.hid (show (wr.drew.alloc (.cells #[.int .i64 (dd:Int)] 3)).ownsRow wr.heap.size 3 1 (.slice (some ⟨wr.heap.size,0,none⟩) 1 1) 1 [.int .i64 (dd:Int)] from own_lit1 wr.drew (.int .i64 (dd:Int)) wr.heap.size (Nat.le_refl _) 3)
    have HRR:=Lib.hid (show Rd (wr.drew.alloc (.cells #[.int .i64 (dd:Int)] 3)) wr.heap.size 1 AR nR (i64n (dig R)) from hrd.below (belA (belR wr).drew _))
    have HDA:=Lib.hid (HD.out.below (belA (belR wr) (.cells #[.int .i64 (dd:Int)] 3)))
    have hzz:wr.heap.size≤(wr.drew.alloc (.cells #[.int .i64 (dd:Int)] 3)).heap.size:=by simp
    have HMD:Hid (∀ (W:World) (A5:Option Addr) (c5:Nat),W.ownsRow wr.heap.size 3 1 (.slice A5 (1+nR) c5) (1+nR) ([.int .i64 (dd:Int)]++i64n (dig R))→1+nR≤c5→c5≤maxLen →
     Calls Tryz.prog 187 #[.bool false,.slice A5 (1+nR) c5] W fun y w'=>RetMade W ((dd+1000*R:Nat):Int) A5 y w'):=Lib.hid fun W A5 c5 ho h1 h2=>by
     have hl:1+nR=(dd::dig R).length:=by rw [hlR,List.length_cons];omega
     rw [i64n_cons] at ho
     rw [hl] at ho h1 ⊢
     have:=made_at W W.heap.size A5 c5 (dd::dig R) false (Rd.own ho) (head_lt dd R hdk) h1 h2 (Nat.le_refl _)
     rw [sgZ_ff,vd_head] at this
     exact this
    have HST:=Lib.hid hst;have HLS:=Lib.hid hls;have HX:=Lib.hid hX
    clear hst hls hX hrd hlR hdk HV
    go_upto_region 7 with (fail)
    go_cut [39] (fun v39 wx=>DivX w wx (some a) n1 c1 A2 n2 c2 Q (dd+1000*R))
    case first =>
     have hbh:∀ W,Below wr.heap.size wr W→Below (w.heap.size+1) wr W:=fun W hb=>hb.mono (by omega)
     have HKP:Hid (∀ W,Below (w.heap.size+1) wr W→W.cell? ⟨w.heap.size,1,none⟩=some (.slice (some a) n1 c1)∧W.cell? (a.add k)=some (.int .i64 (dd:Int))):=Lib.hid fun W hb=>⟨(hb.cell (p:=⟨w.heap.size,1,none⟩) (Nat.lt_succ_self _)).trans a1,(hb.cell (p:=a.add k) (by rw [block_add];omega)).trans xd⟩
     have HBH:=Lib.hid hbh
     have r1a:(wr.alloc (.cells #[.int .i64 (dd:Int)] 3)).cell? ⟨w.heap.size+1+1+1+1+1,1,none⟩=some (.slice AR nR cR):=HDA.out.r.cell 1
     clear a1 xd r0 hbh
     refine wp_region_held_drew (S:=(fun W=>W.cell? ⟨w.heap.size,1,none⟩=some (.slice (some a) n1 c1)∧W.cell? (a.add k)=some (.int .i64 (dd:Int)))) (by kernel_rfl) (HKP.out _ (HBH.out _ (belR wr).drew)) (fun hHeld=>?_)
     refine rh_take 0 (some 30) (v:=?_) rfl rfl (by kernel_rfl) (by kernel_rfl) (by kernel_rfl) (by kernel_rfl) (fun _ _ _ h=>h) hHeld ?_ ?_
     rotate_left
     ·(intro w hSw;(try dsimp only at hSw);go_simp;try with_reducible rfl)
     try simp only [Act.put,List.setIfInBounds_toArray,List.set_cons_zero,List.set_cons_succ]
     refine rh_take 1 (some 31) (v:=?_) rfl rfl (by kernel_rfl) (by kernel_rfl) (by kernel_rfl) (by kernel_rfl) (fun _ _ _ h=>h) hHeld ?_ ?_
     rotate_left
     ·(intro w hSw;(try dsimp only at hSw);go_simp;try with_reducible rfl)
     try simp only [Act.put,List.setIfInBounds_toArray,List.set_cons_zero,List.set_cons_succ]
     refine rh_take 2 (some 32) (v:=?_) rfl rfl (by kernel_rfl) (by kernel_rfl) (by kernel_rfl) (by kernel_rfl) (fun _ _ _ h=>h) hHeld ?_ ?_
     rotate_left
     ·(intro w hSw;(try dsimp only at hSw);go_simp;try with_reducible rfl)
     try simp only [Act.put,List.setIfInBounds_toArray,List.set_cons_zero,List.set_cons_succ]
     refine rh_take 3 (some 33) (v:=?_) rfl rfl (by kernel_rfl) (by kernel_rfl) (by kernel_rfl) (by kernel_rfl) (fun _ _ _ h=>h) hHeld ?_ ?_
     rotate_left
     ·(intro w hSw;(try dsimp only at hSw);go_simp;try with_reducible rfl)
     try simp only [Act.put,List.setIfInBounds_toArray,List.set_cons_zero,List.set_cons_succ]
     refine rh_take 4 (some 34) (v:=?_) rfl rfl (by kernel_rfl) (by kernel_rfl) (by kernel_rfl) (by kernel_rfl) (fun _ _ _ h=>h) hHeld ?_ ?_
     rotate_left
     ·(intro w hSw;(try dsimp only at hSw);go_simp;try with_reducible rfl)
     try simp only [Act.put,List.setIfInBounds_toArray,List.set_cons_zero,List.set_cons_succ]
     refine rh_take 6 (some 36) (v:=?_) rfl rfl (by kernel_rfl) (by kernel_rfl) (by kernel_rfl) (by kernel_rfl) (fun _ _ _ h=>h) hHeld ?_ ?_
     rotate_left
     ·(intro w hSw;(try dsimp only at hSw);go_simp;try with_reducible rfl)
     try simp only [Act.put,List.setIfInBounds_toArray,List.set_cons_zero,List.set_cons_succ]
     refine rh_call2 5 7 (some 35) (some 37) (by kernel_rfl) rfl rfl rfl rfl (by kernel_rfl) (by kernel_rfl) (fun K hK=>?_) (fun K hK=>?_)
     ·clear hHeld
      go_simp
      refine hK.out _ _ (HKP.out _ (HBH.out _ (belA (belR wr).drew _))) (fun hHeld=>?_)
      clear hK K
      try simp only [Act.put,List.setIfInBounds_toArray,List.set_cons_zero,List.set_cons_succ]
      refine rh_call 7 (some 37) (by kernel_rfl) rfl rfl (by kernel_rfl) (fun K hK=>?_)
      clear hHeld
      go_simp
      refine hK.out _ _ (HKP.out _ (HBH.out _ (belA (belR wr).drew _))) (fun hHeld=>?_)
      clear hK K
      try simp only [Act.put,List.setIfInBounds_toArray,List.set_cons_zero,List.set_cons_succ]
      refine rh_law 8 (some 38) (by kernel_rfl) rfl rfl (by kernel_rfl) (fun K hK=>?_)
      clear hHeld
      refine step_appS rfl (.tmp 35) (.tmp 37) 82 rfl wr.heap.size 3 (.int .i64 0) 1 8 info_i64n rfl (by decide) Tryz.underlying82 (.slice (some ⟨wr.heap.size,0,none⟩) 1 1) 1 [.int .i64 (dd:Int)] HO.out _ AR nR cR (i64n (dig R)) HRR.out rfl rfl (i64n_one (dig R)) (by omega) (by omega) hzz ?_
      intro v5 w5 ho5 hap5
      obtain ⟨A5,c5,hv5,hc5,hcm5,_⟩:=own_form ho5
      obtain ⟨g5,cap5,hg5,hgl5,_⟩:=ho5.form (by omega)
      have hb5:Below wr.heap.size wr w5:=(belA (belR wr).drew _).trans (hap5.below hzz HO.out)
      have hfar:∀ a,A5=some a→wr.heap.size≤a.block:=by rw [hv5] at hg5;injection hg5 with hg5;intro a ha;rw [hg5] at ha;injection ha with ha;rw [←ha];exact hgl5
      subst hv5
      have HO5:=Lib.hid ho5;have HB5:=Lib.hid hb5;have HFAR:=Lib.hid hfar
      clear ho5 hap5 hb5 hg5 hgl5 hfar
      refine hK.out _ _ (HKP.out _ (HBH.out _ HB5.out)) (fun hHeld=>?_)
      clear hK K
      try simp only [Act.put,List.setIfInBounds_toArray]
      refine rh_call 9 (some 39) (by kernel_rfl) rfl rfl (by kernel_rfl) (fun K hK=>?_)
      clear hHeld
      go_simp
      go_at_call 187;(with_reducible refine (HMD.out w5 A5 c5 HO5.out hc5 hcm5).mono ?_);rintro y w6 ⟨b6,m6,c6,rfl,hv6,hb6⟩;have HV6:=Lib.hid hv6;have HB6:=Lib.hid (belT HB5.out hb6);clear hv6 hb6;have hd6:=HD.out.below HB6.out;have x0:=hd6.r.cell 0;have x1:=hd6.r.cell 1;have f0:=hd6.r.frozen 0;have f1:=hd6.r.frozen 1;simp at x0 x1;have HD6:=Lib.hid hd6;clear hd6
      refine hK.out _ _ (HKP.out _ (HBH.out _ HB6.out)) (fun hHeld=>?_)
      clear hK K
      try simp only [Act.put,List.setIfInBounds_toArray,List.set_cons_zero,List.set_cons_succ]
      refine rh_call 10 none (by kernel_rfl) rfl rfl (by kernel_rfl) (fun K hK=>?_)
      clear hHeld
      go_simp
      refine hK.out _ _ (HKP.out _ (((HBH.out _ HB6.out).setCell (p:=⟨w.heap.size+1+1+1+1+1,0,none⟩) (by simp only;omega) _).setCell (p:=⟨w.heap.size+1+1+1+1+1,1,none⟩) (by simp only;omega) _)) (fun hHeld=>?_)
      clear hK K
      try simp only [Act.put,List.setIfInBounds_toArray,List.set_cons_zero,List.set_cons_succ]
      refine wpAnyH_done (by kernel_rfl) ?_ _
      clear hHeld
      go_wp2
      go_meet
      case rel=>exact ⟨_,_,_,_,HD6.out.putR HV6.out,fun a ha=>by have:=HFAR.out a ha;omega⟩
     ·clear hHeld
      go_simp
      refine hK.out _ _ (HKP.out _ (HBH.out _ (belR wr).drew)) (fun hHeld=>?_)
      clear hK K
      try simp only [Act.put,List.setIfInBounds_toArray,List.set_cons_zero,List.set_cons_succ]
      refine rh_call 5 (some 35) (by kernel_rfl) rfl rfl (by kernel_rfl) (fun K hK=>?_)
      clear hHeld
      go_simp
      refine hK.out _ _ (HKP.out _ (HBH.out _ (belA (belR wr).drew _))) (fun hHeld=>?_)
      clear hK K
      try simp only [Act.put,List.setIfInBounds_toArray,List.set_cons_zero,List.set_cons_succ]
      refine rh_law 8 (some 38) (by kernel_rfl) rfl rfl (by kernel_rfl) (fun K hK=>?_)
      clear hHeld
      refine step_appS rfl (.tmp 35) (.tmp 37) 82 rfl wr.heap.size 3 (.int .i64 0) 1 8 info_i64n rfl (by decide) Tryz.underlying82 (.slice (some ⟨wr.heap.size,0,none⟩) 1 1) 1 [.int .i64 (dd:Int)] HO.out _ AR nR cR (i64n (dig R)) HRR.out rfl rfl (i64n_one (dig R)) (by omega) (by omega) hzz ?_
      intro v5 w5 ho5 hap5
      obtain ⟨A5,c5,hv5,hc5,hcm5,_⟩:=own_form ho5
      obtain ⟨g5,cap5,hg5,hgl5,_⟩:=ho5.form (by omega)
      have hb5:Below wr.heap.size wr w5:=(belA (belR wr).drew _).trans (hap5.below hzz HO.out)
      have hfar:∀ a,A5=some a→wr.heap.size≤a.block:=by rw [hv5] at hg5;injection hg5 with hg5;intro a ha;rw [hg5] at ha;injection ha with ha;rw [←ha];exact hgl5
      subst hv5
      have HO5:=Lib.hid ho5;have HB5:=Lib.hid hb5;have HFAR:=Lib.hid hfar
      clear ho5 hap5 hb5 hg5 hgl5 hfar
      refine hK.out _ _ (HKP.out _ (HBH.out _ HB5.out)) (fun hHeld=>?_)
      clear hK K
      try simp only [Act.put,List.setIfInBounds_toArray]
      refine rh_call 9 (some 39) (by kernel_rfl) rfl rfl (by kernel_rfl) (fun K hK=>?_)
      clear hHeld
      go_simp
      go_at_call 187;(with_reducible refine (HMD.out w5 A5 c5 HO5.out hc5 hcm5).mono ?_);rintro y w6 ⟨b6,m6,c6,rfl,hv6,hb6⟩;have HV6:=Lib.hid hv6;have HB6:=Lib.hid (belT HB5.out hb6);clear hv6 hb6;have hd6:=HD.out.below HB6.out;have x0:=hd6.r.cell 0;have x1:=hd6.r.cell 1;have f0:=hd6.r.frozen 0;have f1:=hd6.r.frozen 1;simp at x0 x1;have HD6:=Lib.hid hd6;clear hd6
      refine hK.out _ _ (HKP.out _ (HBH.out _ HB6.out)) (fun hHeld=>?_)
      clear hK K
      try simp only [Act.put,List.setIfInBounds_toArray,List.set_cons_zero,List.set_cons_succ]
      refine rh_call 10 none (by kernel_rfl) rfl rfl (by kernel_rfl) (fun K hK=>?_)
      clear hHeld
      go_simp
      refine hK.out _ _ (HKP.out _ (((HBH.out _ HB6.out).setCell (p:=⟨w.heap.size+1+1+1+1+1,0,none⟩) (by simp only;omega) _).setCell (p:=⟨w.heap.size+1+1+1+1+1,1,none⟩) (by simp only;omega) _)) (fun hHeld=>?_)
      clear hK K
      try simp only [Act.put,List.setIfInBounds_toArray,List.set_cons_zero,List.set_cons_succ]
      refine wpAnyH_done (by kernel_rfl) ?_ _
      clear hHeld
      go_wp2
      go_meet
      case rel=>exact ⟨_,_,_,_,HD6.out.putR HV6.out,fun a ha=>by have:=HFAR.out a ha;omega⟩
    case rest =>
     clear a1 xd r0 r1 HO HRR HDA HMD hzz
     obtain ⟨b6,A5,m6,c6,hd7,hf7⟩:=hcut
     obtain ⟨X,hXX⟩:∃ X,dd+1000*R=X:=⟨_,rfl⟩
     rw [hXX] at hd7 HX HST HLS
     have HD7:=Lib.hid hd7;have HF7:=Lib.hid hf7;have HXX:=Lib.hid hXX
     have x0:=hd7.r.cell 0;have x1:=hd7.r.cell 1;have y0:=hd7.d.cell 0;have y1:=hd7.d.cell 1
     simp at x0 x1 y0 y1
     have hcp:=cmp01_any wc wc.heap.size b6 A5 m6 c6 (X:Int) false A2 n2 c2 (z2:Int) hd7.v (H2.out wc hd7.n) (Nat.le_refl _)
     have hm6:m6≤n2+1:=hd7.v.dlen (by have h1:=HZ2.out;have h2:=HT1.out;have h3:=HX.out;omega)
     clear hd7 hf7 hXX HD
     by_cases hlx:X<z2
     case pos =>
      rw [cmp_lt hlx] at hcp
      have HC:=Lib.hid hcp
      have HLX:=Lib.hid hlx
      clear hcp hlx
      go_wp2_with (go_at_call 199;(with_reducible refine HC.out.mono ?_);rintro y w8 ⟨rfl,hb8⟩;have HD8:=Lib.hid (HD7.out.below hb8);clear hb8)
      go_roundg k
      case measure=>omega
      case rel=>exact ⟨k,Q,b6,A5,m6,c6,X,by omega,rfl,by go_num,HD8.out,HLS.out (by rw [←HL1.out];omega) HLX.out⟩
     have t8:=cmp_ge0 hlx
     have hzx:z2≤X:=by omega
     generalize cmpZ (X:Int) (z2:Int)=cv at *
     have HC:=Lib.hid hcp;have HZX:=Lib.hid hzx
     clear hcp hlx hzx
     go_wp2_with (go_at_call 199;(with_reducible refine HC.out.mono ?_);rintro y w8 ⟨rfl,hb8⟩;have HD8:=Lib.hid (HD7.out.below hb8);clear hb8)
     clear x0 x1 y0 y1 t8
     go_loopw [10,11] (fun vlo vhi ws=>∃ lo hi:Nat,1≤lo∧lo≤hi∧hi≤999∧vlo=.int .i64 (lo:Int)∧vhi=.int .i64 (hi:Int)∧Hid (lo*z2≤X∧X<(hi+1)*z2)∧Hid (DivW w ws (some a) n1 c1 A2 n2 c2 Q b6 A5 m6 c6 X)) (fun vlo vhi _=>(intOf vhi-intOf vlo).toNat)
     case atStart=>exact ⟨1,999,by omega,by omega,by omega,rfl,rfl,⟨by have:=HZX.out;omega,by have:=HX.out;omega⟩,HD8.out⟩
     case round =>
      obtain ⟨lo,hi,hl1,hl2,hh,rfl,rfl,HQ,HDS⟩:=hrel
      by_cases hlt2:lo<hi
      ·obtain ⟨M,hM⟩:∃ M,(lo+hi+1)/2=M:=⟨_,rfl⟩
       have hM1:lo<M:=by omega
       have hM2:M≤hi:=by omega
       have em:((lo:Int)+(hi:Int)+1)/2=(M:Int):=by omega
       have wM:IntKind.u64.wrap (M:Int)=(M:Int):=by rw [IntKind.wrap_u64];omega
       have q3:decide ((lo:Int)<(hi:Int))=true:=decide_eq_true (by omega)
       have q4:decide (lo<hi)=true:=decide_eq_true hlt2
       have x0:=HDS.out.r.cell 0;have x1:=HDS.out.r.cell 1;have y0:=HDS.out.d.cell 0;have y1:=HDS.out.d.cell 1
       simp at x0 x1 y0 y1
       have hz5:=HDS.out.r.lt;have hz6:=HDS.out.d.lt
       clear hM hlt2
       have HNM:=Lib.hid (fun W=>nat01_any W M (by omega))
       have hMz:M*z2≤999*z2:=Nat.mul_le_mul_right _ (by omega)
       have HMZ:=Lib.hid (show z2*M<1000^(n2+1) by rw [Nat.mul_comm];have h1:=HZ2.out;have h2:=HT1.out;omega)
       clear hMz
       go_upto_region 12 with (fail)
       rw [em]
       go_cut [59] (fun v59 wx=>v59=.bool (decide (cmpZ ((z2*M:Nat):Int) (X:Int)≤0))∧DivW w wx (some a) n1 c1 A2 n2 c2 Q b6 A5 m6 c6 X)
       case first =>
        have HKP:Hid (∀ W,Below wr.heap.size wr W→W.cell? ⟨w.heap.size+1+1+1+1+1,0,none⟩=some (.bool b6)∧W.cell? ⟨w.heap.size+1+1+1+1+1,1,none⟩=some (.slice A5 m6 c6)∧W.cell? ⟨w.heap.size+1+1+1+1+1+1,0,none⟩=some (.bool false)∧W.cell? ⟨w.heap.size+1+1+1+1+1+1,1,none⟩=some (.slice A2 n2 c2)):=Lib.hid fun W hb=>⟨(hb.cell (p:=⟨w.heap.size+1+1+1+1+1,0,none⟩) (hz5)).trans x0,(hb.cell (p:=⟨w.heap.size+1+1+1+1+1,1,none⟩) (hz5)).trans x1,(hb.cell (p:=⟨w.heap.size+1+1+1+1+1+1,0,none⟩) (hz6)).trans y0,(hb.cell (p:=⟨w.heap.size+1+1+1+1+1+1,1,none⟩) (hz6)).trans y1⟩
        clear x0 x1 y0 y1
        refine wp_region_held_drew (S:=(fun W=>W.cell? ⟨w.heap.size+1+1+1+1+1,0,none⟩=some (.bool b6)∧W.cell? ⟨w.heap.size+1+1+1+1+1,1,none⟩=some (.slice A5 m6 c6)∧W.cell? ⟨w.heap.size+1+1+1+1+1+1,0,none⟩=some (.bool false)∧W.cell? ⟨w.heap.size+1+1+1+1+1+1,1,none⟩=some (.slice A2 n2 c2))) (by kernel_rfl) (HKP.out _ (belR wr).drew) (fun hHeld=>?_)
        refine rh_take 0 (some 52) (v:=?_) rfl rfl (by kernel_rfl) (by kernel_rfl) (by kernel_rfl) (by kernel_rfl) (fun _ _ _ h=>h) hHeld ?_ ?_
        rotate_left
        ·(intro w hSw;(try dsimp only at hSw);go_simp;try with_reducible rfl)
        try simp only [Act.put,List.setIfInBounds_toArray,List.set_cons_zero,List.set_cons_succ]
        refine rh_take 1 (some 53) (v:=?_) rfl rfl (by kernel_rfl) (by kernel_rfl) (by kernel_rfl) (by kernel_rfl) (fun _ _ _ h=>h) hHeld ?_ ?_
        rotate_left
        ·(intro w hSw;(try dsimp only at hSw);go_simp;try with_reducible rfl)
        try simp only [Act.put,List.setIfInBounds_toArray,List.set_cons_zero,List.set_cons_succ]
        refine rh_take 2 (some 54) (v:=?_) rfl rfl (by kernel_rfl) (by kernel_rfl) (by kernel_rfl) (by kernel_rfl) (fun _ _ _ h=>h) hHeld ?_ ?_
        rotate_left
        ·(intro w hSw;(try dsimp only at hSw);go_simp;try with_reducible rfl)
        try simp only [Act.put,List.setIfInBounds_toArray,List.set_cons_zero,List.set_cons_succ]
        refine rh_take 5 (some 57) (v:=?_) rfl rfl (by kernel_rfl) (by kernel_rfl) (by kernel_rfl) (by kernel_rfl) (fun _ _ _ h=>h) hHeld ?_ ?_
        rotate_left
        ·(intro w hSw;(try dsimp only at hSw);go_simp;try with_reducible rfl)
        try simp only [Act.put,List.setIfInBounds_toArray,List.set_cons_zero,List.set_cons_succ]
        refine rh_call 3 (some 55) (by kernel_rfl) rfl rfl (by kernel_rfl) (fun K hK=>?_)
        clear hHeld
        go_simp
        go_at_call 114;(with_reducible refine (HNM.out _).mono ?_);rintro y w10 ⟨bM,AM,nM,cM,rfl,hvM,hbM⟩;have HB10:=Lib.hid ((belR wr).drew.trans hbM);have HMU:=Lib.hid (mul01_any w10 w10.heap.size false A2 n2 c2 (z2:Int) bM AM nM cM (M:Int) (H2.out w10 (belT HDS.out.n HB10.out)) hvM (Nat.le_refl _) (by omega) (by have:=hvM.dlen (k:=1) (by omega);omega));clear hvM hbM
        refine hK.out _ _ (HKP.out _ HB10.out) (fun hHeld=>?_)
        clear hK K
        try simp only [Act.put,List.setIfInBounds_toArray,List.set_cons_zero,List.set_cons_succ]
        refine rh_call 4 (some 56) (by kernel_rfl) rfl rfl (by kernel_rfl) (fun K hK=>?_)
        clear hHeld
        go_simp
        go_at_call 186;(with_reducible refine HMU.out.mono ?_);rintro y w11 ⟨bN,AN,nN,cN,rfl,hvN,hbN⟩;have HB11:=Lib.hid (belT HB10.out hbN);rw [←Int.natCast_mul] at hvN;have HCP:=Lib.hid (cmp01_any w11 w11.heap.size bN AN nN cN _ b6 A5 m6 c6 (X:Int) hvN (HDS.out.below HB11.out).v (Nat.le_refl _));clear hvN hbN
        refine hK.out _ _ (HKP.out _ HB11.out) (fun hHeld=>?_)
        clear hK K
        try simp only [Act.put,List.setIfInBounds_toArray,List.set_cons_zero,List.set_cons_succ]
        refine rh_call 6 (some 58) (by kernel_rfl) rfl rfl (by kernel_rfl) (fun K hK=>?_)
        clear hHeld
        go_simp
        go_at_call 199;(with_reducible refine HCP.out.mono ?_);rintro y w12 ⟨rfl,hb12⟩;have HB12:=Lib.hid (belT HB11.out hb12);clear hb12
        refine hK.out _ _ (HKP.out _ HB12.out) (fun hHeld=>?_)
        clear hK K
        try simp only [Act.put,List.setIfInBounds_toArray,List.set_cons_zero,List.set_cons_succ]
        refine rh_take 7 (some 59) (v:=?_) rfl rfl (by kernel_rfl) (by kernel_rfl) (by kernel_rfl) (by kernel_rfl) (fun _ _ _ h=>h) hHeld ?_ ?_
        rotate_left
        ·(intro w hSw;(try dsimp only at hSw);go_simp;try with_reducible rfl)
        try simp only [Act.put,List.setIfInBounds_toArray,List.set_cons_zero,List.set_cons_succ]
        refine wpAnyH_done (by kernel_rfl) ?_ _
        clear hHeld
        go_wp2
        go_meet
        case rel=>exact ⟨rfl,HDS.out.below HB12.out⟩
       case rest =>
        obtain ⟨rfl,hd9⟩:=hcut
        have HD9:=Lib.hid hd9
        clear hd9 x0 x1 y0 y1
        by_cases hle:z2*M≤X
        ·rw [cmp_le (show ((z2*M:Nat):Int)≤(X:Int) by omega)]
         have HL:=Lib.hid hle
         clear hle
         go_wp2
         go_roundw
         case rel=>exact ⟨M,hi,by omega,by omega,by omega,rfl,rfl,⟨by rw [Nat.mul_comm];exact HL.out,HQ.out.2⟩,HD9.out⟩
         case measure=>simp [intOf];omega
        ·rw [cmp_gt (show ¬((z2*M:Nat):Int)≤(X:Int) by omega)]
         have HL:=Lib.hid hle
         have e5:((M:Int)-1)=((M-1:Nat):Int):=by omega
         clear hle
         go_wp2
         go_roundw
         case rel=>exact ⟨lo,M-1,by omega,by omega,by omega,rfl,(by first|rw [e5]|go_num|rfl),⟨HQ.out.1,by rw [show M-1+1=M from by omega,Nat.mul_comm];have:=HL.out;omega⟩,HD9.out⟩
         case measure=>simp [intOf];omega
      ·obtain rfl:lo=hi:=by omega
       have hqt:=quot_of HQ.out.1 HQ.out.2
       have hsx:=HST.out (by rw [←HL1.out];omega)
       rw [hqt] at hsx
       have hmd:X%z2=X-z2*lo:=by have:=Nat.div_add_mod X z2;rw [hqt] at this;omega
       rw [hmd] at hsx
       have HSX:=Lib.hid hsx
       have q3:decide ((lo:Int)<(lo:Int))=false:=decide_eq_false (by omega)
       have q4:decide (lo<lo)=false:=decide_eq_false (by omega)
       have hql:Q.length=n1:=by have:=HSX.out.1;rw [List.length_set] at this;rw [this,HL1.out]
       have k0:wr.cell? ⟨w.heap.size+1+1+1+1,k,none⟩=some (.int .i64 ((dg Q k:Nat):Int)):=(show DigW wr wr _ Q from ⟨HDS.out.q,belR wr⟩).at (by omega)
       have fk:=HDS.out.q.frozen k
       have HDP:=Lib.hid (HDS.out.putQ (i:=k) (x:=lo) HF7.out)
       have q7:(k:Int)<(n1:Int):=by omega
       have wL:IntKind.u64.wrap (lo:Int)=(lo:Int):=by rw [IntKind.wrap_u64];omega
       have HNL:=Lib.hid (fun W=>nat01_any W lo (by omega))
       have hLz:lo*z2≤999*z2:=Nat.mul_le_mul_right _ (by omega)
       have HLZ:=Lib.hid (show z2*lo<1000^(n2+1) by rw [Nat.mul_comm];have h1:=HZ2.out;have h2:=HT1.out;omega)
       have hle:z2*lo≤X:=by rw [Nat.mul_comm];exact HQ.out.1
       have hxx:(X:Int)-((z2*lo:Nat):Int)=((X-z2*lo:Nat):Int):=by omega
       have HXL:=Lib.hid hxx
       clear hqt hsx hmd hLz hle hxx
       go_upto_region 16 with (fail)
       clear k0 fk
       generalize wr.setCell ⟨w.heap.size+1+1+1+1,k,none⟩ (.int .i64 (lo:Int))=W9 at *
       have x0:=HDP.out.r.cell 0;have x1:=HDP.out.r.cell 1;have y0:=HDP.out.d.cell 0;have y1:=HDP.out.d.cell 1
       simp at x0 x1 y0 y1
       go_region_with (first
        | (go_at_call 114;(with_reducible refine (HNL.out _).mono ?_);rintro y w10 ⟨bM,AM,nM,cM,rfl,hvM,hbM⟩;have HD10:=Lib.hid (HDP.out.drew.below hbM);have u0:=HD10.out.r.cell 0;have u1:=HD10.out.r.cell 1;have v0:=HD10.out.d.cell 0;have v1:=HD10.out.d.cell 1;simp at u0 u1 v0 v1;have HMU:=Lib.hid (mul01_any w10 w10.heap.size false A2 n2 c2 (z2:Int) bM AM nM cM (lo:Int) (H2.out w10 HD10.out.n) hvM (Nat.le_refl _) (by omega) (by have:=hvM.dlen (k:=1) (by omega);omega));clear hvM hbM)
        | (go_at_call 186;(with_reducible refine HMU.out.mono ?_);rintro y w11 ⟨bN,AN,nN,cN,rfl,hvN,hbN⟩;have HD11:=Lib.hid (HD10.out.below hbN);have u2:=HD11.out.r.cell 0;have u3:=HD11.out.r.cell 1;simp at u2 u3;rw [←Int.natCast_mul] at hvN;have HSU:=Lib.hid (sub01_any w11 w11.heap.size b6 A5 m6 c6 (X:Int) bN AN nN cN _ HD11.out.v hvN (Nat.le_refl _) (by omega) (by have:=hvN.dlen HLZ.out;omega));clear hvN hbN)
        | (go_at_call 212;(with_reducible refine HSU.out.mono ?_);rintro y w12 ⟨bS,AS,nS,cS,rfl,hvS,hbS⟩;have HD12:=Lib.hid (HD11.out.below hbS);have u4:=HD12.out.r.cell 0;have u5:=HD12.out.r.cell 1;have g4:=HD12.out.r.frozen 0;have g5:=HD12.out.r.frozen 1;simp at u4 u5;rw [HXL.out] at hvS;have HP12:=Lib.hid (HD12.out.putR hvS);clear hvS hbS))
       all_goals
        go_wp2
        go_roundg k
        case measure=>omega
        case rel=>exact ⟨k,_,_,_,_,_,_,by omega,rfl,by go_num,HP12.out,HSX.out⟩
end Go.Proofs.YtfhmaincnlaapaaGreat
