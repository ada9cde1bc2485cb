/- bushelref08.Read (U), bushelref11.Reader: Ask, U, End. -/
import Derived.StillTailTactics
import Derived.Test.YtfhmaincnlaapaaGreatAgSy2
import Derived.Test.YtfhmaincnlaapaaGreatAgBufInU
namespace Go.Proofs.YtfhmaincnlaapaaGreat
open Go.ChangeShapes Go.WideShapes Go.ChangeAt Go.RowKit
set_option linter.unusedVariables false
theorem refGetU_any (A:Option Addr) (m c B:Nat) (t:List UInt8) (w:World) (h:Rd w B 1 A m (u8s t)) (hc:m≤maxLen) :
 Calls Tryz.prog 162 #[.slice A m c] w fun e w'=>e=.returned (.tuple #[.int .u64 ((getU t).1:Nat),.int .i64 ((getU t).2.1:Nat),.int .i64 ((getU t).2.2:Nat)])∧Drw w w':=by
 obtain rfl:m=t.length:=h.u8.symm
 have hcc:=hc
 unfold maxLen at hcc
 cases t with
 | nil =>
   have hl:([]:List UInt8).length=0:=rfl
   rw [hl]
   go_enter Tryz.func162,Tryz.ntmps162
   go_wp2
   go_ret3
   exact ⟨rfl,Drw.refl _⟩
 | cons x t =>
   have hl:(x :: t).length=t.length+1:=rfl
   rw [hl] at h hcc ⊢
   obtain ⟨a,rfl,hb,hx⟩:=h.byte (k:=0) (by simp)
   rw [add_zero'] at hx
   simp only [List.getElem_cons_zero] at hx
   have hx8:=x.toNat_lt
   have t0:(((t.length:Int)+1)==0)=false:=by rw [beq_eq_false_iff_ne];omega
   have H:=Lib.hid h;have HL:=Lib.hid hl;clear h hl
   by_cases h8:8<x.toNat
   ·have hfin:getU (x :: t)=(0,0,6):=by simp [getU,h8]
    have HF:=Lib.hid hfin;clear hfin
    go_enter Tryz.func162,Tryz.ntmps162
    go_wp2
    go_ret3
    exact ⟨by rw [HF.out];rfl,Drw.refl _⟩
   ·have hfin:getU (x :: t)=if (numB t x.toNat).2=0 then ((numB t x.toNat).1,x.toNat+1,0) else (0,0,(numB t x.toNat).2):=by simp [getU,h8]
    generalize hn:x.toNat=n at *
    have HN:=Lib.hid hn;clear hn
    by_cases hn0:0<n
    ·by_cases ht:0<t.length
     ·obtain ⟨a1,ea,_,hx1⟩:=H.out.byte (k:=1) (by simp;omega)
      injection ea with ea;subst ea
      simp only [List.getElem_cons_succ] at hx1
      have hx1':w.cell? ⟨a.block,a.off+1,none⟩=some (.int .u8 (t[0].toNat:Int)):=by rw [← hx1];rfl
      clear hx1
      by_cases hz:t[0]=0
      ·have hnum:=numB_form t n hn0 ht hz
       rw [hnum] at hfin
       have t1:=u8_z hz
       have HF:=Lib.hid hfin;have HZ:=Lib.hid hz;have HM:=Lib.hid hnum;clear hfin hz hnum
       go_enter Tryz.func162,Tryz.ntmps162
       go_wp2
       go_ret3
       exact ⟨by rw [HF.out];rfl,Drw.refl _⟩
      ·have t1:=u8_nz hz
       have hhd:t.headD 0≠0:=by rw [headD_get t ht];exact hz
       have HZ:=Lib.hid hz;have HHD:=Lib.hid hhd;clear hz hhd
       by_cases hl:t.length<n
       ·have hnum:=numB_short t n hl (fun _=>HHD.out)
        rw [hnum] at hfin
        have HF:=Lib.hid hfin;have HM:=Lib.hid hnum;clear hfin hnum
        go_enter Tryz.func162,Tryz.ntmps162
        go_wp2
        go_ret3
        exact ⟨by rw [HF.out];rfl,Drw.refl _⟩
       ·have hnum:=numB_ok t n (by omega) (fun _=>HHD.out)
        rw [hnum] at hfin
        have HF:=Lib.hid hfin;have HM:=Lib.hid hnum;clear hfin hnum
        go_enter Tryz.func162,Tryz.ntmps162
        go_wp2
        go_loop [6,7] (fun y i=>∃ j:Nat,j≤n∧i=.int .i64 ((j:Int)+1)∧y=.int .u64 (bv (t.take j):Nat)) (fun _ i=>n+2-(intOf i).toNat)
        case atStart=>exact ⟨0,by omega,rfl,rfl⟩
        case round =>
         obtain ⟨j,hj,rfl,rfl⟩:=hrel
         by_cases hlt:j<n
         ·have hjt:j<t.length:=by omega
          obtain ⟨a2,ea,_,hx2⟩:=H.out.byte (k:=j+1) (by simp;omega)
          injection ea with ea;subst ea
          rw [add_succ] at hx2
          simp only [List.getElem_cons_succ] at hx2
          have hbt:=bv_take t j hjt
          have hlt1:=bv_lt (t.take j)
          have hlt2:256^(t.take j).length≤256^7:=Nat.pow_le_pow_right (by decide) (by rw [List.length_take];omega)
          have hbb:bv (t.take j)<72057594037927936:=by simpa using Nat.lt_of_lt_of_le hlt1 hlt2
          have hc8:=t[j].toNat_lt
          have HT:=Lib.hid hbt;clear hbt hlt1 hlt2
          go_wp2
          go_round
          case rel=>exact ⟨j+1,by omega,by go_num,by rw [HT.out];go_num⟩
          case measure=>simp [intOf];omega
         ·obtain rfl:j=n:=by omega
          go_wp2
          go_ret3
          exact ⟨by rw [HF.out];rfl,Drw.refl _⟩
     ·have hl:t.length<n:=by omega
      have hnum:=numB_short t n hl (fun h=>absurd h ht)
      rw [hnum] at hfin
      obtain rfl:t=[]:=List.eq_nil_of_length_eq_zero (by omega)
      have HF:=Lib.hid hfin;have HM:=Lib.hid hnum;clear hfin hnum
      go_enter Tryz.func162,Tryz.ntmps162
      go_wp2
      go_ret3
      exact ⟨by rw [HF.out];rfl,Drw.refl _⟩
    ·obtain rfl:n=0:=by omega
     have hnum:numB t 0=(0,0):=by simp [numB]
     rw [hnum] at hfin
     have HF:=Lib.hid hfin;have HM:=Lib.hid hnum;clear hfin hnum
     go_enter Tryz.func162,Tryz.ntmps162
     go_wp2
     go_loop [6,7] (fun y i=>i=.int .i64 1∧y=.int .u64 0) (fun _ i=>2-(intOf i).toNat)
     case atStart=>exact ⟨rfl,rfl⟩
     case round =>
      obtain ⟨rfl,rfl⟩:=hrel
      go_wp2
      go_ret3
      exact ⟨by rw [HF.out];rfl,Drw.refl _⟩
theorem wdF_div (f x k:Nat) (h:x<256^f):(x/256^k=0↔wdF f x≤k):=by
 induction f generalizing x k with
 | zero=>simp at h;subst h;simp [wdF]
 | succ f ih =>
   rw [wdF]
   by_cases h0:x=0
   ·rw [if_pos h0,h0];simp
   ·rw [if_neg h0]
    cases k with
    | zero=>simp;exact h0
    | succ k =>
      have:=ih (x/256) k (by rw [Nat.pow_succ] at h;omega)
      rw [Nat.pow_succ,Nat.mul_comm,← Nat.div_div_eq_div_mul,this];omega
theorem wd_div (x k:Nat) (h:x<18446744073709551616):(x/256^k=0↔wd x≤k):=wdF_div 8 x k (by simpa using h)
theorem div_step (x k:Nat):x/256^k/256=x/256^(k+1):=by rw [Nat.div_div_eq_div_mul,Nat.pow_succ]
theorem own_lit1n (w:World) (z:Int) (b:Nat) (base:Nat) (hbase:base≤w.heap.size) (hz:z=((b%256:Nat):Int)):(w.alloc (.cells #[.int .u8 z] 5)).ownsRow base 5 1 (.slice (some ⟨w.heap.size,0,none⟩) 1 1) 1 (u8s [UInt8.ofNat b]):=by
 have:=own_lit1 w (.int .u8 z) base hbase 5
 have e:u8s [UInt8.ofNat b]=[.int .u8 z]:=by
  simp only [u8s,List.map_cons,List.map_nil,UInt8.toNat_ofNat',hz]
 rw [e];exact this
theorem appd_lit {B:Nat} {w w':World} {o:Obj} {v':Value} (hB:B≤w.heap.size) (h:Appd (w.alloc o) w' (.slice (some ⟨w.heap.size,0,none⟩) 1 1) v'):Below B w w' :=
 (((Below.refl _ w).alloc (Nat.le_refl _) _).grown h.1 (by simp) (fun k hk=>by cases hk;exact Nat.le_refl _)).mono hB
set_option maxRecDepth 20000 in
set_option maxHeartbeats 1000000 in
theorem high_any (x least:Nat) (w:World) (hx:x<18446744073709551616) (hl:least≤8) :
 Calls Tryz.prog 115 #[.int .u64 (x:Int),.int .i64 (least:Int)] w fun e w'=>∃ v,e=.returned v∧w'.ownsRow w.heap.size 5 1 v (max (wd x) least) (u8s (be (max (wd x) least) x))∧Below w.heap.size w w':=by
 have hw:=wd_le x
 go_enter Tryz.func115,Tryz.ntmps115
 go_wp2
 go_loopw [0,5] (fun y v wr=>∃ k z:Nat,k≤max (wd x) least∧y=.int .u64 (z:Int)∧z<18446744073709551616∧Hid (z=x/256^k)∧wr.ownsRow w.heap.size 5 1 v k (u8s (be k x))∧Below w.heap.size w wr) (fun _ v _=>max (wd x) least-lenOf v)
 case atStart=>exact ⟨0,x,by omega,rfl,hx,by show x=_;simp,by simpa [be,u8s] using World.ownsRow_nil w w.heap.size _ 1,Below.refl _ _⟩
 case round =>
  obtain ⟨k,z,hk,rfl,hz,Z,ho,hb⟩:=hrel
  have hbz:=hb.size
  obtain ⟨A,c,rfl,hc,_,_⟩:=own_form ho
  have hd:=wd_div x k hx
  have hR:=Rd.own ho
  by_cases hmore:0<z∨k<least
  ·have hk2:k+1≤max (wd x) least:=by
    rcases hmore with h|h
    ·have:¬ wd x≤k:=fun hh=>by have:=hd.2 hh;have:=Z.out;omega
     omega
    ·omega
   have hlit:=own_lit1n wr ((z:Int)%256) (x/256^k) w.heap.size hbz (by have:=Z.out;omega)
   have hRa:=hR.alloc (Nat.le_refl _) (.cells #[.int .u8 ((z:Int)%256)] 5)
   have HLIT:=Lib.hid hlit;have HRA:=Lib.hid hRa;have HD:=Lib.hid hd;clear hlit hRa hd
   by_cases hz0:0<z
   all_goals
    go_wp2_with (at_builtin;refine wpList_appS _ rfl _ _ 27 rfl w.heap.size 5 _ 1 1 info_u8 rfl (by decide) Tryz.underlying27 _ _ _ HLIT.out rfl _ _ _ _ _ HRA.out rfl (u8s_one _) ?_ ?_ ?_ ?_;omega;omega;(simp only [World.size_alloc];omega);intro v2 w2 ho2 hb2)
    obtain ⟨A2,c2,rfl,_⟩:=own_form ho2
    go_roundw
    case rel =>
     refine ⟨k+1,z/256,hk2,by go_num,by omega,by show _=_;rw [← div_step,← Z.out],?_,hb.trans (appd_lit hbz hb2)⟩
     rw [show k+1=1+k by omega]
     have e:u8s [UInt8.ofNat (x/256^k)]++u8s (be k x)=u8s (be (1+k) x):=by rw [← u8s_append,show 1+k=k+1 by omega];rfl
     rw [← e];exact ho2
    case measure=>simp [lenOf];omega
  ·have hz0:z=0:=by omega
   have hk2:max (wd x) least=k:=by
    have:=hd.1 (by rw [← Z.out];exact hz0)
    omega
   have hk3:¬ k<least:=by omega
   have HK:=Lib.hid hk2;have HD:=Lib.hid hd;clear hk2 hd hmore hk
   subst hz0
   rw [show ((0:Nat):Int)=0 from rfl]
   go_wp2
   go_ret
   exact ⟨_,rfl,by rw [HK.out];exact ho,hb⟩
theorem refU_any (x:Nat) (w:World) (hx:x<18446744073709551616) :
 Calls Tryz.prog 51 #[.int .u64 (x:Int)] w fun e w'=>∃ v',e=.returned v'∧w'.ownsRow w.heap.size 5 1 v' (wd x+1) (u8s (encU x))∧Below w.heap.size w w':=by
 have hw:=wd_le x
 have hh:Calls Tryz.prog 115 #[.int .u64 (x:Int),.int .i64 0] w fun e w'=>∃ v,e=.returned v∧w'.ownsRow w.heap.size 5 1 v (wd x) (u8s (be (wd x) x))∧Below w.heap.size w w':=by
  have:=high_any x 0 w hx (by omega)
  rwa [Nat.max_eq_left (Nat.zero_le _)] at this
 have HH:=Lib.hid hh;clear hh
 go_enter Tryz.func51,Tryz.ntmps51
 go_wp2_with fail
 (with_reducible refine HH.out.mono ?_);rintro e w1 ⟨v1,rfl,ho1,hb1⟩
 obtain ⟨A,c,rfl,hc,_,_⟩:=own_form ho1
 have hbz:=hb1.size
 have hR:=Rd.own ho1
 have hlit:=own_lit1n w1 (wd x:Int) (wd x) w.heap.size hbz (by omega)
 have hRa:=hR.alloc (Nat.le_refl _) (.cells #[.int .u8 (wd x:Int)] 5)
 have HLIT:=Lib.hid hlit;have HRA:=Lib.hid hRa;clear hlit hRa
 go_wp2_with (at_builtin;refine wpList_appS _ rfl _ _ 27 rfl w.heap.size 5 _ 1 1 info_u8 rfl (by decide) Tryz.underlying27 _ _ _ HLIT.out rfl _ _ _ _ _ HRA.out rfl (u8s_one _) ?_ ?_ ?_ ?_;omega;omega;(simp only [World.size_alloc];omega);intro v2 w2 ho2 hb2)
 go_ret
 exact ⟨_,rfl,by rw [Nat.add_comm];rw [← u8s_append] at ho2;exact ho2,hb1.trans (appd_lit hbz hb2)⟩
theorem own_head {w:World} {base n c:Nat} {A:Option Addr} {b:UInt8} {l:List UInt8} (h:w.ownsRow base 5 1 (.slice A n c) n (u8s (b :: l))) :
 ∃ g,A=some ⟨g,0,none⟩∧base≤g∧g<w.heap.size∧w.cell? ⟨g,0,none⟩=some (.int .u8 (b.toNat:Int))∧w.frozen? ⟨g,0,none⟩=false ∧
  ∀ d:UInt8,(w.setCell ⟨g,0,none⟩ (.int .u8 (d.toNat:Int))).ownsRow base 5 1 (.slice A n c) n (u8s (d :: l)):=by
 have hn:n=l.length+1:=by have:=h.1;rw [u8s_length] at this;simp at this;omega
 obtain ⟨g,cap,hv,hg,hgl⟩:=h.form (by omega)
 injection hv with hA _ hcap
 subst hA hcap
 refine ⟨g,rfl,hg,hgl,?_,h.frozenAt 0,fun d=>?_⟩
 ·rw [h.cellAt 0 (by omega)];rfl
 ·have:=(h.stored 0 (.int .u8 (d.toNat:Int))).1
  exact this
theorem own_at {w:World} {base n c:Nat} {A:Option Addr} {l:List UInt8} (h:w.ownsRow base 5 1 (.slice A n c) n (u8s l)) (j:Nat) (hj:j<l.length) :
 ∃ g,A=some ⟨g,0,none⟩∧base≤g∧g<w.heap.size∧w.cell? ⟨g,j,none⟩=some (.int .u8 ((l[j]'hj).toNat:Int))∧w.frozen? ⟨g,j,none⟩=false ∧
  ∀ d:UInt8,(w.setCell ⟨g,j,none⟩ (.int .u8 (d.toNat:Int))).ownsRow base 5 1 (.slice A n c) n (u8s (l.set j d)):=by
 have hn:n=l.length:=by have:=h.1;rw [u8s_length] at this;omega
 obtain ⟨g,cap,hv,hg,hgl⟩:=h.form (by omega)
 injection hv with hA _ hcap
 subst hA hcap
 refine ⟨g,rfl,hg,hgl,?_,h.frozenAt j,fun d=>?_⟩
 ·rw [h.cellAt j (by omega),u8s_get l j hj]
 ·have:=(h.stored j (.int .u8 (d.toNat:Int))).1
  have e:(u8s l).set j (.int .u8 (d.toNat:Int))=u8s (l.set j d):=by unfold u8s;rw [List.map_set]
  rw [e] at this
  exact this
set_option maxHeartbeats 1000000 in
theorem refI_pos (x:Nat) (w:World) (hx:x<9223372036854775808) :
 Calls Tryz.prog 52 #[.int .i64 (x:Int)] w fun e w'=>∃ v',e=.returned v'∧w'.ownsRow w.heap.size 5 1 v' (encI x).length (u8s (encI x))∧Below w.heap.size w w':=by
 have hw:=wd_le x
 have hu:=refU_any x w (by omega)
 have he:encI (x:Int)=UInt8.ofNat (9+wd x) :: be (wd x) x:=by unfold encI;rw [if_pos (by omega)];simp
 have hl:(encI (x:Int)).length=wd x+1:=by rw [he];simp [be_length]
 have HU:=Lib.hid hu;have HE:=Lib.hid he;have HL:=Lib.hid hl;clear hu he hl
 go_enter Tryz.func52,Tryz.ntmps52
 go_wp2_with fail
 (with_reducible refine HU.out.mono ?_);rintro e w1 ⟨v1,rfl,ho1,hb1⟩
 obtain ⟨A,c,rfl,hc,_,_⟩:=own_form ho1
 obtain ⟨g,rfl,hg,hgl,hcell,hfr,hset⟩:=own_head (b:=UInt8.ofNat (wd x)) (l:=be (wd x) x) ho1
 have e1:(UInt8.ofNat (wd x)).toNat=wd x:=by rw [UInt8.toNat_ofNat'];omega
 rw [e1] at hcell
 have hs2:=hset (UInt8.ofNat (9+wd x))
 have e2:(UInt8.ofNat (9+wd x)).toNat=wd x+9:=by rw [UInt8.toNat_ofNat'];omega
 rw [e2] at hs2
 have HS:=Lib.hid hs2;have HO:=Lib.hid ho1;have E1:=Lib.hid e1;have E2:=Lib.hid e2;have HSET:=Lib.hid hset;clear hs2 ho1 e1 e2 hset
 go_wp2
 go_ret
 exact ⟨_,rfl,by rw [HL.out,HE.out];exact HS.out,hb1.setCell hg _⟩
def fl (l:List UInt8) (j:Nat):List UInt8:=(l.take j).map (255 - ·)++l.drop j
theorem fl_length (l:List UInt8) (j:Nat) (h:j≤l.length):(fl l j).length=l.length:=by simp [fl];omega
theorem fl_zero (l:List UInt8):fl l 0=l:=by simp [fl]
theorem fl_end (l:List UInt8):fl l l.length=l.map (255 - ·):=by simp [fl]
theorem fl_get? (l:List UInt8) (j:Nat) (h:j<l.length):(fl l j)[j]?=some l[j]:=by
 unfold fl
 have hj:((l.take j).map (255 - ·)).length=j:=by simp;omega
 rw [List.getElem?_append_right (by omega),hj,Nat.sub_self,List.drop_eq_getElem_cons h]
 rfl
theorem fl_get (l:List UInt8) (j:Nat) (h:j<l.length) (h':j<(fl l j).length):(fl l j)[j]=l[j]:=by
 have:=fl_get? l j h
 rw [List.getElem?_eq_getElem h'] at this
 injection this
theorem fl_set (l:List UInt8) (j:Nat) (h:j<l.length):(fl l j).set j (255-l[j])=fl l (j+1):=by
 unfold fl
 have hj:((l.take j).map (255 - ·)).length=j:=by simp;omega
 rw [List.set_append_right _ _ (by omega),hj,Nat.sub_self,List.drop_eq_getElem_cons h,List.set_cons_zero,List.take_succ_eq_append_getElem h,List.map_append,List.append_assoc]
 rfl
theorem sub255 (b:UInt8):(255:Int)-(b.toNat:Int)=(((255-b:UInt8)).toNat:Int):=by
 have hb:=b.toNat_lt
 rw [UInt8.toNat_sub_of_le _ _ (by rw [UInt8.le_iff_toNat_le];simp;omega)]
 simp;omega
set_option maxHeartbeats 1000000 in
theorem refI_neg (y:Nat) (w:World) (hy:y<9223372036854775808) :
 Calls Tryz.prog 52 #[.int .i64 (-1-(y:Int))] w fun e w'=>∃ v',e=.returned v'∧w'.ownsRow w.heap.size 5 1 v' (encI (-1-(y:Int))).length (u8s (encI (-1-(y:Int))))∧Below w.heap.size w w':=by
 have hw:=wd_le y
 have hh:Calls Tryz.prog 115 #[.int .u64 (y:Int),.int .i64 0] w fun e w'=>∃ v,e=.returned v∧w'.ownsRow w.heap.size 5 1 v (wd y) (u8s (be (wd y) y))∧Below w.heap.size w w':=by
  have:=high_any y 0 w (by omega) (by omega)
  rwa [Nat.max_eq_left (Nat.zero_le _)] at this
 have he:encI (-1-(y:Int))=UInt8.ofNat (8-wd y) :: (be (wd y) y).map (255 - ·):=by
  unfold encI
  rw [if_neg (by omega)]
  have e:(-(-1-(y:Int)+1)).toNat=y:=by omega
  rw [e,be_flip _ _ hw (by omega)]
 have hl:(encI (-1-(y:Int))).length=1+wd y:=by rw [he];simp [be_length];omega
 have hyy:(-1:Int)-(-1-(y:Int))=(y:Int):=by omega
 have hneg:-1-(y:Int)<0:=by omega
 have hbl:=be_length (wd y) y
 generalize be (wd y) y=l at *
 generalize hk:wd y=k at *
 have HH:=Lib.hid hh;have HE:=Lib.hid he;have HL:=Lib.hid hl;have HBL:=Lib.hid hbl;have HK:=Lib.hid hk;clear hh he hl hbl hk
 go_enter Tryz.func52,Tryz.ntmps52
 go_wp2_with fail
 (with_reducible refine HH.out.mono ?_);rintro e w1 ⟨v1,rfl,ho1,hb1⟩
 obtain ⟨A,c,rfl,hc,_,_⟩:=own_form ho1
 have hbz:=hb1.size
 have HO1:=Lib.hid ho1;have HC:=Lib.hid hc;clear ho1 hc
 go_wp2
 go_loopw [5] (fun i wr=>∃ j:Nat,j≤k∧i=.int .i64 (j:Int)∧wr.ownsRow w.heap.size 5 1 (.slice A k c) k (u8s (fl l j))∧Below w.heap.size w wr) (fun i _=>k-(intOf i).toNat)
 case atStart=>exact ⟨0,by omega,rfl,by rw [fl_zero];exact HO1.out,hb1⟩
 case round =>
  obtain ⟨j,hj,rfl,ho,hb⟩:=hrel
  by_cases hlt:j<k
  ·have hjl:j<l.length:=by rw [HBL.out];exact hlt
   have hfl:=fl_length l j (by omega)
   obtain ⟨g,rfl,hg,hgl,hcell,hfr,hset⟩:=own_at ho j (by omega)
   rw [fl_get l j hjl] at hcell
   have hs:=sub255 l[j]
   have hs2:=hset (255-l[j])
   rw [fl_set l j hjl] at hs2
   have hb8:=l[j].toNat_lt
   generalize l[j]=b at *
   have HS:=Lib.hid hs;have HS2:=Lib.hid hs2;have HF:=Lib.hid hfl;have HSET:=Lib.hid hset;have HO:=Lib.hid ho;clear hs hs2 hfl hset ho hjl
   go_wp2
   go_roundw
   case rel=>exact ⟨j+1,by omega,by go_num,by rw [HS.out];exact HS2.out,hb.setCell hg _⟩
   case measure=>simp [intOf];omega
  ·obtain rfl:k=j:=by omega
   have efl:fl l k=l.map (255 - ·):=by rw [← HBL.out];exact fl_end l
   rw [efl] at ho
   have hbz2:=hb.size
   have hR:=Rd.own ho
   have hlit:=own_lit1n wr (8-(k:Int)) (8-k) w.heap.size hbz2 (by omega)
   have hRa:=hR.alloc (Nat.le_refl _) (.cells #[.int .u8 (8-(k:Int))] 5)
   have HLIT:=Lib.hid hlit;have HRA:=Lib.hid hRa;have EFL:=Lib.hid efl;clear hlit hRa hR efl
   go_wp2_with (at_builtin;refine wpList_appS _ rfl _ _ 27 rfl w.heap.size 5 _ 1 1 info_u8 rfl (by decide) Tryz.underlying27 _ _ _ HLIT.out rfl _ _ _ _ _ HRA.out rfl (u8s_one _) ?_ ?_ ?_ ?_;omega;omega;(simp only [World.size_alloc];omega);intro v2 w2 ho2 hb2)
   go_ret
   exact ⟨_,rfl,by rw [HL.out,HE.out];rw [← u8s_append] at ho2;exact ho2,hb.trans (appd_lit hbz2 hb2)⟩
theorem refI_any (z:Int) (w:World) (h1:-9223372036854775808≤z) (h2:z≤9223372036854775807) :
 Calls Tryz.prog 52 #[.int .i64 z] w fun e w'=>∃ v',e=.returned v'∧w'.ownsRow w.heap.size 5 1 v' (encI z).length (u8s (encI z))∧Below w.heap.size w w':=by
 by_cases hz:0≤z
 ·obtain ⟨x,rfl⟩:=Int.eq_ofNat_of_zero_le hz
  exact refI_pos x w (by omega)
 ·obtain ⟨y,hy⟩:=Int.eq_ofNat_of_zero_le (show 0≤-1-z by omega)
  obtain rfl:z=-1-(y:Int):=by omega
  exact refI_neg y w (by omega)
theorem getI_cons (x:UInt8) (t:List UInt8) (n:Nat) (b:Bool) (p:List UInt8) (hs:sgn x=(n,b)) (hp:prt x t=p) (hn:n≤8) :
 getI (x :: t)=if n=8∧127<(p.headD 0).toNat then (0,0,6) else if (numB p n).2=0 then (if b then -((numB p n).1:Int)-1 else (numB p n).1,n+1,0) else (0,0,(numB p n).2):=by
 unfold getI
 simp only [hs,hp]
 rw [if_neg (by omega)]
theorem i64_small (x:Nat) (h:x<9223372036854775808):IntKind.i64.wrap (x:Int)=(x:Int):=IntWalk.i64_in _ (by omega)
theorem bits_not8 (y:Nat) (h:y<256):bits .xor .u8 IntKind.u8.max (y:Int)=((255-y:Nat):Int):=by
 have e:IntKind.u8.max=((255:Nat):Int):=by decide
 rw [e,u8_xor_nat _ _ (by omega) h]
 congr 1
 have e:(BitVec.allOnes 8 ^^^ BitVec.ofNat 8 y).toNat=255-y:=by
  rw [BitVec.allOnes_xor,BitVec.toNat_not,BitVec.toNat_ofNat,Nat.mod_eq_of_lt (by omega)]
 rw [BitVec.toNat_xor,BitVec.toNat_ofNat,Nat.mod_eq_of_lt (by omega)] at e
 simpa using e
theorem number_case (A:Option Addr) (m c n:Nat) (t:List UInt8) (w:World) (h:Rd w w.heap.size 1 A m (u8s t)) (hn:n≤8) (hm:m≤8) (N:Nat×Nat) (hN:numB t n=N) :
 Calls Tryz.prog 159 #[.slice A m c,.int .i64 (n:Int)] w fun e w'=>e=.returned (.tuple #[.int .u64 (N.1:Nat),.int .i64 (N.2:Nat)])∧∃ k,w'=w.drewN k:=by
 have:=number_any A m c n w.heap.size t w h hn (by unfold maxLen;omega)
 rw [hN] at this
 exact this
set_option maxHeartbeats 2000000 in
theorem getI_pos (a:Addr) (c n q:Nat) (x:UInt8) (t:List UInt8) (w:World) (h:Rd w w.heap.size 1 (some a) (t.length+1) (u8s (x :: t))) (hmc:t.length+1≤c) (hc:c≤maxLen) (hx:x.toNat=n+9) (hn:n≤8) (hc1:1<c) (hq:q=min t.length n) :
 Calls Tryz.prog 144 #[.slice (some a) (t.length+1) c] w fun e w'=>e=.returned (.tuple #[.int .i64 (getI (x :: t)).1,.int .i64 ((getI (x :: t)).2.1:Nat),.int .i64 ((getI (x :: t)).2.2:Nat)])∧Below w.heap.size w w':=by
 have hcc:=hc
 unfold maxLen at hcc
 have hs:sgn x=(n,false):=by unfold sgn;rw [if_neg (by omega),hx,Nat.add_sub_cancel]
 have hp:prt x t=t.take n:=by unfold prt;rw [hs];rfl
 have hfin:=getI_cons x t n false _ hs hp hn
 have h63:=numB_lt63 (t.take n) n hn
 obtain ⟨a',ea,hb,hcell⟩:=h.byte (k:=0) (by simp)
 injection ea with ea
 subst ea
 rw [add_zero'] at hcell
 simp only [List.getElem_cons_zero,hx] at hcell
 have h1:=(h.rest).take (k:=q) (by omega)
 have hpq:t.take q=t.take n:=by rw [hq];rcases Nat.le_total t.length n with h|h
                                ·rw [Nat.min_eq_left h,List.take_of_length_le h,List.take_of_length_le (Nat.le_refl _)]
                                ·rw [Nat.min_eq_right h]
 rw [hpq] at h1
 have hq8:q≤8:=by omega
 have hload:0<q→w.cell? ⟨a.block,a.off+1,none⟩=some (.int .u8 (((t.take n).headD 0).toNat:Int)):=by
  intro h0
  obtain ⟨a',ea,_,hc'⟩:=h1.byte (k:=0) (by rw [h1.u8];exact h0)
  injection ea with ea
  subst ea
  rw [add_zero'] at hc'
  rw [hc',headD_get]
 generalize t.take n=p at *
 generalize hN:numB p n=N at *
 have hnum:=fun c'=>number_case (some ⟨a.block,a.off+1,none⟩) q c' n p w h1 hn hq8 N hN
 have hpl:=h1.u8
 have hp0:q=0→(p.headD 0).toNat=0:=by intro h0;have:p=[]:=List.eq_nil_of_length_eq_zero (by omega);rw [this];rfl
 have H1:=Lib.hid h1;have HX:=Lib.hid hx;have HNUM:=Lib.hid hnum;have HN:=Lib.hid hN;have HPL:=Lib.hid hpl;have HPQ:=Lib.hid hpq;have HS:=Lib.hid hs;have HP:=Lib.hid hp;have HL:=Lib.hid hload;have HF:=Lib.hid hfin;have H63:=Lib.hid h63;have HP0:=Lib.hid hp0
 clear h1 hx hnum hN hpl hpq hs hp hload hfin h63 hp0
 have hp8:=(p.headD 0).toNat_lt
 generalize hy:(p.headD 0).toNat=y at *
 have HY:=Lib.hid hy;clear hy
 by_cases hl:t.length≤n
 ·obtain rfl:q=t.length:=by omega
  clear hq
  by_cases h8:n=8
  ·have t8:((n:Int)==8)=true:=by rw [h8];rfl
   have H8:=Lib.hid h8;clear h8
   by_cases hq0:0<t.length
   ·have hload:=HL.out hq0
    by_cases hy:127<y
    ·have hf:=HF.out
     rw [if_pos ⟨H8.out,hy⟩] at hf
     have HFF:=Lib.hid hf;clear hf
     go_enter Tryz.func144,Tryz.ntmps144
     go_wp2
     go_ret3
     exact ⟨by rw [HFF.out];rfl,Below.refl _ _⟩
    ·by_cases he:N.2=0
     ·have t1:((N.2:Int) != 0)=false:=by rw [he];rfl
      have hf:=HF.out
      rw [if_neg (by omega),if_pos he] at hf
      have h63:=H63.out (by intro _;omega)
      have hw:=i64_small N.1 h63
      have HFF:=Lib.hid hf;have HE:=Lib.hid he;clear hf he
      go_enter Tryz.func144,Tryz.ntmps144
      go_wp2_with (go_at_call 159;(with_reducible refine (HNUM.out _).mono ?_);rintro e w' ⟨rfl,k1,rfl⟩)
      go_ret3
      exact ⟨by rw [HFF.out];first|rfl|go_num,belD (belR w) _⟩
     ·have t1:((N.2:Int) != 0)=true:=by rw [bne_iff_ne];omega
      have hf:=HF.out
      rw [if_neg (by omega),if_neg he] at hf
      have HFF:=Lib.hid hf;have HE:=Lib.hid he;clear hf he
      go_enter Tryz.func144,Tryz.ntmps144
      go_wp2_with (go_at_call 159;(with_reducible refine (HNUM.out _).mono ?_);rintro e w' ⟨rfl,k1,rfl⟩)
      go_ret3
      exact ⟨by rw [HFF.out];first|rfl|go_num,belD (belR w) _⟩
   ·have hy0:y=0:=HP0.out (by omega)
    have HY0:=Lib.hid hy0;clear hy0
    by_cases he:N.2=0
    ·have t1:((N.2:Int) != 0)=false:=by rw [he];rfl
     have hf:=HF.out
     rw [if_neg (by have:=HY0.out;omega),if_pos he] at hf
     have h63:=H63.out (by intro _;have:=HY0.out;omega)
     have hw:=i64_small N.1 h63
     have HFF:=Lib.hid hf;have HE:=Lib.hid he;clear hf he
     go_enter Tryz.func144,Tryz.ntmps144
     go_wp2_with (go_at_call 159;(with_reducible refine (HNUM.out _).mono ?_);rintro e w' ⟨rfl,k1,rfl⟩)
     go_ret3
     exact ⟨by rw [HFF.out];first|rfl|go_num,belD (belR w) _⟩
    ·have t1:((N.2:Int) != 0)=true:=by rw [bne_iff_ne];omega
     have hf:=HF.out
     rw [if_neg (by have:=HY0.out;omega),if_neg he] at hf
     have HFF:=Lib.hid hf;have HE:=Lib.hid he;clear hf he
     go_enter Tryz.func144,Tryz.ntmps144
     go_wp2_with (go_at_call 159;(with_reducible refine (HNUM.out _).mono ?_);rintro e w' ⟨rfl,k1,rfl⟩)
     go_ret3
     exact ⟨by rw [HFF.out];first|rfl|go_num,belD (belR w) _⟩
  ·have t8:((n:Int)==8)=false:=by rw [beq_eq_false_iff_ne];omega
   have H8:=Lib.hid h8;clear h8
   by_cases he:N.2=0
   ·have t1:((N.2:Int) != 0)=false:=by rw [he];rfl
    have hf:=HF.out
    rw [if_neg (fun h=>H8.out h.1),if_pos he] at hf
    have h63:=H63.out (fun h=>absurd h H8.out)
    have hw:=i64_small N.1 h63
    have HFF:=Lib.hid hf;have HE:=Lib.hid he;clear hf he
    go_enter Tryz.func144,Tryz.ntmps144
    go_wp2_with (go_at_call 159;(with_reducible refine (HNUM.out _).mono ?_);rintro e w' ⟨rfl,k1,rfl⟩)
    go_ret3
    exact ⟨by rw [HFF.out];first|rfl|go_num,belD (belR w) _⟩
   ·have t1:((N.2:Int) != 0)=true:=by rw [bne_iff_ne];omega
    have hf:=HF.out
    rw [if_neg (fun h=>H8.out h.1),if_neg he] at hf
    have HFF:=Lib.hid hf;have HE:=Lib.hid he;clear hf he
    go_enter Tryz.func144,Tryz.ntmps144
    go_wp2_with (go_at_call 159;(with_reducible refine (HNUM.out _).mono ?_);rintro e w' ⟨rfl,k1,rfl⟩)
    go_ret3
    exact ⟨by rw [HFF.out];first|rfl|go_num,belD (belR w) _⟩
 ·obtain rfl:n=q:=by omega
  have hl':n<t.length:=by omega
  clear hl
  clear hq
  by_cases h8:n=8
  ·have t8:((n:Int)==8)=true:=by rw [h8];rfl
   have H8:=Lib.hid h8;clear h8
   by_cases hq0:0<n
   ·have hload:=HL.out hq0
    by_cases hy:127<y
    ·have hf:=HF.out
     rw [if_pos ⟨H8.out,hy⟩] at hf
     have HFF:=Lib.hid hf;clear hf
     go_enter Tryz.func144,Tryz.ntmps144
     go_wp2
     go_ret3
     exact ⟨by rw [HFF.out];rfl,Below.refl _ _⟩
    ·by_cases he:N.2=0
     ·have t1:((N.2:Int) != 0)=false:=by rw [he];rfl
      have hf:=HF.out
      rw [if_neg (by omega),if_pos he] at hf
      have h63:=H63.out (by intro _;omega)
      have hw:=i64_small N.1 h63
      have HFF:=Lib.hid hf;have HE:=Lib.hid he;clear hf he
      go_enter Tryz.func144,Tryz.ntmps144
      go_wp2_with (go_at_call 159;(with_reducible refine (HNUM.out _).mono ?_);rintro e w' ⟨rfl,k1,rfl⟩)
      go_ret3
      exact ⟨by rw [HFF.out];first|rfl|go_num,belD (belR w) _⟩
     ·have t1:((N.2:Int) != 0)=true:=by rw [bne_iff_ne];omega
      have hf:=HF.out
      rw [if_neg (by omega),if_neg he] at hf
      have HFF:=Lib.hid hf;have HE:=Lib.hid he;clear hf he
      go_enter Tryz.func144,Tryz.ntmps144
      go_wp2_with (go_at_call 159;(with_reducible refine (HNUM.out _).mono ?_);rintro e w' ⟨rfl,k1,rfl⟩)
      go_ret3
      exact ⟨by rw [HFF.out];first|rfl|go_num,belD (belR w) _⟩
   ·exfalso;have:=H8.out;omega
  ·have t8:((n:Int)==8)=false:=by rw [beq_eq_false_iff_ne];omega
   have H8:=Lib.hid h8;clear h8
   by_cases he:N.2=0
   ·have t1:((N.2:Int) != 0)=false:=by rw [he];rfl
    have hf:=HF.out
    rw [if_neg (fun h=>H8.out h.1),if_pos he] at hf
    have h63:=H63.out (fun h=>absurd h H8.out)
    have hw:=i64_small N.1 h63
    have HFF:=Lib.hid hf;have HE:=Lib.hid he;clear hf he
    go_enter Tryz.func144,Tryz.ntmps144
    go_wp2_with (go_at_call 159;(with_reducible refine (HNUM.out _).mono ?_);rintro e w' ⟨rfl,k1,rfl⟩)
    go_ret3
    exact ⟨by rw [HFF.out];first|rfl|go_num,belD (belR w) _⟩
   ·have t1:((N.2:Int) != 0)=true:=by rw [bne_iff_ne];omega
    have hf:=HF.out
    rw [if_neg (fun h=>H8.out h.1),if_neg he] at hf
    have HFF:=Lib.hid hf;have HE:=Lib.hid he;clear hf he
    go_enter Tryz.func144,Tryz.ntmps144
    go_wp2_with (go_at_call 159;(with_reducible refine (HNUM.out _).mono ?_);rintro e w' ⟨rfl,k1,rfl⟩)
    go_ret3
    exact ⟨by rw [HFF.out];first|rfl|go_num,belD (belR w) _⟩
theorem flip_cell (b:UInt8) (u:Value) (h:u=.int .u8 (bits .xor .u8 IntKind.u8.max (b.toNat:Int))):u=.int .u8 (((255-b:UInt8)).toNat:Int):=by
 have hb:=b.toNat_lt
 rw [h,bits_not8 _ hb,UInt8.toNat_sub_of_le _ _ (by rw [UInt8.le_iff_toNat_le];simp;omega)]
 rfl
theorem map_take_snoc (l:List UInt8) (j:Nat) (h:j<l.length):(l.map (255 - ·)).take (j+1)=(l.map (255 - ·)).take j ++ [255-l[j]]:=by
 rw [List.take_succ_eq_append_getElem (by simpa using h),List.getElem_map]
set_option maxRecDepth 20000 in
set_option maxHeartbeats 4000000 in
theorem getI_neg (a:Addr) (c n q:Nat) (x:UInt8) (t:List UInt8) (w:World) (h:Rd w w.heap.size 1 (some a) (t.length+1) (u8s (x :: t))) (hmc:t.length+1≤c) (hc:c≤maxLen) (hx:x.toNat+n=8) (hc1:1<c) (hq:q=min t.length n) :
 Calls Tryz.prog 144 #[.slice (some a) (t.length+1) c] w fun e w'=>e=.returned (.tuple #[.int .i64 (getI (x :: t)).1,.int .i64 ((getI (x :: t)).2.1:Nat),.int .i64 ((getI (x :: t)).2.2:Nat)])∧Below w.heap.size w w':=by
 have hcc:=hc
 unfold maxLen at hcc
 have hn:n≤8:=by omega
 have hs:sgn x=(n,true):=by unfold sgn;rw [if_pos (by omega)];congr 1;omega
 have hp:prt x t=(t.take n).map (255 - ·):=by unfold prt;rw [hs];rfl
 have hfin:=getI_cons x t n true _ hs hp hn
 have h63:=numB_lt63 ((t.take n).map (255 - ·)) n hn
 obtain ⟨a',ea,hb,hcell⟩:=h.byte (k:=0) (by simp)
 injection ea with ea
 subst ea
 rw [add_zero'] at hcell
 have hx':(x.toNat:Int)=8-(n:Int):=by omega
 simp only [List.getElem_cons_zero,hx'] at hcell
 have h1:=(h.rest).take (k:=q) (by omega)
 have hpq:t.take q=t.take n:=by rw [hq];rcases Nat.le_total t.length n with h|h
                                ·rw [Nat.min_eq_left h,List.take_of_length_le h,List.take_of_length_le (Nat.le_refl _)]
                                ·rw [Nat.min_eq_right h]
 rw [hpq] at h1
 have hq8:q≤8:=by omega
 generalize t.take n=p0 at *
 have hpl:=h1.u8
 have hpl':(p0.map (255 - ·)).length=q:=by simpa using hpl
 have H1:=Lib.hid h1;have HX:=Lib.hid hx;have HX':=Lib.hid hx';have HPL:=Lib.hid hpl;have HPQ:=Lib.hid hpq;have HS:=Lib.hid hs;have HP:=Lib.hid hp;have HF:=Lib.hid hfin;have H63:=Lib.hid h63;have HPL':=Lib.hid hpl'
 clear h1 hx hx' hpq hs hp hfin h63 hpl hpl'
 have hcase:(q=t.length∧t.length≤n)∨(n=q∧n<t.length):=by omega
 have e88:(8:Int)-(8-(n:Int))=(n:Int):=by omega
 have e88n:8-(8-n)=n:=by omega
 have hbelow:8-(n:Int)-9<0:=by omega
 clear hq
 rcases hcase with ⟨rfl,hl⟩|⟨rfl,hl⟩
 ·go_enter Tryz.func144,Tryz.ntmps144
  go_wp2
  go_loopw [8,40] (fun v k wr=>∃ j:Nat,j≤t.length∧k=.int .i64 (j:Int)∧wr.ownsRow w.heap.size 5 1 v j (u8s ((p0.map (255 - ·)).take j))∧Below w.heap.size w wr) (fun _ k _=>t.length-(intOf k).toNat)
  case atStart=>exact ⟨0,by omega,rfl,by simpa [u8s] using World.ownsRow_nil w w.heap.size _ 1,Below.refl _ _⟩
  case round =>
   obtain ⟨j,hj,rfl,ho,hbel⟩:=hrel
   have hbz:=hbel.size
   by_cases hlt:j<t.length
   ·have hR:=H1.out.below hbel
    have hjl:j<p0.length:=by rw [HPL.out];exact hlt
    obtain ⟨a1,ea,_,hcj⟩:=hR.byte hjl
    injection ea with ea
    subst ea
    have hadr:(⟨a.block,a.off+1,none⟩:Addr).add j=⟨a.block,a.off+1+j,none⟩:=by unfold Addr.add;split <;> simp_all
    rw [hadr] at hcj
    have hsn:=map_take_snoc p0 j hjl
    have hfl:=fun u=>flip_cell p0[j] u
    have hcj8:=p0[j].toNat_lt
    generalize p0[j]=b at *
    have HSN:=Lib.hid hsn;have HFL:=Lib.hid hfl;have HADR:=Lib.hid hadr;clear hsn hfl hadr hR hjl
    go_wp2_with (at_builtin;refine wpList_app1 _ _ rfl rfl _ _ 27 rfl w.heap.size 5 _ 1 info_u8 rfl Tryz.underlying27 _ _ _ ho rfl rfl ?_ ?_ ?_ ?_;omega;omega;exact hbz;intro v2 w2 ho2 hb2)
    go_roundw
    case rel=>exact ⟨j+1,by omega,by go_num,by rw [HSN.out,← u8s_snoc _ _ _ (HFL.out _ rfl)];exact ho2,hbel.trans (hb2.below hbz ho)⟩
    case measure=>simp [intOf];omega
   ·obtain rfl:j=t.length:=by omega
    rw [List.take_of_length_le (by rw [HPL'.out];exact Nat.le_refl _)] at ho
    obtain ⟨A2,c2,rfl,hc2,_,_⟩:=own_form ho
    have hR2:=Rd.own ho
    generalize p0.map (255 - ·)=p at *
    have hload:0<t.length→∃ a2,A2=some a2∧wr.cell? a2=some (.int .u8 ((p.headD 0).toNat:Int)):=by
     intro h0
     obtain ⟨a',ea,_,hc'⟩:=hR2.byte (k:=0) (by rw [hR2.u8];exact h0)
     rw [add_zero'] at hc'
     exact ⟨a',ea,by rw [hc',headD_get]⟩
    have hp0:t.length=0→(p.headD 0).toNat=0:=by intro h0;have:p=[]:=List.eq_nil_of_length_eq_zero (by rw [hR2.u8];exact h0);rw [this];rfl
    generalize hN:numB p n=N at *
    have hnum:=fun c'=>number_case A2 t.length c' n p wr hR2 hn hq8 N hN
    have hp8:=(p.headD 0).toNat_lt
    generalize hy:(p.headD 0).toNat=y at *
    have HO:=Lib.hid ho;have HR2:=Lib.hid hR2;have HL:=Lib.hid hload;have HP0:=Lib.hid hp0;have HN:=Lib.hid hN;have HNUM:=Lib.hid hnum;have HY:=Lib.hid hy;have HC2:=Lib.hid hc2
    clear ho hR2 hload hp0 hN hnum hy hc2
    by_cases h8:n=8
    ·have t8:((n:Int)==8)=true:=by rw [h8];rfl
     have H8:=Lib.hid h8;clear h8
     by_cases hq0:0<t.length
     ·obtain ⟨a2,rfl,hload⟩:=HL.out hq0
      by_cases hy:127<y
      ·have hf:=HF.out
       rw [if_pos ⟨H8.out,hy⟩] at hf
       have HFF:=Lib.hid hf;clear hf
       go_wp2
       go_ret3
       exact ⟨by rw [HFF.out];rfl,hbel⟩
      ·by_cases he:N.2=0
       ·have t1:((N.2:Int) != 0)=false:=by rw [he];rfl
        have hf:=HF.out
        rw [if_neg (by omega),if_pos he] at hf
        have h63:=H63.out (by intro _;omega)
        have hw:=i64_small N.1 h63
        have HFF:=Lib.hid hf;have HE:=Lib.hid he;clear hf he
        go_wp2_with (go_at_call 159;(with_reducible refine (HNUM.out _).mono ?_);rintro e w' ⟨rfl,k1,rfl⟩)
        go_ret3
        exact ⟨by rw [HFF.out];first|rfl|go_num,belD hbel _⟩
       ·have t1:((N.2:Int) != 0)=true:=by rw [bne_iff_ne];omega
        have hf:=HF.out
        rw [if_neg (by omega),if_neg he] at hf
        have HFF:=Lib.hid hf;have HE:=Lib.hid he;clear hf he
        go_wp2_with (go_at_call 159;(with_reducible refine (HNUM.out _).mono ?_);rintro e w' ⟨rfl,k1,rfl⟩)
        go_ret3
        exact ⟨by rw [HFF.out];first|rfl|go_num,belD hbel _⟩
     ·have hy0:y=0:=HP0.out (by omega)
      have HY0:=Lib.hid hy0;clear hy0
      by_cases he:N.2=0
      ·have t1:((N.2:Int) != 0)=false:=by rw [he];rfl
       have hf:=HF.out
       rw [if_neg (by have:=HY0.out;omega),if_pos he] at hf
       have h63:=H63.out (by intro _;have:=HY0.out;omega)
       have hw:=i64_small N.1 h63
       have HFF:=Lib.hid hf;have HE:=Lib.hid he;clear hf he
       go_wp2_with (go_at_call 159;(with_reducible refine (HNUM.out _).mono ?_);rintro e w' ⟨rfl,k1,rfl⟩)
       go_ret3
       exact ⟨by rw [HFF.out];first|rfl|go_num,belD hbel _⟩
      ·have t1:((N.2:Int) != 0)=true:=by rw [bne_iff_ne];omega
       have hf:=HF.out
       rw [if_neg (by have:=HY0.out;omega),if_neg he] at hf
       have HFF:=Lib.hid hf;have HE:=Lib.hid he;clear hf he
       go_wp2_with (go_at_call 159;(with_reducible refine (HNUM.out _).mono ?_);rintro e w' ⟨rfl,k1,rfl⟩)
       go_ret3
       exact ⟨by rw [HFF.out];first|rfl|go_num,belD hbel _⟩
    ·have t8:((n:Int)==8)=false:=by rw [beq_eq_false_iff_ne];omega
     have H8:=Lib.hid h8;clear h8
     by_cases he:N.2=0
     ·have t1:((N.2:Int) != 0)=false:=by rw [he];rfl
      have hf:=HF.out
      rw [if_neg (fun h=>H8.out h.1),if_pos he] at hf
      have h63:=H63.out (fun h=>absurd h H8.out)
      have hw:=i64_small N.1 h63
      have HFF:=Lib.hid hf;have HE:=Lib.hid he;clear hf he
      go_wp2_with (go_at_call 159;(with_reducible refine (HNUM.out _).mono ?_);rintro e w' ⟨rfl,k1,rfl⟩)
      go_ret3
      exact ⟨by rw [HFF.out];first|rfl|go_num,belD hbel _⟩
     ·have t1:((N.2:Int) != 0)=true:=by rw [bne_iff_ne];omega
      have hf:=HF.out
      rw [if_neg (fun h=>H8.out h.1),if_neg he] at hf
      have HFF:=Lib.hid hf;have HE:=Lib.hid he;clear hf he
      go_wp2_with (go_at_call 159;(with_reducible refine (HNUM.out _).mono ?_);rintro e w' ⟨rfl,k1,rfl⟩)
      go_ret3
      exact ⟨by rw [HFF.out];first|rfl|go_num,belD hbel _⟩
 ·go_enter Tryz.func144,Tryz.ntmps144
  go_wp2
  go_loopw [8,40] (fun v k wr=>∃ j:Nat,j≤n∧k=.int .i64 (j:Int)∧wr.ownsRow w.heap.size 5 1 v j (u8s ((p0.map (255 - ·)).take j))∧Below w.heap.size w wr) (fun _ k _=>n-(intOf k).toNat)
  case atStart=>exact ⟨0,by omega,rfl,by simpa [u8s] using World.ownsRow_nil w w.heap.size _ 1,Below.refl _ _⟩
  case round =>
   obtain ⟨j,hj,rfl,ho,hbel⟩:=hrel
   have hbz:=hbel.size
   by_cases hlt:j<n
   ·have hR:=H1.out.below hbel
    have hjl:j<p0.length:=by rw [HPL.out];exact hlt
    obtain ⟨a1,ea,_,hcj⟩:=hR.byte hjl
    injection ea with ea
    subst ea
    have hadr:(⟨a.block,a.off+1,none⟩:Addr).add j=⟨a.block,a.off+1+j,none⟩:=by unfold Addr.add;split <;> simp_all
    rw [hadr] at hcj
    have hsn:=map_take_snoc p0 j hjl
    have hfl:=fun u=>flip_cell p0[j] u
    have hcj8:=p0[j].toNat_lt
    generalize p0[j]=b at *
    have HSN:=Lib.hid hsn;have HFL:=Lib.hid hfl;have HADR:=Lib.hid hadr;clear hsn hfl hadr hR hjl
    go_wp2_with (at_builtin;refine wpList_app1 _ _ rfl rfl _ _ 27 rfl w.heap.size 5 _ 1 info_u8 rfl Tryz.underlying27 _ _ _ ho rfl rfl ?_ ?_ ?_ ?_;omega;omega;exact hbz;intro v2 w2 ho2 hb2)
    go_roundw
    case rel=>exact ⟨j+1,by omega,by go_num,by rw [HSN.out,← u8s_snoc _ _ _ (HFL.out _ rfl)];exact ho2,hbel.trans (hb2.below hbz ho)⟩
    case measure=>simp [intOf];omega
   ·obtain rfl:n=j:=by omega
    rw [List.take_of_length_le (by rw [HPL'.out];exact Nat.le_refl _)] at ho
    obtain ⟨A2,c2,rfl,hc2,_,_⟩:=own_form ho
    have hR2:=Rd.own ho
    generalize p0.map (255 - ·)=p at *
    have hload:0<n→∃ a2,A2=some a2∧wr.cell? a2=some (.int .u8 ((p.headD 0).toNat:Int)):=by
     intro h0
     obtain ⟨a',ea,_,hc'⟩:=hR2.byte (k:=0) (by rw [hR2.u8];exact h0)
     rw [add_zero'] at hc'
     exact ⟨a',ea,by rw [hc',headD_get]⟩
    have hp0:n=0→(p.headD 0).toNat=0:=by intro h0;have:p=[]:=List.eq_nil_of_length_eq_zero (by rw [hR2.u8];exact h0);rw [this];rfl
    generalize hN:numB p n=N at *
    have hnum:=fun c'=>number_case A2 n c' n p wr hR2 hn hq8 N hN
    have hp8:=(p.headD 0).toNat_lt
    generalize hy:(p.headD 0).toNat=y at *
    have HO:=Lib.hid ho;have HR2:=Lib.hid hR2;have HL:=Lib.hid hload;have HP0:=Lib.hid hp0;have HN:=Lib.hid hN;have HNUM:=Lib.hid hnum;have HY:=Lib.hid hy;have HC2:=Lib.hid hc2
    clear ho hR2 hload hp0 hN hnum hy hc2
    by_cases h8:n=8
    ·have t8:((n:Int)==8)=true:=by rw [h8];rfl
     have H8:=Lib.hid h8;clear h8
     by_cases hq0:0<n
     ·obtain ⟨a2,rfl,hload⟩:=HL.out hq0
      by_cases hy:127<y
      ·have hf:=HF.out
       rw [if_pos ⟨H8.out,hy⟩] at hf
       have HFF:=Lib.hid hf;clear hf
       go_wp2
       go_ret3
       exact ⟨by rw [HFF.out];rfl,hbel⟩
      ·by_cases he:N.2=0
       ·have t1:((N.2:Int) != 0)=false:=by rw [he];rfl
        have hf:=HF.out
        rw [if_neg (by omega),if_pos he] at hf
        have h63:=H63.out (by intro _;omega)
        have hw:=i64_small N.1 h63
        have HFF:=Lib.hid hf;have HE:=Lib.hid he;clear hf he
        go_wp2_with (go_at_call 159;(with_reducible refine (HNUM.out _).mono ?_);rintro e w' ⟨rfl,k1,rfl⟩)
        go_ret3
        exact ⟨by rw [HFF.out];first|rfl|go_num,belD hbel _⟩
       ·have t1:((N.2:Int) != 0)=true:=by rw [bne_iff_ne];omega
        have hf:=HF.out
        rw [if_neg (by omega),if_neg he] at hf
        have HFF:=Lib.hid hf;have HE:=Lib.hid he;clear hf he
        go_wp2_with (go_at_call 159;(with_reducible refine (HNUM.out _).mono ?_);rintro e w' ⟨rfl,k1,rfl⟩)
        go_ret3
        exact ⟨by rw [HFF.out];first|rfl|go_num,belD hbel _⟩
     ·exfalso;have:=H8.out;omega
    ·have t8:((n:Int)==8)=false:=by rw [beq_eq_false_iff_ne];omega
     have H8:=Lib.hid h8;clear h8
     by_cases he:N.2=0
     ·have t1:((N.2:Int) != 0)=false:=by rw [he];rfl
      have hf:=HF.out
      rw [if_neg (fun h=>H8.out h.1),if_pos he] at hf
      have h63:=H63.out (fun h=>absurd h H8.out)
      have hw:=i64_small N.1 h63
      have HFF:=Lib.hid hf;have HE:=Lib.hid he;clear hf he
      go_wp2_with (go_at_call 159;(with_reducible refine (HNUM.out _).mono ?_);rintro e w' ⟨rfl,k1,rfl⟩)
      go_ret3
      exact ⟨by rw [HFF.out];first|rfl|go_num,belD hbel _⟩
     ·have t1:((N.2:Int) != 0)=true:=by rw [bne_iff_ne];omega
      have hf:=HF.out
      rw [if_neg (fun h=>H8.out h.1),if_neg he] at hf
      have HFF:=Lib.hid hf;have HE:=Lib.hid he;clear hf he
      go_wp2_with (go_at_call 159;(with_reducible refine (HNUM.out _).mono ?_);rintro e w' ⟨rfl,k1,rfl⟩)
      go_ret3
      exact ⟨by rw [HFF.out];first|rfl|go_num,belD hbel _⟩
theorem getI_form (a:Addr) (c:Nat) (x:UInt8) (t:List UInt8) (w:World) (h:Rd w w.heap.size 1 (some a) (t.length+1) (u8s (x :: t))) (hmc:t.length+1≤c) (hc:c≤maxLen) (hx:17<x.toNat) :
 Calls Tryz.prog 144 #[.slice (some a) (t.length+1) c] w fun e w'=>e=.returned (.tuple #[.int .i64 (getI (x :: t)).1,.int .i64 ((getI (x :: t)).2.1:Nat),.int .i64 ((getI (x :: t)).2.2:Nat)])∧Below w.heap.size w w':=by
 have hcc:=hc
 unfold maxLen at hcc
 have hs:sgn x=(x.toNat-9,false):=by unfold sgn;rw [if_neg (by omega)]
 have hfin:getI (x :: t)=(0,0,6):=by unfold getI;simp only [hs];rw [if_pos (by omega)]
 obtain ⟨a',ea,hb,hcell⟩:=h.byte (k:=0) (by simp)
 injection ea with ea
 subst ea
 rw [add_zero'] at hcell
 simp only [List.getElem_cons_zero] at hcell
 have hx8:=x.toNat_lt
 have HF:=Lib.hid hfin;have HS:=Lib.hid hs;clear hfin hs
 go_enter Tryz.func144,Tryz.ntmps144
 go_wp2
 go_ret3
 exact ⟨by rw [HF.out];rfl,Below.refl _ _⟩
theorem getI_nil (A:Option Addr) (c:Nat) (w:World) :
 Calls Tryz.prog 144 #[.slice A 0 c] w fun e w'=>e=.returned (.tuple #[.int .i64 (getI []).1,.int .i64 ((getI []).2.1:Nat),.int .i64 ((getI []).2.2:Nat)])∧Below w.heap.size w w':=by
 go_enter Tryz.func144,Tryz.ntmps144
 go_wp2
 go_ret3
 exact ⟨rfl,Below.refl _ _⟩
theorem rd_zero (w:World) (B size:Nat) (A:Option Addr):Rd w B size A 0 (u8s []):=⟨by simp [u8s],fun h=>absurd h (by omega)⟩
set_option maxHeartbeats 1000000 in
theorem getI_one (a:Addr) (n:Nat) (x:UInt8) (b:Bool) (w:World) (h:Rd w w.heap.size 1 (some a) 1 (u8s [x])) (hn:n≤8) (hx:(b=false∧x.toNat=n+9)∨(b=true∧x.toNat+n=8)) :
 Calls Tryz.prog 144 #[.slice (some a) 1 1] w fun e w'=>e=.returned (.tuple #[.int .i64 (getI [x]).1,.int .i64 ((getI [x]).2.1:Nat),.int .i64 ((getI [x]).2.2:Nat)])∧Below w.heap.size w w':=by
 have hs:sgn x=(n,b):=by
  unfold sgn
  rcases hx with ⟨rfl,hx⟩|⟨rfl,hx⟩
  ·rw [if_neg (by omega)];congr 1;omega
  ·rw [if_pos (by omega)];congr 1;omega
 have hp:prt x []=[]:=by unfold prt;split <;> simp
 have hfin:=getI_cons x [] n b _ hs hp hn
 obtain ⟨a',ea,hb,hcell⟩:=h.byte (k:=0) (by simp)
 injection ea with ea
 subst ea
 rw [add_zero'] at hcell
 simp only [List.getElem_cons_zero] at hcell
 have hxz:(x.toNat:Int)=if b then 8-(n:Int) else ((n+9:Nat):Int):=by
  rcases hx with ⟨rfl,hx⟩|⟨rfl,hx⟩
  ·rw [hx];rfl
  ·simp only [if_true];omega
 rw [hxz] at hcell
 generalize hN:numB [] n=N at *
 have h63:N.1<9223372036854775808:=by rw [← hN];exact numB_lt63 [] n hn (by simp)
 have hw:=i64_small N.1 h63
 have hnum:=fun A' c' W=>number_case A' 0 c' n [] W (rd_zero W _ _ A') hn (by omega) N hN
 have e88:(8:Int)-(8-(n:Int))=(n:Int):=by omega
 have hbelow:8-(n:Int)-9<0:=by omega
 rw [if_neg (by simp)] at hfin
 have HNUM:=Lib.hid hnum;have HN:=Lib.hid hN;have HF:=Lib.hid hfin;have HS:=Lib.hid hs;have HP:=Lib.hid hp;have HX:=Lib.hid hx;have HXZ:=Lib.hid hxz
 clear hnum hN hfin hs hp hx hxz
 cases b
 ·simp only [Bool.false_eq_true,if_false] at hcell
  by_cases he:N.2=0
  ·have t1:((N.2:Int) != 0)=false:=by rw [he];rfl
   have hf:=HF.out
   rw [if_pos he] at hf
   have HFF:=Lib.hid hf;have HE:=Lib.hid he;clear hf he
   by_cases h8:n=8
   ·have t8:((n:Int)==8)=true:=by rw [h8];rfl
    have H8:=Lib.hid h8;clear h8
    go_enter Tryz.func144,Tryz.ntmps144
    go_wp2_with (go_at_call 159;(with_reducible refine (HNUM.out _ _ _).mono ?_);rintro e w' ⟨rfl,k1,rfl⟩)
    go_ret3
    exact ⟨by rw [HFF.out];first|rfl|go_num,belD (belR w) _⟩
   ·have t8:((n:Int)==8)=false:=by rw [beq_eq_false_iff_ne];omega
    have H8:=Lib.hid h8;clear h8
    go_enter Tryz.func144,Tryz.ntmps144
    go_wp2_with (go_at_call 159;(with_reducible refine (HNUM.out _ _ _).mono ?_);rintro e w' ⟨rfl,k1,rfl⟩)
    go_ret3
    exact ⟨by rw [HFF.out];first|rfl|go_num,belD (belR w) _⟩
  ·have t1:((N.2:Int) != 0)=true:=by rw [bne_iff_ne];omega
   have hf:=HF.out
   rw [if_neg he] at hf
   have HFF:=Lib.hid hf;have HE:=Lib.hid he;clear hf he
   by_cases h8:n=8
   ·have t8:((n:Int)==8)=true:=by rw [h8];rfl
    have H8:=Lib.hid h8;clear h8
    go_enter Tryz.func144,Tryz.ntmps144
    go_wp2_with (go_at_call 159;(with_reducible refine (HNUM.out _ _ _).mono ?_);rintro e w' ⟨rfl,k1,rfl⟩)
    go_ret3
    exact ⟨by rw [HFF.out];first|rfl|go_num,belD (belR w) _⟩
   ·have t8:((n:Int)==8)=false:=by rw [beq_eq_false_iff_ne];omega
    have H8:=Lib.hid h8;clear h8
    go_enter Tryz.func144,Tryz.ntmps144
    go_wp2_with (go_at_call 159;(with_reducible refine (HNUM.out _ _ _).mono ?_);rintro e w' ⟨rfl,k1,rfl⟩)
    go_ret3
    exact ⟨by rw [HFF.out];first|rfl|go_num,belD (belR w) _⟩
 ·simp only [if_true] at hcell
  by_cases he:N.2=0
  ·have t1:((N.2:Int) != 0)=false:=by rw [he];rfl
   have hf:=HF.out
   rw [if_pos he] at hf
   have HFF:=Lib.hid hf;have HE:=Lib.hid he;clear hf he
   by_cases h8:n=8
   ·have t8:((n:Int)==8)=true:=by rw [h8];rfl
    have H8:=Lib.hid h8;clear h8
    go_enter Tryz.func144,Tryz.ntmps144
    go_wp2
    go_loopw [8,40] (fun v k wr=>v=.slice none 0 0∧k=.int .i64 0∧w=wr) (fun _ _ _=>0)
    case atStart=>exact ⟨rfl,rfl,rfl⟩
    case round =>
     obtain ⟨rfl,rfl,rfl⟩:=hrel
     go_wp2_with (go_at_call 159;(with_reducible refine (HNUM.out _ _ _).mono ?_);rintro e w' ⟨rfl,k1,rfl⟩)
     go_ret3
     exact ⟨by rw [HFF.out];first|rfl|go_num,belD (belR _) _⟩
   ·have t8:((n:Int)==8)=false:=by rw [beq_eq_false_iff_ne];omega
    have H8:=Lib.hid h8;clear h8
    go_enter Tryz.func144,Tryz.ntmps144
    go_wp2
    go_loopw [8,40] (fun v k wr=>v=.slice none 0 0∧k=.int .i64 0∧w=wr) (fun _ _ _=>0)
    case atStart=>exact ⟨rfl,rfl,rfl⟩
    case round =>
     obtain ⟨rfl,rfl,rfl⟩:=hrel
     go_wp2_with (go_at_call 159;(with_reducible refine (HNUM.out _ _ _).mono ?_);rintro e w' ⟨rfl,k1,rfl⟩)
     go_ret3
     exact ⟨by rw [HFF.out];first|rfl|go_num,belD (belR _) _⟩
  ·have t1:((N.2:Int) != 0)=true:=by rw [bne_iff_ne];omega
   have hf:=HF.out
   rw [if_neg he] at hf
   have HFF:=Lib.hid hf;have HE:=Lib.hid he;clear hf he
   by_cases h8:n=8
   ·have t8:((n:Int)==8)=true:=by rw [h8];rfl
    have H8:=Lib.hid h8;clear h8
    go_enter Tryz.func144,Tryz.ntmps144
    go_wp2
    go_loopw [8,40] (fun v k wr=>v=.slice none 0 0∧k=.int .i64 0∧w=wr) (fun _ _ _=>0)
    case atStart=>exact ⟨rfl,rfl,rfl⟩
    case round =>
     obtain ⟨rfl,rfl,rfl⟩:=hrel
     go_wp2_with (go_at_call 159;(with_reducible refine (HNUM.out _ _ _).mono ?_);rintro e w' ⟨rfl,k1,rfl⟩)
     go_ret3
     exact ⟨by rw [HFF.out];first|rfl|go_num,belD (belR _) _⟩
   ·have t8:((n:Int)==8)=false:=by rw [beq_eq_false_iff_ne];omega
    have H8:=Lib.hid h8;clear h8
    go_enter Tryz.func144,Tryz.ntmps144
    go_wp2
    go_loopw [8,40] (fun v k wr=>v=.slice none 0 0∧k=.int .i64 0∧w=wr) (fun _ _ _=>0)
    case atStart=>exact ⟨rfl,rfl,rfl⟩
    case round =>
     obtain ⟨rfl,rfl,rfl⟩:=hrel
     go_wp2_with (go_at_call 159;(with_reducible refine (HNUM.out _ _ _).mono ?_);rintro e w' ⟨rfl,k1,rfl⟩)
     go_ret3
     exact ⟨by rw [HFF.out];first|rfl|go_num,belD (belR _) _⟩
theorem getI_any (A:Option Addr) (m c:Nat) (t:List UInt8) (w:World) (h:Rd w w.heap.size 1 A m (u8s t)) (hmc:m≤c) (hc:c≤maxLen) :
 Calls Tryz.prog 144 #[.slice A m c] w fun e w'=>e=.returned (.tuple #[.int .i64 (getI t).1,.int .i64 ((getI t).2.1:Nat),.int .i64 ((getI t).2.2:Nat)])∧Below w.heap.size w w':=by
 obtain rfl:m=t.length:=h.u8.symm
 cases t with
 | nil=>exact getI_nil A c w
 | cons x t =>
   obtain ⟨a,rfl,_⟩:=h.2 (by simp)
   have hl:(x :: t).length=t.length+1:=rfl
   rw [hl] at h hmc ⊢
   by_cases hx17:17<x.toNat
   ·exact getI_form a c x t w h hmc hc hx17
   ·by_cases hc1:1<c
    ·by_cases hx9:x.toNat<9
     ·exact getI_neg a c (8-x.toNat) _ x t w h hmc hc (by omega) hc1 rfl
     ·exact getI_pos a c (x.toNat-9) _ x t w h hmc hc (by omega) (by omega) hc1 rfl
    ·obtain rfl:t=[]:=List.eq_nil_of_length_eq_zero (by omega)
     obtain rfl:c=1:=by simp at hmc;omega
     by_cases hx9:x.toNat<9
     ·exact getI_one a (8-x.toNat) x true w h (by omega) (.inr ⟨rfl,by omega⟩)
     ·exact getI_one a (x.toNat-9) x false w h (by omega) (.inl ⟨rfl,by omega⟩)
def RdS (w:World) (g:Nat) (t:List UInt8) (p e:Nat):Prop :=
 ∃ A c,Blk w g 98 #[.slice A t.length c,.int .i64 (p:Int),.int .i64 (e:Int)]∧Rd w g 1 A t.length (u8s t)∧t.length≤c∧c≤maxLen∧p≤t.length
section
variable {w w':World} {g p e:Nat} {t:List UInt8}
theorem RdS.lt (h:RdS w g t p e):g<w.heap.size:=by obtain ⟨A,c,hb,_⟩:=h;exact hb.lt
theorem RdS.drw (h:RdS w g t p e) (k:Drw w w'):RdS w' g t p e:=by
 obtain ⟨n,rfl⟩:=k;exact h
theorem RdS.below {B:Nat} (h:RdS w g t p e) (hb:Below B w w') (hg:g<B):RdS w' g t p e:=by
 obtain ⟨A,c,h1,h2,h3⟩:=h
 exact ⟨A,c,h1.below hb hg,h2.keep fun q hq=>hb.cell (by omega),h3⟩
theorem RdS.bad (h:RdS w g t p e) (e':Nat):RdS (w.setCell ⟨g,2,none⟩ (.int .i64 (e':Int))) g t p e':=by
 obtain ⟨A,c,hb,hR,r⟩:=h
 have:=hb.set_ 2 (.int .i64 (e':Int))
 exact ⟨A,c,by simpa using this,hR.keep fun q hq=>World.cell?_setCell_other w _ q _ (fun e=>by subst e;simp at hq),r⟩
theorem RdS.move (h:RdS w g t p e) (p':Nat) (hp:p'≤t.length):RdS (w.setCell ⟨g,1,none⟩ (.int .i64 (p':Int))) g t p' e:=by
 obtain ⟨A,c,hb,hR,h1,h2,h3⟩:=h
 have:=hb.set_ 1 (.int .i64 (p':Int))
 exact ⟨A,c,by simpa using this,hR.keep fun q hq=>World.cell?_setCell_other w _ q _ (fun e=>by subst e;simp at hq),h1,h2,hp⟩
end
def Lit3 (w w':World):Prop:=∃ c1 t1 c2 t2 c3 t3 k,w'=(((w.alloc (.cells c1 t1)).alloc (.cells c2 t2)).alloc (.cells c3 t3)).drewN k
theorem Lit3.below {w w':World} (h:Lit3 w w'):Below w.heap.size w w':=by
 obtain ⟨_,_,_,_,_,_,k,rfl⟩:=h;exact belD (belA (belA (belA (belR w) _) _) _) k
theorem bel_lit3 (W:World) (a b c:Obj) (k:Nat):Below W.heap.size W ((((W.alloc a).alloc b).alloc c).drewN k):=belD (belA (belA (belA (belR _) _) _) _) _
end Go.Proofs.YtfhmaincnlaapaaGreat
