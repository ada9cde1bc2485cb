/- fact.Get. -/
import Derived.Deep.DeepCutAuto
import Derived.StillTailTactics
import Derived.Test.YtfhmaincnlaapaaGreatTrRefCode
import Derived.Test.YtfhmaincnlaapaaGreatTrGetFWalks
import Derived.Test.YtfhmaincnlaapaaGreatTrBufSmall
import Derived.Test.YtfhmaincnlaapaaGreatTrFnOld
import Derived.Test.YtfhmaincnlaapaaGreatTrBufOutKeep
import Derived.Test.YtfhmaincnlaapaaGreatTrCellGet
namespace Go.Proofs.YtfhmaincnlaapaaGreat
open Go.ChangeShapes Go.WideShapes Go.ChangeAt Go.RowKit
set_option linter.unusedVariables false
theorem run_store_fS {P:Program} {w:World} {a:Addr} {m:Mode} (k:FloatKind) (b:Nat):(store a (.float k b) m).run P w=stored P w a (.float k b) m:=run_store P w a _ m rfl
attribute [local go_sem] run_store_fS
theorem take_same {l m:List Nat} {k:Nat} (h:l.take k=m.take k) (h1:k<l.length) (h2:k<m.length) (e:l[k]=m[k]):l.take (k+1)=m.take (k+1):=by
 rw [List.take_succ_eq_append_getElem h1,List.take_succ_eq_append_getElem h2,h,e]
theorem eq_of_take {l m:List Nat} (hl:l.length=m.length) (h:l.take l.length=m.take l.length):l=m:=by
 rw [List.take_length] at h
 rw [h,hl,List.take_length]
theorem u32n_get (l:List Nat) (j:Nat) (h:j<l.length):(u32n l)[j]?=some (.int .u32 ((l[j]:Nat):Int)):=by simp [u32n,h]
theorem rd_word {w:World} {B n:Nat} {A:Option Addr} {l:List Nat} {k:Nat} (h:Rd w B 1 A n (u32n l)) (hk:k<l.length):∃ a,A=some a∧a.block<B∧w.cell? (a.add k)=some (.int .u32 ((l[k]:Nat):Int)):=by
 obtain ⟨a,u,e,hb,hx,hc⟩:=h.at1 (k:=k) (by have:=h.1;simp at this;omega)
 rw [u32n_get l k hk] at hx
 injection hx with hx
 exact ⟨a,e,hb,by rw [hc,hx]⟩
set_option maxRecDepth 20000 in
theorem same02_any (w:World) (B:Nat) (A A':Option Addr) (c c':Nat) (l m:List Nat) (h:Rd w B 1 A l.length (u32n l)) (h':Rd w B 1 A' m.length (u32n m)) (hn:l.length≤9223372036854775807) (hm:m.length≤9223372036854775807) :
 Calls Tryz.prog 64 #[.slice A l.length c,.slice A' m.length c'] w fun y w'=>y=.returned (.bool (decide (l=m)))∧Drw w w':=by
 have H:=Lib.hid h;have H':=Lib.hid h';clear h h'
 by_cases hl:l.length=m.length
 ·have t1:((l.length:Int) != (m.length:Int))=false:=by rw [hl];simp
  have HL:=Lib.hid hl;clear hl
  go_enter Tryz.func64,Tryz.ntmps64
  go_wp2
  go_loopw [5] (fun i wr=>∃ k:Nat,k≤l.length∧i=.int .i64 (k:Int)∧Hid (l.take k=m.take k)∧Hid (Drw w wr)) (fun i _=>l.length-(intOf i).toNat)
  case atStart=>exact ⟨0,by omega,rfl,rfl,Drw.refl _⟩
  case round =>
   obtain ⟨k,hk,rfl,HT,HD⟩:=hrel
   by_cases hlt:k<l.length
   ·have hltm:k<m.length:=by rw [←HL.out];exact hlt
    obtain ⟨a,rfl,hab,x0⟩:=rd_word (rd_drw H.out HD.out) hlt
    obtain ⟨a',rfl,hab',y0⟩:=rd_word (rd_drw H'.out HD.out) hltm
    have q1:(0:Int)≤(k:Int):=by omega
    have q2:(k:Int)<(l.length:Int):=by omega
    have q3:(k:Int)<(m.length:Int):=by omega
    have hnx:=take_same HT.out hlt hltm
    have hne:l[k]≠m[k]→decide (l=m)=false:=fun hh=>decide_eq_false fun e=>hh (by subst e;rfl)
    generalize l[k]=x at *
    generalize m[k]=y at *
    by_cases g:x=y
    ·subst g
     have t2:((x:Int) != (x:Int))=false:=by simp
     have HNX:=Lib.hid (hnx rfl)
     clear hnx hne
     go_wp2
     go_quiet (fail)
     go_wp2
     go_roundw
     case rel=>exact ⟨k+1,by omega,by go_num,HNX.out,HD.out.drewN _⟩
     case measure=>simp [intOf];omega
    ·have t2:((x:Int) != (y:Int))=true:=by rw [bne_iff_ne];omega
     have HF:=Lib.hid (hne g)
     clear hnx hne g
     go_wp2
     go_quiet (fail)
     go_wp2
     go_ret
     exact ⟨by rw [HF.out];rfl,HD.out.drewN _⟩
   ·obtain rfl:k=l.length:=by omega
    have HF:=Lib.hid (decide_eq_true (eq_of_take HL.out HT.out))
    have q2:¬(l.length:Int)<(l.length:Int):=by omega
    go_wp2
    go_ret
    exact ⟨by rw [HF.out];rfl,HD.out⟩
 ·have t1:((l.length:Int) != (m.length:Int))=true:=by rw [bne_iff_ne];omega
  have HF:=Lib.hid (decide_eq_false (p:=l=m) fun e=>hl (by rw [e]))
  clear hl
  go_enter Tryz.func64,Tryz.ntmps64
  go_wp2
  go_ret
  exact ⟨by rw [HF.out];rfl,Drw.refl _⟩
theorem sameRs_at {l m:List RealS} (h:sameRs l m=true) (k:Nat) (hk:k<l.length) (hm:k<m.length):sameR l[k] m[k]=true:=by
 induction l generalizing m k with
 | nil=>simp at hk
 | cons x l ih=>cases m with
   | nil=>simp at hm
   | cons y m =>
     unfold sameRs at h
     rw [Bool.and_eq_true] at h
     cases k with
     | zero=>exact h.1
     | succ k=>exact ih h.2 k (by simpa using hk) (by simpa using hm)
theorem sameC_parts {C D:CellS} (h:sameC C D=true):C.key=D.key∧C.count=D.count∧C.ints=D.ints∧sameRs C.nums D.nums=true:=by
 unfold sameC at h
 simp only [Bool.and_eq_true,decide_eq_true_iff] at h
 exact ⟨h.1.1.1,h.1.1.2,sameWs_eq h.1.2,h.2⟩
theorem sameC_no {C D:CellS} (h:¬(C.key=D.key∧C.count=D.count∧C.ints=D.ints∧sameRs C.nums D.nums=true)):sameC C D=false:=by
 rw [←Bool.not_eq_true];exact fun hh=>h (sameC_parts hh)
theorem sameC_yes {C D:CellS} (h1:C.key=D.key) (h2:C.count=D.count) (h3:C.ints=D.ints) (h4:sameRs C.nums D.nums=true):sameC C D=true:=by
 unfold sameC;rw [h3,sameWs_self,h4];simp [h1,h2]
theorem takeW_same {l m:List WholeS} {k:Nat} (h:l.take k=m.take k) (h1:k<l.length) (h2:k<m.length) (e:l[k]=m[k]):l.take (k+1)=m.take (k+1):=by
 rw [List.take_succ_eq_append_getElem h1,List.take_succ_eq_append_getElem h2,h,e]
theorem eqW_of_take {l m:List WholeS} (hl:l.length=m.length) (h:l.take l.length=m.take l.length):l=m:=by
 rw [List.take_length] at h
 rw [h,hl,List.take_length]
theorem takeR_same {l m:List RealS} {k:Nat} (h:sameRs (l.take k) (m.take k)=true) (h1:k<l.length) (h2:k<m.length) (e:sameR l[k] m[k]=true):sameRs (l.take (k+1)) (m.take (k+1))=true:=by
 rw [List.take_succ_eq_append_getElem h1,List.take_succ_eq_append_getElem h2];exact sameRs_snoc h e
theorem eqR_of_take {l m:List RealS} (hl:l.length=m.length) (h:sameRs (l.take l.length) (m.take l.length)=true):sameRs l m=true:=by
 rw [List.take_length,hl,List.take_length] at h;exact h
structure TwoW (w wr:World) (g1 g2:Nat) (C D:Array Value):Prop where
 a:Blk wr g1 53 C
 b:Blk wr g2 53 D
 n:Below w.heap.size w wr
theorem TwoW.below {w wr w':World} {g1 g2:Nat} {C D:Array Value} (h:TwoW w wr g1 g2 C D) (hb:Below wr.heap.size wr w'):TwoW w w' g1 g2 C D :=
 ⟨h.a.below hb h.a.lt,h.b.below hb h.b.lt,belT h.n hb⟩
set_option maxRecDepth 20000 in
set_option maxHeartbeats 8000000 in
theorem same14_any (w:World) (B:Nat) (C:CellS) (A2:Option Addr) (c2:Nat) (A3:Option Addr) (c3:Nat) (D:CellS) (D2:Option Addr) (d2:Nat) (D3:Option Addr) (d3:Nat) (hv:CellV w B C A2 c2 A3 c3) (hu:CellV w B D D2 d2 D3 d3) (hB:B≤w.heap.size) :
 Calls Tryz.prog 27 #[.agg #[.int .u64 (C.key:Int),.int .i64 C.count,.slice A2 C.ints.length c2,.slice A3 C.nums.length c3],.agg #[.int .u64 (D.key:Int),.int .i64 D.count,.slice D2 D.ints.length d2,.slice D3 D.nums.length d3]] w
  fun y w'=>y=.returned (.bool (sameC C D))∧Below w.heap.size w w':=by
 have hml:C.ints.length≤9223372036854775807:=by have h1:=hv.ints.1;have h2:=hv.ints.2.1;unfold maxLen at h2;omega
 have hmn:C.nums.length≤9223372036854775807:=by have h1:=hv.nums.1;have h2:=hv.nums.2.1;unfold maxLen at h2;omega
 obtain ⟨W0,hW0⟩:∃ W0,W0=(w.alloc (.cells #[.int .u64 (C.key:Int),.int .i64 C.count,.slice A2 C.ints.length c2,.slice A3 C.nums.length c3] 53)).alloc (.cells #[.int .u64 (D.key:Int),.int .i64 D.count,.slice D2 D.ints.length d2,.slice D3 D.nums.length d3] 53):=⟨_,rfl⟩
 have ht0:TwoW w W0 w.heap.size (w.heap.size+1) #[.int .u64 (C.key:Int),.int .i64 C.count,.slice A2 C.ints.length c2,.slice A3 C.nums.length c3] #[.int .u64 (D.key:Int),.int .i64 D.count,.slice D2 D.ints.length d2,.slice D3 D.nums.length d3]:=by
  rw [hW0]
  exact ⟨(Blk.new w _ _).alloc _,by have:=Blk.new (w.alloc (.cells #[.int .u64 (C.key:Int),.int .i64 C.count,.slice A2 C.ints.length c2,.slice A3 C.nums.length c3] 53)) 53 #[.int .u64 (D.key:Int),.int .i64 D.count,.slice D2 D.ints.length d2,.slice D3 D.nums.length d3];simpa using this,belA (belA (belR w) _) _⟩
 have HT0:=Lib.hid ht0;have HW0:=Lib.hid hW0;have HV:=Lib.hid hv;have HU:=Lib.hid hu
 clear ht0 hW0 hv hu
 have r0:=HT0.out.a.cell 0;have r1:=HT0.out.a.cell 1;have r2:=HT0.out.a.cell 2;have r3:=HT0.out.a.cell 3
 have s0:=HT0.out.b.cell 0;have s1:=HT0.out.b.cell 1;have s2:=HT0.out.b.cell 2;have s3:=HT0.out.b.cell 3
 simp at r0 r1 r2 r3 s0 s1 s2 s3
 rw [HW0.out] at r0 r1 r2 r3 s0 s1 s2 s3
 clear r0 r1 r2 r3 s0 s1 s2 s3
 by_cases g1:C.key=D.key
 case neg =>
  have t1:((C.key:Int) != (D.key:Int))=true:=by rw [bne_iff_ne];omega
  have HF:=Lib.hid (sameC_no (C:=C) (D:=D) fun h=>g1 h.1)
  clear g1
  go_enter Tryz.func27,Tryz.ntmps27
  go_wp2
  go_ret
  exact ⟨by rw [HF.out];rfl,by have:=HT0.out.n;rw [HW0.out] at this;exact this⟩
 by_cases g2:C.count=D.count
 case neg =>
  have t1:((C.key:Int) != (D.key:Int))=false:=by rw [bne_eq_false_iff_eq];omega
  have t2:(C.count != D.count)=true:=by rw [bne_iff_ne];omega
  have HF:=Lib.hid (sameC_no (C:=C) (D:=D) fun h=>g2 h.2.1)
  clear g1 g2
  go_enter Tryz.func27,Tryz.ntmps27
  go_wp2
  go_ret
  exact ⟨by rw [HF.out];rfl,by have:=HT0.out.n;rw [HW0.out] at this;exact this⟩
 by_cases g3:C.ints.length=D.ints.length
 case neg =>
  have t1:((C.key:Int) != (D.key:Int))=false:=by rw [bne_eq_false_iff_eq];omega
  have t2:(C.count != D.count)=false:=by rw [bne_eq_false_iff_eq];omega
  have t3:((C.ints.length:Int) != (D.ints.length:Int))=true:=by rw [bne_iff_ne];omega
  have HF:=Lib.hid (sameC_no (C:=C) (D:=D) fun h=>g3 (by rw [h.2.2.1]))
  clear g1 g2 g3
  go_enter Tryz.func27,Tryz.ntmps27
  go_wp2
  go_ret
  exact ⟨by rw [HF.out];rfl,by have:=HT0.out.n;rw [HW0.out] at this;exact this⟩
 by_cases g4:C.nums.length=D.nums.length
 case neg =>
  have t1:((C.key:Int) != (D.key:Int))=false:=by rw [bne_eq_false_iff_eq];omega
  have t2:(C.count != D.count)=false:=by rw [bne_eq_false_iff_eq];omega
  have t3:((C.ints.length:Int) != (D.ints.length:Int))=false:=by rw [bne_eq_false_iff_eq];omega
  have t4:((C.nums.length:Int) != (D.nums.length:Int))=true:=by rw [bne_iff_ne];omega
  have HF:=Lib.hid (sameC_no (C:=C) (D:=D) fun h=>g4 (sameRs_len h.2.2.2))
  clear g1 g2 g3 g4
  go_enter Tryz.func27,Tryz.ntmps27
  go_wp2
  go_ret
  exact ⟨by rw [HF.out];rfl,by have:=HT0.out.n;rw [HW0.out] at this;exact this⟩
 have t1:((C.key:Int) != (D.key:Int))=false:=by rw [bne_eq_false_iff_eq];omega
 have t2:(C.count != D.count)=false:=by rw [bne_eq_false_iff_eq];omega
 have t3:((C.ints.length:Int) != (D.ints.length:Int))=false:=by rw [bne_eq_false_iff_eq];omega
 have t4:((C.nums.length:Int) != (D.nums.length:Int))=false:=by rw [bne_eq_false_iff_eq];omega
 have HYES:=Lib.hid (sameC_yes (C:=C) (D:=D) g1 g2)
 have G3:=Lib.hid g3;have G4:=Lib.hid g4
 clear g1 g2 g3 g4
 go_enter Tryz.func27,Tryz.ntmps27
 go_wp2
 clear t1 t2 t3 t4
 rw [←HW0.out]
 have hzw:w.heap.size+1<W0.heap.size:=by rw [HW0.out];simp
 go_loopw [5] (fun i wr=>∃ k:Nat,k≤C.ints.length∧i=.int .i64 (k:Int)∧Hid (C.ints.take k=D.ints.take k)∧Hid (TwoW w wr w.heap.size (w.heap.size+1) #[.int .u64 (C.key:Int),.int .i64 C.count,.slice A2 C.ints.length c2,.slice A3 C.nums.length c3] #[.int .u64 (D.key:Int),.int .i64 D.count,.slice D2 D.ints.length d2,.slice D3 D.nums.length d3])) (fun i _=>C.ints.length-(intOf i).toNat)
 case atStart=>exact ⟨0,by omega,rfl,rfl,HT0.out⟩
 case round =>
  obtain ⟨k,hk,rfl,HE,HT⟩:=hrel
  have r2:=HT.out.a.cell 2;have s2:=HT.out.b.cell 2
  simp at r2 s2
  by_cases hlt:k<C.ints.length
  ·have hltm:k<D.ints.length:=by rw [←G3.out];exact hlt
   obtain ⟨a,Aq,cq,ea,hab,x0,x1,x2,x3,x4,hRq,hq1,hq2,hq3,hs,ha,hmi,hmx⟩:=(HV.out.ints.keep (HT.out.n.mono hB) (Nat.le_refl _)).wholeAt hlt
   obtain ⟨b,Bq,bq,eb,hbb,y0,y1,y2,y3,y4,hSq,hp1,hp2,hp3,ps,pa,pmi,pmx⟩:=(HU.out.ints.keep (HT.out.n.mono hB) (Nat.le_refl _)).wholeAt hltm
   have q1:(0:Int)≤(k:Int):=by omega
   have q2:(k:Int)<(C.ints.length:Int):=by omega
   have q3:(k:Int)<(D.ints.length:Int):=by omega
   have hnx:=takeW_same HE.out hlt hltm
   have hne:C.ints[k]≠D.ints[k]→sameC C D=false:=fun hh=>sameC_no fun h=>hh (by have:=h.2.2.1;simp only [this])
   subst ea eb
   have hzr:w.heap.size+1<wr.heap.size:=HT.out.b.lt
   have hza:(a.add (k*5)).block<wr.heap.size:=by rw [block_add];omega
   have hzb:(b.add (k*5)).block<wr.heap.size:=by rw [block_add];omega
   have hzr2:w.heap.size<wr.heap.size:=by omega
   have hza2:(a.add (k*5)).block<wr.heap.size+1:=by omega
   have hzb2:(b.add (k*5)).block<wr.heap.size+1:=by omega
   generalize C.ints[k]=X at *
   generalize D.ints[k]=Y at *
   have HNX:=Lib.hid hnx;have HNE:=Lib.hid hne
   have HRq:=Lib.hid hRq;have HSq:=Lib.hid hSq
   have hmq:X.sq.length≤9223372036854775807:=by unfold maxLen at hq2;omega
   have hmp:Y.sq.length≤9223372036854775807:=by unfold maxLen at hp2;omega
   have hA1:=((Blk.new wr 122 #[.int .i64 X.sum,.int .i64 X.abs,.slice Aq X.sq.length cq,.int .i64 X.mn,.int .i64 X.mx]).alloc (.cells #[.int .i64 Y.sum,.int .i64 Y.abs,.slice Bq Y.sq.length bq,.int .i64 Y.mn,.int .i64 Y.mx] 122)).drew
   have hA2:=(Blk.new (wr.alloc (.cells #[.int .i64 X.sum,.int .i64 X.abs,.slice Aq X.sq.length cq,.int .i64 X.mn,.int .i64 X.mx] 122)) 122 #[.int .i64 Y.sum,.int .i64 Y.abs,.slice Bq Y.sq.length bq,.int .i64 Y.mn,.int .i64 Y.mx]).drew
   have hA3:=((Blk.new wr 122 #[.int .i64 Y.sum,.int .i64 Y.abs,.slice Bq Y.sq.length bq,.int .i64 Y.mn,.int .i64 Y.mx]).alloc (.cells #[.int .i64 X.sum,.int .i64 X.abs,.slice Aq X.sq.length cq,.int .i64 X.mn,.int .i64 X.mx] 122)).drew
   have hA4:=(Blk.new (wr.alloc (.cells #[.int .i64 Y.sum,.int .i64 Y.abs,.slice Bq Y.sq.length bq,.int .i64 Y.mn,.int .i64 Y.mx] 122)) 122 #[.int .i64 X.sum,.int .i64 X.abs,.slice Aq X.sq.length cq,.int .i64 X.mn,.int .i64 X.mx]).drew
   have hz1:(wr.alloc (.cells #[.int .i64 X.sum,.int .i64 X.abs,.slice Aq X.sq.length cq,.int .i64 X.mn,.int .i64 X.mx] 122)).heap.size=wr.heap.size+1:=by simp
   have hz2:(wr.alloc (.cells #[.int .i64 Y.sum,.int .i64 Y.abs,.slice Bq Y.sq.length bq,.int .i64 Y.mn,.int .i64 Y.mx] 122)).heap.size=wr.heap.size+1:=by simp
   rw [hz1] at hA2;rw [hz2] at hA4
   have hA5:=(belA (belA (belR wr) (.cells #[.int .i64 X.sum,.int .i64 X.abs,.slice Aq X.sq.length cq,.int .i64 X.mn,.int .i64 X.mx] 122)) (.cells #[.int .i64 Y.sum,.int .i64 Y.abs,.slice Bq Y.sq.length bq,.int .i64 Y.mn,.int .i64 Y.mx] 122)).drew
   have hA6:=(belA (belA (belR wr) (.cells #[.int .i64 Y.sum,.int .i64 Y.abs,.slice Bq Y.sq.length bq,.int .i64 Y.mn,.int .i64 Y.mx] 122)) (.cells #[.int .i64 X.sum,.int .i64 X.abs,.slice Aq X.sq.length cq,.int .i64 X.mn,.int .i64 X.mx] 122)).drew
   have HA1:=Lib.hid hA1;have HA2:=Lib.hid hA2;have HA3:=Lib.hid hA3;have HA4:=Lib.hid hA4;have HA5:=Lib.hid hA5;have HA6:=Lib.hid hA6
   have hzB:B≤wr.heap.size:=Nat.le_trans hB HT.out.n.size
   clear hnx hne hRq hSq hA1 hA2 hA3 hA4 hz1 hz2 hA5 hA6
   go_upto_region 6 with (fail)
   go_cut [6,7] (fun v6 v7 wx=>∃ gx gy:Nat,v6=.pointer (some ⟨gx,0,none⟩)∧v7=.pointer (some ⟨gy,0,none⟩)∧Hid (Blk wx gx 122 #[.int .i64 X.sum,.int .i64 X.abs,.slice Aq X.sq.length cq,.int .i64 X.mn,.int .i64 X.mx])∧Hid (Blk wx gy 122 #[.int .i64 Y.sum,.int .i64 Y.abs,.slice Bq Y.sq.length bq,.int .i64 Y.mn,.int .i64 Y.mx])∧Hid (Below wr.heap.size wr wx))
   case first =>
    go_region
    all_goals
     go_wp2
     go_meet
     case rel=>first|exact ⟨_,_,rfl,rfl,HA1.out,HA2.out,HA5.out⟩|exact ⟨_,_,rfl,rfl,HA4.out,HA3.out,HA6.out⟩
   case rest =>
    obtain ⟨gx,gy,rfl,rfl,HX,HY,HBx⟩:=hcut
    clear x0 x1 x2 x3 x4 y0 y1 y2 y3 y4 HA1 HA2 HA3 HA4 HA5 HA6
    have x0:=HX.out.cell 0;have x1:=HX.out.cell 1;have x2:=HX.out.cell 2;have x3:=HX.out.cell 3;have x4:=HX.out.cell 4
    have y0:=HY.out.cell 0;have y1:=HY.out.cell 1;have y2:=HY.out.cell 2;have y3:=HY.out.cell 3;have y4:=HY.out.cell 4
    simp at x0 x1 x2 x3 x4 y0 y1 y2 y3 y4
    have HTX:=Lib.hid (HT.out.below HBx.out)
    have HSM:=Lib.hid (same02_any _ B Aq Bq cq bq X.sq Y.sq (HRq.out.below (HBx.out.mono hzB)) (HSq.out.below (HBx.out.mono hzB)) hmq hmp)
    by_cases e1:X.sum=Y.sum
    case neg =>
     have t1:(X.sum != Y.sum)=true:=by rw [bne_iff_ne];exact e1
     have HF:=Lib.hid (HNE.out fun hh=>e1 (by rw [hh]))
     clear e1
     go_wp2
     go_ret
     exact ⟨by rw [HF.out];rfl,HTX.out.n⟩
    have t1:(X.sum != Y.sum)=false:=by rw [bne_eq_false_iff_eq];exact e1
    by_cases e2:X.abs=Y.abs
    case neg =>
     have t2:(X.abs != Y.abs)=true:=by rw [bne_iff_ne];exact e2
     have HF:=Lib.hid (HNE.out fun hh=>e2 (by rw [hh]))
     clear e1 e2
     go_wp2
     go_ret
     exact ⟨by rw [HF.out];rfl,HTX.out.n⟩
    have t2:(X.abs != Y.abs)=false:=by rw [bne_eq_false_iff_eq];exact e2
    by_cases e3:X.mn=Y.mn
    case neg =>
     have t3:(X.mn != Y.mn)=true:=by rw [bne_iff_ne];exact e3
     have HF:=Lib.hid (HNE.out fun hh=>e3 (by rw [hh]))
     clear e1 e2 e3
     go_wp2
     go_ret
     exact ⟨by rw [HF.out];rfl,HTX.out.n⟩
    have t3:(X.mn != Y.mn)=false:=by rw [bne_eq_false_iff_eq];exact e3
    by_cases e4:X.mx=Y.mx
    case neg =>
     have t4:(X.mx != Y.mx)=true:=by rw [bne_iff_ne];exact e4
     have HF:=Lib.hid (HNE.out fun hh=>e4 (by rw [hh]))
     clear e1 e2 e3 e4
     go_wp2
     go_ret
     exact ⟨by rw [HF.out];rfl,HTX.out.n⟩
    have t4:(X.mx != Y.mx)=false:=by rw [bne_eq_false_iff_eq];exact e4
    by_cases e5:X.sq=Y.sq
    case neg =>
     have hsm:=HSM.out
     rw [decide_eq_false e5] at hsm
     have HS2:=Lib.hid hsm
     have HF:=Lib.hid (HNE.out fun hh=>e5 (by rw [hh]))
     clear e1 e2 e3 e4 e5 hsm HSM
     go_wp2_with (go_at_call 64;(with_reducible refine HS2.out.mono ?_);rintro y w5 ⟨rfl,hd5⟩;have HB5:=Lib.hid (hd5.below HTX.out.n);clear hd5)
     go_ret
     exact ⟨by rw [HF.out];rfl,HB5.out⟩
    have hsm:=HSM.out
    rw [decide_eq_true e5] at hsm
    have HS2:=Lib.hid hsm
    have hxy:X=Y:=by cases X;cases Y;simp only at e1 e2 e3 e4 e5;subst e1 e2 e3 e4 e5;rfl
    have HNX2:=Lib.hid (HNX.out hxy)
    clear e1 e2 e3 e4 e5 hsm HSM hxy
    go_wp2_with (go_at_call 64;(with_reducible refine HS2.out.mono ?_);rintro y w5 ⟨rfl,hd5⟩;have HT5:=Lib.hid (HTX.out.below (hd5.below (belR _)));clear hd5)
    go_roundw
    case rel=>exact ⟨k+1,by omega,by go_num,HNX2.out,HT5.out⟩
    case measure=>simp [intOf];omega
  ·obtain rfl:k=C.ints.length:=by omega
   have HE2:=Lib.hid (eqW_of_take G3.out HE.out)
   have q2:¬(C.ints.length:Int)<(C.ints.length:Int):=by omega
   go_wp2
   clear r2 s2
   go_loopw [8] (fun i wr=>∃ k:Nat,k≤C.nums.length∧i=.int .i64 (k:Int)∧Hid (sameRs (C.nums.take k) (D.nums.take k)=true)∧Hid (TwoW w wr w.heap.size (w.heap.size+1) #[.int .u64 (C.key:Int),.int .i64 C.count,.slice A2 C.ints.length c2,.slice A3 C.nums.length c3] #[.int .u64 (D.key:Int),.int .i64 D.count,.slice D2 D.ints.length d2,.slice D3 D.nums.length d3])) (fun i _=>C.nums.length-(intOf i).toNat)
   case atStart=>exact ⟨0,by omega,rfl,rfl,HT.out⟩
   case round =>
    obtain ⟨k,hk,rfl,HE,HT⟩:=hrel
    have r3:=HT.out.a.cell 3;have s3:=HT.out.b.cell 3
    simp at r3 s3
    by_cases hlt:k<C.nums.length
    ·have hltm:k<D.nums.length:=by rw [←G4.out];exact hlt
     obtain ⟨a,Aq,cq,ea,hab,x0,x1,x2,hRq,hq1,hq2,hs,ha⟩:=(HV.out.nums.keep (HT.out.n.mono hB) (Nat.le_refl _)).realAt hlt
     obtain ⟨b,Bq,bq,eb,hbb,y0,y1,y2,hSq,hp1,hp2,ps,pa⟩:=(HU.out.nums.keep (HT.out.n.mono hB) (Nat.le_refl _)).realAt hltm
     have q1:(0:Int)≤(k:Int):=by omega
     have q2:(k:Int)<(C.nums.length:Int):=by omega
     have q3:(k:Int)<(D.nums.length:Int):=by omega
     have hnx:=takeR_same HE.out hlt hltm
     have hne:sameR C.nums[k] D.nums[k]=false→sameC C D=false:=fun hh=>sameC_no fun h=>by have:=sameRs_at h.2.2.2 k hlt hltm;rw [hh] at this;cases this
     subst ea eb
     have hzr:w.heap.size+1<wr.heap.size:=HT.out.b.lt
     have hza:(a.add (k*3)).block<wr.heap.size:=by rw [block_add];omega
     have hzb:(b.add (k*3)).block<wr.heap.size:=by rw [block_add];omega
     have hzr2:w.heap.size<wr.heap.size:=by omega
     have hza2:(a.add (k*3)).block<wr.heap.size+1:=by omega
     have hzb2:(b.add (k*3)).block<wr.heap.size+1:=by omega
     generalize C.nums[k]=X at *
     generalize D.nums[k]=Y at *
     obtain ⟨s1,m1,M1⟩:=X
     obtain ⟨s2,m2,M2⟩:=Y
     simp only at x0 x1 x2 y0 y1 y2 hRq hSq hs ha ps pa hq1 hp1
     have HNX:=Lib.hid hnx;have HNE:=Lib.hid hne
     have HRq:=Lib.hid hRq;have HSq:=Lib.hid hSq
     have hA1:=((Blk.new wr 60 #[.slice Aq s1.length cq,.float .f64 m1,.float .f64 M1]).alloc (.cells #[.slice Bq s2.length bq,.float .f64 m2,.float .f64 M2] 60)).drew
     have hA2:=(Blk.new (wr.alloc (.cells #[.slice Aq s1.length cq,.float .f64 m1,.float .f64 M1] 60)) 60 #[.slice Bq s2.length bq,.float .f64 m2,.float .f64 M2]).drew
     have hA3:=((Blk.new wr 60 #[.slice Bq s2.length bq,.float .f64 m2,.float .f64 M2]).alloc (.cells #[.slice Aq s1.length cq,.float .f64 m1,.float .f64 M1] 60)).drew
     have hA4:=(Blk.new (wr.alloc (.cells #[.slice Bq s2.length bq,.float .f64 m2,.float .f64 M2] 60)) 60 #[.slice Aq s1.length cq,.float .f64 m1,.float .f64 M1]).drew
     have hz1:(wr.alloc (.cells #[.slice Aq s1.length cq,.float .f64 m1,.float .f64 M1] 60)).heap.size=wr.heap.size+1:=by simp
     have hz2:(wr.alloc (.cells #[.slice Bq s2.length bq,.float .f64 m2,.float .f64 M2] 60)).heap.size=wr.heap.size+1:=by simp
     rw [hz1] at hA2;rw [hz2] at hA4
     have hA5:=(belA (belA (belR wr) (.cells #[.slice Aq s1.length cq,.float .f64 m1,.float .f64 M1] 60)) (.cells #[.slice Bq s2.length bq,.float .f64 m2,.float .f64 M2] 60)).drew
     have hA6:=(belA (belA (belR wr) (.cells #[.slice Bq s2.length bq,.float .f64 m2,.float .f64 M2] 60)) (.cells #[.slice Aq s1.length cq,.float .f64 m1,.float .f64 M1] 60)).drew
     have HA1:=Lib.hid hA1;have HA2:=Lib.hid hA2;have HA3:=Lib.hid hA3;have HA4:=Lib.hid hA4;have HA5:=Lib.hid hA5;have HA6:=Lib.hid hA6
     have hzB:B≤wr.heap.size:=Nat.le_trans hB HT.out.n.size
     clear hnx hne hRq hSq hA1 hA2 hA3 hA4 hz1 hz2 hA5 hA6
     go_upto_region 12 with (fail)
     go_cut [9,10] (fun v6 v7 wx=>∃ gx gy:Nat,v6=.pointer (some ⟨gx,0,none⟩)∧v7=.pointer (some ⟨gy,0,none⟩)∧Hid (Blk wx gx 60 #[.slice Aq s1.length cq,.float .f64 m1,.float .f64 M1])∧Hid (Blk wx gy 60 #[.slice Bq s2.length bq,.float .f64 m2,.float .f64 M2])∧Hid (Below wr.heap.size wr wx))
     case first =>
      go_region
      all_goals
       go_wp2
       go_meet
       case rel=>first|exact ⟨_,_,rfl,rfl,HA1.out,HA2.out,HA5.out⟩|exact ⟨_,_,rfl,rfl,HA4.out,HA3.out,HA6.out⟩
     case rest =>
      obtain ⟨gx,gy,rfl,rfl,HX,HY,HBx⟩:=hcut
      clear x0 x1 x2 y0 y1 y2 HA1 HA2 HA3 HA4 HA5 HA6
      have x0:=HX.out.cell 0;have x1:=HX.out.cell 1;have x2:=HX.out.cell 2
      have y0:=HY.out.cell 0;have y1:=HY.out.cell 1;have y2:=HY.out.cell 2
      simp at x0 x1 x2 y0 y1 y2
      have HTX:=Lib.hid (HT.out.below HBx.out)
      have hcv:=run_str (P:=Tryz.prog) (src:=27) (dst:=9) (c:=cq) (HRq.out.below (HBx.out.mono hzB)) Tryz.underlying27 Tryz.underlying5 Tryz.underlying9
      have hcv':=run_str (P:=Tryz.prog) (src:=27) (dst:=9) (c:=bq) (HSq.out.below (HBx.out.mono hzB)) Tryz.underlying27 Tryz.underlying5 Tryz.underlying9
      have HS1:=Lib.hid (fun W=>refFSame_any m1 m2 W hs ps)
      have HS2:=Lib.hid (fun W=>refFSame_any M1 M2 W ha pa)
      by_cases e1:s1=s2
      case neg =>
       have HF:=Lib.hid (HNE.out (by rw [←Bool.not_eq_true];intro hh;unfold sameR at hh;simp only [Bool.and_eq_true,decide_eq_true_iff] at hh;exact e1 hh.1.1))
       go_wp2
       go_ret
       exact ⟨by rw [HF.out];rfl,HTX.out.n⟩
      subst e1
      by_cases e2:keyB m1=keyB m2
      case neg =>
       have hsm:=HS1.out
       rw [decide_eq_false e2] at hsm
       have HSM:=Lib.hid hsm
       have HF:=Lib.hid (HNE.out (by rw [←Bool.not_eq_true];intro hh;unfold sameR at hh;simp only [Bool.and_eq_true,decide_eq_true_iff] at hh;exact e2 hh.1.2))
       clear e2 hsm HS1
       go_wp2_with (go_at_call 21;(with_reducible refine (HSM.out _).mono ?_);rintro y w5 ⟨rfl,hd5⟩;have HB5:=Lib.hid (Drw.below hd5 HTX.out.n);clear hd5)
       go_ret
       exact ⟨by rw [HF.out];rfl,HB5.out⟩
      by_cases e3:keyB M1=keyB M2
      case neg =>
       have hsm:=HS1.out
       rw [decide_eq_true e2] at hsm
       have hsn:=HS2.out
       rw [decide_eq_false e3] at hsn
       have HSM:=Lib.hid hsm;have HSN:=Lib.hid hsn
       have HF:=Lib.hid (HNE.out (by rw [←Bool.not_eq_true];intro hh;unfold sameR at hh;simp only [Bool.and_eq_true,decide_eq_true_iff] at hh;exact e3 hh.2))
       clear e2 e3 hsm hsn HS1 HS2
       go_wp2_with (first
        | (go_at_call 21;(with_reducible refine (HSM.out _).mono ?_);rintro y w5 ⟨rfl,hd5⟩;have HB5:=Lib.hid (Drw.below hd5 HTX.out.n);have HX5:=HX.out.drw hd5;have HY5:=HY.out.drw hd5;have x25:=HX5.cell 2;have y25:=HY5.cell 2;simp at x25 y25;clear hd5 HX5 HY5 HSM)
        | (go_at_call 21;(with_reducible refine (HSN.out _).mono ?_);rintro y w6 ⟨rfl,hd6⟩;have HB6:=Lib.hid (Drw.below hd6 HB5.out);clear hd6))
       go_ret
       exact ⟨by rw [HF.out];rfl,HB6.out⟩
      have hsm:=HS1.out
      rw [decide_eq_true e2] at hsm
      have hsn:=HS2.out
      rw [decide_eq_true e3] at hsn
      have HSM:=Lib.hid hsm;have HSN:=Lib.hid hsn
      have HNX2:=Lib.hid (HNX.out (by unfold sameR;simp [e2,e3]))
      clear e2 e3 hsm hsn HS1 HS2
      go_wp2_with (first
       | (go_at_call 21;(with_reducible refine (HSM.out _).mono ?_);rintro y w5 ⟨rfl,hd5⟩;have HT5:=Lib.hid (HTX.out.below (Drw.below hd5 (belR _)));have HX5:=HX.out.drw hd5;have HY5:=HY.out.drw hd5;have x25:=HX5.cell 2;have y25:=HY5.cell 2;simp at x25 y25;clear hd5 HX5 HY5 HSM)
       | (go_at_call 21;(with_reducible refine (HSN.out _).mono ?_);rintro y w6 ⟨rfl,hd6⟩;have HT6:=Lib.hid (HT5.out.below (Drw.below hd6 (belR _)));clear hd6))
      go_roundw
      case rel=>exact ⟨k+1,by omega,by go_num,HNX2.out,HT6.out⟩
      case measure=>simp [intOf];omega
    ·obtain rfl:k=C.nums.length:=by omega
     have HF:=Lib.hid (HYES.out HE2.out (eqR_of_take G4.out HE.out))
     have q2:¬(C.nums.length:Int)<(C.nums.length:Int):=by omega
     go_wp2
     go_ret
     exact ⟨by rw [HF.out];rfl,HT.out.n⟩
def sameL:List CellS→List CellS→Bool
 | [],[]=>true
 | C::l,D::m=>sameC C D&&sameL l m
 | _,_=>false
theorem sameL_len {l m:List CellS} (h:sameL l m=true):l.length=m.length:=by
 induction l generalizing m with
 | nil=>cases m with
   | nil=>rfl
   | cons y m=>cases h
 | cons x l ih=>cases m with
   | nil=>cases h
   | cons y m =>
     unfold sameL at h
     rw [Bool.and_eq_true] at h
     rw [List.length_cons,List.length_cons,ih h.2]
theorem sameL_at {l m:List CellS} (h:sameL l m=true) (k:Nat) (hk:k<l.length) (hm:k<m.length):sameC l[k] m[k]=true:=by
 induction l generalizing m k with
 | nil=>simp at hk
 | cons x l ih=>cases m with
   | nil=>simp at hm
   | cons y m =>
     unfold sameL at h
     rw [Bool.and_eq_true] at h
     cases k with
     | zero=>exact h.1
     | succ k=>exact ih h.2 k (by simpa using hk) (by simpa using hm)
theorem sameL_app {l m l' m':List CellS} (h:sameL l m=true) (k:sameL l' m'=true):sameL (l++l') (m++m')=true:=by
 induction l generalizing m with
 | nil=>cases m with
   | nil=>exact k
   | cons y m=>cases h
 | cons x l ih=>cases m with
   | nil=>cases h
   | cons y m =>
     unfold sameL at h
     rw [Bool.and_eq_true] at h
     rw [List.cons_append,List.cons_append]
     unfold sameL
     rw [h.1,ih h.2];rfl
theorem sameL_one {C D:CellS} (h:sameC C D=true):sameL [C] [D]=true:=by show (sameC C D&&sameL [] [])=true;rw [h];rfl
theorem sameL_self:∀ l:List CellS,sameL l l=true
 | []=>rfl
 | C::l=>by unfold sameL;rw [sameC_self,sameL_self l];rfl
theorem takeL_same {l m:List CellS} {k:Nat} (h:sameL (l.take k) (m.take k)=true) (h1:k<l.length) (h2:k<m.length) (e:sameC l[k] m[k]=true):sameL (l.take (k+1)) (m.take (k+1))=true:=by
 rw [List.take_succ_eq_append_getElem h1,List.take_succ_eq_append_getElem h2];exact sameL_app h (sameL_one e)
theorem eqL_of_take {l m:List CellS} (hl:l.length=m.length) (h:sameL (l.take l.length) (m.take l.length)=true):sameL l m=true:=by
 rw [List.take_length,hl,List.take_length] at h;exact h
set_option maxRecDepth 20000 in
set_option maxHeartbeats 4000000 in
theorem same15_any (w:World) (B:Nat) (A:Option Addr) (c:Nat) (l:List CellS) (A':Option Addr) (c':Nat) (m:List CellS) (g:SlR cellR w B l A c) (g':SlR cellR w B m A' c') (hB:B≤w.heap.size) :
 Calls Tryz.prog 18 #[.slice A l.length c,.slice A' m.length c'] w fun y w'=>y=.returned (.bool (sameL l m))∧Below w.heap.size w w':=by
 have hml:l.length≤9223372036854775807:=by have h1:=g.1;have h2:=g.2.1;unfold maxLen at h2;omega
 have G:=Lib.hid g;have G':=Lib.hid g'
 clear g g'
 by_cases hl:l.length=m.length
 ·have t1:((l.length:Int) != (m.length:Int))=false:=by rw [hl];simp
  have HL:=Lib.hid hl;clear hl
  go_enter Tryz.func18,Tryz.ntmps18
  go_wp2
  go_loopw [5] (fun i wr=>∃ k:Nat,k≤l.length∧i=.int .i64 (k:Int)∧Hid (sameL (l.take k) (m.take k)=true)∧Hid (Below w.heap.size w wr)) (fun i _=>l.length-(intOf i).toNat)
  case atStart=>exact ⟨0,by omega,rfl,rfl,belR w⟩
  case round =>
   obtain ⟨k,hk,rfl,HE,HB⟩:=hrel
   by_cases hlt:k<l.length
   ·have hltm:k<m.length:=by rw [←HL.out];exact hlt
    obtain ⟨a,D2,d2,D3,d3,ea,hab,x0,x1,x2,x3,hv⟩:=(G.out.keep (HB.out.mono hB) (Nat.le_refl _)).cellAt hlt
    obtain ⟨b,E2,e2,E3,e3,eb,hbb,y0,y1,y2,y3,hu⟩:=(G'.out.keep (HB.out.mono hB) (Nat.le_refl _)).cellAt hltm
    have q1:(0:Int)≤(k:Int):=by omega
    have q2:(k:Int)<(l.length:Int):=by omega
    have q3:(k:Int)<(m.length:Int):=by omega
    have hnx:=takeL_same HE.out hlt hltm
    have hne:sameC l[k] m[k]=false→sameL l m=false:=fun hh=>by
     rw [←Bool.not_eq_true];intro h
     have:=sameL_at h k hlt hltm
     rw [hh] at this;cases this
    subst ea eb
    generalize l[k]=C at *
    generalize m[k]=D at *
    have hzB:B≤wr.heap.size:=Nat.le_trans hB HB.out.size
    have hsm:=same14_any wr.drew B C D2 d2 D3 d3 D E2 e2 E3 e3 (hv.keep ((belR wr).drew.mono hzB) (Nat.le_refl _)) (hu.keep ((belR wr).drew.mono hzB) (Nat.le_refl _)) hzB
    cases hs:sameC C D with
    | false =>
      rw [hs] at hsm
      have HSM:=Lib.hid hsm;have HF:=Lib.hid (hne hs)
      clear hsm hs hne hnx hv hu
      go_upto_region 6 with (fail)
      go_still_tail 8,(by kernel_rfl)
      go_wp2_with (go_at_call 27;(with_reducible refine HSM.out.mono ?_);rintro y w5 ⟨rfl,hb5⟩;have HB5:=Lib.hid (belT (belD HB.out 1) hb5);clear hb5)
      go_ret
      exact ⟨by rw [HF.out];rfl,HB5.out⟩
    | true =>
      rw [hs] at hsm
      have HSM:=Lib.hid hsm;have HN:=Lib.hid (hnx hs)
      clear hsm hs hne hnx hv hu
      go_upto_region 6 with (fail)
      go_still_tail 8,(by kernel_rfl)
      go_wp2_with (go_at_call 27;(with_reducible refine HSM.out.mono ?_);rintro y w5 ⟨rfl,hb5⟩;have HB5:=Lib.hid (belT (belD HB.out 1) hb5);clear hb5)
      go_roundw
      case rel=>exact ⟨k+1,by omega,by go_num,HN.out,HB5.out⟩
      case measure=>simp [intOf];omega
   ·obtain rfl:k=l.length:=by omega
    have HF:=Lib.hid (eqL_of_take HL.out HE.out)
    have q2:¬(l.length:Int)<(l.length:Int):=by omega
    go_wp2
    go_ret
    exact ⟨by rw [HF.out];rfl,HB.out⟩
 ·have t1:((l.length:Int) != (m.length:Int))=true:=by rw [bne_iff_ne];omega
  have HF:Hid (sameL l m=false):=Lib.hid (by rw [←Bool.not_eq_true];exact fun h=>hl (sameL_len h))
  clear hl
  go_enter Tryz.func18,Tryz.ntmps18
  go_wp2
  go_ret
  exact ⟨by rw [HF.out];rfl,belR w⟩
end Go.Proofs.YtfhmaincnlaapaaGreat
namespace Go.Proofs.YtfhmaincnlaapaaGreat.Sy
open Go.ChangeShapes Go.WideShapes Go.ChangeAt Go.RowKit
set_option linter.unusedVariables false
def encStr (s:ByteArray):List AV:=[.v (.string s)]
def encI64 (z:Int):List AV:=[.v (.int .i64 z)]
def encU32 (z:Int):List AV:=[.v (.int .u32 z)]
def encDim (d:ByteArray×Int):List AV:=encStr d.1++encI64 d.2
def encSch (S:Sch):List AV:=encL encDim S.dims++(encL encStr S.ints++(encL encStr S.nums++encL encU32 S.views))
def okStr (s:ByteArray):Prop:=s.size≤maxLen
def okI64 (z:Int):Prop:=(Lit.int .i64 z).wf=true
def okU32 (z:Int):Prop:=(Lit.int .u32 z).wf=true
def okSch (S:Sch):Prop:=(∀ d∈S.dims,okStr d.1∧okI64 d.2)∧(∀ x∈S.ints,okStr x)∧(∀ x∈S.nums,okStr x)∧∀ x∈S.views,okU32 x
theorem enc_str:Enc strR encStr okStr:=Enc.val
theorem enc_i64:Enc i64R encI64 okI64:=Enc.val
theorem enc_u32:Enc u32R encU32 okU32:=Enc.val
theorem enc_sch:Enc schR encSch okSch:=Enc.two (Enc.sl (Enc.two enc_str enc_i64)) (Enc.two (Enc.sl enc_str) (Enc.two (Enc.sl enc_str) (Enc.sl enc_u32)))
theorem okSch_of {S:Sch} (h:SchOk S):okSch S:=⟨fun d hd=>⟨(h.dims d hd).1,WalkArith.wf_i64 (h.dims d hd).2⟩,h.ints,h.nums,fun x hx=>WalkArith.wf_u32 (h.views x hx)⟩
def encU8 (b:UInt8):List AV:=[.v (.int .u8 (b.toNat:Int))]
def encU32n (n:Nat):List AV:=[.v (.int .u32 (n:Int))]
def encU64n (n:Nat):List AV:=[.v (.int .u64 (n:Int))]
def encF64 (b:Nat):List AV:=[.v (.float .f64 b)]
def encWh (X:WholeS):List AV:=encI64 X.sum++(encI64 X.abs++(encL encU32n X.sq++(encI64 X.mn++encI64 X.mx)))
def encRe (X:RealS):List AV:=encL encU8 X.sum++(encF64 X.mn++encF64 X.mx)
def encCl (C:CellS):List AV:=encU64n C.key++(encI64 C.count++(encL encWh C.ints++encL encRe C.nums))
def okWh (X:WholeS):Prop:=okI64 X.sum∧okI64 X.abs∧(∀ n∈X.sq,n<4294967296)∧okI64 X.mn∧okI64 X.mx
def okRe (X:RealS):Prop:=(∀ b∈X.sum,True)∧X.mn<18446744073709551616∧X.mx<18446744073709551616
def okCl (C:CellS):Prop:=C.key<18446744073709551616∧okI64 C.count∧(∀ X∈C.ints,okWh X)∧∀ X∈C.nums,okRe X
theorem enc_wh:Enc wholeR encWh okWh:=Enc.two enc_i64 (Enc.two enc_i64 (Enc.two (Enc.sl Enc.val) (Enc.two enc_i64 enc_i64)))
theorem enc_re:Enc realR encRe okRe:=Enc.two (Enc.sl Enc.val) (Enc.two Enc.val Enc.val)
theorem enc_cl:Enc cellR encCl okCl:=Enc.two Enc.val (Enc.two enc_i64 (Enc.two (Enc.sl enc_wh) (Enc.sl enc_re)))
theorem len2 {α:Type}:∀ {l:List α},l.length=2→∃ a b,l=[a,b]
 | [a,b],_=>⟨a,b,rfl⟩
theorem len3 {α:Type}:∀ {l:List α},l.length=3→∃ a b c,l=[a,b,c]
 | [a,b,c],_=>⟨a,b,c,rfl⟩
theorem sch_open {E:Env} {S:Sch} {u:Value} (hF:∀ b,E.F b→b<E.w.heap.size) (ho:okSch S) (h:Sees1 E (.agg (encSch S)) u):SchAt E.w E.w.heap.size u S:=by
 obtain ⟨cs,rfl,hr⟩:=enc_sch.unsee hF rfl h ho
 exact (schR_at (cs:=cs.toArray) (by simpa using hr)).1
theorem dim_mk {w:World} {B:Nat}:∀ {l:List (ByteArray×Int)},(∀ x∈l,okStr x.1∧okI64 x.2)→Chunk dimR w B l (dimC l)
 | [],_=>rfl
 | x::l,h=>⟨[.string x.1,.int .i64 x.2],dimC l,rfl,⟨[_],[_],rfl,⟨rfl,(h x (by simp)).1⟩,rfl,(h x (by simp)).2⟩,dim_mk fun y hy=>h y (by simp [hy])⟩
theorem sch_see {E:Env} {B:Nat} {S:Sch} {v:Value} (hF:∀ b,b<B→E.F b) (h:SchAt E.w B v S) (ho:SchOk S):Sees1 E (.agg (encSch S)) v:=by
 obtain ⟨A0,c0,A1,c1,A2,c2,A3,c3,rfl,r0,r1,r2,r3,b0,b1,b2,b3⟩:=h
 have ok:=okSch_of ho
 exact enc_sch.see (B:=B) (x:=S) (cs:=[.slice A0 S.dims.length c0,.slice A1 S.ints.length c1,.slice A2 S.nums.length c2,.slice A3 S.views.length c3]) hF
  ⟨[_],[_,_,_],rfl,⟨A0,c0,_,rfl,b0.1,b0.2,r0,dim_mk ok.1⟩,[_],[_,_],rfl,⟨A1,c1,_,rfl,b1.1,b1.2,r1,chunk_val.2 ⟨rfl,ok.2.1⟩⟩,[_],[_],rfl,⟨A2,c2,_,rfl,b2.1,b2.2,r2,chunk_val.2 ⟨rfl,ok.2.2.1⟩⟩,A3,c3,_,rfl,b3.1,b3.2,r3,chunk_val.2 ⟨rfl,ok.2.2.2⟩⟩
theorem light_fn {S:Sch} (ho:okSch S):FnOk Tryz.prog 9 ⟨[.agg (encSch S)],[],.v (.bool (lightB S)),[]⟩ :=
 FnOk.of_calls rfl fun E vs hF hl hs=>by
  obtain ⟨u,rfl⟩:∃ u,vs=[u]:=List.length_eq_one_iff.1 hl
  exact light_any E.w E.w.heap.size u S (sch_open hF ho (hs 0 _ u rfl rfl)) (Nat.le_refl _)
theorem fkey_eq (b:Nat):keyB b=fkey b:=by
 unfold keyB fkey nanB ng rg irg
 by_cases h1:9218868437227405312<b%9223372036854775808
 ·rw [if_pos (decide_eq_true h1),if_pos h1]
 ·rw [if_neg (by rw [decide_eq_false h1];simp),if_neg h1]
  by_cases h2:b/9223372036854775808%2=1
  ·rw [if_pos h2,if_pos (by rw [h2];rfl)]
  ·rw [if_neg h2,if_neg (by rw [beq_iff_eq];exact h2)]
def encReK (X:RealS):List AV:=encL encU8 X.sum++([.fk (keyB X.mn)] ++ [.fk (keyB X.mx)])
def encClK (C:CellS):List AV:=encU64n C.key++(encI64 C.count++(encL encWh C.ints++encL encReK C.nums))
section
variable {w:World} {F:Nat→Prop}
theorem fk_of {k:Nat} {us:List Value} (h:RepL w F [.fk k] us):∃ b,keyB b=k∧b<18446744073709551616∧RepL w F (encF64 b) us:=by
 obtain ⟨u,rfl⟩:∃ u,us=[u]:=List.length_eq_one_iff.1 h.1
 cases RepL.one.1 h with
 | fk _ b h1 h2=>exact ⟨b,by rw [fkey_eq];exact h1,h2,RepL.one.2 (.v _ rfl)⟩
theorem reK_of {X:RealS} {us:List Value} (h:RepL w F (encReK X) us):∃ Y,sameR X Y=true∧okRe Y∧RepL w F (encRe Y) us:=by
 obtain ⟨a,d,rfl,h1,h2⟩:=h.cut
 obtain ⟨b,c,rfl,h3,h4⟩:=h2.cut
 obtain ⟨m,k1,k2,k3⟩:=fk_of h3
 obtain ⟨n,k4,k5,k6⟩:=fk_of h4
 exact ⟨⟨X.sum,m,n⟩,by unfold sameR;simp [k1,k4],⟨fun _ _=>trivial,k2,k5⟩,h1.app (k3.app k6)⟩
theorem resK_of:∀ {l:List RealS} {us:List Value},RepL w F (l.flatMap encReK) us→∃ m:List RealS,m.length=l.length∧sameRs l m=true∧(∀ Y∈m,okRe Y)∧RepL w F (m.flatMap encRe) us
 | [],us,h=>⟨[],rfl,rfl,(fun Y hY=>by cases hY),h⟩
 | X::l,us,h=>by
   obtain ⟨a,b,rfl,h1,h2⟩:=RepL.cut (a:=encReK X) (b:=l.flatMap encReK) h
   obtain ⟨Y,k1,k2,k3⟩:=reK_of h1
   obtain ⟨m,k4,k5,k6,k7⟩:=resK_of h2
   exact ⟨Y::m,by simp [k4],by unfold sameRs;rw [k1,k5];rfl,fun Z hZ=>by rcases List.mem_cons.1 hZ with rfl|hZ;exact k2;exact k6 Z hZ,k3.app k7⟩
theorem resK_lst {l:List RealS} {us:List Value} (h:RepL w F (encL encReK l) us):∃ m:List RealS,m.length=l.length∧sameRs l m=true∧(∀ Y∈m,okRe Y)∧RepL w F (encL encRe m) us:=by
 obtain ⟨u,rfl⟩:∃ u,us=[u]:=List.length_eq_one_iff.1 h.1
 have hr:Rep w F (.lst l.length (l.flatMap encReK)) u:=RepL.one.1 h
 generalize hn:l.length=n at hr
 generalize hcs:l.flatMap encReK=cs at hr
 cases hr with
 | nil A c hm =>
   obtain rfl:=List.eq_nil_of_length_eq_zero hn
   exact ⟨[],hn,rfl,(fun Y hY=>by cases hY),RepL.one.2 (.nil A c hm)⟩
 | lst _ c _ a us h0 h1 h2 hFa hl h1' hu hr =>
   subst hcs
   obtain ⟨m,k1,k2,k3,k4⟩:=resK_of (l:=l) ⟨hl,hr⟩
   refine ⟨m,by omega,k2,k3,?_⟩
   unfold encL
   rw [show m.length=n by omega]
   exact RepL.one.2 (.lst n c _ a us h0 h1 h2 hFa k4.1 h1' hu k4.2)
theorem clK_of {C:CellS} {us:List Value} (h:RepL w F (encClK C) us):∃ m:List RealS,m.length=C.nums.length∧sameRs C.nums m=true∧(∀ Y∈m,okRe Y)∧RepL w F (encCl ⟨C.key,C.count,C.ints,m⟩) us:=by
 obtain ⟨a,d,rfl,h1,h2⟩:=h.cut
 obtain ⟨b,c,rfl,h3,h4⟩:=h2.cut
 obtain ⟨e,f,rfl,h5,h6⟩:=h4.cut
 obtain ⟨m,k1,k2,k3,k4⟩:=resK_lst h6
 exact ⟨m,k1,k2,k3,h1.app (h3.app (h5.app k4))⟩
end
theorem sameK_self {C:CellS} {m:List RealS} (h:sameRs C.nums m=true):sameC C ⟨C.key,C.count,C.ints,m⟩=true:=by
 unfold sameC
 have:∀ l:List WholeS,sameWs l l=true:=fun l=>by
  induction l with
  | nil=>rfl
  | cons x l ih=>unfold sameWs;rw [sameW_self,ih];rfl
 rw [this,h];simp
theorem sameR_trans {x y:RealS} (h:sameR x y=true) (z:RealS):sameR z y=sameR z x:=by
 unfold sameR at h ⊢
 simp only [Bool.and_eq_true,decide_eq_true_iff] at h
 rw [h.1.1,h.1.2,h.2]
theorem sameRs_trans:∀ {l m:List RealS} (h:sameRs l m=true) (k:List RealS),sameRs k m=sameRs k l
 | [],[],_,k=>rfl
 | x::l,y::m,h,[]=>rfl
 | x::l,y::m,h,z::k=>by
   unfold sameRs at h
   rw [Bool.and_eq_true] at h
   unfold sameRs
   rw [sameR_trans h.1,sameRs_trans h.2]
 | [],_::_,h,_=>by unfold sameRs at h;cases h
 | _::_,[],h,_=>by unfold sameRs at h;cases h
theorem sameC_trans {C D:CellS} (h:sameC C D=true) (K:CellS):sameC K D=sameC K C:=by
 unfold sameC at h ⊢
 simp only [Bool.and_eq_true,decide_eq_true_iff] at h
 obtain ⟨⟨⟨h1,h2⟩,h3⟩,h4⟩:=h
 have hw:∀ {l m:List WholeS},sameWs l m=true→l=m:=fun {l m} h=>by
  induction l generalizing m with
  | nil=>cases m with
    | nil=>rfl
    | cons=>unfold sameWs at h;cases h
  | cons x l ih=>cases m with
    | nil=>unfold sameWs at h;cases h
    | cons y m=>unfold sameWs at h;rw [Bool.and_eq_true] at h;rw [sameW_eq h.1,ih h.2]
 rw [sameRs_trans h4,←hw h3,h1,h2]
end Go.Proofs.YtfhmaincnlaapaaGreat.Sy
namespace Go.Proofs.YtfhmaincnlaapaaGreat
open Go.ChangeShapes Go.WideShapes Go.ChangeAt Go.RowKit
set_option linter.unusedVariables false
def FaO (w:World) (base:Nat):List FactS→List Value→Prop
 | [],xs=>xs=[]
 | F::l,xs=>∃ v0 v1 v2 rest,xs=v0::v1::v2::rest∧w.ownsRow base 3 1 v0 F.codes.length (i64s F.codes)∧w.ownsRow base 2 1 v1 F.ints.length (i64s F.ints) ∧
  w.ownsRow base 57 1 v2 F.nums.length (f64s F.nums)∧FaO w base l rest
section
variable {w w':World} {base g:Nat} {l:List FactS} {xs:List Value}
theorem FaO.map (h:FaO w base l xs) (h0:∀ v n ys,w.ownsRow base 3 1 v n ys→w'.ownsRow base 3 1 v n ys) (h1:∀ v n ys,w.ownsRow base 2 1 v n ys→w'.ownsRow base 2 1 v n ys)
 (h2:∀ v n ys,w.ownsRow base 57 1 v n ys→w'.ownsRow base 57 1 v n ys):FaO w' base l xs:=by
 induction l generalizing xs with
 | nil=>exact h
 | cons F l ih =>
   obtain ⟨v0,v1,v2,rest,rfl,o0,o1,o2,hr⟩:=h
   exact ⟨v0,v1,v2,rest,rfl,h0 _ _ _ o0,h1 _ _ _ o1,h2 _ _ _ o2,ih hr⟩
theorem FaO.only (h:FaO w base l xs) (k:Only g w w') (hg:g<base):FaO w' base l xs :=
 h.map (fun v n ys ho=>k.own ho (own_far ho hg)) (fun v n ys ho=>k.own ho (own_far ho hg)) (fun v n ys ho=>k.own ho (own_far ho hg))
theorem FaO.alloc (h:FaO w base l xs) (o:Obj):FaO (w.alloc o) base l xs:=h.map (fun v n ys ho=>ho.alloc o) (fun v n ys ho=>ho.alloc o) (fun v n ys ho=>ho.alloc o)
theorem FaO.drewN (h:FaO w base l xs) (k:Nat):FaO (w.drewN k) base l xs:=h.map (fun v n ys ho=>ho) (fun v n ys ho=>ho) (fun v n ys ho=>ho)
theorem FaO.appd {v v':Value} {b n:Nat} {ys:List Value} (h:FaO w base l xs) (k:Appd w w' v v') (ho:w.ownsRow b 86 3 v n ys):FaO w' base l xs :=
 h.map (fun _ _ _ h'=>k.kept h' (own_own_ne h' ho (by decide))) (fun _ _ _ h'=>k.kept h' (own_own_ne h' ho (by decide))) (fun _ _ _ h'=>k.kept h' (own_own_ne h' ho (by decide)))
theorem FaO.snoc {F:FactS} {v0 v1 v2:Value} (h:FaO w base l xs) (o0:w.ownsRow base 3 1 v0 F.codes.length (i64s F.codes)) (o1:w.ownsRow base 2 1 v1 F.ints.length (i64s F.ints))
 (o2:w.ownsRow base 57 1 v2 F.nums.length (f64s F.nums)):FaO w base (l ++ [F]) (xs ++ [v0,v1,v2]):=by
 induction l generalizing xs with
 | nil=>cases h;exact ⟨v0,v1,v2,[],rfl,o0,o1,o2,rfl⟩
 | cons F' l ih =>
   obtain ⟨u0,u1,u2,rest,rfl,p0,p1,p2,hr⟩:=h
   exact ⟨u0,u1,u2,rest ++ [v0,v1,v2],rfl,p0,p1,p2,ih hr⟩
theorem FaO.chunk (h:FaO w base l xs) (ho:∀ F∈l,FactOk F):Chunk factR w w.heap.size l xs:=by
 induction l generalizing xs with
 | nil=>exact h
 | cons F l ih =>
   obtain ⟨v0,v1,v2,rest,rfl,o0,o1,o2,hr⟩:=h
   obtain ⟨A0,c0,rfl,a0,b0,_⟩:=own_form o0
   obtain ⟨A1,c1,rfl,a1,b1,_⟩:=own_form o1
   obtain ⟨A2,c2,rfl,a2,b2,_⟩:=own_form o2
   refine ⟨[_,_,_],rest,rfl,factR_mk ⟨A0,c0,A1,c1,A2,c2,rfl,rfl,rfl,Rd.own o0,Rd.own o1,Rd.own o2,⟨a0,b0⟩,⟨a1,b1⟩,a2,b2⟩ (ho F (by simp)),ih hr fun F' hF=>ho F' (by simp [hF])⟩
end
theorem sch_manyOk {S:Sch} (h:checkN S=0):S.dims.length≤6∧S.ints.length≤3∧S.nums.length≤2∧∀ k,k<S.dims.length→1≤szAt S k∧szAt S k≤4096:=by
 obtain ⟨hm,p,hp⟩:=checkN_zero h
 unfold manyOk at hm
 exact ⟨by omega,by omega,by omega,keysTo_some S _ p hp⟩
structure GetRel (w wr:World) (g:Nat) (t:List UInt8) (SV:Array Value) (ov:Value) (m:List FactS) (p e:Nat):Prop where
 s:Blk wr w.heap.size 26 SV
 o:∃ xs,wr.ownsRow (g+1) 86 3 ov m.length xs∧FaO wr (g+1) m xs
 i:InS wr g t p e
 b:Below w.heap.size w wr
theorem GetRel.one {w wr w2 w3:World} {g:Nat} {t:List UInt8} {SV:Array Value} {ov ov':Value} {m:List FactS} {F:FactS} {p' e':Nat} {v0 v1 v2:Value} {xs:List Value} (hg:w.heap.size+1≤g)
 (s:Blk wr w.heap.size 26 SV) (b:Below w.heap.size w wr) (o:wr.ownsRow (g+1) 86 3 ov m.length xs) (f:FaO wr (g+1) m xs) (hgl:g<wr.heap.size)
 (o0:w2.ownsRow wr.heap.size 3 1 v0 F.codes.length (i64s F.codes)) (o1:w2.ownsRow wr.heap.size 2 1 v1 F.ints.length (i64s F.ints)) (o2:w2.ownsRow wr.heap.size 57 1 v2 F.nums.length (f64s F.nums))
 (i:InS w2 g t p' e') (k:Only g wr w2) (ho:w3.ownsRow (g+1) 86 3 ov' (m.length+1) (xs ++ [v0,v1,v2])) (hap:Appd w2 w3 ov ov'):GetRel w w3 g t SV ov' (m ++ [F]) p' e':=by
 have ow2:=k.own o (own_far o (by omega))
 have hz:=k.size
 have hb3:Below (g+1) w2 w3:=hap.below (by omega) ow2
 have hzb:=b.size
 refine ⟨(k.blk s (by omega)).below hb3 (by omega),⟨_,by rw [List.length_append];exact ho,?_⟩,i.below hb3 (by omega),(b.trans (k.below (by omega) (by omega))).trans (hb3.mono (by omega))⟩
 exact ((f.only k (by omega)).appd hap ow2).snoc (own_mono (hap.kept o0 (own_own_ne o0 ow2 (by decide))) (by omega)) (own_mono (hap.kept o1 (own_own_ne o1 ow2 (by decide))) (by omega)) (own_mono (hap.kept o2 (own_own_ne o2 ow2 (by decide))) (by omega))
theorem GetRel.drw {w wr w2:World} {g:Nat} {t:List UInt8} {SV:Array Value} {ov:Value} {m:List FactS} {p e:Nat} (h:GetRel w wr g t SV ov m p e) (k:Drw wr w2):GetRel w w2 g t SV ov m p e:=by
 obtain ⟨n,rfl⟩:=k
 obtain ⟨xs,h1,h2⟩:=h.o
 exact ⟨h.s,⟨xs,h1,h2.drewN n⟩,h.i,below_drewN h.b n⟩
end Go.Proofs.YtfhmaincnlaapaaGreat
