/- bushelref05.Read. -/
import Derived.Laws.CopyOwn
import Derived.Test.YtfhmaincnlaapaaGreatTrRefNum
namespace Go.Proofs.YtfhmaincnlaapaaGreat
open Go.ChangeShapes Go.WideShapes Go.ChangeAt Go.RowKit
set_option linter.unusedVariables false
theorem headE_bad0 {b:List UInt8} (h0:0<b.length) (h:63<hd b 0∨(hd b 0/32=1∧hd b 0/16%2=0)):readE b=6:=by
 have e:headE b=6:=by unfold headE;rw [if_pos ⟨h0,by omega⟩]
 rw [readE_head (by omega),e]
theorem headE_bad1 {b:List UInt8} (h0:1<b.length) (h:69<hd b 1∨(0<hd b 1∧hd b 0/16%2=0)):readE b=6:=by
 have e:headE b=6:=by unfold headE;split;rfl;rw [if_pos ⟨h0,by omega⟩]
 rw [readE_head (by omega),e]
theorem headE_bad2 {b:List UInt8} (h0:2<b.length) (h:70<hd b 1+hd b 2∨(0<hd b 2∧hd b 0/16%2=0)∨(hd b 2=0∧(0<hd b 1∨hd b 0/32=1))):readE b=6:=by
 have e:headE b=6:=by unfold headE;split;rfl;split;rfl;rw [if_pos ⟨h0,by omega⟩]
 rw [readE_head (by omega),e]
theorem headE_zero {b:List UInt8} {f q5 q4 r4 y1 n:Nat} (hf:hd b 0=f) (hq:f/32=q5∧f/16=q4∧q4%2=r4) (h1:hd b 1=y1) (h2:hd b 2=n)
 (g0:¬(63<f∨(q5=1∧r4=0))) (g1:¬(69<y1∨(0<y1∧r4=0))) (g2:¬(70<n+y1∨(0<n∧r4=0)∨(n=0∧(0<y1∨q5=1)))):headE b=0:=by
 unfold headE
 rw [hf,h1,h2,if_neg (by omega),if_neg (by omega),if_neg (by omega)]
theorem readE_len0 {b:List UInt8} (h:b.length=0):readE b=5:=readE_short (by unfold headE;rw [if_neg (by omega),if_neg (by omega),if_neg (by omega)]) (by omega)
theorem readE_len1 {b:List UInt8} (h:b.length=1) (h0:¬(63<hd b 0∨(hd b 0/32=1∧hd b 0/16%2=0))):readE b=5:=readE_short (by unfold headE;rw [if_neg (by omega),if_neg (by omega),if_neg (by omega)]) (by omega)
theorem readE_len2 {b:List UInt8} (h:b.length=2) (h0:¬(63<hd b 0∨(hd b 0/32=1∧hd b 0/16%2=0))) (h1:¬(69<hd b 1∨(0<hd b 1∧hd b 0/16%2=0))):readE b=5 :=
 readE_short (by unfold headE;rw [if_neg (by omega),if_neg (by omega),if_neg (by omega)]) (by omega)
def noSumA:Array Value:=#[.bool false,.bool false,.bool false,.bool false,.bool false,.bool false,.slice none 0 0]
theorem Blk.sum7 {W:World} {g:Nat} {y0 y1 y2 y3 y4 y5 y6:Value} (h:Blk W g 136 #[y0,y1,y2,y3,y4,y5,y6]) :
 W.cell? ⟨g,0,none⟩=some y0∧W.cell? ⟨g,1,none⟩=some y1∧W.cell? ⟨g,2,none⟩=some y2∧W.cell? ⟨g,3,none⟩=some y3∧W.cell? ⟨g,4,none⟩=some y4∧W.cell? ⟨g,5,none⟩=some y5∧W.cell? ⟨g,6,none⟩=some y6 :=
 ⟨h.cell 0,h.cell 1,h.cell 2,h.cell 3,h.cell 4,h.cell 5,h.cell 6⟩
set_option maxRecDepth 20000 in
theorem read05_nil (w:World) (A:Option Addr) (c:Nat) :
 Calls Tryz.prog 69 #[.slice A 0 c] w fun y w'=>y=.returned (.tuple #[.agg noSumA,.int .i64 5])∧Below w.heap.size w w':=by
 go_enter Tryz.func69,Tryz.ntmps69
 go_wp2
 obtain ⟨r0,r1,r2,r3,r4',r5,r6⟩:=((Blk.new w 136 #[.bool false,.bool false,.bool false,.bool false,.bool false,.bool false,.slice none 0 0]).alloc (.cells #[.bool false,.bool false,.bool false,.bool false,.bool false,.bool false,.slice none 0 0] 136)).sum7
 refine bodyPost_ret (v:=.tuple #[.agg #[.bool false,.bool false,.bool false,.bool false,.bool false,.bool false,.slice none 0 0],.int .i64 5]) (by simp [results,Tryz.results69,go_sem, *]) rfl ?_
 exact ⟨rfl,belA (belA (belR w) _) _⟩
def SumRd (w:World) (b:List UInt8) (s:Value):Prop:=∃ (bb:Bool) (Z:Option Addr) (k c:Nat),
 s=.agg #[.bool (decide (hd b 0%2=1)),.bool (decide (hd b 0/2%2=1)),.bool (decide (hd b 0/4%2=1)),.bool (decide (hd b 0/8%2=1)),.bool (decide (hd b 0/16%2=1)),.bool bb,.slice Z k c] ∧
 NumV w w.heap.size bb Z k c (if hd b 0/32=1 then -((vw (magP (wordB b) (hd b 1+hd b 2) (hd b 2)):Nat):Int) else ((vw (magP (wordB b) (hd b 1+hd b 2) (hd b 2)):Nat):Int))
theorem Blk.frz7 {W:World} {g:Nat} {t:TypeId} {cs:Array Value} (h:Blk W g t cs) :
 W.frozen? ⟨g,0,none⟩=false∧W.frozen? ⟨g,1,none⟩=false∧W.frozen? ⟨g,2,none⟩=false∧W.frozen? ⟨g,3,none⟩=false∧W.frozen? ⟨g,4,none⟩=false∧W.frozen? ⟨g,5,none⟩=false∧W.frozen? ⟨g,6,none⟩=false :=
 ⟨h.frozen 0,h.frozen 1,h.frozen 2,h.frozen 3,h.frozen 4,h.frozen 5,h.frozen 6⟩
def NoI (u:Value):Prop:=∀ k:Int,u≠.int .i64 k
theorem NoI.bool (b:Bool):NoI (.bool b):=fun k h=>by cases h
theorem NoI.sl (A:Option Addr) (n c:Nat):NoI (.slice A n c):=fun k h=>by cases h
theorem NumV.far1 {w:World} {B g n c:Nat} {b:Bool} {A:Option Addr} {z:Int} {t:TypeId} {cs:Array Value} (h:NumV w B b A n c z) (hk:Blk w g t cs) (hx:∀ u∈cs.toList,NoI u) (i:Nat) (u:Value):NumV (w.setCell ⟨g,i,none⟩ u) B b A n c z :=
 ⟨h.sgn,h.len,h.rd.farB hk (fun u hu hm=>by
  obtain ⟨k,_,rfl⟩:=List.mem_map.1 hu
  exact hx _ hm _ rfl) i u,h.hc,h.hm⟩
def set7 (w:World) (g:Nat) (u0 u1 u2 u3 u4 u5 u6:Value):World:=((((((w.setCell ⟨g,0,none⟩ u0).setCell ⟨g,1,none⟩ u1).setCell ⟨g,2,none⟩ u2).setCell ⟨g,3,none⟩ u3).setCell ⟨g,4,none⟩ u4).setCell ⟨g,5,none⟩ u5).setCell ⟨g,6,none⟩ u6
theorem NumV.put7 {w:World} {B g n c:Nat} {b:Bool} {A:Option Addr} {z:Int} {y0 y1 y2 y3 y4 y5 y6 u0 u1 u2 u3 u4 u5 u6:Value} (h:NumV w B b A n c z) (hk:Blk w g 136 #[y0,y1,y2,y3,y4,y5,y6]) (hy:∀ u∈[y0,y1,y2,y3,y4,y5,y6],NoI u) (hu:∀ u∈[u0,u1,u2,u3,u4,u5,u6],NoI u) :
 NumV (set7 w g u0 u1 u2 u3 u4 u5 u6) B b A n c z∧Blk (set7 w g u0 u1 u2 u3 u4 u5 u6) g 136 #[u0,u1,u2,u3,u4,u5,u6]:=by
 have k1:Blk (w.setCell ⟨g,0,none⟩ u0) g 136 #[u0,y1,y2,y3,y4,y5,y6]:=hk.set_ 0 u0
 have k2:Blk ((w.setCell ⟨g,0,none⟩ u0).setCell ⟨g,1,none⟩ u1) g 136 #[u0,u1,y2,y3,y4,y5,y6]:=k1.set_ 1 u1
 have k3:Blk (((w.setCell ⟨g,0,none⟩ u0).setCell ⟨g,1,none⟩ u1).setCell ⟨g,2,none⟩ u2) g 136 #[u0,u1,u2,y3,y4,y5,y6]:=k2.set_ 2 u2
 have k4:Blk ((((w.setCell ⟨g,0,none⟩ u0).setCell ⟨g,1,none⟩ u1).setCell ⟨g,2,none⟩ u2).setCell ⟨g,3,none⟩ u3) g 136 #[u0,u1,u2,u3,y4,y5,y6]:=k3.set_ 3 u3
 have k5:Blk (((((w.setCell ⟨g,0,none⟩ u0).setCell ⟨g,1,none⟩ u1).setCell ⟨g,2,none⟩ u2).setCell ⟨g,3,none⟩ u3).setCell ⟨g,4,none⟩ u4) g 136 #[u0,u1,u2,u3,u4,y5,y6]:=k4.set_ 4 u4
 have k6:Blk ((((((w.setCell ⟨g,0,none⟩ u0).setCell ⟨g,1,none⟩ u1).setCell ⟨g,2,none⟩ u2).setCell ⟨g,3,none⟩ u3).setCell ⟨g,4,none⟩ u4).setCell ⟨g,5,none⟩ u5) g 136 #[u0,u1,u2,u3,u4,u5,y6]:=k5.set_ 5 u5
 have k7:Blk (((((((w.setCell ⟨g,0,none⟩ u0).setCell ⟨g,1,none⟩ u1).setCell ⟨g,2,none⟩ u2).setCell ⟨g,3,none⟩ u3).setCell ⟨g,4,none⟩ u4).setCell ⟨g,5,none⟩ u5).setCell ⟨g,6,none⟩ u6) g 136 #[u0,u1,u2,u3,u4,u5,u6]:=k6.set_ 6 u6
 have a1:∀ u∈(#[u0,y1,y2,y3,y4,y5,y6]:Array Value).toList,NoI u:=fun u h=>by
  simp only [List.mem_cons,List.not_mem_nil,or_false] at h
  rcases h with rfl|rfl|rfl|rfl|rfl|rfl|rfl
  ·exact hu _ (by simp)
  ·exact hy _ (by simp)
  ·exact hy _ (by simp)
  ·exact hy _ (by simp)
  ·exact hy _ (by simp)
  ·exact hy _ (by simp)
  ·exact hy _ (by simp)
 have a2:∀ u∈(#[u0,u1,y2,y3,y4,y5,y6]:Array Value).toList,NoI u:=fun u h=>by
  simp only [List.mem_cons,List.not_mem_nil,or_false] at h
  rcases h with rfl|rfl|rfl|rfl|rfl|rfl|rfl
  ·exact hu _ (by simp)
  ·exact hu _ (by simp)
  ·exact hy _ (by simp)
  ·exact hy _ (by simp)
  ·exact hy _ (by simp)
  ·exact hy _ (by simp)
  ·exact hy _ (by simp)
 have a3:∀ u∈(#[u0,u1,u2,y3,y4,y5,y6]:Array Value).toList,NoI u:=fun u h=>by
  simp only [List.mem_cons,List.not_mem_nil,or_false] at h
  rcases h with rfl|rfl|rfl|rfl|rfl|rfl|rfl
  ·exact hu _ (by simp)
  ·exact hu _ (by simp)
  ·exact hu _ (by simp)
  ·exact hy _ (by simp)
  ·exact hy _ (by simp)
  ·exact hy _ (by simp)
  ·exact hy _ (by simp)
 have a4:∀ u∈(#[u0,u1,u2,u3,y4,y5,y6]:Array Value).toList,NoI u:=fun u h=>by
  simp only [List.mem_cons,List.not_mem_nil,or_false] at h
  rcases h with rfl|rfl|rfl|rfl|rfl|rfl|rfl
  ·exact hu _ (by simp)
  ·exact hu _ (by simp)
  ·exact hu _ (by simp)
  ·exact hu _ (by simp)
  ·exact hy _ (by simp)
  ·exact hy _ (by simp)
  ·exact hy _ (by simp)
 have a5:∀ u∈(#[u0,u1,u2,u3,u4,y5,y6]:Array Value).toList,NoI u:=fun u h=>by
  simp only [List.mem_cons,List.not_mem_nil,or_false] at h
  rcases h with rfl|rfl|rfl|rfl|rfl|rfl|rfl
  ·exact hu _ (by simp)
  ·exact hu _ (by simp)
  ·exact hu _ (by simp)
  ·exact hu _ (by simp)
  ·exact hu _ (by simp)
  ·exact hy _ (by simp)
  ·exact hy _ (by simp)
 have a6:∀ u∈(#[u0,u1,u2,u3,u4,u5,y6]:Array Value).toList,NoI u:=fun u h=>by
  simp only [List.mem_cons,List.not_mem_nil,or_false] at h
  rcases h with rfl|rfl|rfl|rfl|rfl|rfl|rfl
  ·exact hu _ (by simp)
  ·exact hu _ (by simp)
  ·exact hu _ (by simp)
  ·exact hu _ (by simp)
  ·exact hu _ (by simp)
  ·exact hu _ (by simp)
  ·exact hy _ (by simp)
 exact ⟨((((((h.far1 hk hy 0 u0).far1 k1 a1 1 u1).far1 k2 a2 2 u2).far1 k3 a3 3 u3).far1 k4 a4 4 u4).far1 k5 a5 5 u5).far1 k6 a6 6 u6,k7⟩
theorem Blk.put7 {w:World} {g:Nat} {y0 y1 y2 y3 y4 y5 y6:Value} (hk:Blk w g 136 #[y0,y1,y2,y3,y4,y5,y6]) (u0 u1 u2 u3 u4 u5 u6:Value):Blk (set7 w g u0 u1 u2 u3 u4 u5 u6) g 136 #[u0,u1,u2,u3,u4,u5,u6]:=by
 have k1:Blk (w.setCell ⟨g,0,none⟩ u0) g 136 #[u0,y1,y2,y3,y4,y5,y6]:=hk.set_ 0 u0
 have k2:Blk ((w.setCell ⟨g,0,none⟩ u0).setCell ⟨g,1,none⟩ u1) g 136 #[u0,u1,y2,y3,y4,y5,y6]:=k1.set_ 1 u1
 have k3:Blk (((w.setCell ⟨g,0,none⟩ u0).setCell ⟨g,1,none⟩ u1).setCell ⟨g,2,none⟩ u2) g 136 #[u0,u1,u2,y3,y4,y5,y6]:=k2.set_ 2 u2
 have k4:Blk ((((w.setCell ⟨g,0,none⟩ u0).setCell ⟨g,1,none⟩ u1).setCell ⟨g,2,none⟩ u2).setCell ⟨g,3,none⟩ u3) g 136 #[u0,u1,u2,u3,y4,y5,y6]:=k3.set_ 3 u3
 have k5:Blk (((((w.setCell ⟨g,0,none⟩ u0).setCell ⟨g,1,none⟩ u1).setCell ⟨g,2,none⟩ u2).setCell ⟨g,3,none⟩ u3).setCell ⟨g,4,none⟩ u4) g 136 #[u0,u1,u2,u3,u4,y5,y6]:=k4.set_ 4 u4
 have k6:Blk ((((((w.setCell ⟨g,0,none⟩ u0).setCell ⟨g,1,none⟩ u1).setCell ⟨g,2,none⟩ u2).setCell ⟨g,3,none⟩ u3).setCell ⟨g,4,none⟩ u4).setCell ⟨g,5,none⟩ u5) g 136 #[u0,u1,u2,u3,u4,u5,y6]:=k5.set_ 5 u5
 have k7:Blk (((((((w.setCell ⟨g,0,none⟩ u0).setCell ⟨g,1,none⟩ u1).setCell ⟨g,2,none⟩ u2).setCell ⟨g,3,none⟩ u3).setCell ⟨g,4,none⟩ u4).setCell ⟨g,5,none⟩ u5).setCell ⟨g,6,none⟩ u6) g 136 #[u0,u1,u2,u3,u4,u5,u6]:=k6.set_ 6 u6
 exact k7
theorem MagW.rd {w wr:World} {g:Nat} {L:List Nat} (h:MagW w wr g L):Rd wr wr.heap.size 1 (some ⟨g,0,none⟩) L.length (u32n L):=by
 refine ⟨by simp [u32n],fun _=>⟨_,rfl,h.1.lt,fun j u hu=>?_⟩⟩
 have hadd:(⟨g,0,none⟩:Addr).add j=⟨g,j,none⟩:=by unfold Addr.add;split<;>simp_all
 rw [hadd,h.1.cell]
 simpa using hu
theorem magP_mem {g:Nat→Nat} {m i N:Nat} (h:∀ j,g j<N) (h0:0<N):∀ d∈magP g m i,d<N:=by
 intro d hd
 unfold magP at hd
 rcases List.mem_append.1 hd with hd|hd
 ·rw [(List.mem_replicate.1 hd).2];exact h0
 ·obtain ⟨j,_,rfl⟩:=List.mem_map.1 (List.mem_reverse.1 hd)
  exact h j
theorem flag_of {f k:Nat} (hf:f<256) (u:Bool) (h:((f:Int)/(k:Int)%2==1)=u):u=decide (f/k%2=1):=by
 rw [←h,Bool.eq_iff_iff,beq_iff_eq,decide_eq_true_iff];omega
theorem flag_of1 {f:Nat} (u:Bool) (h:((f:Int)%2==1)=u):u=decide (f%2=1):=by
 rw [←h,Bool.eq_iff_iff,beq_iff_eq,decide_eq_true_iff];omega
theorem set7_below {a w:World} {B g:Nat} (h:Below B a w) (hg:B≤g) (u0 u1 u2 u3 u4 u5 u6:Value):Below B a (set7 w g u0 u1 u2 u3 u4 u5 u6) :=
 ((((((h.setCell (p:=⟨g,0,none⟩) hg u0).setCell (p:=⟨g,1,none⟩) hg u1).setCell (p:=⟨g,2,none⟩) hg u2).setCell (p:=⟨g,3,none⟩) hg u3).setCell (p:=⟨g,4,none⟩) hg u4).setCell (p:=⟨g,5,none⟩) hg u5).setCell (p:=⟨g,6,none⟩) hg u6
theorem results_cell_tmp {P:Program} {fn:Func} {p q:Tmp} {ty:TypeId} (h:fn.results=#[.cell p ty,.tmp q]) (tmps:Array Value) (w:World) (g:Nat) (t:TypeId) (cs:Array Value) (fr:Nat×Nat) (d:TypeDesc)
 (hp:tmps.getD p undef=.pointer (some ⟨g,0,none⟩)) (hg:w.heap[g]?=some (.cells cs t fr))
 (hu:P.underlying ty=some d) (hd:(match d with | .struct _ | .array _ _=>true|_=>false)=true) (hi:(P.info? ty).map (·.size)=some cs.size) :
 (results fn tmps).run P w=.ok (.tuple #[.agg cs,tmps.getD q undef]) w:=by
 have hp':tmps[p]?.getD undef=.pointer (some ⟨g,0,none⟩):=by simpa using hp
 simp [results,h,hp',asAddr,run_loadVar_row w g t ty cs fr d hg hu hd hi]
theorem wpList_assignX {P:Program} {ops:Array Oper} {rest:List Oper} {o:Oper} {a:Act} {w:World} {Q:Exit→Act→World→Prop} (hgd:o.guard=none) (c:Value) (ho:o.op=.assign (.const c)) (h:wpList P ops Q rest (a.put o.dst c) w):wpList P ops Q (o::rest) a w :=
 wpList_plain hgd fun K hK=>by
  unfold Oper.wp execOp
  simp only [ho,Sem.run_pure,Oper.upon_value,Act.eval]
  exact hK _ _ h
theorem Rd.farRow {w:World} {B size n g:Nat} {A:Option Addr} {xs:List Value} {t:TypeId} {cs:Array Value} (h:Rd w B size A n xs) (hk:Blk w g t cs) (hx:∀ u∈xs,u∉cs.toList) (cs':Array Value):Rd (w.setRow g cs') B size A n xs:=by
 refine ⟨h.1,fun hn=>?_⟩
 obtain ⟨a,e,hb,hc⟩:=h.2 hn
 refine ⟨a,e,hb,fun j v hv=>?_⟩
 have h1:=hc j v hv
 by_cases hg:(a.add j).block=g
 ·exfalso
  unfold World.cell? at h1
  unfold Blk at hk
  rw [hg,hk] at h1
  simp only at h1
  split at h1
  ·cases h1
  ·refine hx v (List.mem_of_getElem? hv) ?_
   rw [←Array.getElem?_toList] at h1
   exact List.mem_of_getElem? h1
 ·rw [←h1]
  exact cell_setRow_other w g cs' _ hg
theorem NumV.farRow {w:World} {B g n c:Nat} {b:Bool} {A:Option Addr} {z:Int} {t:TypeId} {cs:Array Value} (h:NumV w B b A n c z) (hk:Blk w g t cs) (hx:∀ u∈cs.toList,NoI u) (cs':Array Value):NumV (w.setRow g cs') B b A n c z :=
 ⟨h.sgn,h.len,h.rd.farRow hk (fun u hu hm=>by
  obtain ⟨k,_,rfl⟩:=List.mem_map.1 hu
  exact hx _ hm _ rfl) cs',h.hc,h.hm⟩
theorem Blk.row {w:World} {g:Nat} {t:TypeId} {cs:Array Value} (h:Blk w g t cs) (cs':Array Value):Blk (w.setRow g cs') g t cs':=setRow_heap w g cs cs' t (0,0) h
theorem noI7 (f0 f1 f2 f3 f4 f5:Bool) (A:Option Addr) (n c:Nat):∀ u∈(#[.bool f0,.bool f1,.bool f2,.bool f3,.bool f4,.bool f5,.slice A n c]:Array Value).toList,NoI u:=by
 intro u hu
 simp only [List.mem_cons,List.not_mem_nil,or_false] at hu
 rcases hu with rfl|rfl|rfl|rfl|rfl|rfl|rfl
 all_goals first|exact NoI.bool _|exact NoI.sl _ _ _
def SumRes (w:World) (b:List UInt8) (s:Value):Prop:=(readE b=0→SumRd w b s)∧(readE b≠0→s=.agg noSumA)
theorem SumRes.shape {w:World} {b:List UInt8} {s:Value} (h:SumRes w b s):∃ (f0 f1 f2 f3 f4 f5:Bool) (Z:Option Addr) (k c:Nat),s=.agg #[.bool f0,.bool f1,.bool f2,.bool f3,.bool f4,.bool f5,.slice Z k c]:=by
 by_cases e:readE b=0
 ·obtain ⟨bb,Z,k,c,rfl,_⟩:=h.1 e
  exact ⟨_,_,_,_,_,_,_,_,_,rfl⟩
 ·exact ⟨_,_,_,_,_,_,_,_,_,h.2 e⟩
theorem i64_b1 {q:Nat} (h:q=1):((q:Int)==1)=true:=by rw [beq_iff_eq];omega
theorem i64_n1 {q:Nat} (h:¬q=1):((q:Int)==1)=false:=by rw [beq_eq_false_iff_ne];omega
theorem i64_b0 {q:Nat} (h:q=0):((q:Int)==0)=true:=by rw [beq_iff_eq];omega
theorem i64_n0 {q:Nat} (h:¬q=0):((q:Int)==0)=false:=by rw [beq_eq_false_iff_ne];omega
theorem i64_lt {p q:Nat} (h:p<q):decide ((p:Int)<(q:Int))=true:=decide_eq_true (by omega)
theorem i64_nlt {p q:Nat} (h:¬p<q):decide ((p:Int)<(q:Int))=false:=decide_eq_false (by omega)
set_option maxRecDepth 20000 in
set_option maxHeartbeats 16000000 in
theorem read05_some (w:World) (B:Nat) (A:Option Addr) (c:Nat) (b:List UInt8) (hR:Rd w B 1 A b.length (u8s b)) (hB:B≤w.heap.size) (hl:b.length≤9223372036854775807) (h1:1≤b.length) :
 Calls Tryz.prog 69 #[.slice A b.length c] w fun y w'=>∃ s:Value,y=.returned (.tuple #[s,.int .i64 (readE b:Int)])∧Below w.heap.size w w'∧SumRes w' b s:=by
 have HR:=Lib.hid hR
 obtain ⟨a,rfl,hab,k0⟩:=hR.byte (k:=0) (by omega)
 have hc:∀ W,Below w.heap.size w W→∀ i (h:i<b.length),W.cell? (a.add i)=some (.int .u8 ((hd b i:Nat):Int)):=fun W hb i h=>by
  obtain ⟨a',e,_,hx⟩:=(HR.out.below (hb.mono hB)).byte h
  injection e with e;subst e
  rw [hd_get _ _ h];exact hx
 clear k0 hR
 have HC:=Lib.hid hc
 have x0:hd b 0<256:=UInt8.toNat_lt _
 have x1:hd b 1<256:=UInt8.toNat_lt _
 have x2:hd b 2<256:=UInt8.toNat_lt _
 have d0:=hc w (belR w) 0 (by omega)
 rw [add_zero'] at d0
 have habw:a.block<w.heap.size:=Nat.lt_of_lt_of_le hab hB
 have HB0:=Lib.hid (fun h=>headE_bad0 (b:=b) (by omega) h)
 have HB1:=Lib.hid (fun h0 h=>headE_bad1 (b:=b) h0 h)
 have HB2:=Lib.hid (fun h0 h=>headE_bad2 (b:=b) h0 h)
 have HL1:=Lib.hid (fun h0 h=>readE_len1 (b:=b) h0 h)
 have HL2:=Lib.hid (fun h0 h h2=>readE_len2 (b:=b) h0 h h2)
 have HD:=Lib.hid (show ∀ i,hd b i<256 from fun i=>UInt8.toNat_lt _)
 clear hc
 obtain ⟨f,hf⟩:∃ f,hd b 0=f:=⟨_,rfl⟩
 obtain ⟨q5,hq5⟩:∃ q5,f/32=q5:=⟨_,rfl⟩
 obtain ⟨q4,hq4⟩:∃ q4,f/16=q4:=⟨_,rfl⟩
 obtain ⟨r4,hr4⟩:∃ r4,q4%2=r4:=⟨_,rfl⟩
 rw [hf] at x0 d0 HB0 HB1 HB2 HL1 HL2
 rw [hq5,hq4,hr4] at HB0 HL1 HL2
 rw [hq5,hq4,hr4] at HB2
 rw [hq4,hr4] at HB1
 have e32:(f:Int)/32=(q5:Int):=by omega
 have e16:(f:Int)/16=(q4:Int):=by omega
 have e2:(q4:Int)%2=(r4:Int):=by omega
 have wf:IntKind.i64.wrap (f:Int)=(f:Int):=IntWalk.i64_in _ (by omega)
 have tl0:((b.length:Int)==0)=false:=i64_n0 (by omega)
 have q1:(0:Int)<(b.length:Int):=by omega
 have HF:=Lib.hid hf;have HQ:=Lib.hid (And.intro hq5 (And.intro hq4 hr4))
 clear hf hq5 hq4 hr4
 go_enter Tryz.func69,Tryz.ntmps69
 go_upto_region 5 with (fail)
 go_cut [35] (fun s35 wx=>wx=(w.alloc (.cells #[.bool false,.bool false,.bool false,.bool false,.bool false,.bool false,.slice none 0 0] 136)).alloc (.cells #[.bool false,.bool false,.bool false,.bool false,.bool false,.bool false,.slice none 0 0] 136)∧s35=.bool (decide (63<f∨(q5=1∧r4=0))))
 case first =>
  by_cases c1:63<f
  ·as_aux_lemma =>
   have t1:decide ((63:Int)<(f:Int))=true:=i64_lt c1
   have HC1:=Lib.hid c1;clear c1
   go_wp2
   go_meet
   case rel=>exact ⟨rfl,congrArg Value.bool (decide_eq_true (Or.inl HC1.out)).symm⟩
  ·have t1:decide ((63:Int)<(f:Int))=false:=i64_nlt c1
   have HC1:=Lib.hid c1;clear c1
   by_cases c2:q5=1
   ·have t2:=i64_b1 c2
    have HC2:=Lib.hid c2;clear c2
    by_cases c3:r4=0
    ·as_aux_lemma =>
     have t3:=i64_b0 c3
     have HC3:=Lib.hid c3;clear c3
     go_wp2
     go_meet
     case rel=>exact ⟨rfl,congrArg Value.bool (decide_eq_true (p:=63<f∨(q5=1∧r4=0)) (.inr ⟨HC2.out,HC3.out⟩)).symm⟩
    ·as_aux_lemma =>
     have t3:=i64_n0 c3
     have HC3:=Lib.hid c3;clear c3
     go_wp2
     go_meet
     case rel=>exact ⟨rfl,congrArg Value.bool (decide_eq_false (p:=63<f∨(q5=1∧r4=0)) (fun h=>h.elim HC1.out fun h=>HC3.out h.2)).symm⟩
   ·as_aux_lemma =>
    have t2:=i64_n1 c2
    have HC2:=Lib.hid c2;clear c2
    go_wp2
    go_meet
    case rel=>exact ⟨rfl,congrArg Value.bool (decide_eq_false (p:=63<f∨(q5=1∧r4=0)) (fun h=>h.elim HC1.out fun h=>HC2.out h.1)).symm⟩
 case rest =>
  obtain ⟨rfl,rfl⟩:=hcut
  by_cases hbad:63<f∨(q5=1∧r4=0)
  ·as_aux_lemma =>
   have er:=HB0.out hbad
   have tb:=decide_eq_true hbad
   rw [tb]
   have HE:=Lib.hid er
   clear er hbad tb
   go_wp2
   obtain ⟨r0,r1,r2,r3,r4',r5,r6⟩:=((Blk.new w 136 #[.bool false,.bool false,.bool false,.bool false,.bool false,.bool false,.slice none 0 0]).alloc (.cells #[.bool false,.bool false,.bool false,.bool false,.bool false,.bool false,.slice none 0 0] 136)).sum7
   refine bodyPost_ret (v:=.tuple #[.agg #[.bool false,.bool false,.bool false,.bool false,.bool false,.bool false,.slice none 0 0],.int .i64 6]) (by simp [results,Tryz.results69,go_sem, *]) rfl ?_
   exact ⟨_,by rw [HE.out];rfl,belA (belA (belR w) _) _,fun h=>absurd (HE.out.symm.trans h) (by decide),fun _=>rfl⟩
  ·have tb:=decide_eq_false hbad
   rw [tb]
   have HG0:=Lib.hid hbad
   clear hbad tb
   by_cases hl1:b.length=1
   ·as_aux_lemma =>
    have tl1:((b.length:Int)==1)=true:=i64_b1 hl1
    have HE:=Lib.hid (HL1.out hl1 HG0.out)
    clear hl1
    go_wp2
    obtain ⟨r0,r1,r2,r3,r4',r5,r6⟩:=((Blk.new w 136 #[.bool false,.bool false,.bool false,.bool false,.bool false,.bool false,.slice none 0 0]).alloc (.cells #[.bool false,.bool false,.bool false,.bool false,.bool false,.bool false,.slice none 0 0] 136)).sum7
    refine bodyPost_ret (v:=.tuple #[.agg #[.bool false,.bool false,.bool false,.bool false,.bool false,.bool false,.slice none 0 0],.int .i64 5]) (by simp [results,Tryz.results69,go_sem, *]) rfl ?_
    exact ⟨_,by rw [HE.out];rfl,belA (belA (belR w) _) _,fun h=>absurd (HE.out.symm.trans h) (by decide),fun _=>rfl⟩
   have tl1:((b.length:Int)==1)=false:=i64_n1 hl1
   have hl2:2≤b.length:=by omega
   have q2:(1:Int)<(b.length:Int):=by omega
   have d1:=HC.out w (belR w) 1 (by omega)
   have d1b:=d1
   rw [show (1:Nat)=0+1 from rfl,add_succ] at d1b
   simp only [show (0:Nat)+1=1 from rfl] at d1b
   obtain ⟨y1,hy1⟩:∃ y1,hd b 1=y1:=⟨_,rfl⟩
   rw [hy1] at d1 d1b x1
   simp only [hy1] at HB1 HB2 HL2
   have w1:IntKind.i64.wrap (y1:Int)=(y1:Int):=IntWalk.i64_in _ (by omega)
   have HY1:=Lib.hid hy1
   obtain ⟨pl,hpl⟩:∃ pl,((r4:Int)==1)=pl:=⟨_,rfl⟩
   obtain ⟨ng,hng⟩:∃ ng,((q5:Int)==1)=ng:=⟨_,rfl⟩
   have hr4:r4<2:=by have:=HQ.out.2.2;omega
   clear hl1 hy1
   go_upto_region 11 with (fail)
   go_cut [61] (fun s61 wx=>wx=(w.alloc (.cells #[.bool false,.bool false,.bool false,.bool false,.bool false,.bool false,.slice none 0 0] 136)).alloc (.cells #[.bool false,.bool false,.bool false,.bool false,.bool false,.bool false,.slice none 0 0] 136)∧s61=.bool (decide (69<y1∨(0<y1∧r4=0))))
   case first =>
    by_cases c1:69<y1
    ·as_aux_lemma =>
     have t1:decide ((69:Int)<(y1:Int))=true:=i64_lt c1
     have HC1:=Lib.hid c1;clear c1
     go_wp2
     go_meet
     case rel=>exact ⟨rfl,congrArg Value.bool (decide_eq_true (p:=69<y1∨(0<y1∧r4=0)) (.inl HC1.out)).symm⟩
    ·have t1:decide ((69:Int)<(y1:Int))=false:=i64_nlt c1
     have HC1:=Lib.hid c1;clear c1
     by_cases c2:0<y1
     ·have t2:decide ((0:Int)<(y1:Int))=true:=i64_lt c2
      have HC2:=Lib.hid c2;clear c2
      by_cases c3:r4=0
      ·as_aux_lemma =>
       obtain rfl:pl=false:=by rw [←hpl];exact i64_n1 (by omega)
       have HC3:=Lib.hid c3;clear c3
       go_wp2
       go_meet
       case rel=>exact ⟨rfl,congrArg Value.bool (decide_eq_true (p:=69<y1∨(0<y1∧r4=0)) (.inr ⟨HC2.out,HC3.out⟩)).symm⟩
      ·as_aux_lemma =>
       obtain rfl:pl=true:=by rw [←hpl];exact i64_b1 (by omega)
       have HC3:=Lib.hid c3;clear c3
       go_wp2
       go_meet
       case rel=>exact ⟨rfl,congrArg Value.bool (decide_eq_false (p:=69<y1∨(0<y1∧r4=0)) (fun h=>h.elim HC1.out fun h=>HC3.out h.2)).symm⟩
     ·as_aux_lemma =>
      have t2:decide ((0:Int)<(y1:Int))=false:=i64_nlt c2
      have HC2:=Lib.hid c2;clear c2
      go_wp2
      go_meet
      case rel=>exact ⟨rfl,congrArg Value.bool (decide_eq_false (p:=69<y1∨(0<y1∧r4=0)) (fun h=>h.elim HC1.out fun h=>HC2.out h.1)).symm⟩
   case rest =>
    obtain ⟨rfl,rfl⟩:=hcut
    by_cases hbad:69<y1∨(0<y1∧r4=0)
    ·as_aux_lemma =>
     have er:=HB1.out (by omega) hbad
     have tb:=decide_eq_true hbad
     rw [tb]
     have HE:=Lib.hid er
     clear er hbad tb
     go_wp2
     obtain ⟨r0,r1,r2,r3,r4',r5,r6⟩:=((Blk.new w 136 #[.bool false,.bool false,.bool false,.bool false,.bool false,.bool false,.slice none 0 0]).alloc (.cells #[.bool false,.bool false,.bool false,.bool false,.bool false,.bool false,.slice none 0 0] 136)).sum7
     refine bodyPost_ret (v:=.tuple #[.agg #[.bool false,.bool false,.bool false,.bool false,.bool false,.bool false,.slice none 0 0],.int .i64 6]) (by simp [results,Tryz.results69,go_sem, *]) rfl ?_
     exact ⟨_,by rw [HE.out];rfl,belA (belA (belR w) _) _,fun h=>absurd (HE.out.symm.trans h) (by decide),fun _=>rfl⟩
    have tb:=decide_eq_false hbad
    rw [tb]
    have HG1:=Lib.hid hbad
    clear hbad tb
    by_cases hl3:b.length=2
    ·as_aux_lemma =>
     have tl2:((b.length:Int)==2)=true:=by rw [beq_iff_eq];omega
     have HE:=Lib.hid (HL2.out hl3 HG0.out HG1.out)
     clear hl3
     go_wp2
     obtain ⟨r0,r1,r2,r3,r4',r5,r6⟩:=((Blk.new w 136 #[.bool false,.bool false,.bool false,.bool false,.bool false,.bool false,.slice none 0 0]).alloc (.cells #[.bool false,.bool false,.bool false,.bool false,.bool false,.bool false,.slice none 0 0] 136)).sum7
     refine bodyPost_ret (v:=.tuple #[.agg #[.bool false,.bool false,.bool false,.bool false,.bool false,.bool false,.slice none 0 0],.int .i64 5]) (by simp [results,Tryz.results69,go_sem, *]) rfl ?_
     exact ⟨_,by rw [HE.out];rfl,belA (belA (belR w) _) _,fun h=>absurd (HE.out.symm.trans h) (by decide),fun _=>rfl⟩
    have tl2:((b.length:Int)==2)=false:=by rw [beq_eq_false_iff_ne];omega
    have q3:(2:Int)<(b.length:Int):=by omega
    have hl33:3≤b.length:=by omega
    have d2:=HC.out w (belR w) 2 (by omega)
    have d2b:=d2
    rw [show (2:Nat)=1+1 from rfl,add_succ] at d2b
    simp only [show (1:Nat)+1=2 from rfl] at d2b
    obtain ⟨n,hn⟩:∃ n,hd b 2=n:=⟨_,rfl⟩
    rw [hn] at d2 d2b x2
    simp only [hn] at HB2
    have w2:IntKind.i64.wrap (n:Int)=(n:Int):=IntWalk.i64_in _ (by omega)
    have w3:IntKind.i64.wrap ((n:Int)+(y1:Int))=(n:Int)+(y1:Int):=IntWalk.i64_in _ (by omega)
    have HY2:=Lib.hid hn
    clear hl3 hn
    go_upto_region 16 with (fail)
    go_cut [93] (fun s93 wx=>wx=(w.alloc (.cells #[.bool false,.bool false,.bool false,.bool false,.bool false,.bool false,.slice none 0 0] 136)).alloc (.cells #[.bool false,.bool false,.bool false,.bool false,.bool false,.bool false,.slice none 0 0] 136)∧s93=.bool (decide (70<n+y1∨(0<n∧r4=0)∨(n=0∧(0<y1∨q5=1)))))
    case first =>
     by_cases c1:70<n+y1
     ·as_aux_lemma =>
      have t1:decide ((70:Int)<(n:Int)+(y1:Int))=true:=decide_eq_true (by omega)
      have HC1:=Lib.hid c1;clear c1
      go_wp2
      go_meet
      case rel=>exact ⟨rfl,congrArg Value.bool (decide_eq_true (p:=70<n+y1∨(0<n∧r4=0)∨(n=0∧(0<y1∨q5=1))) (.inl HC1.out)).symm⟩
     ·have t1:decide ((70:Int)<(n:Int)+(y1:Int))=false:=decide_eq_false (by omega)
      have HC1:=Lib.hid c1;clear c1
      by_cases c2:0<n
      ·have t2:decide ((0:Int)<(n:Int))=true:=i64_lt c2
       have t3:((n:Int)==0)=false:=i64_n0 (by omega)
       have HC2:=Lib.hid c2;clear c2
       by_cases c3:r4=0
       ·as_aux_lemma =>
        obtain rfl:pl=false:=by rw [←hpl];exact i64_n1 (by omega)
        have HC3:=Lib.hid c3;clear c3
        go_wp2
        go_meet
        case rel=>exact ⟨rfl,congrArg Value.bool (decide_eq_true (p:=70<n+y1∨(0<n∧r4=0)∨(n=0∧(0<y1∨q5=1))) (.inr (.inl ⟨HC2.out,HC3.out⟩))).symm⟩
       ·as_aux_lemma =>
        obtain rfl:pl=true:=by rw [←hpl];exact i64_b1 (by omega)
        have HC3:=Lib.hid c3;clear c3
        go_wp2
        go_meet
        case rel=>exact ⟨rfl,congrArg Value.bool (decide_eq_false (p:=70<n+y1∨(0<n∧r4=0)∨(n=0∧(0<y1∨q5=1))) (by have:=HC1.out;have:=HC2.out;have:=HC3.out;omega)).symm⟩
      ·have t2:decide ((0:Int)<(n:Int))=false:=i64_nlt c2
       have t3:((n:Int)==0)=true:=i64_b0 (by omega)
       have HC2:=Lib.hid c2;clear c2
       by_cases c4:0<y1
       ·as_aux_lemma =>
        have t4:decide ((0:Int)<(y1:Int))=true:=i64_lt c4
        have t4n:decide (0<y1)=true:=decide_eq_true c4
        have HC4:=Lib.hid c4;clear c4
        go_wp2
        go_meet
        case rel=>exact ⟨rfl,congrArg Value.bool (decide_eq_true (p:=70<n+y1∨(0<n∧r4=0)∨(n=0∧(0<y1∨q5=1))) (by have:=HC4.out;have:=HC2.out;omega)).symm⟩
       ·have t4:decide ((0:Int)<(y1:Int))=false:=i64_nlt c4
        have t4n:decide (0<y1)=false:=decide_eq_false c4
        have HC4:=Lib.hid c4;clear c4
        by_cases c5:q5=1
        ·as_aux_lemma =>
         obtain rfl:ng=true:=by rw [←hng];exact i64_b1 c5
         have HC5:=Lib.hid c5;clear c5
         go_wp2
         go_meet
         case rel=>exact ⟨rfl,congrArg Value.bool (decide_eq_true (p:=70<n+y1∨(0<n∧r4=0)∨(n=0∧(0<y1∨q5=1))) (by have:=HC5.out;have:=HC2.out;omega)).symm⟩
        ·as_aux_lemma =>
         obtain rfl:ng=false:=by rw [←hng];exact i64_n1 c5
         have HC5:=Lib.hid c5;clear c5
         go_wp2
         go_meet
         case rel=>exact ⟨rfl,congrArg Value.bool (decide_eq_false (p:=70<n+y1∨(0<n∧r4=0)∨(n=0∧(0<y1∨q5=1))) (by have:=HC1.out;have:=HC4.out;have:=HC5.out;have:=HC2.out;omega)).symm⟩
    case rest =>
     obtain ⟨rfl,rfl⟩:=hcut
     by_cases hbad:70<n+y1∨(0<n∧r4=0)∨(n=0∧(0<y1∨q5=1))
     ·as_aux_lemma =>
      have er:=HB2.out (by omega) (by omega)
      have tb:=decide_eq_true hbad
      rw [tb]
      have HE:=Lib.hid er
      clear er hbad tb
      go_wp2
      obtain ⟨r0,r1,r2,r3,r4',r5,r6⟩:=((Blk.new w 136 #[.bool false,.bool false,.bool false,.bool false,.bool false,.bool false,.slice none 0 0]).alloc (.cells #[.bool false,.bool false,.bool false,.bool false,.bool false,.bool false,.slice none 0 0] 136)).sum7
      refine bodyPost_ret (v:=.tuple #[.agg #[.bool false,.bool false,.bool false,.bool false,.bool false,.bool false,.slice none 0 0],.int .i64 6]) (by simp [results,Tryz.results69,go_sem, *]) rfl ?_
      exact ⟨_,by rw [HE.out];rfl,belA (belA (belR w) _) _,fun h=>absurd (HE.out.symm.trans h) (by decide),fun _=>rfl⟩
     have tb:=decide_eq_false hbad
     rw [tb]
     have HG2:=Lib.hid hbad
     clear hbad tb
     have h0:=headE_zero HF.out HQ.out HY1.out HY2.out HG0.out HG1.out HG2.out
     have er:=readE_words h0 hl33
     rw [HY2.out] at er
     obtain ⟨m,hm⟩:∃ m,y1+n=m:=⟨_,rfl⟩
     have hm70:m≤70:=by have:=HG2.out;omega
     have wadd:IntKind.i64.wrap ((y1:Int)+(n:Int))=(m:Int):=by rw [IntWalk.i64_in _ (by omega)];omega
     have HWS:Hid (∀ i,i<n→wordsE b n (n-i)=if b.length<3+4*i+4 then 5 else if (i=0∨i+1=n)∧wordB b i=0 then 6 else wordsE b n (n-(i+1))):=Lib.hid fun i hi=>words_step b n i hi
     have HWE:=Lib.hid (words_end b n)
     have HER:=Lib.hid er
     have HHM:=Lib.hid hm
     obtain ⟨W0,hW0⟩:∃ W0,W0=(w.alloc (.cells #[.bool false,.bool false,.bool false,.bool false,.bool false,.bool false,.slice none 0 0] 136)).alloc (.cells #[.bool false,.bool false,.bool false,.bool false,.bool false,.bool false,.slice none 0 0] 136):=⟨_,rfl⟩
     have hs0:W0.heap.size=w.heap.size+2:=by rw [hW0];simp
     have k0:Blk W0 w.heap.size 136 #[.bool false,.bool false,.bool false,.bool false,.bool false,.bool false,.slice none 0 0]:=by rw [hW0];exact (Blk.new w _ _).alloc _
     have k1:Blk W0 (w.heap.size+1) 136 #[.bool false,.bool false,.bool false,.bool false,.bool false,.bool false,.slice none 0 0]:=by
      rw [hW0]
      have:=Blk.new (w.alloc (.cells #[.bool false,.bool false,.bool false,.bool false,.bool false,.bool false,.slice none 0 0] 136)) 136 #[.bool false,.bool false,.bool false,.bool false,.bool false,.bool false,.slice none 0 0]
      rwa [show (w.alloc (.cells #[.bool false,.bool false,.bool false,.bool false,.bool false,.bool false,.slice none 0 0] 136)).heap.size=w.heap.size+1 from by simp] at this
     have b0:Below w.heap.size w W0:=by rw [hW0];exact belA (belA (belR w) _) _
     have hmk:=fun w=>run_make_row' (P:=Tryz.prog) 24 39 (.int .u32 0) 4 Tryz.underlying24 info_u32 rfl .i64 .i64 m (by omega) (by omega) w
     have HM0:Hid (MagW W0 (W0.alloc (.cells (madeCells #[.int .u32 0] m) 39)) W0.heap.size (magP (wordB b) m 0)):=Lib.hid (by
      refine ⟨?_,belA (belR W0) _⟩
      have e:(u32n (magP (wordB b) m 0)).toArray=madeCells #[.int .u32 0] m:=by rw [made_u32];simp [magP]
      rw [e]
      exact Blk.new W0 _ _)
     have HK0:=Lib.hid k0;have HK1:=Lib.hid k1;have HB0':=Lib.hid b0;have HSZ:=Lib.hid hs0
     rw [←hW0]
     clear d0 d1 d2 d1b d2b k0 k1 b0 hW0 er h0 hm hs0 HB0 HB1 HB2 HL1 HL2
     go_upto_region 18 with (fail)
     go_wp2
     clear hmk
     go_loopw [11] (fun i wr=>∃ k:Nat,k≤n∧i=.int .i64 (k:Int)∧Hid (MagW W0 wr W0.heap.size (magP (wordB b) m k))∧Hid (wordsE b n (n-k)=readE b)) (fun i _=>n-(intOf i).toNat)
     case atStart=>exact ⟨0,by omega,rfl,HM0.out,Lib.hid (by rw [Nat.sub_zero];exact HER.out.symm)⟩
     case round =>
      obtain ⟨i,hi,rfl,HM,HE⟩:=hrel
      by_cases hlt:i<n
      ·have hws:=HWS.out i hlt
       rw [HE.out] at hws
       have q4:(i:Int)<(n:Int):=by omega
       obtain ⟨m1,hm1⟩:∃ m1,m1+1=m:=⟨m-1,by have:=HHM.out;omega⟩
       obtain ⟨p,hp⟩:∃ p,p+i=m1:=⟨m1-i,by have:=HHM.out;omega⟩
       obtain ⟨n1,hn1⟩:∃ n1,n1+1=n:=⟨n-1,by omega⟩
       obtain ⟨i4,hi4⟩:∃ i4,4*i=i4:=⟨_,rfl⟩
       obtain ⟨i43,hi43⟩:∃ i43,3+i4=i43:=⟨_,rfl⟩
       have him:i<m:=by have:=HHM.out;omega
       have w51:IntKind.i64.wrap ((m:Int)-1)=(m1:Int):=by rw [IntWalk.i64_in _ (by omega)];omega
       have w53:IntKind.i64.wrap ((m1:Int)-(i:Int))=(p:Int):=by rw [IntWalk.i64_in _ (by omega)];omega
       have w39:IntKind.i64.wrap (4*(i:Int))=(i4:Int):=by rw [IntWalk.i64_in _ (by omega)];omega
       have w40:IntKind.i64.wrap (3+(i4:Int))=(i43:Int):=by rw [IntWalk.i64_in _ (by omega)];omega
       have w87:IntKind.i64.wrap ((n:Int)-1)=(n1:Int):=by rw [IntWalk.i64_in _ (by omega)];omega
       have hpi:m-1-i=p:=by omega
       have c1:(0:Int)≤(p:Int):=by omega
       have c2:(p:Int)<(m:Int):=by omega
       have hM1:MagW W0 wr W0.heap.size (midP b m i 0):=by rw [midP_zero b m i him];exact HM.out
       have HM1:=Lib.hid hM1;have HWS1:=Lib.hid hws
       clear hM1 hws HM HM0
       go_wp2
       go_loopw [12] (fun kv ws=>∃ k:Nat,k≤4∧kv=.int .i64 (k:Int)∧Hid (MagW W0 ws W0.heap.size (midP b m i k))∧(k=0∨3+4*i+k≤b.length)) (fun kv _=>4-(intOf kv).toNat)
       case atStart=>exact ⟨0,by omega,rfl,HM1,.inl rfl⟩
       case round =>
        obtain ⟨k,hk,rfl,HM,hkl⟩:=hrel
        obtain ⟨at',hat⟩:∃ at',i43+k=at':=⟨_,rfl⟩
        have w42:IntKind.i64.wrap ((i43:Int)+(k:Int))=(at':Int):=by rw [IntWalk.i64_in _ (by omega)];omega
        have hBw:Below w.heap.size w wr:=HB0'.out.trans (HM.out.2.mono (by have:=HSZ.out;omega))
        have hk1:=HK1.out.below HM.out.2 (by have:=HSZ.out;omega)
        have hk0:=HK0.out.below HM.out.2 (by have:=HSZ.out;omega)
        by_cases hk4:k<4
        ·have g1:decide ((k:Int)<4)=true:=decide_eq_true (by omega)
         by_cases hal:at'<b.length
         ·as_aux_lemma =>
          have g2:decide ((b.length:Int)≤(at':Int))=false:=decide_eq_false (by omega)
          have c3:(0:Int)≤(at':Int):=by omega
          have c4:(at':Int)<(b.length:Int):=by omega
          have y0:=HM.out.at (midP_at b m i k him)
          rw [hpi] at y0
          have z0:=HC.out wr hBw at' hal
          have hpx:=partB_lt b i k (by omega)
          have hpy:=HD.out at'
          have hps:=partB_succ b i k (by omega)
          rw [show 3+4*i+k=at' from by omega] at hps
          have hpz:partB b i k<16777216:=Nat.lt_of_lt_of_le hpx (by have:=Nat.pow_le_pow_right (show 0<256 by decide) (show k≤3 by omega);simpa using this)
          have wm1:IntKind.u32.wrap ((partB b i k:Int)*256)=((partB b i k*256:Nat):Int):=by rw [IntKind.wrap_u32];omega
          have wm2:IntKind.u32.wrap (((partB b i k*256:Nat):Int)+((hd b at':Nat):Int))=((partB b i (k+1):Nat):Int):=by rw [hps,IntKind.wrap_u32];omega
          have wy:IntKind.u32.wrap ((hd b at':Nat):Int)=((hd b at':Nat):Int):=by rw [IntKind.wrap_u32];omega
          have hfz:=HM.out.drew.1.frozen p
          have hcz:wr.drew.cell? ⟨W0.heap.size,p,none⟩=some (.int .u32 (partB b i k:Int)):=y0
          have HMN:Hid (MagW W0 (wr.drew.setCell ⟨W0.heap.size,p,none⟩ (.int .u32 (partB b i (k+1):Int))) W0.heap.size (midP b m i (k+1))):=Lib.hid (by
           have:=HM.out.drew.put (Nat.le_refl _) p (partB b i (k+1))
           rw [←hpi,midP_next,hpi] at this
           exact this)
          clear hpx hps hpz hpy hk0 hk1 hBw
          generalize partB b i k*256=px2 at *
          generalize partB b i (k+1)=pz at *
          generalize partB b i k=px at *
          generalize hd b at'=py at *
          go_upto_region 28 with (fail)
          go_still_tail 24,(by kernel_rfl)
          go_wp2
          go_roundw
          case rel=>exact ⟨k+1,by omega,by go_num,HMN,.inr (by omega)⟩
          case measure=>simp [intOf];omega
         ·have g2:decide ((b.length:Int)≤(at':Int))=true:=decide_eq_true (by omega)
          have hws:=HWS1.out
          rw [if_pos (by omega)] at hws
          have HB5:=Lib.hid hBw
          have HE:=Lib.hid hws
          have HK0w:=Lib.hid hk0
          have HK1w:=Lib.hid hk1
          clear hws HM hk0 hk1 hBw
          go_upto_region 27 with (fail)
          refine wp_region_lit ?_
          refine wpList_load_row rfl 136 _ rfl (w.heap.size+1) rfl 136 _ (0,0) _ HK1w.out Tryz.underlying136 rfl (by kernel_rfl) ?_
          refine wpList_store_row rfl 136 _ _ rfl w.heap.size _ rfl rfl 136 _ HK0w.out (by kernel_rfl) rfl (by kernel_rfl) ?_
          have HKZ:=Lib.hid (HK0w.out.row #[.bool false,.bool false,.bool false,.bool false,.bool false,.bool false,.slice none 0 0])
          have HBZ:=Lib.hid (below_setRow HB5.out (Nat.le_refl _) #[.bool false,.bool false,.bool false,.bool false,.bool false,.bool false,.slice none 0 0])
          generalize wr.setRow w.heap.size #[.bool false,.bool false,.bool false,.bool false,.bool false,.bool false,.slice none 0 0]=wz at *
          refine wpList_assignX rfl _ rfl ?_
          simp only [Act.put,List.setIfInBounds_toArray,List.set_cons_zero,List.set_cons_succ]
          refine wpList_nil ?_
          try simp only [Exit.then]
          rename_i hb_
          refine hb_ _ _ ?_
          clear hb_
          refine wp_ret ?_
          try go_big_unhide
          try simp only [Exit.inBlock,Exit.then]
          refine bodyPost_ret (v:=.tuple #[.agg #[.bool false,.bool false,.bool false,.bool false,.bool false,.bool false,.slice none 0 0],.int .i64 5]) (by refine results_cell_tmp Tryz.results69 _ _ w.heap.size 136 _ (0,0) _ ?_ HKZ.out Tryz.underlying136 rfl (by kernel_rfl);rfl) rfl ?_
          exact ⟨_,by rw [HE.out];rfl,HBZ.out,fun h=>absurd (HE.out.symm.trans h) (by decide),fun _=>rfl⟩
        ·obtain rfl:k=4:=by omega
         have hk5:3+4*i+4≤b.length:=by omega
         have hws:=HWS1.out
         rw [if_neg (by omega)] at hws
         rw [midP_four b m i him] at HM
         have z0:=HM.out.at (magP_at (wordB b) m (i+1) i (by omega) (by omega))
         rw [hpi] at z0
         have HMF:=HM
         have hwl:=wordB_lt b i
         have g1:decide (((4:Nat):Int)<4)=false:=by decide
         by_cases hfl:i=0∨i=n1
         ·by_cases hw0:wordB b i=0
          ·rw [if_pos ⟨by omega,hw0⟩] at hws
           have g4:((wordB b i:Int)==0)=true:=by rw [beq_iff_eq];omega
           clear hw0 HMF hwl
           generalize wordB b i=wd at *
           by_cases hi0:i=0
           ·have g3:((i:Int)==0)=true:=by rw [beq_iff_eq];omega
            obtain rfl:m1=p:=by omega
            clear hfl
            have HB5:=Lib.hid hBw
            have HE:=Lib.hid hws
            have HK0w:=Lib.hid hk0
            have HK1w:=Lib.hid hk1
            clear hws HM hk0 hk1 hBw
            go_upto_region 30 with (fail)
            refine wp_region_lit ?_
            refine wpList_load_row rfl 136 _ rfl (w.heap.size+1) rfl 136 _ (0,0) _ HK1w.out Tryz.underlying136 rfl (by kernel_rfl) ?_
            refine wpList_store_row rfl 136 _ _ rfl w.heap.size _ rfl rfl 136 _ HK0w.out (by kernel_rfl) rfl (by kernel_rfl) ?_
            have HKZ:=Lib.hid (HK0w.out.row #[.bool false,.bool false,.bool false,.bool false,.bool false,.bool false,.slice none 0 0])
            have HBZ:=Lib.hid (below_setRow HB5.out (Nat.le_refl _) #[.bool false,.bool false,.bool false,.bool false,.bool false,.bool false,.slice none 0 0])
            generalize wr.setRow w.heap.size #[.bool false,.bool false,.bool false,.bool false,.bool false,.bool false,.slice none 0 0]=wz at *
            refine wpList_assignX rfl _ rfl ?_
            simp only [Act.put,List.setIfInBounds_toArray,List.set_cons_zero,List.set_cons_succ]
            refine wpList_nil ?_
            try simp only [Exit.then]
            rename_i hb_
            refine hb_ _ _ ?_
            clear hb_
            refine wp_ret ?_
            try go_big_unhide
            try simp only [Exit.inBlock,Exit.then]
            refine bodyPost_ret (v:=.tuple #[.agg #[.bool false,.bool false,.bool false,.bool false,.bool false,.bool false,.slice none 0 0],.int .i64 6]) (by refine results_cell_tmp Tryz.results69 _ _ w.heap.size 136 _ (0,0) _ ?_ HKZ.out Tryz.underlying136 rfl (by kernel_rfl);rfl) rfl ?_
            exact ⟨_,by rw [HE.out];rfl,HBZ.out,fun h=>absurd (HE.out.symm.trans h) (by decide),fun _=>rfl⟩
           ·have g3:((i:Int)==0)=false:=by rw [beq_eq_false_iff_ne];omega
            have g5:((i:Int)==(n1:Int))=true:=by rw [beq_iff_eq];omega
            clear hfl
            have HB5:=Lib.hid hBw
            have HE:=Lib.hid hws
            have HK0w:=Lib.hid hk0
            have HK1w:=Lib.hid hk1
            clear hws HM hk0 hk1 hBw
            go_upto_region 30 with (fail)
            refine wp_region_lit ?_
            refine wpList_load_row rfl 136 _ rfl (w.heap.size+1) rfl 136 _ (0,0) _ HK1w.out Tryz.underlying136 rfl (by kernel_rfl) ?_
            refine wpList_store_row rfl 136 _ _ rfl w.heap.size _ rfl rfl 136 _ HK0w.out (by kernel_rfl) rfl (by kernel_rfl) ?_
            have HKZ:=Lib.hid (HK0w.out.row #[.bool false,.bool false,.bool false,.bool false,.bool false,.bool false,.slice none 0 0])
            have HBZ:=Lib.hid (below_setRow HB5.out (Nat.le_refl _) #[.bool false,.bool false,.bool false,.bool false,.bool false,.bool false,.slice none 0 0])
            generalize wr.setRow w.heap.size #[.bool false,.bool false,.bool false,.bool false,.bool false,.bool false,.slice none 0 0]=wz at *
            refine wpList_assignX rfl _ rfl ?_
            simp only [Act.put,List.setIfInBounds_toArray,List.set_cons_zero,List.set_cons_succ]
            refine wpList_nil ?_
            try simp only [Exit.then]
            rename_i hb_
            refine hb_ _ _ ?_
            clear hb_
            refine wp_ret ?_
            try go_big_unhide
            try simp only [Exit.inBlock,Exit.then]
            refine bodyPost_ret (v:=.tuple #[.agg #[.bool false,.bool false,.bool false,.bool false,.bool false,.bool false,.slice none 0 0],.int .i64 6]) (by refine results_cell_tmp Tryz.results69 _ _ w.heap.size 136 _ (0,0) _ ?_ HKZ.out Tryz.underlying136 rfl (by kernel_rfl);rfl) rfl ?_
            exact ⟨_,by rw [HE.out];rfl,HBZ.out,fun h=>absurd (HE.out.symm.trans h) (by decide),fun _=>rfl⟩
          ·rw [if_neg fun hh=>hw0 hh.2] at hws
           have HW5:=Lib.hid hws
           have g4:((wordB b i:Int)==0)=false:=by rw [beq_eq_false_iff_ne];omega
           clear hws hw0 HM hk0 hk1 hBw
           generalize wordB b i=wd at *
           by_cases hi0:i=0
           ·as_aux_lemma =>
            have g3:((i:Int)==0)=true:=by rw [beq_iff_eq];omega
            obtain rfl:m1=p:=by omega
            clear hfl
            go_wp2
            go_roundw
            case rel=>exact ⟨i+1,by omega,by go_num,HMF,Lib.hid HW5.out.symm⟩
            case measure=>simp [intOf];omega
           ·as_aux_lemma =>
            have g3:((i:Int)==0)=false:=by rw [beq_eq_false_iff_ne];omega
            have g5:((i:Int)==(n1:Int))=true:=by rw [beq_iff_eq];omega
            clear hfl
            go_wp2
            go_roundw
            case rel=>exact ⟨i+1,by omega,by go_num,HMF,Lib.hid HW5.out.symm⟩
            case measure=>simp [intOf];omega
         ·as_aux_lemma =>
          rw [if_neg fun hh=>by omega] at hws
          have HW5:=Lib.hid hws
          have g3:((i:Int)==0)=false:=by rw [beq_eq_false_iff_ne];omega
          have g5:((i:Int)==(n1:Int))=false:=by rw [beq_eq_false_iff_ne];omega
          clear hws HM hk0 hk1 hBw
          generalize wordB b i=wd at *
          go_wp2
          go_roundw
          case rel=>exact ⟨i+1,by omega,by go_num,HMF,Lib.hid HW5.out.symm⟩
          case measure=>simp [intOf];omega
      ·obtain rfl:i=n:=by omega
       have he:=HE.out
       rw [Nat.sub_self,HWE.out] at he
       have hBw:Below w.heap.size w wr:=HB0'.out.trans (HM.out.2.mono (by have:=HSZ.out;omega))
       have hk1:=HK1.out.below HM.out.2 (by have:=HSZ.out;omega)
       have hk0:=HK0.out.below HM.out.2 (by have:=HSZ.out;omega)
       obtain ⟨n4,hn4⟩:∃ n4,4*i=n4:=⟨_,rfl⟩
       obtain ⟨n43,hn43⟩:∃ n43,3+n4=n43:=⟨_,rfl⟩
       have w101:IntKind.i64.wrap (4*(i:Int))=(n4:Int):=by rw [IntWalk.i64_in _ (by omega)];omega
       have w102:IntKind.i64.wrap (3+(n4:Int))=(n43:Int):=by rw [IntWalk.i64_in _ (by omega)];omega
       by_cases hmo:3+4*i<b.length
       ·have g1:decide ((n43:Int)<(b.length:Int))=true:=decide_eq_true (by omega)
        have g1n:decide (n43<b.length)=true:=decide_eq_true (by omega)
        rw [if_pos hmo] at he
        have hws:=he
        clear he HM0 HE hmo
        have HB5:=Lib.hid hBw
        have HE:=Lib.hid hws.symm
        have HK0w:=Lib.hid hk0
        have HK1w:=Lib.hid hk1
        clear hws HM hk0 hk1 hBw
        go_upto_region 32 with (fail)
        refine wp_region_lit ?_
        refine wpList_load_row rfl 136 _ rfl (w.heap.size+1) rfl 136 _ (0,0) _ HK1w.out Tryz.underlying136 rfl (by kernel_rfl) ?_
        refine wpList_store_row rfl 136 _ _ rfl w.heap.size _ rfl rfl 136 _ HK0w.out (by kernel_rfl) rfl (by kernel_rfl) ?_
        have HKZ:=Lib.hid (HK0w.out.row #[.bool false,.bool false,.bool false,.bool false,.bool false,.bool false,.slice none 0 0])
        have HBZ:=Lib.hid (below_setRow HB5.out (Nat.le_refl _) #[.bool false,.bool false,.bool false,.bool false,.bool false,.bool false,.slice none 0 0])
        generalize wr.setRow w.heap.size #[.bool false,.bool false,.bool false,.bool false,.bool false,.bool false,.slice none 0 0]=wz at *
        refine wpList_assignX rfl _ rfl ?_
        simp only [Act.put,List.setIfInBounds_toArray,List.set_cons_zero,List.set_cons_succ]
        refine wpList_nil ?_
        try simp only [Exit.then]
        rename_i hb_
        refine hb_ _ _ ?_
        clear hb_
        refine wp_ret ?_
        try go_big_unhide
        try simp only [Exit.then]
        refine bodyPost_ret (v:=.tuple #[.agg #[.bool false,.bool false,.bool false,.bool false,.bool false,.bool false,.slice none 0 0],.int .i64 7]) (by refine results_cell_tmp Tryz.results69 _ _ w.heap.size 136 _ (0,0) _ ?_ HKZ.out Tryz.underlying136 rfl (by kernel_rfl);rfl) rfl ?_
        exact ⟨_,by rw [HE.out];rfl,HBZ.out,fun h=>absurd (HE.out.symm.trans h) (by decide),fun _=>rfl⟩
       ·have g1:decide ((n43:Int)<(b.length:Int))=false:=decide_eq_false (by omega)
        have g1n:decide (n43<b.length)=false:=decide_eq_false (by omega)
        rw [if_neg hmo] at he
        have HE0:=Lib.hid he.symm
        have hml:(magP (wordB b) m i).length=m:=magP_len _ _ _ (by have:=HHM.out;omega)
        have hrw:=HM.out.rd
        have hnm:=num02_any wr wr.heap.size (some ⟨W0.heap.size,0,none⟩) m (magP (wordB b) m i) hrw (magP_mem (wordB_lt b) (by decide)) (by omega) (Nat.le_refl _)
        rw [hml] at hnm
        have HNM:=Lib.hid hnm
        have HSUMV:=Lib.hid (show vw (magP (wordB b) (hd b 1+hd b 2) (hd b 2))=vw (magP (wordB b) m i) by rw [HY1.out,HY2.out,HHM.out])
        generalize vw (magP (wordB b) m i)=VW at *
        obtain ⟨u0,hu0⟩:∃ u0,((f:Int)%2==1)=u0:=⟨_,rfl⟩
        obtain ⟨u1,hu1⟩:∃ u1,((f:Int)/2%2==1)=u1:=⟨_,rfl⟩
        obtain ⟨u2,hu2⟩:∃ u2,((f:Int)/4%2==1)=u2:=⟨_,rfl⟩
        obtain ⟨u3,hu3⟩:∃ u3,((f:Int)/8%2==1)=u3:=⟨_,rfl⟩
        have HFL:=Lib.hid (And.intro (flag_of1 u0 hu0) (And.intro (flag_of (k:=2) x0 u1 hu1) (And.intro (flag_of (k:=4) x0 u2 hu2) (And.intro (flag_of (k:=8) x0 u3 hu3) (show pl=decide (f/16%2=1) by rw [←hpl,Bool.eq_iff_iff,beq_iff_eq,decide_eq_true_iff,HQ.out.2.1,HQ.out.2.2];omega)))))
        have HNG:=Lib.hid (show ng=decide (f/32=1) by rw [←hng,Bool.eq_iff_iff,beq_iff_eq,decide_eq_true_iff,HQ.out.1];omega)
        have HBW:=Lib.hid hBw;have HK0v:=Lib.hid hk0;have HK1v:=Lib.hid hk1
        have hgl:=hk1.lt
        have hgl0:=hk0.lt
        clear he HM0 HE hmo hml hrw hnm HM hBw hk0 hk1 hpl hng
        go_upto_region 34 with (first
         | (go_at_call 137;(with_reducible refine HNM.out.mono ?_);rintro y w6 ⟨bb,ZA,zk,zc,rfl,hv6,hb6⟩;have HK6:=Lib.hid (HK1v.out.below hb6 hgl);have HK60:=Lib.hid (HK0v.out.below hb6 hgl0);obtain ⟨v0,v1,v2,v3,v4,v5,v6⟩:=HK6.out.sum7;obtain ⟨f0,f1,f2,f3,f4,f5,f6⟩:=HK6.out.frz7;have HV6:=Lib.hid hv6;have HB6:=Lib.hid (HBW.out.trans (hb6.mono HBW.out.size));clear hv6 hb6)
         | fail)
        have hp7:=HV6.out.put7 (u0:=.bool u0) (u1:=.bool u1) (u2:=.bool u2) (u3:=.bool u3) (u4:=.bool pl) (u5:=.bool bb) (u6:=.slice ZA zk zc) HK6.out (noI7 _ _ _ _ _ _ _ _ _) (noI7 _ _ _ _ _ _ _ _ _)
        obtain ⟨w7,hw7⟩:∃ w7,w7=set7 w6 (w.heap.size+1) (.bool u0) (.bool u1) (.bool u2) (.bool u3) (.bool pl) (.bool bb) (.slice ZA zk zc):=⟨_,rfl⟩
        have HB7:=Lib.hid (set7_below HB6.out (show w.heap.size≤w.heap.size+1 by omega) (.bool u0) (.bool u1) (.bool u2) (.bool u3) (.bool pl) (.bool bb) (.slice ZA zk zc))
        have HZ7:Hid (w7.heap.size=w6.heap.size):=Lib.hid (by rw [hw7];unfold set7;simp)
        have HK70:Hid (Blk w7 w.heap.size 136 #[.bool false,.bool false,.bool false,.bool false,.bool false,.bool false,.slice none 0 0]):=Lib.hid (by
         rw [hw7];unfold set7
         exact ((((((HK60.out.far (p:=⟨w.heap.size+1,0,none⟩) (by show w.heap.size≠w.heap.size+1;omega) _).far (p:=⟨w.heap.size+1,1,none⟩) (by show w.heap.size≠w.heap.size+1;omega) _).far (p:=⟨w.heap.size+1,2,none⟩) (by show w.heap.size≠w.heap.size+1;omega) _).far (p:=⟨w.heap.size+1,3,none⟩) (by show w.heap.size≠w.heap.size+1;omega) _).far (p:=⟨w.heap.size+1,4,none⟩) (by show w.heap.size≠w.heap.size+1;omega) _).far (p:=⟨w.heap.size+1,5,none⟩) (by show w.heap.size≠w.heap.size+1;omega) _).far (p:=⟨w.heap.size+1,6,none⟩) (by show w.heap.size≠w.heap.size+1;omega) _)
        rw [←hw7] at hp7 HB7
        have HV7:=Lib.hid hp7.1;have HK7:=Lib.hid hp7.2
        unfold set7 at hw7
        rw [←hw7]
        clear hp7 hw7 v0 v1 v2 v3 v4 v5 v6 f0 f1 f2 f3 f4 f5 f6
        have HFIN:Hid (∀ (W8:World) (b8:Bool) (A8:Option Addr) (k8 c8:Nat),NumV W8 W8.heap.size b8 A8 k8 c8 (if ng then -((VW:Nat):Int) else ((VW:Nat):Int))→Below w.heap.size w W8→Blk W8 w.heap.size 136 #[.bool false,.bool false,.bool false,.bool false,.bool false,.bool false,.slice none 0 0]→∃ s:Value,Ending.returned (.tuple #[.agg #[.bool u0,.bool u1,.bool u2,.bool u3,.bool pl,.bool b8,.slice A8 k8 c8],.int .i64 0])=.returned (.tuple #[s,.int .i64 (readE b:Int)])∧Below w.heap.size w (W8.setRow w.heap.size #[.bool u0,.bool u1,.bool u2,.bool u3,.bool pl,.bool b8,.slice A8 k8 c8])∧SumRes (W8.setRow w.heap.size #[.bool u0,.bool u1,.bool u2,.bool u3,.bool pl,.bool b8,.slice A8 k8 c8]) b s):=Lib.hid fun W8 b8 A8 k8 c8 hv hb hk=>by
         refine ⟨_,by rw [HE0.out];rfl,below_setRow hb (Nat.le_refl _) _,fun _=>⟨b8,A8,k8,c8,?_,?_⟩,fun h=>absurd HE0.out h⟩
         ·obtain ⟨e0,e1,e2',e3,e4⟩:=HFL.out
          rw [HF.out,←e0,←e1,←e2',←e3,←e4]
         ·have h9:=hv.farRow hk (noI7 _ _ _ _ _ _ _ _ _) #[.bool u0,.bool u1,.bool u2,.bool u3,.bool pl,.bool b8,.slice A8 k8 c8]
          rw [HF.out,HSUMV.out,setRow_size]
          have e:(if ng then -((VW:Nat):Int) else ((VW:Nat):Int))=(if f/32=1 then -((VW:Nat):Int) else ((VW:Nat):Int)):=by
           rw [HNG.out]
           by_cases hq:f/32=1<;>simp [hq]
          rw [←e];exact h9
        cases ng with
        | false =>
          have HV8:Hid (NumV w7 w7.heap.size bb ZA zk zc (if false then -((VW:Nat):Int) else ((VW:Nat):Int))):=Lib.hid (by have:=HV7.out;rw [←HZ7.out] at this;exact this)
          go_upto_region 36 with (fail)
          refine wp_region_lit ?_
          refine wpList_load_row rfl 136 _ rfl (w.heap.size+1) rfl 136 _ (0,0) _ HK7.out Tryz.underlying136 rfl (by kernel_rfl) ?_
          refine wpList_store_row rfl 136 _ _ rfl w.heap.size _ rfl rfl 136 _ HK70.out (by kernel_rfl) rfl (by kernel_rfl) ?_
          have HKZ:=Lib.hid (HK70.out.row #[.bool u0,.bool u1,.bool u2,.bool u3,.bool pl,.bool bb,.slice ZA zk zc])
          have HFZ:=Lib.hid (HFIN.out w7 bb ZA zk zc HV8.out HB7.out HK70.out)
          generalize w7.setRow w.heap.size #[.bool u0,.bool u1,.bool u2,.bool u3,.bool pl,.bool bb,.slice ZA zk zc]=wz at *
          refine wpList_assignX rfl _ rfl ?_
          simp only [Act.put,List.setIfInBounds_toArray,List.set_cons_zero,List.set_cons_succ]
          refine wpList_nil ?_
          try simp only [Exit.then]
          rename_i hb_
          refine hb_ _ _ ?_
          clear hb_
          refine wp_ret ?_
          try go_big_unhide
          try simp only [Exit.inBlock,Exit.then]
          refine bodyPost_ret (v:=.tuple #[.agg #[.bool u0,.bool u1,.bool u2,.bool u3,.bool pl,.bool bb,.slice ZA zk zc],.int .i64 0]) (by refine results_cell_tmp Tryz.results69 _ _ w.heap.size 136 _ (0,0) _ ?_ HKZ.out Tryz.underlying136 rfl (by kernel_rfl);rfl) rfl ?_
          exact HFZ.out
        | true =>
          have x5:w7.cell? ⟨w.heap.size+1,5,none⟩=some (.bool bb):=HK7.out.cell 5
          have x6:w7.cell? ⟨w.heap.size+1,6,none⟩=some (.slice ZA zk zc):=HK7.out.cell 6
          have HNE:=Lib.hid (neg01_any w7 w7.heap.size bb ZA zk zc _ (by have:=HV7.out;rw [←HZ7.out] at this;exact this) (Nat.le_refl _))
          have hg7:=HK7.out.lt
          have hg70:=HK70.out.lt
          go_upto_region 36 with (go_at_call 138;(with_reducible refine HNE.out.mono ?_);rintro y w8 ⟨b8,A8,k8,c8,rfl,hv8,hb8⟩;have hk8:=HK7.out.below hb8 hg7;have z5:w8.cell? ⟨w.heap.size+1,5,none⟩=some (.bool bb):=hk8.cell 5;have z6:w8.cell? ⟨w.heap.size+1,6,none⟩=some (.slice ZA zk zc):=hk8.cell 6;have f5:=hk8.frozen 5;have f6:=hk8.frozen 6;have HK8:=Lib.hid hk8;have HK80:=Lib.hid (HK70.out.below hb8 hg70);have HV8:=Lib.hid hv8;have HB8:=Lib.hid (HB7.out.trans (hb8.mono HB7.out.size));clear hv8 hb8 hk8)
          have hv9:=(HV8.out.far1 HK8.out (noI7 _ _ _ _ _ _ _ _ _) 5 (.bool b8)).far1 (HK8.out.set_ 5 (.bool b8)) (noI7 _ _ _ _ _ b8 _ _ _) 6 (.slice A8 k8 c8)
          have HK9:Hid (Blk ((w8.setCell ⟨w.heap.size+1,5,none⟩ (.bool b8)).setCell ⟨w.heap.size+1,6,none⟩ (.slice A8 k8 c8)) (w.heap.size+1) 136 #[.bool u0,.bool u1,.bool u2,.bool u3,.bool pl,.bool b8,.slice A8 k8 c8]):=Lib.hid ((HK8.out.set_ 5 (.bool b8)).set_ 6 (.slice A8 k8 c8))
          have HK90:=Lib.hid ((HK80.out.far (p:=⟨w.heap.size+1,5,none⟩) (by show w.heap.size≠w.heap.size+1;omega) (.bool b8)).far (p:=⟨w.heap.size+1,6,none⟩) (by show w.heap.size≠w.heap.size+1;omega) (.slice A8 k8 c8))
          have HB9:=Lib.hid ((HB8.out.setCell (p:=⟨w.heap.size+1,5,none⟩) (Nat.le_succ _) (.bool b8)).setCell (p:=⟨w.heap.size+1,6,none⟩) (Nat.le_succ _) (.slice A8 k8 c8))
          have HV9:Hid (NumV ((w8.setCell ⟨w.heap.size+1,5,none⟩ (.bool b8)).setCell ⟨w.heap.size+1,6,none⟩ (.slice A8 k8 c8)) ((w8.setCell ⟨w.heap.size+1,5,none⟩ (.bool b8)).setCell ⟨w.heap.size+1,6,none⟩ (.slice A8 k8 c8)).heap.size b8 A8 k8 c8 (if true then -((VW:Nat):Int) else ((VW:Nat):Int))):=Lib.hid ⟨hv9.sgn,hv9.len,hv9.rd.more (by simp),hv9.hc,hv9.hm⟩
          clear hv9 z5 z6 f5 f6 x5 x6
          generalize (w8.setCell ⟨w.heap.size+1,5,none⟩ (.bool b8)).setCell ⟨w.heap.size+1,6,none⟩ (.slice A8 k8 c8)=w9 at *
          refine wp_region_lit ?_
          refine wpList_load_row rfl 136 _ rfl (w.heap.size+1) rfl 136 _ (0,0) _ HK9.out Tryz.underlying136 rfl (by kernel_rfl) ?_
          refine wpList_store_row rfl 136 _ _ rfl w.heap.size _ rfl rfl 136 _ HK90.out (by kernel_rfl) rfl (by kernel_rfl) ?_
          have HKZ:=Lib.hid (HK90.out.row #[.bool u0,.bool u1,.bool u2,.bool u3,.bool pl,.bool b8,.slice A8 k8 c8])
          have HFZ:=Lib.hid (HFIN.out w9 b8 A8 k8 c8 HV9.out HB9.out HK90.out)
          generalize w9.setRow w.heap.size #[.bool u0,.bool u1,.bool u2,.bool u3,.bool pl,.bool b8,.slice A8 k8 c8]=wz at *
          refine wpList_assignX rfl _ rfl ?_
          simp only [Act.put,List.setIfInBounds_toArray,List.set_cons_zero,List.set_cons_succ]
          refine wpList_nil ?_
          try simp only [Exit.then]
          rename_i hb_
          refine hb_ _ _ ?_
          clear hb_
          refine wp_ret ?_
          try go_big_unhide
          try simp only [Exit.inBlock,Exit.then]
          refine bodyPost_ret (v:=.tuple #[.agg #[.bool u0,.bool u1,.bool u2,.bool u3,.bool pl,.bool b8,.slice A8 k8 c8],.int .i64 0]) (by refine results_cell_tmp Tryz.results69 _ _ w.heap.size 136 _ (0,0) _ ?_ HKZ.out Tryz.underlying136 rfl (by kernel_rfl);rfl) rfl ?_
          exact HFZ.out
theorem read05_any (w:World) (B:Nat) (A:Option Addr) (c:Nat) (b:List UInt8) (hR:Rd w B 1 A b.length (u8s b)) (hB:B≤w.heap.size) (hl:b.length≤9223372036854775807) :
 Calls Tryz.prog 69 #[.slice A b.length c] w fun y w'=>∃ s:Value,y=.returned (.tuple #[s,.int .i64 (readE b:Int)])∧Below w.heap.size w w'∧SumRes w' b s:=by
 rcases Nat.eq_zero_or_pos b.length with h|h
 ·have e:=readE_len0 h
  rw [e,h]
  exact (read05_nil w A c).mono fun y w' ⟨hy,hb⟩=>⟨_,hy,hb,fun h0=>absurd (e.symm.trans h0) (by decide),fun _=>rfl⟩
 ·exact read05_some w B A c b hR hB hl h
end Go.Proofs.YtfhmaincnlaapaaGreat
