/- The law AggPuts. -/
import Derived.Deep.RegionHeld3
import Derived.Deep.RegionLawGrows
import Derived.Test.YtfhmaincnlaapaaGreatTrVcs
import Derived.Test.YtfhmaincnlaapaaGreatTrRefCode
import Derived.Test.YtfhmaincnlaapaaGreatTrRefRead
import Derived.Test.YtfhmaincnlaapaaGreatTrGetFWalks
import Derived.Test.YtfhmaincnlaapaaGreatTrBufSmall
import Derived.Test.YtfhmaincnlaapaaGreatTrFnOld
import Derived.Test.YtfhmaincnlaapaaGreatTrBufOutKeep
import Derived.Test.YtfhmaincnlaapaaGreatTrRefCheck
import Derived.Test.YtfhmaincnlaapaaGreatTrCellGet
import Derived.Test.YtfhmaincnlaapaaGreatTrFactGet
import Derived.Test.YtfhmaincnlaapaaGreatTrSpaceViews
import Derived.Test.YtfhmaincnlaapaaGreatTrReadLeaf
import Derived.Test.YtfhmaincnlaapaaGreatTrRefSumRead
import Derived.Test.YtfhmaincnlaapaaGreatTrTGet14
namespace Go.Proofs.YtfhmaincnlaapaaGreat
open Go.ChangeShapes Go.WideShapes Go.ChangeAt Go.RowKit
set_option linter.unusedVariables false
theorem run_store_fC {P:Program} {w:World} {a:Addr} {m:Mode} (k:FloatKind) (b:Nat):(store a (.float k b) m).run P w=stored P w a (.float k b) m:=run_store P w a _ m rfl
attribute [local go_sem] run_store_fC
end Go.Proofs.YtfhmaincnlaapaaGreat
namespace Go.Proofs.YtfhmaincnlaapaaGreat
open Go.ChangeShapes Go.WideShapes Go.ChangeAt Go.RowKit
set_option linter.unusedVariables false
theorem run_store_fQ {P:Program} {w:World} {a:Addr} {m:Mode} (k:FloatKind) (b:Nat):(store a (.float k b) m).run P w=stored P w a (.float k b) m:=run_store P w a _ m rfl
attribute [local go_sem] run_store_fQ
end Go.Proofs.YtfhmaincnlaapaaGreat
namespace Go.Proofs.YtfhmaincnlaapaaGreat.Sy
open Go.ChangeShapes Go.WideShapes Go.ChangeAt Go.RowKit
set_option linter.unusedVariables false
theorem wh_rep {w:World} {base:Nat} {F:Nat→Prop} (hF:∀ b,base≤b→b<w.heap.size→F b):∀ {l:List WholeS} {xs:List Value},WhO w base l xs→RepL w F (l.flatMap encWh) xs
 | [],xs,h=>by cases h;exact .nil
 | X::l,xs,h=>by
   obtain ⟨v,rest,rfl,ho,hr⟩:=h
   refine RepL.app (a:=encWh X) ?_ (wh_rep hF hr)
   have hv:=own_rep ho hF (cs:=X.sq.flatMap encU32n) (by
    rw [show X.sq.flatMap encU32n=(u32n X.sq).map .v from flat_v _ _];exact repL_v fun u hu=>(List.mem_map.1 hu).elim fun z hz=>by rw [←hz.2];rfl)
   exact (RepL.one.2 (.v _ rfl)).app ((RepL.one.2 (.v _ rfl)).app ((RepL.one.2 hv).app ((RepL.one.2 (.v _ rfl)).app (RepL.one.2 (.v _ rfl)))))
theorem re_rep {w:World} {base:Nat} {F:Nat→Prop} (hF:∀ b,base≤b→b<w.heap.size→F b):∀ {l:List RealS} {xs:List Value},ReO w base l xs→RepL w F (l.flatMap encRe) xs
 | [],xs,h=>by cases h;exact .nil
 | X::l,xs,h=>by
   obtain ⟨v,rest,rfl,ho,hr⟩:=h
   refine RepL.app (a:=encRe X) ?_ (re_rep hF hr)
   have hv:=own_rep ho hF (cs:=X.sum.flatMap encU8) (by
    rw [show X.sum.flatMap encU8=(u8s X.sum).map .v from flat_v _ _];exact repL_v fun u hu=>(List.mem_map.1 hu).elim fun z hz=>by rw [←hz.2];rfl)
   exact (RepL.one.2 hv).app ((RepL.one.2 (.v _ rfl)).app (RepL.one.2 (.v _ rfl)))
def celsT (l:List CellS):AV:=.lst l.length (l.flatMap encCl)
def celsK (l:List CellS):AV:=.lst l.length (l.flatMap encClK)
section
variable {w:World} {F:Nat→Prop}
theorem clsK_of:∀ {l:List CellS} {us:List Value},RepL w F (l.flatMap encClK) us→(∀ C∈l,okCl C)→∃ m:List CellS,m.length=l.length∧sameL l m=true∧(∀ C∈m,okCl C)∧RepL w F (m.flatMap encCl) us
 | [],us,h,_=>⟨[],rfl,rfl,(fun Y hY=>by cases hY),h⟩
 | X::l,us,h,ho=>by
   obtain ⟨a,b,rfl,h1,h2⟩:=RepL.cut (a:=encClK X) (b:=l.flatMap encClK) h
   obtain ⟨n,k1,k2,k3,k4⟩:=clK_of h1
   obtain ⟨m,q1,q2,q3,q4⟩:=clsK_of h2 fun C hC=>ho C (by simp [hC])
   have hX:=ho X (by simp)
   refine ⟨⟨X.key,X.count,X.ints,n⟩::m,by simp [q1],?_,fun Z hZ=>?_,k4.app q4⟩
   ·unfold sameL;rw [sameK_self k2,q2];rfl
   ·rcases List.mem_cons.1 hZ with rfl|hZ
    ·exact ⟨hX.1,hX.2.1,hX.2.2.1,k3⟩
    ·exact q3 Z hZ
theorem clsK_lst {l:List CellS} {u:Value} (ho:∀ C∈l,okCl C) (hr:Rep w F (celsK l) u):∃ m:List CellS,m.length=l.length∧sameL l m=true∧(∀ C∈m,okCl C)∧Rep w F (celsT m) u:=by
 unfold celsK at hr
 generalize hn:l.length=n at hr
 generalize hcs:l.flatMap encClK=cs at hr
 cases hr with
 | nil A c hm =>
   obtain rfl:=List.eq_nil_of_length_eq_zero hn
   exact ⟨[],hn,rfl,(fun Y hY=>by cases hY),.nil A c hm⟩
 | lst _ c _ a us h0 h1 h2 hFa hl h1' hu hr =>
   subst hcs
   obtain ⟨m,k1,k2,k3,k4⟩:=clsK_of (l:=l) ⟨hl,hr⟩ ho
   refine ⟨m,by omega,k2,k3,?_⟩
   unfold celsT
   rw [show m.length=n by omega]
   exact .lst n c _ a us h0 h1 h2 hFa k4.1 h1' hu k4.2
theorem cels_at {B:Nat} {l:List CellS} {u:Value} (hF:∀ b,F b→b<B) (ho:∀ C∈l,okCl C) (hr:Rep w F (celsT l) u):∃ A c,u=.slice A l.length c∧SlR cellR w B l A c :=
 Rp.sl_iff.1 ((Enc.sl enc_cl).bw hF (RepL.one.2 hr) ho)
end
theorem cels_open {E:Env} {l:List CellS} {u:Value} (hF:∀ b,E.F b→b<E.w.heap.size) (ho:∀ C∈l,okCl C) (h:Sees1 E (celsT l) u):∃ A c,u=.slice A l.length c∧SlR cellR E.w E.w.heap.size l A c:=cels_at hF ho h
theorem cels_openK {E:Env} {l:List CellS} {u:Value} (hF:∀ b,E.F b→b<E.w.heap.size) (ho:∀ C∈l,okCl C) (h:Sees1 E (celsK l) u):∃ m A c,sameL l m=true∧u=.slice A m.length c∧SlR cellR E.w E.w.heap.size m A c:=by
 obtain ⟨m,_,k2,k3,k4⟩:=clsK_lst ho (show Rep E.w E.F (celsK l) u from h)
 obtain ⟨A,c,e,hs⟩:=cels_at hF k3 k4
 exact ⟨m,A,c,k2,e,hs⟩
theorem sameL_self:∀ l:List CellS,sameL l l=true
 | []=>rfl
 | x::l=>by unfold sameL;rw [sameC_self,sameL_self l];rfl
theorem sameL_trans:∀ {l m:List CellS} (h:sameL l m=true) (k:List CellS),sameL k m=sameL k l
 | [],[],_,k=>rfl
 | x::l,y::m,h,[]=>rfl
 | x::l,y::m,h,z::k=>by
   unfold sameL at h
   rw [Bool.and_eq_true] at h
   unfold sameL
   rw [sameC_trans h.1,sameL_trans h.2]
 | [],_::_,h,_=>by unfold sameL at h;cases h
 | _::_,[],h,_=>by unfold sameL at h;cases h
theorem sameC_key {C D:CellS} (h:sameC C D=true):C.key=D.key:=by
 unfold sameC at h
 simp only [Bool.and_eq_true,decide_eq_true_iff] at h
 exact h.1.1.1
theorem rising_same:∀ {l m:List CellS} (h:sameL l m=true),risingC m=risingC l
 | [],[],_=>rfl
 | [x],[y],_=>rfl
 | x::x'::l,y::y'::m,h=>by
   unfold sameL at h
   rw [Bool.and_eq_true] at h
   have h2:=h.2
   have h3:=rising_same h2
   unfold sameL at h2
   rw [Bool.and_eq_true] at h2
   unfold risingC
   rw [sameC_key h.1,sameC_key h2.1,h3]
 | [],_::_,h=>by unfold sameL at h;cases h
 | _::_,[],h=>by unfold sameL at h;cases h
 | [x],y::y'::m,h=>by unfold sameL sameL at h;simp at h
 | x::x'::l,[y],h=>by unfold sameL sameL at h;simp at h
theorem rising_fnK {l:List CellS} (ho:∀ C∈l,okCl C):FnOk Tryz.prog 61 ⟨[celsK l],[],bz (risingC l),[]⟩ :=
 FnOk.of_calls rfl fun E vs hF hl hz=>by
  obtain ⟨u,rfl⟩:∃ u,vs=[u]:=List.length_eq_one_iff.1 hl
  obtain ⟨m,A,c,hs,rfl,hr⟩:=cels_openK hF ho (hz 0 _ u rfl rfl)
  rw [←rising_same hs]
  refine (rising15_any E.w E.w.heap.size A c m hr).mono ?_
  rintro y w' ⟨rfl,hd⟩
  exact ⟨rfl,hd.below (belR _)⟩
theorem same15_fnK {l m:List CellS} (hl':∀ C∈l,okCl C) (hm':∀ C∈m,okCl C):FnOk Tryz.prog 18 ⟨[celsT l,celsK m],[],bz (sameL l m),[]⟩ :=
 FnOk.of_calls rfl fun E vs hF hl hz=>by
  obtain ⟨u,v,rfl⟩:=len2 hl
  obtain ⟨A,c,rfl,hr⟩:=cels_open hF hl' (hz 0 _ u rfl rfl)
  obtain ⟨n,A',c',hs,rfl,hr'⟩:=cels_openK hF hm' (hz 1 _ v rfl rfl)
  rw [←sameL_trans hs]
  exact same15_any E.w E.w.heap.size A c l A' c' n hr hr' (Nat.le_refl _)
def encSht (s:Sht):List AV:=[iz s.k,uz (s.a:Nat),uz (s.b:Nat),bysT s.d]
theorem sht_open {E:Env} {s:Sht} {u:Value} (hF:∀ b,E.F b→b<E.w.heap.size) (h:Sees1 E (.agg (encSht s)) u):∃ A c,u=.agg #[.int .i64 s.k,.int .u64 (s.a:Int),.int .u64 (s.b:Int),.slice A s.d.length c]∧Rd E.w E.w.heap.size 1 A s.d.length (u8s s.d)∧s.d.length≤c∧c≤maxLen:=by
 obtain ⟨us,rfl,hl,hs⟩:=h
 obtain ⟨a,b,c,d,rfl⟩:∃ a b c d,us=[a,b,c,d]:=by
  match us,hl with
  | [a,b,c,d],_=>exact ⟨a,b,c,d,rfl⟩
 obtain ⟨rfl,_⟩:=(hs 0 _ a rfl rfl).1
 obtain ⟨rfl,_⟩:=(hs 1 _ b rfl rfl).1
 obtain ⟨rfl,_⟩:=(hs 2 _ c rfl rfl).1
 obtain ⟨A,q,rfl,h1,h2,h3⟩:=bytes_openC hF (show Sees1 E (.lst s.d.length (byL s.d)) d from (hs 3 _ d rfl rfl).1)
 exact ⟨A,q,rfl,h1,h2,h3⟩
theorem ce_rep {w:World} {base:Nat} {F:Nat→Prop} (hF:∀ b,base≤b→b<w.heap.size→F b):∀ {l:List CellS} {xs:List Value},CeO w base l xs→RepL w F (l.flatMap encCl) xs
 | [],xs,h=>by cases h;exact .nil
 | C::l,xs,h=>by
   obtain ⟨A2,c2,A3,c3,rest,rfl,ho,hr⟩:=h
   obtain ⟨ys,o1,o2⟩:=ho.o2
   obtain ⟨zs,o3,o4⟩:=ho.o3
   refine RepL.app (a:=encCl C) ?_ (ce_rep hF hr)
   exact (RepL.one.2 (.v _ rfl)).app ((RepL.one.2 (.v _ rfl)).app ((RepL.one.2 (own_rep o1 hF (wh_rep hF o2))).app (RepL.one.2 (own_rep o3 hF (re_rep hF o4)))))
theorem readLeaf_fn {S:Sch} {mask:Nat} {s:Sht} (hs:SchOk S) (hm:mask<4294967296) (hd:s.d.length≤1000000):FnOk Tryz.prog 16 ⟨[.agg (encSch S),.v (.int .u32 (mask:Int)),.agg (encSht s)],[],.tup [celsT (readL S mask s).1,iz ((readL S mask s).2:Nat)],[]⟩ :=
 FnOk.of_new fun E vs hF hlen hz=>by
  obtain ⟨u,v,x,rfl⟩:=len3 hlen
  have h1:=sch_open hF (okSch_of hs) (hz 0 _ u rfl rfl)
  obtain ⟨rfl,_⟩:v=.int .u32 (mask:Int)∧_:=hz 1 _ v rfl rfl
  obtain ⟨A,c,rfl,hr,hc1,hc2⟩:=sht_open hF (hz 2 _ x rfl rfl)
  refine (readLeaf_any E.w E.w.heap.size u S mask s A c h1 hs hr hc1 hc2 (Nat.le_refl _) hd hm).mono ?_
  rintro y w' ⟨v,xs,rfl,ho,hce,hb⟩
  refine ⟨_,rfl,hb,_,rfl,rfl,fun j y z hy hz=>?_⟩
  have hN:∀ b,E.w.heap.size≤b→b<w'.heap.size→newF E w' b:=fun b h1 h2=>.inr ⟨h1,h2⟩
  match j,hy,hz with
  | 0,hy,hz =>
    injection hy with hy;injection hz with hz;subst hy;subst hz
    exact own_rep ho hN (ce_rep hN hce)
  | 1,hy,hz=>injection hy with hy;injection hz with hz;subst hy;subst hz;exact ⟨rfl,rfl⟩
  | j+2,hy,hz=>simp at hy
end Go.Proofs.YtfhmaincnlaapaaGreat.Sy
namespace Go.Proofs.YtfhmaincnlaapaaGreat
open Go.ChangeShapes Go.WideShapes Go.ChangeAt Go.RowKit
set_option linter.unusedVariables false
theorem inUmax_any (w:World) (g:Nat) (t:List UInt8) (p e:Nat) (h:InS w g t p e) :
 Calls Tryz.prog 41 #[.pointer (some ⟨g,0,none⟩),.int .u64 18446744073709551615] w
  fun y w'=>y=.returned (.int .u64 ((inU t p e umax).1:Int))∧InS w' g t (inU t p e umax).2.1 (inU t p e umax).2.2∧Only g w w':=inU_any w g t p e umax h
theorem inU8k_any (w:World) (g:Nat) (t:List UInt8) (p e:Nat) (h:InS w g t p e) :
 Calls Tryz.prog 41 #[.pointer (some ⟨g,0,none⟩),.int .u64 8192] w
  fun y w'=>y=.returned (.int .u64 ((inU t p e 8192).1:Int))∧InS w' g t (inU t p e 8192).2.1 (inU t p e 8192).2.2∧Only g w w':=inU_any w g t p e 8192 h
theorem headB_cases (k:Int) (a b:Nat) (h:headB k a b=false):k≠4∨a<1∨(1001<a∧1≤a)∨(b<1∧1≤a∧a≤1001)∨(60<b∧1≤b∧1≤a∧a≤1001):=by
 unfold headB at h
 simp only [Bool.and_eq_false_iff,decide_eq_false_iff_not] at h
 omega
theorem headB_true (k:Int) (a b:Nat) (h:headB k a b=true):k=4∧1≤a∧a≤1001∧1≤b∧b≤60:=by
 unfold headB at h
 simp only [Bool.and_eq_true,decide_eq_true_eq] at h
 omega
set_option maxHeartbeats 1000000 in
theorem readNode_head (w:World) (s:Sht) (A:Option Addr) (c:Nat) (h:headB s.k s.a s.b=false) :
 Calls Tryz.prog 55 #[.agg #[.int .i64 s.k,.int .u64 (s.a:Int),.int .u64 (s.b:Int),.slice A s.d.length c]] w fun y w'=>y=.returned (.tuple #[.int .i64 0,.slice none 0 0,.int .i64 6])∧Below w.heap.size w w':=by
 obtain ⟨k,a,b,d⟩:=s
 simp only at h ⊢
 have hc:=headB_cases k a b h
 have HH:=Lib.hid h;clear h
 have r0:=room_any
 by_cases h1:k=4
 ·subst h1
  by_cases h2:a<1
  ·obtain rfl:a=0:=by omega
   clear hc h2
   go_enter Tryz.func55,Tryz.ntmps55
   go_wp2
   go_quiet (fail)
   go_wp2
   go_ret3
   exact ⟨rfl,belD (belA (belR w) _) _⟩
  ·have t2:decide ((a:Int)<1)=false:=decide_eq_false (by omega)
   by_cases h3:1001<a
   ·have t3:decide ((1001:Int)<(a:Int))=true:=decide_eq_true (by omega)
    have H2:=Lib.hid h2;have H3:=Lib.hid h3;have HC:=Lib.hid hc;clear h2 h3 hc
    go_enter Tryz.func55,Tryz.ntmps55
    go_wp2
    go_quiet ((go_at_call 58;exact qcallS (room_any _)))
    go_wp2
    go_ret3
    exact ⟨rfl,belD (belA (belR w) _) _⟩
   ·have t3:decide ((1001:Int)<(a:Int))=false:=decide_eq_false (by omega)
    by_cases h4:b<1
    ·obtain rfl:b=0:=by omega
     have H2:=Lib.hid h2;have H3:=Lib.hid h3;have HC:=Lib.hid hc;clear h2 h3 hc h4
     go_enter Tryz.func55,Tryz.ntmps55
     go_wp2
     go_quiet ((go_at_call 58;exact qcallS (room_any _)))
     go_wp2
     go_ret3
     exact ⟨rfl,belD (belA (belR w) _) _⟩
    ·have t4:decide ((b:Int)<1)=false:=decide_eq_false (by omega)
     have t5:decide ((60:Int)<(b:Int))=true:=decide_eq_true (by omega)
     have H2:=Lib.hid h2;have H3:=Lib.hid h3;have H4:=Lib.hid h4;have HC:=Lib.hid hc;clear h2 h3 h4 hc
     go_enter Tryz.func55,Tryz.ntmps55
     go_wp2
     go_quiet ((go_at_call 58;exact qcallS (room_any _)))
     go_wp2
     go_ret3
     exact ⟨rfl,belD (belA (belR w) _) _⟩
 ·have t1:((k:Int) != 4)=true:=by rw [bne_iff_ne];exact h1
  have H1:=Lib.hid h1;have HC:=Lib.hid hc;clear h1 hc
  go_enter Tryz.func55,Tryz.ntmps55
  go_wp2
  go_quiet (fail)
  go_wp2
  go_ret3
  exact ⟨rfl,belD (belA (belR w) _) _⟩
theorem new_at {w w':World} {z j:Nat} {T:TypeId} {cs:Array Value} (h:w.heap.size=z) (hw:w'=(w.alloc (.cells cs T)).drewN j:=by rfl):Blk w' z T cs:=by subst h hw;exact (Blk.new _ _ _).drewN j
theorem rst_succ (t:List UInt8) (k:Nat):rst t (k+1)=rstep t (rst t k):=rfl
set_option maxRecDepth 20000 in
set_option maxHeartbeats 2000000 in
theorem readNode_body (w:World) (a b:Nat) (d:List UInt8) (A:Option Addr) (c:Nat) (h:headB 4 a b=true) (hR:Rd w w.heap.size 1 A d.length (u8s d)) (hd:d.length≤1000000) :
 Calls Tryz.prog 55 #[.agg #[.int .i64 4,.int .u64 (a:Int),.int .u64 (b:Int),.slice A d.length c]] w fun y w' =>
  ∃ v,y=.returned (.tuple #[.int .i64 (rnode ⟨4,a,b,d⟩).1,v,.int .i64 ((rnode ⟨4,a,b,d⟩).2.2:Int)])∧w'.ownsRow w.heap.size 112 2 v (rnode ⟨4,a,b,d⟩).2.1.length (entC (rnode ⟨4,a,b,d⟩).2.1)∧Below w.heap.size w w':=by
 obtain ⟨_,ha1,ha2,hb1,hb2⟩:=headB_true _ _ _ h
 have hearly:=fun k hk he=>rnode_early ⟨4,a,b,d⟩ k h hk he
 have hlast:∀ e q acc,rst d a=(q,e,acc)→e=0→endE d q 0≠0→rnode ⟨4,a,b,d⟩=(0,[],endE d q 0):=fun e q acc h1 h2 h3=>by
  subst h2;unfold rnode;simp only;rw [if_neg (by rw [h];simp),h1];simp only;rw [if_pos h3]
 have hform:∀ e q acc,rst d a=(q,e,acc)→e=0→endE d q 0=0→riseB acc=false→rnode ⟨4,a,b,d⟩=(0,[],6):=fun e q acc h1 h2 h3 h4=>by
  subst h2;unfold rnode;simp only;rw [if_neg (by rw [h];simp),h1];simp only;rw [if_neg (by rw [h3];simp),if_pos h4]
 have hgood:∀ e q acc,rst d a=(q,e,acc)→e=0→endE d q 0=0→riseB acc=true→rnode ⟨4,a,b,d⟩=((b:Int),acc,0):=fun e q acc h1 h2 h3 h4=>by
  subst h2;unfold rnode;simp only;rw [if_neg (by rw [h];simp),h1];simp only;rw [if_neg (by rw [h3];simp),if_neg (by rw [h4];simp)]
 simp only at hearly
 generalize rnode ⟨4,a,b,d⟩=res at *
 have t2:decide ((a:Int)<1)=false:=decide_eq_false (by omega)
 have t3:decide ((1001:Int)<(a:Int))=false:=decide_eq_false (by omega)
 have t4:decide ((b:Int)<1)=false:=decide_eq_false (by omega)
 have t5:decide ((60:Int)<(b:Int))=false:=decide_eq_false (by omega)
 have HE:=Lib.hid hearly;have HLA:=Lib.hid hlast;have HFO:=Lib.hid hform;have HGO:=Lib.hid hgood;have HH:=Lib.hid h;have HR:=Lib.hid hR;clear hearly hlast hform hgood h hR
 go_enter Tryz.func55,Tryz.ntmps55
 go_wp2
 go_quiet ((go_at_call 58;exact qcallS (room_any _)))
 have hbx:=fun q=>belD (belA (belR w) (.cells #[.int .i64 4,.int .u64 (a:Int),.int .u64 (b:Int),.slice A d.length c] 42)) q
 have hni:=fun q=>newIn_any ((w.alloc (.cells #[.int .i64 4,.int .u64 (a:Int),.int .u64 (b:Int),.slice A d.length c] 42)).drewN q) A d.length c d ((HR.out.keep fun p hp=>(hbx q).cell hp).more (by simp)) hd
 have HBX:=Lib.hid hbx;have HNI:=Lib.hid hni;clear hbx hni
 go_wp2_with fail
 (with_reducible refine (HNI.out _).mono ?_);rintro y w1 ⟨g,rfl,hg,hin,hb1'⟩
 have hx:=((Blk.new w 42 #[.int .i64 4,.int .u64 (a:Int),.int .u64 (b:Int),.slice A d.length c]).drewN nq).below hb1' (by simp)
 have x1:=hx.cell 1;have x2:=hx.cell 2
 simp at x1 x2
 have hgw:w.heap.size+1≤g:=by simpa using hg
 have hbw1:Below w.heap.size w w1:=belT (HBX.out nq) hb1'
 have HIN:=Lib.hid hin;have HX:=Lib.hid hx;have HB1:=Lib.hid hb1';have HBW1:=Lib.hid hbw1;clear hin hx hb1' hbw1 hg
 go_wp2
 go_loopw [6,41] (fun ov i wr=>∃ k q acc,k≤a∧i=.int .u64 (k:Int)∧rst d k=(q,0,acc)∧InS wr g d q 0∧wr.ownsRow (g+1) 112 2 ov k (entC acc)∧Below w.heap.size w wr∧Blk wr w.heap.size 42 #[.int .i64 4,.int .u64 (a:Int),.int .u64 (b:Int),.slice A d.length c]) (fun _ i _=>a-(intOf i).toNat)
 case atStart=>exact ⟨0,0,[],by omega,rfl,rfl,HIN.out,World.ownsRow_nil _ _ _ 2,HBW1.out,HX.out⟩
 case round =>
  obtain ⟨k,q,acc,hk,rfl,hst,hin,ho,hb,hX⟩:=hrel
  have hgl:=hin.lt
  have hlen:acc.length=k:=by have:=rst_len d k;rw [hst] at this;exact this
  have hst1:=rst_succ d k
  rw [hst] at hst1
  obtain ⟨A0,c0,rfl,_,_,_⟩:=own_form ho
  have HO:=Lib.hid ho;have HST:=Lib.hid hst;have HX1:=Lib.hid hX;clear ho hst hX
  by_cases hlt:k<a
  ·have hu1:=inUmax_any wr g d q 0 hin
   have er:rx d (q,0,acc)=inU d q 0 umax:=rfl
   have ey:ry d (q,0,acc)=inU d (inU d q 0 umax).2.1 (inU d q 0 umax).2.2 8192:=rfl
   unfold rstep at hst1
   rw [er,ey] at hst1
   generalize inU d q 0 umax=r1 at *
   obtain ⟨x,q1,e1⟩:=r1
   simp only at hu1 hst1
   have hy8:=inU_lt d q1 e1 8192
   have hu2:=fun W hW=>inU8k_any W g d q1 e1 hW
   generalize inU d q1 e1 8192=r2 at *
   obtain ⟨y,q2,e2⟩:=r2
   simp only at hu2 hst1 hy8
   have HU1:=Lib.hid hu1;have HU2:=Lib.hid hu2;have HST1:=Lib.hid hst1;have HER:=Lib.hid er;have HEY:=Lib.hid ey;have HIN1:=Lib.hid hin;have HLEN:=Lib.hid hlen;clear hu1 hu2 hst1 er ey hin hlen
   go_wp2_with fail
   (with_reducible refine HU1.out.mono ?_);rintro z w2 ⟨rfl,hi2,hon2⟩
   have hz2:=hon2.size
   have hB2:Below (g+1) (w2) (w2.alloc (.cells #[.int .u64 (x:Int),.int .i64 0] 112)):=(Below.refl _ _).alloc (by omega) _
   have HI2:=Lib.hid (hi2.below hB2 (by omega));have HON2:=Lib.hid hon2;clear hi2 hB2
   go_wp2_with fail
   (with_reducible refine (HU2.out _ HI2.out).mono ?_);rintro z w3 ⟨rfl,hi3,hon3⟩
   have hyb:=hon3.blk (Blk.new w2 112 #[.int .u64 (x:Int),.int .i64 0]) (by omega)
   have hz3:=hon3.size
   have y0:=hyb.cell 0;have y1:=hyb.cell 1;have f1:=hyb.frozen 1
   simp at y0 y1 hz3
   have hb3:Below w2.heap.size w3 (w3.setCell ⟨w2.heap.size,1,none⟩ (.int .i64 (y:Int))):=(Below.refl w2.heap.size w3).setCell (p:=⟨w2.heap.size,1,none⟩) (Nat.le_refl _) _
   have hft:=fault_any _ g d q2 e2 (hi3.below hb3 (by omega))
   have HFT:=Lib.hid hft;have HI3:=Lib.hid (hi3.below hb3 (by omega));have HON3:=Lib.hid hon3;have HYB:=Lib.hid hyb;have HB3:=Lib.hid hb3;clear hft hi3 hon3 hyb hb3
   have hne2:(Value.slice A0 k c0).ownBlock≠some g:=fun e=>by have:=(HO.out.lt g e).1;omega
   have o2:=HON2.out.own HO.out hne2
   have o3:=HON3.out.own (o2.alloc (.cells #[.int .u64 (x:Int),.int .i64 0] 112)) hne2
   have o4:=(Only.set1 w3 w2.heap.size 1 (.int .i64 (y:Int))).own o3 (fun e=>by have:=(o2.lt _ e).2;omega)
   have hX2:=HON2.out.blk HX1.out (by omega)
   have hX3:=HON3.out.blk (hX2.alloc (.cells #[.int .u64 (x:Int),.int .i64 0] 112)) (by omega)
   have hX4:=hX3.far (p:=⟨w2.heap.size,1,none⟩) (by simp only;omega) (.int .i64 (y:Int))
   have hbw4:Below w.heap.size w (w3.setCell ⟨w2.heap.size,1,none⟩ (.int .i64 (y:Int))) :=
    (((hb.trans (HON2.out.below (by omega) hb.size)).alloc (by have:=hb.size;omega) _).trans (HON3.out.below (by omega) (by have:=hb.size;simp;omega))).setCell (by have:=hb.size;simp only;omega) _
   have hyb4:=HYB.out.set_ 1 (.int .i64 (y:Int))
   simp at hyb4
   have O4:=Lib.hid o4;have X4:=Lib.hid hX4;have BW4:=Lib.hid hbw4;have YB4:=Lib.hid hyb4;have NE2:=Lib.hid hne2;clear o2 o3 o4 hX2 hX3 hX4 hbw4 hyb4 hne2
   go_wp2_with fail
   (with_reducible refine HFT.out.mono ?_);rintro z w4 ⟨rfl,j4,rfl⟩
   by_cases he2:e2=0
   ·subst he2
    have hz4:(w3.setCell ⟨w2.heap.size,1,none⟩ (.int .i64 (y:Int))).heap.size=w3.heap.size:=by simp
    have HZ4:=Lib.hid hz4;clear hz4
    go_wp2_with (at_builtin;refine wpList_appB rfl [.int .u64 (x:Int),.int .i64 (y:Int)] 2 rfl (by decide) (by simp [Value.oneCell']) _ _ 113 rfl (g+1) 112 _ 16 info_ent rfl Tryz.underlying113 _ _ _ (own_drewN (O4.out.alloc (.cells #[.int .u64 (x:Int),.int .i64 (y:Int)] 112)) j4) w3.heap.size (new_at (j:=j4) HZ4.out) rfl rfl ?_ ?_ ?_ ?_;omega;omega;(simp;omega);intro v5 w5 ho5 hap5;obtain ⟨A5,c5,rfl,_,_,_⟩:=own_form ho5)
    have hg1:g+1≤((w3.setCell ⟨w2.heap.size,1,none⟩ (.int .i64 (y:Int))).alloc (.cells #[.int .u64 (x:Int),.int .i64 (y:Int)] 112)).heap.size:=by simp;omega
    have hb5:Below (g+1) _ w5:=hap5.below hg1 (own_drewN (O4.out.alloc _) j4)
    go_roundw
    case rel =>
     refine ⟨k+1,q2,acc ++ [(x,(y:Int))],by omega,by go_num,HST1.out,?_,by rw [←entC_snoc];exact ho5,?_,?_⟩
     ·exact ((HI3.out.below (below_drewN ((Below.refl (g+1) _).alloc (by simp;omega) _) j4) (by omega)).below hb5 (by omega))
     ·exact (below_drewN (BW4.out.alloc BW4.out.size _) j4).trans (hb5.mono (by omega))
     ·exact hap5.blk ((X4.out.alloc _).drewN j4) (fun e=>by have:=(O4.out.lt _ e).1;omega)
    case measure=>simp [intOf];omega
   ·have hres:=HE.out (k+1) (by omega) (by rw [HST1.out];exact he2)
    rw [HST1.out] at hres
    have t9:((e2:Int) != 0)=true:=by rw [bne_iff_ne];omega
    have HRES:=Lib.hid hres;have HE2:=Lib.hid he2;clear hres he2
    go_wp2
    go_ret3
    exact ⟨.slice none 0 0,by rw [HRES.out];rfl,by rw [HRES.out];exact World.ownsRow_nil _ _ _ 2,below_drewN BW4.out j4⟩
  ·obtain rfl:k=a:=by omega
   have hend:=end_any wr g d q 0 hin
   have hla:=HLA.out 0 q acc HST.out rfl
   have hfo:=HFO.out 0 q acc HST.out rfl
   have hgo:=HGO.out 0 q acc HST.out rfl
   have hne2:(Value.slice A0 k c0).ownBlock≠some g:=fun e=>by have:=(HO.out.lt g e).1;omega
   have hzb:=hb.size
   generalize endE d q 0=en at *
   have HEND:=Lib.hid hend;have HLA2:=Lib.hid hla;have HFO2:=Lib.hid hfo;have HGO2:=Lib.hid hgo;have NE2:=Lib.hid hne2;have HLEN:=Lib.hid hlen;have HST1:=Lib.hid hst1;clear hend hla hfo hgo hne2 hin hlen hst1
   go_wp2_with fail
   (with_reducible refine HEND.out.mono ?_);rintro z w2 ⟨rfl,hi2,hon2⟩
   have o2:=hon2.own HO.out NE2.out
   have hX2:=hon2.blk HX1.out (by omega)
   have hbw2:=hb.trans (hon2.below (by omega) hzb)
   have hri:=rising_any A0 k c0 _ acc w2 (Rd.own o2) (by omega) (Nat.le_refl _)
   have O2:=Lib.hid o2;have X2:=Lib.hid hX2;have BW2:=Lib.hid hbw2;have HRI:=Lib.hid hri;have HON2:=Lib.hid hon2;clear o2 hX2 hbw2 hi2 hri hon2
   by_cases hen:en=0
   ·subst hen
    cases hr:riseB acc with
    | true =>
      have hres:=HGO2.out rfl hr
      have hri:=HRI.out
      rw [hr] at hri
      have HRES:=Lib.hid hres;have HR2:=Lib.hid hri;have HRR:=Lib.hid hr;clear hres hri hr
      go_wp2_with fail
      (with_reducible refine HR2.out.mono ?_);rintro z w3 ⟨rfl,hb3⟩
      have x2:=(X2.out.below hb3 X2.out.lt).cell 2
      simp at x2
      have HB3:=Lib.hid hb3;clear hb3
      go_wp2
      go_ret3
      exact ⟨.slice A0 k c0,by rw [HRES.out];rfl,by rw [HRES.out];simp only;rw [HLEN.out];exact own_mono (own_below O2.out HB3.out (Nat.le_refl _)) (by omega),belT BW2.out (by exact HB3.out)⟩
    | false =>
      have hres:=HFO2.out rfl hr
      have hri:=HRI.out
      rw [hr] at hri
      have HRES:=Lib.hid hres;have HR2:=Lib.hid hri;have HRR:=Lib.hid hr;clear hres hri hr
      go_wp2_with fail
      (with_reducible refine HR2.out.mono ?_);rintro z w3 ⟨rfl,hb3⟩
      have HB3:=Lib.hid hb3;clear hb3
      go_wp2
      go_ret3
      exact ⟨.slice none 0 0,by rw [HRES.out];rfl,by rw [HRES.out];exact World.ownsRow_nil _ _ _ 2,belT BW2.out (by exact HB3.out)⟩
   ·have hres:=HLA2.out hen
    have t9:((en:Int) != 0)=true:=by rw [bne_iff_ne];omega
    have HRES:=Lib.hid hres;have HE2:=Lib.hid hen;clear hres hen
    go_wp2
    go_ret3
    exact ⟨.slice none 0 0,by rw [HRES.out];rfl,by rw [HRES.out];exact World.ownsRow_nil _ _ _ 2,BW2.out⟩
theorem readNode_any (w:World) (s:Sht) (A:Option Addr) (c:Nat) (hR:Rd w w.heap.size 1 A s.d.length (u8s s.d)) (hd:s.d.length≤1000000) :
 Calls Tryz.prog 55 #[.agg #[.int .i64 s.k,.int .u64 (s.a:Int),.int .u64 (s.b:Int),.slice A s.d.length c]] w fun y w' =>
  ∃ v,y=.returned (.tuple #[.int .i64 (rnode s).1,v,.int .i64 ((rnode s).2.2:Int)])∧w'.ownsRow w.heap.size 112 2 v (rnode s).2.1.length (entC (rnode s).2.1)∧Below w.heap.size w w':=by
 obtain ⟨k,a,b,d⟩:=s
 cases hh:headB k a b with
 | false =>
   have hr:rnode ⟨k,a,b,d⟩=(0,[],6):=by unfold rnode;rw [if_pos hh]
   rw [hr]
   exact (readNode_head w ⟨k,a,b,d⟩ A c hh).mono fun y w' ⟨hy,hb⟩=>⟨.slice none 0 0,hy,World.ownsRow_nil _ _ _ 2,hb⟩
 | true =>
   obtain ⟨rfl,_⟩:=headB_true _ _ _ hh
   exact readNode_body w a b d A c hh hR hd
attribute [local go_sem ↓] wp_app_rule
def seekN (l:List (Nat×Int)) (key:Nat):Nat:=(l.takeWhile fun x=>decide (x.1≤key)).length
theorem seekN_of (l:List (Nat×Int)) (key lo:Nat) (hlo:lo≤l.length) (h1:∀ j (h:j<l.length),j<lo→l[j].1≤key) (h2:∀ (h:lo<l.length),key<l[lo].1):seekN l key=lo:=by
 induction l generalizing lo with
 | nil=>simp at hlo;subst hlo;rfl
 | cons x l ih =>
   cases lo with
   | zero =>
     have:=h2 (by simp)
     simp only [List.getElem_cons_zero] at this
     unfold seekN;rw [List.takeWhile_cons,if_neg (by simp;omega)];rfl
   | succ lo =>
     have h0:=h1 0 (by simp) (by omega)
     simp only [List.getElem_cons_zero] at h0
     have:=ih lo (by simpa using hlo) (fun j h hj=>by have:=h1 (j+1) (by simpa using h) (by omega);simpa using this) (fun h=>by have:=h2 (by simpa using h);simpa using this)
     unfold seekN at this ⊢
     rw [List.takeWhile_cons,if_pos (by simpa using h0),List.length_cons,this]
theorem rise_lt (l:List (Nat×Int)) (hr:riseB l=true) (i j:Nat) (hij:i<j) (hj:j<l.length):l[i].1<l[j].1:=by
 rw [riseB_iff] at hr
 induction j with
 | zero=>omega
 | succ j ih =>
   have h:=hr (j+1) hj
   rw [okAt_succ l j hj] at h
   simp only [Bool.and_eq_true,decide_eq_true_eq] at h
   by_cases e:i=j
   ·subst e;exact h.2
   ·exact Nat.lt_trans (ih (by omega) (by omega)) h.2
set_option maxHeartbeats 1000000 in
theorem seek_any (A:Option Addr) (n c B:Nat) (l:List (Nat×Int)) (key:Nat) (w:World) (h:Rd w B 2 A n (entC l)) (hn:n≤1000000) (hr:riseB l=true) (hk:key<18446744073709551616) :
 Calls Tryz.prog 56 #[.slice A n c,.int .u64 (key:Int)] w fun y w'=>y=.returned (.int .i64 ((seekN l key:Int)-1))∧w=w':=by
 obtain rfl:n=l.length:=h.ent_len
 have H:=Lib.hid h;have HRI:=Lib.hid hr;clear h hr
 go_enter Tryz.func56,Tryz.ntmps56
 go_wp2
 go_loop [5,6,7] (fun a b v7=>∃ lo hi:Nat,lo≤hi∧hi≤l.length∧a=.int .i64 (lo:Int)∧b=.int .i64 (hi:Int)∧(∀ j (h:j<l.length),j<lo→l[j].1≤key)∧(∀ (h:hi<l.length),key<l[hi].1)) (fun a b _=>(intOf b-intOf a).toNat)
 case atStart=>exact ⟨0,l.length,by omega,by omega,rfl,rfl,fun j _ hj=>by omega,fun h=>by omega⟩
 case round =>
  obtain ⟨lo,hi,h1,h2,rfl,rfl,hlo,hhi⟩:=hrel
  have HLO:=Lib.hid hlo;have HHI:=Lib.hid hhi;clear hlo hhi
  by_cases hlt:lo<hi
  ·have hmid:(lo+hi)/2<l.length:=by omega
   obtain ⟨a,rfl,hab,x0,_⟩:=H.out.ent hmid
   have hmm:((lo:Int)+(hi:Int))/2=(((lo+hi)/2:Nat):Int):=by omega
   have hr1:∀ j (h:j<l.length),j<(lo+hi)/2→l[j].1<(l[(lo+hi)/2]'hmid).1:=fun j h hj=>rise_lt l HRI.out j _ hj hmid
   have hx:∃ x,(l[(lo+hi)/2]'hmid).1=x:=⟨_,rfl⟩
   obtain ⟨x,hx⟩:=hx
   rw [hx] at x0 hr1
   have hml:lo≤(lo+hi)/2:=by omega
   have hmh:(lo+hi)/2<hi:=by omega
   generalize hm:(lo+hi)/2=mid at *
   have HR1:=Lib.hid hr1;have HX:=Lib.hid hx;have HM:=Lib.hid hm;clear hr1 hx hm
   by_cases hle:x≤key
   ·have hlo2:∀ j (h:j<l.length),j<mid+1→l[j].1≤key:=fun j h hj=>by
     by_cases e:j=mid
     ·subst e;rw [HX.out];exact hle
     ·exact Nat.le_trans (Nat.le_of_lt (HR1.out j h (by omega))) hle
    have HL2:=Lib.hid hlo2;clear hlo2
    go_wp2
    go_round
    case rel=>exact ⟨mid+1,hi,by omega,h2,by go_num,rfl,HL2.out,HHI.out⟩
    case measure=>simp [intOf];omega
   ·have hhi2:∀ (h:mid<l.length),key<l[mid].1:=fun h=>by rw [HX.out];omega
    have HH2:=Lib.hid hhi2;clear hhi2
    go_wp2
    go_round
    case rel=>exact ⟨lo,mid,by omega,by omega,rfl,by rw [hmm],HLO.out,HH2.out⟩
    case measure=>simp [intOf];omega
  ·obtain rfl:lo=hi:=by omega
   have hs:=seekN_of l key lo h2 HLO.out HHI.out
   have HS:=Lib.hid hs;clear hs
   go_wp2
   go_ret
   exact ⟨by rw [HS.out];go_num,rfl⟩
end Go.Proofs.YtfhmaincnlaapaaGreat
namespace Go.Proofs.YtfhmaincnlaapaaGreat
open Go.ChangeShapes Go.WideShapes Go.ChangeAt Go.RowKit
set_option linter.unusedVariables false
def exl:List (Nat×Int):=[(1,3),(2,1)]
def exd:List UInt8:=[1,1,1,3,1,2,1,1]
theorem ex_rise:riseB exl=true:=by decide
theorem ex_nodes:nodes 1 exl=[⟨4,2,1,exd⟩]:=by rfl
theorem ex_read:rnode ⟨4,2,1,exd⟩=(1,exl,0):=by decide
theorem ex_seek7:seekN exl 7=2:=by decide
theorem ex_seek0:seekN exl 0=0:=by decide
theorem rd_lit {w:World} {T:TypeId} (l:List (Nat×Int)) (cs:Array Value) (h:cs.toList=entC l):Rd (w.alloc (.cells cs T)) (w.heap.size+1) 2 (some ⟨w.heap.size,0,none⟩) l.length (entC l):=by
 refine ⟨entC_len l,fun _=>⟨_,rfl,by simp,fun j u hj=>?_⟩⟩
 have hadd:(⟨w.heap.size,0,none⟩:Addr).add j=⟨w.heap.size,j,none⟩:=by unfold Addr.add;split<;>simp_all
 rw [hadd,(Blk.new w T cs).cell j]
 rw [←h] at hj
 simpa using hj
set_option maxRecDepth 20000 in
set_option maxHeartbeats 1000000 in
theorem awake25_any (w:World):Calls Tryz.prog 15 #[] w fun y w'=>y=.returned (.bool true)∧Below w.heap.size w w':=by
 have hrd:=rd_lit (w:=w) (T:=112) exl #[.int .u64 1,.int .i64 3,.int .u64 2,.int .i64 1] rfl
 have hn:Calls Tryz.prog 54 #[.int .i64 1,.slice (some ⟨w.heap.size,0,none⟩) 2 2] (w.alloc (.cells #[.int .u64 1,.int .i64 3,.int .u64 2,.int .i64 1] 112)) fun y w'=>∃ v xs,y=.returned (.tuple #[v,.int .i64 0])∧w'.ownsRow (w.heap.size+1) 42 4 v 1 xs∧ShR w' w'.heap.size [⟨4,2,1,exd⟩] xs∧Below (w.heap.size+1) (w.alloc (.cells #[.int .u64 1,.int .i64 3,.int .u64 2,.int .i64 1] 112)) w':=by
  have:=nodes_ok (w.alloc (.cells #[.int .u64 1,.int .i64 3,.int .u64 2,.int .i64 1] 112)) 1 (some ⟨w.heap.size,0,none⟩) 2 2 (w.heap.size+1) exl (by omega) (by omega) hrd (by omega) (by simp) ex_rise (by
   intro k hk
   have:k=0∨k=1:=by simp [exl] at hk;omega
   rcases this with rfl|rfl<;>simp [exl])
  rw [ex_nodes] at this
  simp only [World.size_alloc] at this
  exact this
 have HN:=Lib.hid hn;clear hn hrd
 go_enter Tryz.func15,Tryz.ntmps15
 go_wp2_with fail
 (with_reducible refine HN.out.mono ?_);rintro y w1 ⟨v,xs,rfl,ho,hs,hb1⟩
 obtain ⟨A,c,rfl,hc,hm,_⟩:=own_form ho
 obtain ⟨Ad,cd,e0,e1,e2,e3,hrd,hdc,hcm⟩:=hs.get 0 (by simp)
 obtain ⟨a,rfl,hab,hcell⟩:=(Rd.own ho).2 (by omega)
 have x0:=hcell _ _ e0;have x1:=hcell _ _ e1;have x2:=hcell _ _ e2;have x3:=hcell _ _ e3
 simp only [Nat.zero_mul,Nat.zero_add,add_zero',List.getElem_cons_zero] at x0 x1 x2 x3 hrd
 rw [show (1:Nat)=0+1 from rfl,add_succ] at x1
 rw [show (2:Nat)=1+1 from rfl,add_succ] at x2
 rw [show (3:Nat)=2+1 from rfl,add_succ] at x3
 have hr:Calls Tryz.prog 55 #[.agg #[.int .i64 4,.int .u64 2,.int .u64 1,.slice Ad exd.length cd]] w1 fun y w' =>
  ∃ v,y=.returned (.tuple #[.int .i64 1,v,.int .i64 0])∧w'.ownsRow w1.heap.size 112 2 v 2 (entC exl)∧Below w1.heap.size w1 w':=by
  have:=readNode_any w1 ⟨4,2,1,exd⟩ Ad cd hrd (by decide)
  rw [ex_read] at this
  exact this
 have HR:=Lib.hid hr;have HB1:=Lib.hid hb1;have HO:=Lib.hid ho;have HS:=Lib.hid hs;have HRD:=Lib.hid hrd;have HCELL:=Lib.hid hcell;clear hr hb1 ho hs hrd hcell e0 e1 e2 e3
 go_wp2_with fail
 (with_reducible refine HR.out.mono ?_);rintro y w2 ⟨v2,rfl,ho2,hb2⟩
 obtain ⟨A2,c2,rfl,hc2,hm2,_⟩:=own_form ho2
 have hR2:=Rd.own ho2
 obtain ⟨a2,rfl,hab2,y0,y1⟩:=hR2.ent (k:=1) (by decide)
 have y0':w2.cell? ⟨a2.block,a2.off+2,none⟩=some (.int .u64 2):=by
  rw [show 1*2=1+1 from rfl,add_succ] at y0;exact y0
 have y1':w2.cell? ⟨a2.block,a2.off+2+1,none⟩=some (.int .i64 1):=by
  rw [show 1*2=1+1 from rfl,add_succ] at y1;exact y1
 have hs7:Calls Tryz.prog 56 #[.slice (some a2) 2 c2,.int .u64 7] w2 fun y w'=>y=.returned (.int .i64 1)∧w2=w':=by
  have:=seek_any (some a2) 2 c2 _ exl 7 w2 hR2 (by omega) ex_rise (by omega)
  rw [ex_seek7] at this;exact this
 have hs0:Calls Tryz.prog 56 #[.slice (some a2) 2 c2,.int .u64 0] w2 fun y w'=>y=.returned (.int .i64 (-1))∧w2=w':=by
  have:=seek_any (some a2) 2 c2 _ exl 0 w2 hR2 (by omega) ex_rise (by omega)
  rw [ex_seek0] at this;exact this
 have H7:=Lib.hid hs7;have H0:=Lib.hid hs0;have HR2:=Lib.hid hR2;have HO2:=Lib.hid ho2;have HB2:=Lib.hid hb2;clear hs7 hs0 hR2 ho2 hb2 y0 y1
 go_wp2_with (first|(go_at_call 56;(with_reducible refine H7.out.mono ?_);rintro y w3 ⟨rfl,rfl⟩)|(go_at_call 56;(with_reducible refine H0.out.mono ?_);rintro y w3 ⟨rfl,rfl⟩))
 go_ret
 exact ⟨rfl,((belA (belR w) _).trans (HB1.out.mono (Nat.le_succ _))).trans (HB2.out.mono (by have:=HB1.out.size;simp at this;omega))⟩
end Go.Proofs.YtfhmaincnlaapaaGreat
namespace Go.Proofs.YtfhmaincnlaapaaGreat.Sy
open Go.ChangeShapes Go.WideShapes Go.ChangeAt Go.RowKit
set_option linter.unusedVariables false
theorem FnOk.calls {P:Program} {f:FuncId} {args:List AV} {r:Value} (h:FnOk P f ⟨args,[],.v r,[]⟩) (w:World) (vs:List Value) (hl:vs.length=args.length)
 (hs:∀ (E:Env),E.w=w→(∀ b,b<w.heap.size→E.F b)→∀ (j:Nat) (x:AV) (u:Value),args[j]?=some x→vs[j]?=some u→Sees1 E x u):Calls P f vs.toArray w fun y w'=>y=.returned r∧Below w.heap.size w w':=by
 let E:Env:=⟨w,fun b=>b<w.heap.size,fun _=>0,fun _=>undef,lo []⟩
 have hm:Mem ⟨fun _=>False,fun b=>b<w.heap.size,E⟩ w E:=⟨Chg.refl _ _,fun b hb=>.inl hb,fun b hb=>hb,fun o x hx=>(by cases hx),fun o b hb=>(by cases hb),fun o o' b hb=>(by cases hb)⟩
 refine (h _ _ E vs rfl hm hl (hs E rfl fun b hb=>hb)).mono ?_
 rintro y w' ⟨E',v,rfl,rfl,_,hm',_,hz⟩
 exact ⟨by rw [show v=r from hz.1],hm'.chg.below⟩
set_option linter.unusedSimpArgs false
theorem okCl_of {C:CellS} (h:CellOk C) (hn:∀ x∈C.nums,x.mn<18446744073709551616∧x.mx<18446744073709551616):okCl C :=
 ⟨h.key,WalkArith.wf_i64 h.count,fun X hX=>by
  obtain ⟨h1,h2,h3,h4,h5⟩:=h.ints X hX
  exact ⟨WalkArith.wf_i64 h1,WalkArith.wf_i64 h2,h5,WalkArith.wf_i64 h3,WalkArith.wf_i64 h4⟩,fun X hX=>⟨fun _ _=>trivial,hn X hX⟩⟩
theorem okCl_get (S:Sch) (mask:Nat) (t:List UInt8):okCl (getC S mask t).1:=by
 refine okCl_of (getC_ok S mask t) ?_
 unfold getC
 (repeat' split)<;>first|exact celS_nums S t|(intro x hx;cases hx)
end Go.Proofs.YtfhmaincnlaapaaGreat.Sy
