/- bushellaw08.small, awake; bushelref08.Read and bushellaw08.read of any thing. -/
import Derived.IntWalk
import Derived.Deep.RegionHeldLaw
import Derived.Deep.RegionHeld
import Derived.Test.YtfhmaincnlaapaaGreatTrSy2
import Derived.Test.YtfhmaincnlaapaaGreatTrGetWalks
import Derived.Test.YtfhmaincnlaapaaGreatTrRefCode
import Derived.Test.YtfhmaincnlaapaaGreatTrRefReadI
namespace Go.Proofs.YtfhmaincnlaapaaGreat
open Go.ChangeShapes Go.WideShapes Go.ChangeAt Go.RowKit
set_option linter.unusedVariables false
def OutS (w:World) (base g:Nat) (l:List UInt8):Prop :=
 base≤g∧base≤w.heap.size∧∃ v,Blk w g 216 #[.bool true,v]∧w.ownsRow base 5 1 v l.length (u8s l)
theorem OutS.lt {w:World} {base g:Nat} {l:List UInt8} (h:OutS w base g l):g<w.heap.size:=by obtain ⟨_,_,v,hb,_⟩:=h;exact hb.lt
theorem OutS.drw {w w':World} {base g:Nat} {l:List UInt8} (h:OutS w base g l) (k:Drw w w'):OutS w' base g l:=by obtain ⟨n,rfl⟩:=k;exact h
theorem OutS.below {w w':World} {base g:Nat} {l:List UInt8} (h:OutS w base g l) (hb:Below w.heap.size w w'):OutS w' base g l:=by
 obtain ⟨h1,h2,v,hB,ho⟩:=h
 exact ⟨h1,Nat.le_trans h2 hb.size,v,hB.below hb hB.lt,own_below ho hb (Nat.le_refl _)⟩
theorem newOut_any (w:World):Calls Tryz.prog 93 #[] w fun x w'=>x=.returned (.pointer (some ⟨w.heap.size,0,none⟩))∧OutS w' w.heap.size w.heap.size []∧Below w.heap.size w w':=by
 go_enter Tryz.func93,Tryz.ntmps93
 go_wp2
 go_ret
 exact ⟨rfl,⟨Nat.le_refl _,by simp,_,Blk.new _ _ _,World.ownsRow_nil _ _ _ 1⟩,belA (belR w) _⟩
theorem lay_any (w:World) (base g:Nat) (l k:List UInt8) (A:Option Addr) (m c B:Nat) (h:OutS w base g l) (hR:Rd w B 1 A m (u8s k)) (hlen:l.length+m≤1000000000) :
 Calls Tryz.prog 153 #[.pointer (some ⟨g,0,none⟩),.slice A m c] w fun x w'=>x=.returned (.tuple #[])∧OutS w' base g (l++k)∧Below base w w':=by
 obtain rfl:m=k.length:=hR.u8.symm
 obtain ⟨hg,hz,v,hB,ho⟩:=h
 obtain ⟨A1,c1,rfl,_,_,_⟩:=own_form ho
 have hne:=own_blk_ne ho hB (by decide)
 have c0:=hB.cell 0;have c1':=hB.cell 1
 simp at c0 c1'
 have HR:=Lib.hid hR;have HO:=Lib.hid ho;have HB:=Lib.hid hB;have NE:=Lib.hid hne;clear hR ho hB hne
 go_enter Tryz.func153,Tryz.ntmps153
 go_wp2_with (at_builtin;refine wpList_appS _ rfl _ _ 27 rfl base 5 _ 1 1 info_u8 rfl (by decide) Tryz.underlying27 _ _ _ HO.out rfl _ _ _ _ _ HR.out rfl (u8s_one _) ?_ ?_ ?_ ?_;omega;omega;exact hz;intro v2 w2 ho2 hb2;obtain ⟨A2,c2,rfl,_,_,_⟩:=own_form ho2;have B2:=hb2.blk HB.out NE.out;have d1:=B2.cell 1;have f1:=B2.frozen 1;simp at d1;have HO2:=Lib.hid ho2;have HB2:=Lib.hid B2;have HP2:=Lib.hid hb2;clear ho2 B2 hb2)
 go_end0
 have hz2:=HP2.out.1.size
 have hb3:=HP2.out.below hz HO.out
 refine ⟨rfl,⟨hg,by simpa using Nat.le_trans hz hb3.size,.slice A2 (l.length+k.length) c2,?_,?_⟩,hb3.setCell hg _⟩
 ·have:=HB2.out.set_ 1 (.slice A2 (l.length+k.length) c2)
  simpa using this
 ·rw [u8s_append,List.length_append]
  exact ((Only.refl g w2).set_ (.inl rfl) _).own HO2.out (own_blk_ne HO2.out HB2.out (by decide))
theorem outBytes_any (w:World) (base g:Nat) (l:List UInt8) (h:OutS w base g l) (hlen:l.length≤1000000000) :
 Calls Tryz.prog 98 #[.pointer (some ⟨g,0,none⟩)] w fun x w'=>∃ v,x=.returned v∧w'.ownsRow w.heap.size 5 1 v l.length (u8s l)∧Below w.heap.size w w':=by
 obtain ⟨hg,hz,v,hB,ho⟩:=h
 obtain ⟨A1,c1,rfl,_,_,_⟩:=own_form ho
 have c1':=hB.cell 1
 simp at c1'
 have hR:=Rd.own ho
 have hnil:=World.ownsRow_nil w w.heap.size 5 1
 have HR:=Lib.hid hR;have HO:=Lib.hid ho;have HB:=Lib.hid hB;clear hR ho hB
 go_enter Tryz.func98,Tryz.ntmps98
 go_wp2_with (at_builtin;refine wpList_appS _ rfl _ _ 27 rfl w.heap.size 5 _ 1 1 info_u8 rfl (by decide) Tryz.underlying27 _ _ _ hnil rfl _ _ _ _ _ HR.out rfl (u8s_one _) ?_ ?_ ?_ ?_;omega;omega;exact Nat.le_refl _;intro v2 w2 ho2 hb2;have HO2:=Lib.hid ho2;have HP2:=Lib.hid hb2;clear ho2 hb2)
 go_ret
 have:=HO2.out
 rw [Nat.zero_add,List.nil_append] at this
 exact ⟨_,rfl,this,HP2.out.below_nil (Nat.le_refl _)⟩
theorem outU_any (w:World) (base g x:Nat) (l:List UInt8) (h:OutS w base g l) (hx:x<18446744073709551616) (hlen:l.length≤900000000) :
 Calls Tryz.prog 94 #[.pointer (some ⟨g,0,none⟩),.int .u64 (x:Int)] w fun y w'=>y=.returned (.tuple #[])∧OutS w' base g (l++encU x)∧Below base w w':=by
 have hw:=wd_le x
 have hu:=codeU_any x w hx
 have hbz:=h.2.1
 have HU:=Lib.hid hu;have H:=Lib.hid h;clear hu h
 go_enter Tryz.func94,Tryz.ntmps94
 go_wp2_with fail
 (with_reducible refine HU.out.mono ?_);rintro y w1 ⟨v1,rfl,ho1,hb1⟩
 obtain ⟨A1,c1,rfl,_,_,_⟩:=own_form ho1
 have hl:=lay_any w1 base g l (encU x) A1 (wd x+1) c1 _ (H.out.below hb1) (Rd.own ho1) (by omega)
 have HL:=Lib.hid hl;have HO1:=Lib.hid ho1;clear hl ho1
 go_wp2_with (go_at_call 153;(with_reducible refine HL.out.mono ?_);rintro y w2 ⟨rfl,ho2,hb2⟩)
 go_end0
 exact ⟨rfl,ho2,(hb1.mono hbz).trans hb2⟩
theorem flat_get {α:Type} (f:α→List Value) (s:Nat) (hs:∀ x,(f x).length=s) (l:List α) (k j:Nat) (hk:k<l.length) (hj:j<s):(l.flatMap f)[k*s+j]?=(f l[k])[j]?:=by
 induction l generalizing k with
 | nil=>simp at hk
 | cons x l ih =>
   rw [List.flatMap_cons]
   cases k with
   | zero=>rw [Nat.zero_mul,Nat.zero_add,List.getElem?_append_left (by rw [hs];exact hj)];rfl
   | succ k =>
     rw [List.getElem?_append_right (by rw [hs,Nat.succ_mul];omega),hs,show (k+1)*s+j-s=k*s+j from by rw [Nat.succ_mul];omega,ih k (by simpa using hk)]
     rfl
theorem flat_len {α:Type} (f:α→List Value) (s:Nat) (hs:∀ x,(f x).length=s) (l:List α):(l.flatMap f).length=l.length*s:=by
 induction l with
 | nil=>simp
 | cons x l ih=>rw [List.flatMap_cons,List.length_append,hs,ih,List.length_cons,Nat.succ_mul];omega
def entC (l:List (Nat×Int)):List Value:=l.flatMap fun x=>[.int .u64 (x.1:Int),.int .i64 x.2]
theorem entC_len (l:List (Nat×Int)):(entC l).length=l.length*2:=flat_len _ 2 (fun _=>rfl) l
theorem entC_snoc (l:List (Nat×Int)) (f:Nat) (p:Int):entC l ++ [.int .u64 (f:Int),.int .i64 p]=entC (l ++ [(f,p)]):=by simp [entC]
section
variable {w w':World} {B n:Nat} {A:Option Addr} {l:List (Nat×Int)}
theorem Rd.ent_len (h:Rd w B 2 A n (entC l)):n=l.length:=by have:=h.1;rw [entC_len] at this;omega
theorem Rd.ent (h:Rd w B 2 A n (entC l)) {k:Nat} (hk:k<l.length):∃ a,A=some a∧a.block<B∧w.cell? (a.add (k*2))=some (.int .u64 (l[k].1:Int))∧w.cell? ⟨(a.add (k*2)).block,(a.add (k*2)).off+1,none⟩=some (.int .i64 l[k].2):=by
 obtain ⟨a,e,hb,hc⟩:=h.2 (by rw [h.ent_len];omega)
 refine ⟨a,e,hb,hc _ _ ?_,?_⟩
 ·have:=flat_get (fun x:Nat×Int=>[Value.int .u64 (x.1:Int),.int .i64 x.2]) 2 (fun _=>rfl) l k 0 hk (by omega)
  exact this
 ·have:=flat_get (fun x:Nat×Int=>[Value.int .u64 (x.1:Int),.int .i64 x.2]) 2 (fun _=>rfl) l k 1 hk (by omega)
  have:=hc _ _ this
  rw [←add_add',add_succ] at this
  exact this
end
def okAt (l:List (Nat×Int)) (k:Nat):Bool :=
 match l[k]? with
 | none=>true
 | some x=>decide (1≤x.2)&&decide (x.2≤8192)&&(match k with|0=>true|j+1=>match l[j]? with|none=>true|some y=>decide (y.1<x.1))
def riseB (l:List (Nat×Int)):Bool:=(List.range l.length).all (okAt l)
theorem riseB_iff (l:List (Nat×Int)):riseB l=true ↔ ∀ k,k<l.length→okAt l k=true:=by simp [riseB]
theorem riseB_no (l:List (Nat×Int)) (k:Nat) (hk:k<l.length) (h:okAt l k=false):riseB l=false:=by
 rw [Bool.eq_false_iff];intro h';rw [riseB_iff] at h';rw [h' k hk] at h;cases h
theorem okAt_zero (l:List (Nat×Int)) (h:0<l.length):okAt l 0=(decide (1≤l[0].2)&&decide (l[0].2≤8192)):=by
 simp [okAt,h]
theorem okAt_succ (l:List (Nat×Int)) (j:Nat) (h:j+1<l.length):okAt l (j+1)=(decide (1≤l[j+1].2)&&decide (l[j+1].2≤8192)&&decide (l[j].1<l[j+1].1)):=by
 have h':j<l.length:=by omega
 simp [okAt,h,h']
theorem one_of {p:Nat→Prop} (h:p 0):∀ j,j<1→p j:=fun j hj=>by obtain rfl:j=0:=by omega
                                                              exact h
theorem more_of {p:Nat→Prop} {k:Nat} (h:∀ j,j<k→p j) (hk:p k):∀ j,j<k+1→p j:=fun j hj=>by
 by_cases e:j=k
 ·rw [e];exact hk
 ·exact h j (by omega)
theorem rd_drw {w w':World} {B size n:Nat} {A:Option Addr} {xs:List Value} (h:Rd w B size A n xs) (k:Drw w w'):Rd w' B size A n xs:=by obtain ⟨m,rfl⟩:=k;exact h
set_option maxHeartbeats 400000 in
theorem rising_any (A:Option Addr) (n c B:Nat) (l:List (Nat×Int)) (w:World) (h:Rd w B 2 A n (entC l)) (hn:n≤1000000) (hB:B≤w.heap.size) :
 Calls Tryz.prog 117 #[.slice A n c] w fun e w'=>e=.returned (.bool (riseB l))∧Below w.heap.size w w':=by
 obtain rfl:n=l.length:=h.ent_len
 have H:=Lib.hid h;clear h
 go_enter Tryz.func117,Tryz.ntmps117
 go_wp2
 go_loopw [3,4,7] (fun i3 v4 i wr=>∃ k:Nat,k≤l.length∧i=.int .i64 (k:Int)∧(∀ j,j<k→okAt l j=true)∧Below w.heap.size w wr) (fun _ _ i _=>l.length-(intOf i).toNat)
 case atStart=>exact ⟨0,by omega,rfl,fun j hj=>by omega,belR _⟩
 case round =>
  obtain ⟨k,hk,rfl,hall,hb⟩:=hrel
  have hz:=hb.size
  by_cases hlt:k<l.length
  ·cases k with
   | zero =>
     obtain ⟨a,rfl,hab,x0,x1⟩:=(H.out.below (hb.mono hB)).ent hlt
     have hok:=okAt_zero l hlt
     have hno:=riseB_no l 0 hlt
     rw [Nat.zero_mul,add_zero'] at x0 x1
     rw [show ((0:Nat):Int)=0 from rfl]
     generalize l[0]=x at *
     obtain ⟨f,p⟩:=x
     simp only at x0 x1 hok
     have ALL:=Lib.hid hall;clear hall
     by_cases h1:p<1
     ·have t1:decide (p<1)=true:=decide_eq_true h1
      have hok':okAt l 0=false:=by rw [hok];simp;omega
      have HNO:=Lib.hid (hno hok');have HOK:=Lib.hid hok;clear hno hok hok'
      go_wp2
      go_quiet (fail)
      go_wp2
      go_ret
      exact ⟨by rw [HNO.out];rfl,belD (belA hb _) _⟩
     ·have t1:decide (p<1)=false:=decide_eq_false h1
      by_cases h2:8192<p
      ·have t2:decide (8192<p)=true:=decide_eq_true h2
       have hok':okAt l 0=false:=by rw [hok];simp;omega
       have HNO:=Lib.hid (hno hok');have HOK:=Lib.hid hok;clear hno hok hok'
       go_wp2
       go_quiet (fail)
       go_wp2
       go_ret
       exact ⟨by rw [HNO.out];rfl,belD (belA hb _) _⟩
      ·have t2:decide (8192<p)=false:=decide_eq_false h2
       have hok':okAt l 0=true:=by rw [hok];simp;omega
       have HOK':=Lib.hid hok';have HOK:=Lib.hid hok;clear hno hok hok'
       go_wp2
       go_quiet (fail)
       go_wp2
       go_roundw
       case rel=>exact ⟨1,by omega,rfl,one_of HOK'.out,belD (belA hb _) _⟩
       case measure=>simp [intOf];omega
   | succ j =>
     obtain ⟨a,rfl,hab,x0,x1⟩:=(H.out.below (hb.mono hB)).ent hlt
     obtain ⟨a',ea,_,y0,_⟩:=(H.out.below (hb.mono hB)).ent (k:=j) (by omega)
     injection ea with ea;subst ea
     have hok:=okAt_succ l j hlt
     have hno:=riseB_no l (j+1) hlt
     rw [show ((j+1:Nat):Int)=(j:Int)+1 from by omega]
     have hltz:(j:Int)+1<(l.length:Int):=by omega
     generalize l[j+1]=x at *
     generalize l[j]=y at *
     obtain ⟨f,p⟩:=x
     obtain ⟨f',p'⟩:=y
     simp only at x0 x1 y0 hok
     have ALL:=Lib.hid hall;clear hall
     by_cases h1:p<1
     ·have t1:decide (p<1)=true:=decide_eq_true h1
      have hok':okAt l (j+1)=false:=by rw [hok];simp;omega
      have HNO:=Lib.hid (hno hok');have HOK:=Lib.hid hok;clear hno hok hok'
      go_wp2
      go_quiet (fail)
      go_wp2
      go_ret
      exact ⟨by rw [HNO.out];rfl,belD (belA hb _) _⟩
     ·have t1:decide (p<1)=false:=decide_eq_false h1
      by_cases h2:8192<p
      ·have t2:decide (8192<p)=true:=decide_eq_true h2
       have hok':okAt l (j+1)=false:=by rw [hok];simp;omega
       have HNO:=Lib.hid (hno hok');have HOK:=Lib.hid hok;clear hno hok hok'
       go_wp2
       go_quiet (fail)
       go_wp2
       go_ret
       exact ⟨by rw [HNO.out];rfl,belD (belA hb _) _⟩
      ·have t2:decide (8192<p)=false:=decide_eq_false h2
       have t3:decide ((0:Int)<(j:Int)+1)=true:=decide_eq_true (by omega)
       have w1:IntKind.i64.wrap (j:Int)=(j:Int):=IntWalk.i64_in _ (by omega)
       have w2:IntKind.i64.wrap ((j:Int)+1-1)=(j:Int):=by rw [show (j:Int)+1-1=(j:Int) from by omega];exact w1
       have w3:(0:Int)≤(j:Int):=by omega
       have w4:(j:Int)<(l.length:Int):=by omega
       have y1:=fun o=>(World.cell?_alloc_lt wr o (a.add (j*2)) (by rw [block_add];omega)).trans y0
       by_cases h3:f'<f
       ·have t4:decide (f≤f')=false:=decide_eq_false (by omega)
        have hok':okAt l (j+1)=true:=by rw [hok];simp;omega
        have HOK':=Lib.hid hok';have HOK:=Lib.hid hok;clear hno hok hok'
        go_wp2
        go_quiet (fail)
        go_wp2
        go_roundw
        case rel=>exact ⟨j+1+1,by omega,by go_num,more_of ALL.out HOK'.out,belD (belA hb _) _⟩
        case measure=>simp [intOf];omega
       ·have t4:decide (f≤f')=true:=decide_eq_true (by omega)
        have hok':okAt l (j+1)=false:=by rw [hok];simp;omega
        have HNO:=Lib.hid (hno hok');have HOK:=Lib.hid hok;clear hno hok hok'
        go_wp2
        go_quiet (fail)
        go_wp2
        go_ret
        exact ⟨by rw [HNO.out];rfl,belD (belA hb _) _⟩
  ·have hyes:riseB l=true:=(riseB_iff l).2 fun j hj=>hall j (by omega)
   have HY:=Lib.hid hyes;have ALL:=Lib.hid hall;clear hyes hall
   go_wp2
   go_ret
   exact ⟨by rw [HY.out];rfl,hb⟩
theorem own_own_ne {w:World} {base base' n n':Nat} {e e':TypeId} {size size':Nat} {v v':Value} {xs xs':List Value} (h:w.ownsRow base e size v n xs) (h':w.ownsRow base' e' size' v' n' xs') (hne:e≠e'):v.ownBlock=none∨v.ownBlock≠v'.ownBlock:=by
 rcases h.2 with ⟨rfl,_⟩|⟨g,cap,cur,rfl,_,hh,_⟩
 ·exact .inl rfl
 ·refine .inr fun he=>?_
  rcases h'.2 with ⟨rfl,_⟩|⟨g',cap',cur',rfl,_,hh',_⟩
  ·simp [Value.ownBlock] at he
  ·have:g=g':=by simpa [Value.ownBlock] using he
   subst this
   rw [hh] at hh'
   injection hh' with hh'
   injection hh' with _ ht
   exact hne ht
structure Sht where
 k:Int
 a:Nat
 b:Nat
 d:List UInt8
def shC (s:Sht) (v:Value):List Value:=[.int .i64 s.k,.int .u64 (s.a:Int),.int .u64 (s.b:Int),v]
theorem shC_len (s:Sht) (v:Value):(shC s v).length=4:=rfl
def ShR (w:World) (B:Nat):List Sht→List Value→Prop
 | [],xs=>xs=[]
 | s::ss,xs=>∃ A c rest,xs=shC s (.slice A s.d.length c)++rest∧Rd w B 1 A s.d.length (u8s s.d)∧s.d.length≤c∧c≤maxLen∧ShR w B ss rest
def ShO (w:World) (base B:Nat):List Sht→List Value→Prop
 | [],xs=>xs=[]
 | s::ss,xs=>∃ v rest,xs=shC s v++rest∧w.ownsRow base 5 1 v s.d.length (u8s s.d)∧(∀ k,v.ownBlock=some k→k<B)∧ShO w base B ss rest
theorem ShO.reads {w:World} {base B:Nat} {ss:List Sht} {xs:List Value} (h:ShO w base B ss xs):ShR w w.heap.size ss xs:=by
 induction ss generalizing xs with
 | nil=>exact h
 | cons s ss ih =>
   obtain ⟨v,rest,rfl,ho,hk,hr⟩:=h
   obtain ⟨A,c,rfl,hc,hm,_⟩:=own_form ho
   exact ⟨A,c,rest,rfl,Rd.own ho,hc,hm,ih hr⟩
theorem ShO.map {w w':World} {base B B':Nat} {ss:List Sht} {xs:List Value} (h:ShO w base B ss xs) (hB:B≤B')
 (hk:∀ v n ys,w.ownsRow base 5 1 v n ys→(∀ k,v.ownBlock=some k→k<B)→w'.ownsRow base 5 1 v n ys):ShO w' base B' ss xs:=by
 induction ss generalizing xs with
 | nil=>exact h
 | cons s ss ih =>
   obtain ⟨v,rest,rfl,ho,hl,hr⟩:=h
   exact ⟨v,rest,rfl,hk _ _ _ ho hl,fun k hk=>Nat.lt_of_lt_of_le (hl k hk) hB,ih hr⟩
theorem ShO.snoc {w:World} {base B:Nat} {ss:List Sht} {xs:List Value} {s:Sht} {v:Value} (h:ShO w base B ss xs) (ho:w.ownsRow base 5 1 v s.d.length (u8s s.d)) (hl:∀ k,v.ownBlock=some k→k<B) :
 ShO w base B (ss ++ [s]) (xs++shC s v):=by
 induction ss generalizing xs with
 | nil=>cases h;exact ⟨v,[],by simp,ho,hl,rfl⟩
 | cons s' ss ih =>
   obtain ⟨v',rest,rfl,ho',hl',hr⟩:=h
   exact ⟨v',rest++shC s v,by rw [List.append_assoc],ho',hl',ih hr⟩
theorem ShO.len {w:World} {base B:Nat} {ss:List Sht} {xs:List Value} (h:ShO w base B ss xs):xs.length=ss.length*4:=by
 induction ss generalizing xs with
 | nil=>cases h;rfl
 | cons s ss ih =>
   obtain ⟨v,rest,rfl,_,_,hr⟩:=h
   rw [List.length_append,shC_len,ih hr,List.length_cons];omega
theorem ShR.len {w:World} {B:Nat} {ss:List Sht} {xs:List Value} (h:ShR w B ss xs):xs.length=ss.length*4:=by
 induction ss generalizing xs with
 | nil=>cases h;rfl
 | cons s ss ih =>
   obtain ⟨A,c,rest,rfl,_,_,_,hr⟩:=h
   rw [List.length_append,shC_len,ih hr,List.length_cons];omega
theorem ShR.keep {w w':World} {B B':Nat} {ss:List Sht} {xs:List Value} (h:ShR w B ss xs) (hb:Below B w w') (hB:B≤B'):ShR w' B' ss xs:=by
 induction ss generalizing xs with
 | nil=>exact h
 | cons s ss ih =>
   obtain ⟨A,c,rest,rfl,hR,h1,h2,hr⟩:=h
   exact ⟨A,c,rest,rfl,(hR.below hb).more hB,h1,h2,ih hr⟩
theorem ShR.get {w:World} {B:Nat} {ss:List Sht} {xs:List Value} (h:ShR w B ss xs) (i:Nat) (hi:i<ss.length) :
 ∃ A c,xs[i*4]?=some (.int .i64 ss[i].k)∧xs[i*4+1]?=some (.int .u64 (ss[i].a:Int))∧xs[i*4+2]?=some (.int .u64 (ss[i].b:Int))∧xs[i*4+3]?=some (.slice A ss[i].d.length c) ∧
  Rd w B 1 A ss[i].d.length (u8s ss[i].d)∧ss[i].d.length≤c∧c≤maxLen:=by
 induction ss generalizing xs i with
 | nil=>simp at hi
 | cons s ss ih =>
   obtain ⟨A,c,rest,rfl,hR,h1,h2,hr⟩:=h
   cases i with
   | zero=>exact ⟨A,c,rfl,rfl,rfl,rfl,hR,h1,h2⟩
   | succ i =>
     obtain ⟨A',c',e0,e1,e2,e3,r⟩:=ih hr i (by simpa using hi)
     have sh:∀ j,(shC s (.slice A s.d.length c)++rest)[(i+1)*4+j]?=rest[i*4+j]?:=fun j=>by
      rw [List.getElem?_append_right (by rw [shC_len];omega),shC_len,show (i+1)*4+j-4=i*4+j from by omega]
     exact ⟨A',c',(sh 0).trans e0,(sh 1).trans e1,(sh 2).trans e2,(sh 3).trans e3,r⟩
theorem info_sh:(Tryz.prog.info? 42).map (fun i=>(i.zero,i.size,i.bytes))=some (some (.agg #[.int .i64 0,.int .u64 0,.int .u64 0,.slice none 0 0]),4,48):=by kernel_rfl
theorem info_ent:(Tryz.prog.info? 112).map (fun i=>(i.zero,i.size,i.bytes))=some (some (.agg #[.int .u64 0,.int .i64 0]),2,16):=by kernel_rfl
section
variable {P:Program}
theorem wpList_appN {ops:Array Oper} {rest:List Oper} {o:Oper} {a:Act} {Q:Exit→Act→World→Prop} (w0:World) (us:List Value) (size:Nat) (hm:us.length=size) (hsz:0<size) (hu:∀ u∈us,u.oneCell'=true) (hgd:o.guard=none) (s x:Operand) (t:TypeId)
 (ho:o.op=.call { callee:=.builtin .append,args:=#[s,x],argTypes:=#[t,t] })
 (base:Nat) (e:TypeId) (z:Value) (bytes:Nat) (hinf:(P.info? e).map (fun i=>(i.zero,i.size,i.bytes))=some (some z,size,bytes)) (hzs:z.cells.size=size) (ht:P.underlying t=some (.slice e))
 (v:Value) (n:Nat) (xs:List Value) (hown:w0.ownsRow base e size v n xs) (hs:a.eval s=v) (hx:a.eval x=.slice (some ⟨w0.heap.size,0,none⟩) 1 1)
 (hbytes:(n+1)*bytes≤140737488355328) (h63:n+1≤140737488355328) (hbase:base≤w0.heap.size)
 (h:∀ v' w',w'.ownsRow base e size v' (n+1) (xs++us)→Appd w0 w' v v'→wpList P ops Q rest (a.put o.dst v') w') :
 wpList P ops Q (o::rest) a (w0.alloc (.cells us.toArray e)):=by
 obtain ⟨i,hi,hz,hs1,hby⟩:=info_parts hinf
 have hsz':(w0.alloc (.cells us.toArray e)).heap.size=w0.heap.size+1:=by simp
 refine wpList_append_own_at _ hgd s x t ho base e i z size bytes ht hi hz hs1 hby hzs hsz v n xs hs (hown.alloc _) ⟨w0.heap.size,0,none⟩ 1 1 us hx (by omega)
  (fun j u hj=>?_) hu (by simp only [maxLen];omega) hbytes (by omega) ?_
 ·have hadd:(⟨w0.heap.size,0,none⟩:Addr).add j=⟨w0.heap.size,j,none⟩:=by unfold Addr.add;split<;>simp_all
  rw [hadd,World.cell?_alloc_mark w0 us.toArray e (0,0) j]
  simpa using hj
 ·intro v' w' h1 h2 _ h4
  exact h v' w' h1 (Appd.of_alloc ⟨h2,h4.imp id fun e=>⟨_,e,Nat.le_refl _⟩⟩)
theorem wp_appB {o:Oper} {a:Act} {K:Act→World→Prop} {Q:Exit→Act→World→Prop} {W:World} (us:List Value) (size:Nat) (hm:us.length=size) (hsz:0<size) (hu:∀ u∈us,u.oneCell'=true) (s x:Operand) (t:TypeId)
 (ho:o.op=.call { callee:=.builtin .append,args:=#[s,x],argTypes:=#[t,t] })
 (base:Nat) (e:TypeId) (z:Value) (bytes:Nat) (hinf:(P.info? e).map (fun i=>(i.zero,i.size,i.bytes))=some (some z,size,bytes)) (hzs:z.cells.size=size) (ht:P.underlying t=some (.slice e))
 (v:Value) (n:Nat) (xs:List Value) (hown:W.ownsRow base e size v n xs) (nb:Nat) (hblk:Blk W nb e us.toArray) (hs:a.eval s=v) (hx:a.eval x=.slice (some ⟨nb,0,none⟩) 1 1)
 (hbytes:(n+1)*bytes≤140737488355328) (h63:n+1≤140737488355328) (hbase:base≤W.heap.size)
 (h:∀ v' w',w'.ownsRow base e size v' (n+1) (xs++us)→Appd W w' v v'→K (a.put o.dst v') w'):o.wp P a W K Q:=by
 obtain ⟨i,hi,hz,hs1,hby⟩:=info_parts hinf
 obtain ⟨v',w',hrun,h2,h3,_,h5⟩:=run_append_own_at (P:=P) W base t o.type e i z size bytes ht hi hz hs1 hby hzs hsz v n xs hown ⟨nb,0,none⟩ 1 1 us (by omega)
  (fun j u hj=>by
   have hadd:(⟨nb,0,none⟩:Addr).add j=⟨nb,j,none⟩:=by unfold Addr.add;split<;>simp_all
   rw [hadd,hblk.cell];simpa using hj) hu (by simp only [maxLen];omega) hbytes hbase
 unfold Oper.wp execOp
 simp only [ho,resolve,invoke,builtin,Sem.run_bind,Sem.run_pure,Result.andThen_ok,List.map_toArray,List.map_cons,List.map_nil,hs,hx,hrun]
 exact h v' w' h2 ⟨h3,h5.imp id fun e=>⟨_,e,Nat.le_refl _⟩⟩
theorem wpList_appB {ops:Array Oper} {rest:List Oper} {o:Oper} {a:Act} {Q:Exit→Act→World→Prop} {W:World} (hgd:o.guard=none) (us:List Value) (size:Nat) (hm:us.length=size) (hsz:0<size) (hu:∀ u∈us,u.oneCell'=true) (s x:Operand) (t:TypeId)
 (ho:o.op=.call { callee:=.builtin .append,args:=#[s,x],argTypes:=#[t,t] })
 (base:Nat) (e:TypeId) (z:Value) (bytes:Nat) (hinf:(P.info? e).map (fun i=>(i.zero,i.size,i.bytes))=some (some z,size,bytes)) (hzs:z.cells.size=size) (ht:P.underlying t=some (.slice e))
 (v:Value) (n:Nat) (xs:List Value) (hown:W.ownsRow base e size v n xs) (nb:Nat) (hblk:Blk W nb e us.toArray) (hs:a.eval s=v) (hx:a.eval x=.slice (some ⟨nb,0,none⟩) 1 1)
 (hbytes:(n+1)*bytes≤140737488355328) (h63:n+1≤140737488355328) (hbase:base≤W.heap.size)
 (h:∀ v' w',w'.ownsRow base e size v' (n+1) (xs++us)→Appd W w' v v'→wpList P ops Q rest (a.put o.dst v') w'):wpList P ops Q (o::rest) a W :=
 wpList_plain hgd fun _ hK=>wp_appB us size hm hsz hu s x t ho base e z bytes hinf hzs ht v n xs hown nb hblk hs hx hbytes h63 hbase fun v' w' h2 h3=>hK _ _ (h v' w' h2 h3)
end
abbrev Rst:=Nat×Nat×List (Nat×Int)
def umax:Nat:=18446744073709551615
def rx (t:List UInt8) (st:Rst):Nat×Nat×Nat:=inU t st.1 st.2.1 umax
def ry (t:List UInt8) (st:Rst):Nat×Nat×Nat:=inU t (rx t st).2.1 (rx t st).2.2 8192
def rstep (t:List UInt8) (st:Rst):Rst:=((ry t st).2.1,(ry t st).2.2,st.2.2 ++ [((rx t st).1,((ry t st).1:Int))])
def rst (t:List UInt8):Nat→Rst
 | 0=>(0,0,[])
 | k+1=>rstep t (rst t k)
theorem inU_bad (t:List UInt8) (p e most:Nat) (h:e≠0):inU t p e most=(0,p,e):=by
 have hk:stepE e (getU (t.drop p)).2.2 (overE (getU (t.drop p)).1 most)=e:=by unfold stepE;rw [if_pos h]
 unfold inU;rw [hk];unfold stepV stepP;rw [if_neg h,if_neg h]
theorem rstep_bad (t:List UInt8) (st:Rst) (h:st.2.1≠0):(rstep t st).2.1=st.2.1:=by
 have e1:rx t st=(0,st.1,st.2.1):=inU_bad _ _ _ _ h
 unfold rstep ry
 simp only [e1]
 rw [inU_bad _ _ _ _ h]
theorem rst_bad (t:List UInt8) (k j:Nat) (h:(rst t k).2.1≠0):(rst t (k+j)).2.1=(rst t k).2.1:=by
 induction j with
 | zero=>rfl
 | succ j ih=>rw [←Nat.add_assoc];show (rstep t (rst t (k+j))).2.1=_;rw [rstep_bad _ _ (by rw [ih];exact h),ih]
theorem rst_len (t:List UInt8) (k:Nat):(rst t k).2.2.length=k:=by
 induction k with
 | zero=>rfl
 | succ k ih=>show (rstep t (rst t k)).2.2.length=_;unfold rstep;simp [ih]
theorem inU_lt (t:List UInt8) (p e most:Nat):(inU t p e most).1≤most:=by
 unfold inU
 simp only
 unfold stepV
 split
 ·rename_i h
  unfold stepE at h
  split at h
  ·omega
  ·split at h
   ·omega
   ·unfold overE at h
    split at h
    ·omega
    ·omega
 ·omega
def headB (k:Int) (a b:Nat):Bool:=decide (k=4)&&decide (1≤a)&&decide (a≤1001)&&decide (1≤b)&&decide (b≤60)
def rnode (s:Sht):Int×List (Nat×Int)×Nat :=
 if headB s.k s.a s.b=false then (0,[],6)
 else if endE s.d (rst s.d s.a).1 (rst s.d s.a).2.1≠0 then (0,[],endE s.d (rst s.d s.a).1 (rst s.d s.a).2.1)
 else if riseB (rst s.d s.a).2.2=false then (0,[],6) else ((s.b:Int),(rst s.d s.a).2.2,0)
theorem endE_bad (t:List UInt8) (p e:Nat) (h:e≠0):endE t p e=e:=by unfold endE;rw [if_neg h]
theorem rnode_early (s:Sht) (k:Nat) (hh:headB s.k s.a s.b=true) (hk:k≤s.a) (he:(rst s.d k).2.1≠0):rnode s=(0,[],(rst s.d k).2.1):=by
 obtain ⟨j,hj⟩:∃ j,s.a=k+j:=⟨s.a-k,by omega⟩
 have:=rst_bad s.d k j he
 rw [←hj] at this
 have h2:endE s.d (rst s.d s.a).1 (rst s.d s.a).2.1=(rst s.d k).2.1:=by rw [endE_bad _ _ _ (by rw [this];exact he),this]
 unfold rnode
 rw [if_neg (by rw [hh];simp),if_pos (by rw [h2];exact he),h2]
theorem getI_fits (t:List UInt8) (h:(getI t).2.2=0):(getI t).2.1≤t.length:=by
 cases t with
 | nil=>simp [getI]
 | cons c t =>
   unfold getI at h ⊢
   simp only at h ⊢
   split at h
   ·simp at h
   ·rename_i h1
    rw [if_neg h1]
    split at h
    ·simp at h
    ·rename_i h2
     rw [if_neg h2]
     split at h
     ·rename_i h3
      rw [if_pos h3]
      simp only [List.length_cons]
      have hp:(prt c t).length≤t.length:=by unfold prt;split<;>simp<;>omega
      have:=numB_fits (prt c t) _ h3
      omega
     ·rename_i h3;exact absurd h h3
theorem getF_fits (t:List UInt8) (h:(getF t).2.2=0):(getF t).2.1≤t.length:=by
 unfold getF at h ⊢
 split at h
 ·split at h<;>simp at h
 ·rename_i h8
  rw [if_neg h8]
  split<;>simp<;>omega
theorem allF_any (x:Nat) (w:World):Calls Tryz.prog 150 #[.float .f64 x] w fun y w'=>y=.returned (.int .i64 ((0:Nat):Int))∧w=w':=by
 go_enter Tryz.func150,Tryz.ntmps150
 go_wp2
 go_ret
 exact ⟨rfl,rfl⟩
theorem inI_any (w:World) (g:Nat) (t:List UInt8) (p e:Nat) (h:InS w g t p e) :
 Calls Tryz.prog 87 #[.pointer (some ⟨g,0,none⟩)] w
  fun y w'=>y=.returned (.int .i64 (stepV (0:Int) (getI (t.drop p)).1 (stepE e (getI (t.drop p)).2.2 0)))∧InS w' g t (stepP p (getI (t.drop p)).2.1 (stepE e (getI (t.drop p)).2.2 0)) (stepE e (getI (t.drop p)).2.2 0)∧Only g w w':=by
 have hr:=readI_any w g t p e (getI (t.drop p)).1 (getI (t.drop p)).2.1 (getI (t.drop p)).2.2 0 h
  (fun _ W A c hgW hR h1 h2=>getI_any A (t.length-p) c (t.drop p) W (hR.more hgW) h1 h2)
  (fun W=>all64_any _ W) (fun _ h0=>by have:=getI_fits (t.drop p) h0;rwa [List.length_drop] at this)
 have HR:=Lib.hid hr;clear hr
 go_enter Tryz.func87,Tryz.ntmps87
 go_wp2_with (go_at_call 143;(with_reducible refine HR.out.mono ?_);rintro y w1 ⟨rfl,hi1,ho1⟩)
 go_ret
 exact ⟨rfl,hi1,ho1⟩
theorem inF_any (w:World) (g:Nat) (t:List UInt8) (p e:Nat) (h:InS w g t p e) :
 Calls Tryz.prog 90 #[.pointer (some ⟨g,0,none⟩)] w
  fun y w'=>y=.returned (.float .f64 (stepV (0:Nat) (getF (t.drop p)).1 (stepE e (getF (t.drop p)).2.2 0)))∧InS w' g t (stepP p (getF (t.drop p)).2.1 (stepE e (getF (t.drop p)).2.2 0)) (stepE e (getF (t.drop p)).2.2 0)∧Only g w w':=by
 have hr:=readF_any w g t p e (getF (t.drop p)).1 (getF (t.drop p)).2.1 (getF (t.drop p)).2.2 0 h
  (fun _ W A c hgW hR h1 h2=>getF_any A (t.length-p) c g (t.drop p) W hR h1 h2)
  (fun W=>allF_any _ W) (fun _ h0=>by have:=getF_fits (t.drop p) h0;rwa [List.length_drop] at this)
 have HR:=Lib.hid hr;clear hr
 go_enter Tryz.func90,Tryz.ntmps90
 go_wp2_with (go_at_call 148;(with_reducible refine HR.out.mono ?_);rintro y w1 ⟨rfl,hi1,ho1⟩)
 go_ret
 exact ⟨rfl,hi1,ho1⟩
theorem inB_bad (w:World) (g:Nat) (t:List UInt8) (p e:Nat) (ms:Int) (h:InS w g t p e) (he:e≠0) :
 Calls Tryz.prog 89 #[.pointer (some ⟨g,0,none⟩),.int .i64 ms] w fun y w'=>y=.returned (.slice none 0 0)∧w=w':=by
 have hf:=fine_any w g t p e h
 rw [decide_eq_false he] at hf
 have HF:=Lib.hid hf;have HE:=Lib.hid he;clear hf he
 go_enter Tryz.func89,Tryz.ntmps89
 go_wp2_with (go_at_call 108;(with_reducible refine HF.out.mono ?_);rintro y w' ⟨rfl,rfl⟩)
 go_ret
 exact ⟨rfl,rfl⟩
theorem rd_cut {w:World} {B n k N:Nat} {a:Addr} {t:List UInt8} (h:Rd w B 1 (some a) n (u8s t)) (hk:k≤n) (hN:k+N≤n):Rd w B 1 (some (a.add k)) N (u8s ((t.drop k).take N)):=by
 have h1:=h.cut (k:=k) (c:=n+1) (by omega) (by omega)
 rw [if_neg (by omega),Nat.mul_one,u8s_drop] at h1
 have h2:=h1.take (k:=N) (by omega)
 simpa only [Option.map_some,Nat.mul_one] using h2
set_option maxRecDepth 20000 in
set_option maxHeartbeats 2000000 in
theorem inB_ok (w:World) (g:Nat) (t:List UInt8) (p:Nat) (ms:Int) (h:InS w g t p 0) (ht:t.length≤1000000) (hms:ms≤9223372036854775807) :
 Calls Tryz.prog 89 #[.pointer (some ⟨g,0,none⟩),.int .i64 ms] w fun y w'=>∃ v,y=.returned v∧w'.ownsRow w.heap.size 5 1 v (rdB ms (t.drop p)).t.length (u8s (rdB ms (t.drop p)).t) ∧
  InS w' g t (p+(rdB ms (t.drop p)).n) (rdB ms (t.drop p)).e∧Only g w w':=by
 have hf:=fine_any w g t p 0 h
 rw [decide_eq_true rfl] at hf
 have hgl:=h.lt
 have hp:p≤t.length:=by obtain ⟨A,c,_,_,_,_,h⟩:=h;exact h
 have hg:=fun (W:World) (A:Option Addr) (c:Nat) (hR:Rd W g 1 A (t.length-p) (u8s (t.drop p))) (h1:t.length-p≤c) (h2:c≤maxLen)=>getU_any A (t.length-p) c g (t.drop p) W hR h1 h2
 have hlt:=getU_lt (t.drop p)
 have hfit:=getU_fits (t.drop p)
 rw [List.length_drop] at hfit
 have hne:t.drop p=[]→(getU (t.drop p)).2.2=5:=fun e=>by rw [e];rfl
 have hmx:=mx_eq ms
 have hM:mx ms≤9223372036854775807:=by unfold mx;omega
 unfold rdB
 rw [List.length_drop]
 generalize getU (t.drop p)=r at *
 obtain ⟨x,n,er⟩:=r
 simp only at hg hlt hfit hne ⊢
 generalize mx ms=M at *
 have wM:IntKind.u64.wrap (M:Int)=(M:Int):=by rw [IntKind.wrap_u64];omega
 obtain ⟨m,hm⟩:∃ m,t.length-p=m:=⟨_,rfl⟩
 rw [hm] at hfit hg ⊢
 have hm6:m≤1000000:=by omega
 have HF:=Lib.hid hf;have H:=Lib.hid h;have HG:=Lib.hid hg;have HM:=Lib.hid hm;clear hf h hg hm
 by_cases h1:er=0
 ·subst h1
  rw [if_neg (by omega)]
  have hn:=hfit rfl
  have hm0:0<m:=by
   rcases Nat.eq_zero_or_pos m with h0|h0
   ·have:t.drop p=[]:=List.eq_nil_of_length_eq_zero (by rw [List.length_drop,HM.out,h0])
    exact absurd (hne this) (by decide)
   ·exact h0
  clear hne hfit
  obtain ⟨k,hk⟩:∃ k,n+k=m:=⟨m-n,by omega⟩
  have hkz:(m:Int)-(n:Int)=(k:Int):=by omega
  have wk:IntKind.u64.wrap (k:Int)=(k:Int):=by rw [IntKind.wrap_u64];omega
  have hl:m-n=k:=by omega
  rw [hl]
  have hkm:k≤1000000:=by omega
  have HK:=Lib.hid hk;have HL:=Lib.hid hl;clear hk hl
  by_cases h2:M<x
  ·rw [if_pos h2]
   go_enter Tryz.func89,Tryz.ntmps89
   go_wp2_with (go_at_call 108;(with_reducible refine HF.out.mono ?_);rintro y w' ⟨rfl,rfl⟩)
   refine (rest_any _ _ _ _ _ H.out).mono ?_
   rintro y w1 ⟨A1,c1,rfl,hR1,hc1,hm1,k1⟩
   rw [HM.out] at hR1 hc1 ⊢
   have HR1:=Lib.hid hR1;have HC1:=Lib.hid hc1;clear hR1 hc1
   go_wp2_with fail
   refine (HG.out w1 A1 c1 HR1.out HC1.out hm1).mono ?_
   rintro y w2 ⟨rfl,hd2⟩
   have k2:Drw w1 w2:=hd2
   have hi2:=(H.out.drw k1).drw k2
   have hw2:Drw w w2:=k1.trans k2
   have HI2:=Lib.hid hi2;have HW2:=Lib.hid hw2;clear hi2 hw2 hd2 k2 k1 HR1 HC1 hm1
   have hfl:=fail_any _ g t p 0 4 HI2.out
   rw [show ((4:Nat):Int)=4 from rfl] at hfl
   have HFL:=Lib.hid hfl;clear hfl
   go_wp2_with (go_at_call 147;(with_reducible refine HFL.out.mono ?_);rintro y w5 ⟨rfl,rfl⟩)
   go_ret
   exact ⟨_,rfl,World.ownsRow_nil _ _ _ 1,HI2.out.bad 4,((Only.refl g w).drw HW2.out).set_ (.inl rfl) _⟩
  ·rw [if_neg h2]
   by_cases h3:k<x
   ·rw [if_pos h3]
    go_enter Tryz.func89,Tryz.ntmps89
    go_wp2_with (go_at_call 108;(with_reducible refine HF.out.mono ?_);rintro y w' ⟨rfl,rfl⟩)
    refine (rest_any _ _ _ _ _ H.out).mono ?_
    rintro y w1 ⟨A1,c1,rfl,hR1,hc1,hm1,k1⟩
    rw [HM.out] at hR1 hc1 ⊢
    have HR1:=Lib.hid hR1;have HC1:=Lib.hid hc1;clear hR1 hc1
    go_wp2_with fail
    refine (HG.out w1 A1 c1 HR1.out HC1.out hm1).mono ?_
    rintro y w2 ⟨rfl,hd2⟩
    have k2:Drw w1 w2:=hd2
    have hi2:=(H.out.drw k1).drw k2
    have hw2:Drw w w2:=k1.trans k2
    have HI2:=Lib.hid hi2;have HW2:=Lib.hid hw2;clear hi2 hw2 hd2 k2 k1 HR1 HC1 hm1
    go_wp2_with fail
    refine (rest_any _ _ _ _ _ HI2.out).mono ?_
    rintro y w3 ⟨A3,c3,rfl,hR3,hc3,hm3,k3⟩
    rw [HM.out] at hR3 hc3 ⊢
    have hi3:=HI2.out.drw k3
    have HW3:=Lib.hid (HW2.out.trans k3);have HI3:=Lib.hid hi3;clear HI2 HW2 hR3 hc3 hm3 k3 hi3
    have hfl:=fail_any _ g t p 0 5 HI3.out
    rw [show ((5:Nat):Int)=5 from rfl] at hfl
    have HFL:=Lib.hid hfl;clear hfl
    go_wp2_with (go_at_call 147;(with_reducible refine HFL.out.mono ?_);rintro y w5 ⟨rfl,rfl⟩)
    go_ret
    exact ⟨_,rfl,World.ownsRow_nil _ _ _ 1,HI3.out.bad 5,((Only.refl g w).drw HW3.out).set_ (.inl rfl) _⟩
   ·rw [if_neg h3]
    have hxk:x≤k:=by omega
    have hxz:(x:Int)≤1000000:=by omega
    have key:∀ (T:List UInt8),((t.drop p).drop n).take x=T→T.length=x:=fun T hT=>by
     rw [←hT,List.length_take,List.length_drop,List.length_drop,HM.out];have:=HK.out;omega
    obtain ⟨T,hT⟩:∃ T,((t.drop p).drop n).take x=T:=⟨_,rfl⟩
    have hTl:=key T hT
    rw [hT,hTl]
    have HT:=Lib.hid hT;have HTL:=Lib.hid hTl;clear key hT hTl
    go_enter Tryz.func89,Tryz.ntmps89
    go_wp2_with (go_at_call 108;(with_reducible refine HF.out.mono ?_);rintro y w' ⟨rfl,rfl⟩)
    refine (rest_any _ _ _ _ _ H.out).mono ?_
    rintro y w1 ⟨A1,c1,rfl,hR1,hc1,hm1,k1⟩
    rw [HM.out] at hR1 hc1 ⊢
    have HR1:=Lib.hid hR1;have HC1:=Lib.hid hc1;clear hR1 hc1
    go_wp2_with fail
    refine (HG.out w1 A1 c1 HR1.out HC1.out hm1).mono ?_
    rintro y w2 ⟨rfl,hd2⟩
    have k2:Drw w1 w2:=hd2
    have hi2:=(H.out.drw k1).drw k2
    have hw2:Drw w w2:=k1.trans k2
    have HI2:=Lib.hid hi2;have HW2:=Lib.hid hw2;clear hi2 hw2 hd2 k2 k1 HR1 HC1 hm1
    go_wp2_with fail
    refine (rest_any _ _ _ _ _ HI2.out).mono ?_
    rintro y w3 ⟨A3,c3,rfl,hR3,hc3,hm3,k3⟩
    rw [HM.out] at hR3 hc3 ⊢
    have HW3:=Lib.hid (HW2.out.trans k3);have HI3:=Lib.hid (HI2.out.drw k3);clear HI2 HW2 hR3 hc3 hm3 k3
    go_wp2_with fail
    refine (rest_any _ _ _ _ _ HI3.out).mono ?_
    rintro y w4 ⟨A4,c4,rfl,hR4,hc4,hm4,k4⟩
    rw [HM.out] at hR4 hc4 ⊢
    obtain ⟨a,rfl,hab,_⟩:=hR4.2 hm0
    have HW4:=Lib.hid (HW3.out.trans k4);have HI4:=Lib.hid (HI3.out.drw k4);have HR4:=Lib.hid hR4;clear HI3 HW3 hR4 k4
    have hcc:=hm4
    unfold maxLen at hcc
    have hnx:(n:Int)+(x:Int)≤(c4:Int):=by have:=HK.out;omega
    have hz4:w.heap.size=w4.heap.size:=by obtain ⟨j,hj⟩:=HW4.out;rw [hj];rfl
    have hnil:=World.ownsRow_nil w4 w.heap.size 5 1
    have HZ4:=Lib.hid hz4;have HNIL:=Lib.hid hnil;clear hz4 hnil
    by_cases hnc:n=c4
    ·have hx0:x=0:=by have:=HK.out;omega
     subst hx0
     subst hnc
     have hT0:T=[]:=List.eq_nil_of_length_eq_zero HTL.out
     have hrd:Rd w4 g 1 (some a) 0 (u8s T):=by rw [hT0];exact ⟨rfl,fun h=>absurd h (by omega)⟩
     have HRD:=Lib.hid hrd;clear hrd
     have hT0':=Lib.hid hT0;clear hT0
     go_wp2_with (at_builtin;(refine wpList_appS _ rfl _ (.tmp 49) 27 rfl w.heap.size 5 (.int .u8 0) 1 1 info_u8 rfl (by decide) Tryz.underlying27 (.slice none 0 0) 0 [] HNIL.out ?_ _ (some a) 0 0 (u8s T) HRD.out ?_ (u8s_one _) ?_ ?_ ?_ ?_);rfl;rfl;omega;omega;(have:=HZ4.out;omega);intro v5 w5 ho5 hap5;have hb5:=hap5.below_nil (Nat.le_refl _);rw [Nat.zero_add,List.nil_append] at ho5;have hi5:=HI4.out.below hb5 (by have:=HZ4.out;omega);obtain ⟨A6,c6,hb6,_,_,_,_⟩:=hi5;have x2:=hb6.cell 2;have f2:=hb6.frozen 2;simp at x2;have HI5:=Lib.hid (HI4.out.below hb5 (by have:=HZ4.out;omega));have HO5:=Lib.hid ho5;have HB5:=Lib.hid hb5;have HB6:=Lib.hid hb6;clear ho5 hb5 hap5 hb6)
     go_ret
     have hmv:=HI5.out.move (p+(n+0)) (by have:=HK.out;have:=HM.out;omega)
     rw [show ((p+(n+0):Nat):Int)=(p:Int)+(n:Int) from by omega] at hmv
     have hne5:v5.ownBlock≠some g:=fun e=>by have:=(HO5.out.lt g e).1;omega
     exact ⟨_,rfl,(Only.set1 w5 g 2 _).own HO5.out hne5,hmv,(((Only.refl g w).drw HW4.out).belowT HB5.out).set_ (.inl rfl) _⟩
    ·have hnc2:(n:Int)<(c4:Int):=by have:=HK.out;omega
     have hnc3:n≠c4:=hnc
     have hrd:Rd w4 g 1 (some (a.add n)) (n+x-n) (u8s T):=by
      rw [Nat.add_sub_cancel_left,←HT.out]
      exact rd_cut HR4.out (by have:=HK.out;omega) (by have:=HK.out;omega)
     have HRD:=Lib.hid hrd;clear hrd hnc3
     go_wp2_with (at_builtin;(refine wpList_appS _ rfl _ (.tmp 49) 27 rfl w.heap.size 5 (.int .u8 0) 1 1 info_u8 rfl (by decide) Tryz.underlying27 (.slice none 0 0) 0 [] HNIL.out ?_ _ (some (a.add n)) (n+x-n) (c4-n) (u8s T) HRD.out ?_ (u8s_one _) ?_ ?_ ?_ ?_);rfl;rfl;omega;omega;(have:=HZ4.out;omega);intro v5 w5 ho5 hap5;have hb5:=hap5.below_nil (Nat.le_refl _);rw [Nat.zero_add,Nat.add_sub_cancel_left,List.nil_append] at ho5;have hi5:=HI4.out.below hb5 (by have:=HZ4.out;omega);obtain ⟨A6,c6,hb6,_,_,_,_⟩:=hi5;have x2:=hb6.cell 2;have f2:=hb6.frozen 2;simp at x2;have HI5:=Lib.hid (HI4.out.below hb5 (by have:=HZ4.out;omega));have HO5:=Lib.hid ho5;have HB5:=Lib.hid hb5;have HB6:=Lib.hid hb6;clear ho5 hb5 hap5 hb6)
     go_ret
     have hmv:=HI5.out.move (p+(n+x)) (by have:=HK.out;have:=HM.out;omega)
     rw [show ((p+(n+x):Nat):Int)=(p:Int)+((n:Int)+(x:Int)) from by omega] at hmv
     have hne5:v5.ownBlock≠some g:=fun e=>by have:=(HO5.out.lt g e).1;omega
     exact ⟨_,rfl,(Only.set1 w5 g 2 _).own HO5.out hne5,hmv,(((Only.refl g w).drw HW4.out).belowT HB5.out).set_ (.inl rfl) _⟩
 ·rw [if_pos h1]
  have t1:((er:Int)==0)=false:=by rw [beq_eq_false_iff_ne];omega
  have t2:((er:Int) != 0)=true:=by rw [bne_iff_ne];omega
  have H1:=Lib.hid h1;clear h1 hne hfit
  go_enter Tryz.func89,Tryz.ntmps89
  go_wp2_with (go_at_call 108;(with_reducible refine HF.out.mono ?_);rintro y w' ⟨rfl,rfl⟩)
  refine (rest_any _ _ _ _ _ H.out).mono ?_
  rintro y w1 ⟨A1,c1,rfl,hR1,hc1,hm1,k1⟩
  rw [HM.out] at hR1 hc1 ⊢
  have HR1:=Lib.hid hR1;have HC1:=Lib.hid hc1;clear hR1 hc1
  go_wp2_with fail
  refine (HG.out w1 A1 c1 HR1.out HC1.out hm1).mono ?_
  rintro y w2 ⟨rfl,hd2⟩
  have k2:Drw w1 w2:=hd2
  have hi2:=(H.out.drw k1).drw k2
  have hw2:Drw w w2:=k1.trans k2
  have HI2:=Lib.hid hi2;have HW2:=Lib.hid hw2;clear hi2 hw2 hd2 k2 k1 HR1 HC1 hm1
  have hfl:=fail_any _ g t p 0 er HI2.out
  skip
  have HFL:=Lib.hid hfl;clear hfl
  go_wp2_with (go_at_call 147;(with_reducible refine HFL.out.mono ?_);rintro y w5 ⟨rfl,rfl⟩)
  go_ret
  exact ⟨_,rfl,World.ownsRow_nil _ _ _ 1,HI2.out.bad er,((Only.refl g w).drw HW2.out).set_ (.inl rfl) _⟩
structure AskS where
 d:Int
 u:Nat
 i:Int
 f:Nat
 s:ByteArray
 m:Int
def askC (a:AskS):List Value:=[.int .i64 a.d,.int .u64 (a.u:Int),.int .i64 a.i,.float .f64 a.f,.string a.s,.int .i64 a.m]
def nextP (e p:Nat) (G:GotS):Nat:=if e=0 then p+G.n else p
def nextE (e:Nat) (G:GotS):Nat:=if e=0 then G.e else e
theorem inU_got (t:List UInt8) (p e u:Nat) (G:GotS) (hG:G=if e=0 then rdU u (t.drop p) else got0S 0):inU t p e u=(G.u,nextP e p G,nextE e G):=by
 unfold nextP nextE
 by_cases he:e=0
 ·subst he
  rw [if_pos rfl] at hG
  rw [if_pos rfl,if_pos rfl]
  unfold inU
  unfold rdU at hG
  generalize getU (t.drop p)=r at *
  obtain ⟨x,n,er⟩:=r
  simp only at hG ⊢
  unfold stepE overE
  rw [if_neg (by omega)]
  by_cases h1:er≠0
  ·rw [if_pos h1] at hG ⊢
   subst hG
   unfold stepV stepP
   rw [if_neg h1,if_neg h1];rfl
  ·rw [if_neg h1] at hG ⊢
   by_cases h2:u<x
   ·rw [if_pos h2] at hG ⊢
    subst hG;rfl
   ·rw [if_neg h2] at hG ⊢
    subst hG;rfl
 ·rw [if_neg he] at hG
  rw [if_neg he,if_neg he,inU_bad _ _ _ _ he,hG];rfl
theorem inI_got (t:List UInt8) (p e:Nat) (G:GotS) (hG:G=if e=0 then rdI (t.drop p) else got0S 0) :
 stepV (0:Int) (getI (t.drop p)).1 (stepE e (getI (t.drop p)).2.2 0)=G.i∧stepP p (getI (t.drop p)).2.1 (stepE e (getI (t.drop p)).2.2 0)=nextP e p G∧stepE e (getI (t.drop p)).2.2 0=nextE e G:=by
 unfold nextP nextE
 unfold rdI at hG
 generalize getI (t.drop p)=r at *
 obtain ⟨x,n,er⟩:=r
 simp only at hG ⊢
 unfold stepE stepV stepP
 by_cases he:e=0
 ·subst he
  rw [if_pos rfl] at hG
  by_cases h1:er=0
  ·subst h1;rw [if_neg (by omega)] at hG;subst hG;simp
  ·rw [if_pos h1] at hG;subst hG;simp [h1,got0S]
 ·rw [if_neg he] at hG;subst hG;simp [he,got0S]
theorem inF_got (t:List UInt8) (p e:Nat) (G:GotS) (hG:G=if e=0 then rdF (t.drop p) else got0S 0) :
 stepP p (getF (t.drop p)).2.1 (stepE e (getF (t.drop p)).2.2 0)=nextP e p G∧stepE e (getF (t.drop p)).2.2 0=nextE e G ∧
  ((G.n=0∧stepV (0:Nat) (getF (t.drop p)).1 (stepE e (getF (t.drop p)).2.2 0)=0)∨(G.n=8∧keyB (stepV (0:Nat) (getF (t.drop p)).1 (stepE e (getF (t.drop p)).2.2 0))=G.u∧stepV (0:Nat) (getF (t.drop p)).1 (stepE e (getF (t.drop p)).2.2 0)<18446744073709551616)):=by
 have hd:=getF_doc (t.drop p)
 unfold nextP nextE
 unfold rdF at hG
 generalize getF (t.drop p)=r at *
 generalize rgetF (t.drop p)=q at *
 obtain ⟨x,n,er⟩:=r
 obtain ⟨k,er'⟩:=q
 simp only at hG hd ⊢
 obtain ⟨rfl,hd1,hd2⟩:=hd
 unfold stepE stepV stepP
 by_cases he:e=0
 ·subst he
  rw [if_pos rfl] at hG
  by_cases h1:er=0
  ·obtain ⟨rfl,h3,h4⟩:=hd2 h1
   subst h1;rw [if_neg (by omega)] at hG;subst hG;simp [h3,h4]
  ·have:=hd1 h1
   rw [if_pos h1] at hG;subst hG;simp [h1,got0S]
 ·rw [if_neg he] at hG;subst hG;simp [he,got0S]
section
variable {w:World} {B n:Nat} {A:Option Addr} {l:List AskS}
end
end Go.Proofs.YtfhmaincnlaapaaGreat
