/- bushelref07.high, U, I, T: the document's codes are the same lists of bytes. -/
import Derived.Test.YtfhmaincnlaapaaGreatTrSy2
import Derived.Test.YtfhmaincnlaapaaGreatTrGetWalks
namespace Go.Proofs.YtfhmaincnlaapaaGreat
open Go.ChangeShapes Go.WideShapes Go.ChangeAt Go.RowKit
set_option linter.unusedVariables false
theorem slice_from {P:Program} {w:World} {B n c p:Nat} {A:Option Addr} {l:List UInt8} {T E:TypeId} (hT:P.underlying T=some (.slice E)) (hE:P.elem T=E) (hs:∀ w,(sizeOf E).run P w=.ok 1 w)
 (h:Rd w B 1 A n (u8s l)) (hp:p≤n) (hc:n≤c) :
 ∃ A',(∀ W,(Instr.slice T (.slice A n c) (some (.int .i64 (p:Int))) none none).run P W=.ok (.slice A' (n-p) (c-p)) W)∧Rd w B 1 A' (n-p) (u8s (l.drop p)):=by
 have h1:=h.cut (k:=p) (c:=c) hp hc
 rw [u8s_drop,Nat.mul_one] at h1
 refine ⟨_,fun W=>?_,h1⟩
 rw [run_slice_l W T A n c (by rw [hE];exact hT) .i64 (p:Int) (by omega) (by omega),hE,hs]
 simp [Result.andThen,sliced]
def InS (w:World) (g:Nat) (t:List UInt8) (p e:Nat):Prop :=
 ∃ A c,Blk w g 169 #[.bool true,.slice A t.length c,.int .i64 (p:Int),.int .i64 (e:Int)]∧Rd w g 1 A t.length (u8s t)∧t.length≤c∧c≤maxLen∧p≤t.length
section
variable {w w':World} {g p e:Nat} {t:List UInt8}
theorem InS.lt (h:InS w g t p e):g<w.heap.size:=by obtain ⟨A,c,hb,_⟩:=h;exact hb.lt
theorem InS.drw (h:InS w g t p e) (k:Drw w w'):InS w' g t p e:=by
 obtain ⟨n,rfl⟩:=k;exact h
theorem InS.below {B:Nat} (h:InS w g t p e) (hb:Below B w w') (hg:g<B):InS w' g t p e:=by
 obtain ⟨A,c,h1,h2,h3⟩:=h
 exact ⟨A,c,h1.below hb hg,h2.keep fun q hq=>hb.cell (by omega),h3⟩
end
theorem szu8 (w:World):(sizeOf 5).run Tryz.prog w=.ok 1 w:=by kernel_rfl
theorem elu8:Tryz.prog.elem 27=5:=by kernel_rfl
theorem fine_any (w:World) (g:Nat) (t:List UInt8) (p e:Nat) (h:InS w g t p e) :
 Calls Tryz.prog 108 #[.pointer (some ⟨g,0,none⟩)] w fun x w'=>x=.returned (.bool (decide (e=0)))∧w=w':=by
 obtain ⟨A,c,hb,hR,hc,hm,hp⟩:=h
 have c0:=hb.cell 0;have c3:=hb.cell 3
 simp at c0 c3
 have HB:=Lib.hid hb;have HR:=Lib.hid hR;clear hb hR
 by_cases he:e=0
 ·subst he
  go_enter Tryz.func108,Tryz.ntmps108
  go_wp2
  go_ret
  exact ⟨rfl,rfl⟩
 ·have t1:((e:Int)==0)=false:=by rw [beq_eq_false_iff_ne];omega
  have t2:decide (e=0)=false:=decide_eq_false he
  have T2:=Lib.hid t2;have HE:=Lib.hid he;clear t2 he
  go_enter Tryz.func108,Tryz.ntmps108
  go_wp2
  go_ret
  exact ⟨by rw [T2.out];rfl,rfl⟩
theorem rest_any (w:World) (g:Nat) (t:List UInt8) (p e:Nat) (h:InS w g t p e) :
 Calls Tryz.prog 146 #[.pointer (some ⟨g,0,none⟩)] w fun x w'=>∃ A' c',x=.returned (.slice A' (t.length-p) c')∧Rd w' g 1 A' (t.length-p) (u8s (t.drop p))∧t.length-p≤c'∧c'≤maxLen∧Drw w w':=by
 obtain ⟨A,c,hb,hR,hc,hm,hp⟩:=h
 have c1:=hb.cell 1;have c2:=hb.cell 2
 simp at c1 c2
 obtain ⟨A',hsl,hR'⟩:=slice_from Tryz.underlying27 elu8 szu8 hR hp hc
 have HB:=Lib.hid hb;have HR:=Lib.hid hR;clear hb hR
 go_enter Tryz.func146,Tryz.ntmps146
 go_wp2
 go_quiet (fail)
 go_wp2
 go_ret
 exact ⟨A',c-p,rfl,hR',by omega,by omega,⟨_,rfl⟩⟩
theorem InS.bad {w:World} {g:Nat} {t:List UInt8} {p e:Nat} (h:InS w g t p e) (e':Nat):InS (w.setCell ⟨g,3,none⟩ (.int .i64 (e':Int))) g t p e':=by
 obtain ⟨A,c,hb,hR,r⟩:=h
 have:=hb.set_ 3 (.int .i64 (e':Int))
 exact ⟨A,c,by simpa using this,hR.keep fun q hq=>World.cell?_setCell_other w _ q _ (fun e=>by subst e;simp at hq),r⟩
theorem InS.move {w:World} {g:Nat} {t:List UInt8} {p e:Nat} (h:InS w g t p e) (p':Nat) (hp:p'≤t.length):InS (w.setCell ⟨g,2,none⟩ (.int .i64 (p':Int))) g t p' e:=by
 obtain ⟨A,c,hb,hR,h1,h2,h3⟩:=h
 have:=hb.set_ 2 (.int .i64 (p':Int))
 exact ⟨A,c,by simpa using this,hR.keep fun q hq=>World.cell?_setCell_other w _ q _ (fun e=>by subst e;simp at hq),h1,h2,hp⟩
theorem Only.set1 (w:World) (g i:Nat) (u:Value):Only g w (w.setCell ⟨g,i,none⟩ u):=(Only.refl g w).set_ (p:=⟨g,i,none⟩) (.inl rfl) u
theorem fail_any (w:World) (g:Nat) (t:List UInt8) (p e e':Nat) (h:InS w g t p e) :
 Calls Tryz.prog 147 #[.pointer (some ⟨g,0,none⟩),.int .i64 (e':Int)] w fun x w'=>x=.returned (.tuple #[])∧w.setCell ⟨g,3,none⟩ (.int .i64 (e':Int))=w':=by
 obtain ⟨A,c,hb,_⟩:=h
 have c3:=hb.cell 3;have f3:=hb.frozen 3
 simp at c3
 have HB:=Lib.hid hb;clear hb
 go_enter Tryz.func147,Tryz.ntmps147
 go_wp2
 go_end0
 exact ⟨rfl,rfl⟩
def faultP (p e:Nat):Int:=if e=0 then 0 else (p:Int)
theorem fault_any (w:World) (g:Nat) (t:List UInt8) (p e:Nat) (h:InS w g t p e) :
 Calls Tryz.prog 42 #[.pointer (some ⟨g,0,none⟩)] w fun x w'=>x=.returned (.tuple #[.int .i64 (faultP p e),.int .i64 (e:Int)])∧Drw w w':=by
 obtain ⟨A,c,hb,_⟩:=h
 have c0:=hb.cell 0;have c2:=hb.cell 2;have c3:=hb.cell 3
 simp at c0 c2 c3
 have HB:=Lib.hid hb;clear hb
 by_cases he:e=0
 ·subst he
  go_enter Tryz.func42,Tryz.ntmps42
  go_wp2
  go_ret2
  exact ⟨rfl,Drw.refl _⟩
 ·have t1:((e:Int)==0)=false:=by rw [beq_eq_false_iff_ne];omega
  have t2:faultP p e=p:=if_neg he
  have T2:=Lib.hid t2;have HE:=Lib.hid he;clear t2 he
  go_enter Tryz.func42,Tryz.ntmps42
  go_wp2
  go_quiet (fail)
  go_wp2
  go_ret2
  exact ⟨by rw [T2.out];rfl,⟨_,rfl⟩⟩
def leftN (t:List UInt8) (p e:Nat):Int:=if e=0 then (t.length:Int)-(p:Int) else 0
theorem left_any (w:World) (g:Nat) (t:List UInt8) (p e:Nat) (h:InS w g t p e) :
 Calls Tryz.prog 91 #[.pointer (some ⟨g,0,none⟩)] w fun x w'=>x=.returned (.int .i64 (leftN t p e))∧Drw w w':=by
 have hf:=fine_any w g t p e h
 obtain ⟨A,c,hb,hR,hc,hm,hp⟩:=h
 have c1:=hb.cell 1;have c2:=hb.cell 2
 simp at c1 c2
 unfold maxLen at hm
 have HB:=Lib.hid hb;have HR:=Lib.hid hR;clear hb hR
 by_cases he:e=0
 ·have t1:decide (e=0)=true:=decide_eq_true he
  have t2:leftN t p e=(t.length:Int)-(p:Int):=if_pos he
  rw [t1] at hf
  have T2:=Lib.hid t2;have HE:=Lib.hid he;have HF:=Lib.hid hf;clear t1 t2 he hf
  go_enter Tryz.func91,Tryz.ntmps91
  go_wp2_with (go_at_call 108;(with_reducible refine HF.out.mono ?_);rintro x w' ⟨rfl,rfl⟩)
  go_quiet (fail)
  go_wp2
  go_ret
  exact ⟨by rw [T2.out];rfl,⟨_,rfl⟩⟩
 ·have t1:decide (e=0)=false:=decide_eq_false he
  have t2:leftN t p e=0:=if_neg he
  rw [t1] at hf
  have T2:=Lib.hid t2;have HE:=Lib.hid he;have HF:=Lib.hid hf;clear t1 t2 he hf
  go_enter Tryz.func91,Tryz.ntmps91
  go_wp2_with (go_at_call 108;(with_reducible refine HF.out.mono ?_);rintro x w' ⟨rfl,rfl⟩)
  go_ret
  exact ⟨by rw [T2.out];rfl,Drw.refl _⟩
def endE (t:List UInt8) (p e:Nat):Nat:=if e=0 then (if p<t.length then 7 else 0) else e
theorem end_any (w:World) (g:Nat) (t:List UInt8) (p e:Nat) (h:InS w g t p e) :
 Calls Tryz.prog 44 #[.pointer (some ⟨g,0,none⟩)] w fun x w'=>x=.returned (.int .i64 (endE t p e:Int))∧InS w' g t p (endE t p e)∧Only g w w':=by
 have hf:=fun n=>fine_any (w.drewN n) g t p e h
 have hft:=fun W e' (hi:InS W g t p e')=>fault_any W g t p e' hi
 have hbad:=fun w' (k:Drw w w')=>(h.drw k).bad 7
 have h':=h
 obtain ⟨A,c,hb,hR,hc,hm,hp⟩:=h'
 have c1:=hb.cell 1;have c2:=hb.cell 2;have f3:=hb.frozen 3;have c3:=hb.cell 3
 simp at c1 c2 c3
 unfold maxLen at hm
 have HB:=Lib.hid hb;have HR:=Lib.hid hR;have HH:=Lib.hid h;have HFT:=Lib.hid hft;have HBAD:=Lib.hid hbad;clear hb hR h hft hbad
 by_cases he:e=0
 ·have t1:decide (e=0)=true:=decide_eq_true he
  rw [t1] at hf
  have HE:=Lib.hid he;have HF:=Lib.hid hf;clear t1 he hf
  by_cases hl:p<t.length
  ·have t2:endE t p e=7:=by unfold endE;rw [if_pos HE.out,if_pos hl]
   rw [t2]
   have T2:=Lib.hid t2;clear t2
   go_enter Tryz.func44,Tryz.ntmps44
   go_wp2
   go_quiet ((go_at_call 108;exact qcallS (HF.out _)))
   go_wp2_with (go_at_call 42;(with_reducible refine (HFT.out _ 7 ?_).mono ?_);exact HBAD.out _ ⟨_,rfl⟩;rintro x w' ⟨rfl,k⟩)
   go_ret
   exact ⟨rfl,(HBAD.out _ ⟨_,rfl⟩).drw k,(((Only.refl g w).drewN _).set_ (.inl rfl) _).drw k⟩
  ·have t2:endE t p e=e:=by unfold endE;rw [if_pos HE.out,if_neg hl,HE.out]
   rw [t2]
   have T2:=Lib.hid t2;clear t2
   go_enter Tryz.func44,Tryz.ntmps44
   go_wp2
   go_quiet ((go_at_call 108;exact qcallS (HF.out _)))
   go_wp2_with (go_at_call 42;(with_reducible refine (HFT.out _ e ?_).mono ?_);exact HH.out.drw ⟨_,rfl⟩;rintro x w' ⟨rfl,k⟩)
   go_ret
   exact ⟨rfl,(HH.out.drw ⟨_,rfl⟩).drw k,((Only.refl g w).drewN _).drw k⟩
 ·have t1:decide (e=0)=false:=decide_eq_false he
  rw [t1] at hf
  have t2:endE t p e=e:=by unfold endE;rw [if_neg he]
  rw [t2]
  have T2:=Lib.hid t2;have HE:=Lib.hid he;have HF:=Lib.hid hf;clear t1 t2 he hf
  go_enter Tryz.func44,Tryz.ntmps44
  go_wp2
  go_quiet ((go_at_call 108;exact qcallS (HF.out _)))
  go_wp2_with (go_at_call 42;(with_reducible refine (HFT.out _ e ?_).mono ?_);exact HH.out.drw ⟨_,rfl⟩;rintro x w' ⟨rfl,k⟩)
  go_ret
  exact ⟨rfl,(HH.out.drw ⟨_,rfl⟩).drw k,((Only.refl g w).drewN _).drw k⟩
theorem newIn_any (w:World) (A:Option Addr) (n c:Nat) (t:List UInt8) (h:Rd w w.heap.size 1 A n (u8s t)) (hn:n≤1000000) :
 Calls Tryz.prog 40 #[.slice A n c] w fun x w'=>∃ g,x=.returned (.pointer (some ⟨g,0,none⟩))∧w.heap.size≤g∧InS w' g t 0 0∧Below w.heap.size w w':=by
 obtain rfl:n=t.length:=h.u8.symm
 have H:=Lib.hid h;clear h
 have hnil:=World.ownsRow_nil w w.heap.size 5 1
 go_enter Tryz.func40,Tryz.ntmps40
 go_wp2_with (at_builtin;refine wpList_appS _ rfl _ _ 27 rfl w.heap.size 5 _ 1 1 info_u8 rfl (by decide) Tryz.underlying27 _ _ _ hnil rfl _ _ _ _ _ H.out rfl (u8s_one _) ?_ ?_ ?_ ?_;omega;omega;exact Nat.le_refl _;intro v2 w2 ho2 hb2;obtain ⟨A2,c2,rfl,hc2,hm2,hn2⟩:=own_form ho2)
 go_ret
 have hb3:=hb2.below_nil (Nat.le_refl _)
 have hR2:=(Rd.own ho2).alloc (Nat.le_refl _) (.cells #[.bool true,.slice A2 (0+t.length) c2,.int .i64 0,.int .i64 0] 169)
 rw [List.nil_append,Nat.zero_add] at hR2
 rw [Nat.zero_add] at hc2
 refine ⟨_,rfl,hb3.size,⟨A2,c2,?_,hR2,hc2,hm2,Nat.zero_le _⟩,hb3.alloc hb3.size _⟩
 have:=Blk.new w2 169 #[.bool true,.slice A2 t.length c2,.int .i64 0,.int .i64 0]
 exact this
def overE (x most:Nat):Nat:=if most<x then 2 else 0
theorem inU1_any (w:World) (cap x most:Nat) (hc:w.cell? ⟨cap,0,none⟩=some (.int .u64 (most:Int))) :
 Calls Tryz.prog 107 #[.int .u64 (x:Int),.pointer (some ⟨cap,0,none⟩)] w fun e w'=>e=.returned (.int .i64 (overE x most:Int))∧w=w':=by
 by_cases hl:most<x
 ·have t1:overE x most=2:=if_pos hl
  have T1:=Lib.hid t1;clear t1
  go_enter Tryz.func107,Tryz.ntmps107
  go_wp2
  go_ret
  exact ⟨by rw [T1.out];rfl,rfl⟩
 ·have t1:overE x most=0:=if_neg hl
  have T1:=Lib.hid t1;clear t1
  go_enter Tryz.func107,Tryz.ntmps107
  go_wp2
  go_ret
  exact ⟨by rw [T1.out];rfl,rfl⟩
theorem numB_fits (t:List UInt8) (n:Nat) (h:(numB t n).2=0):n≤t.length:=by
 by_cases hn:n=0
 ·omega
 ·by_cases hl:n≤t.length
  ·exact hl
  ·exfalso
   by_cases h0:0<t.length
   ·by_cases hz:t[0]=0
    ·rw [numB_form t n (by omega) h0 hz] at h;simp at h
    ·rw [numB_short t n (by omega) (fun _=>by rw [headD_get t h0];exact hz)] at h;simp at h
   ·rw [numB_short t n (by omega) (fun h=>absurd h h0)] at h;simp at h
theorem getU_fits (t:List UInt8) (h:(getU t).2.2=0):(getU t).2.1≤t.length:=by
 cases t with
 | nil=>simp [getU]
 | cons c t =>
   unfold getU at h ⊢
   simp only at h ⊢
   by_cases h8:8<c.toNat
   ·rw [if_pos h8];simp
   ·rw [if_neg h8] at h ⊢
    by_cases hn:(numB t c.toNat).2=0
    ·rw [if_pos hn];have:=numB_fits t c.toNat hn;simp;exact this
    ·rw [if_neg hn];simp
theorem getU_lt (t:List UInt8):(getU t).1<18446744073709551616:=by
 cases t with
 | nil=>simp [getU]
 | cons c t =>
   unfold getU
   simp only
   by_cases h8:8<c.toNat
   ·rw [if_pos h8];omega
   ·rw [if_neg h8]
    by_cases hn:(numB t c.toNat).2=0
    ·rw [if_pos hn];exact numB_lt t _ (by omega)
    ·rw [if_neg hn];simp
def stepE (e er er2:Nat):Nat:=if e≠0 then e else if er≠0 then er else er2
def stepP (p n k:Nat):Nat:=if k=0 then p+n else p
def stepV {α:Type} (z x:α) (k:Nat):α:=if k=0 then x else z
theorem readU_any (w:World) (g cap:Nat) (t:List UInt8) (p e:Nat) (x:Nat) (n er er2:Nat) (h:InS w g t p e) (capv:Value) (hcap:w.cell? ⟨cap,0,none⟩=some capv) (hc:cap<w.heap.size)
 (hg:e=0→∀ (W:World) A c,g≤W.heap.size→Rd W g 1 A (t.length-p) (u8s (t.drop p))→t.length-p≤c→c≤maxLen →
  Calls Tryz.prog 106 #[.slice A (t.length-p) c] W fun y w'=>y=.returned (.tuple #[.int .u64 (x:Int),.int .i64 (n:Int),.int .i64 (er:Int)])∧Below W.heap.size W w')
 (hr:∀ W:World,W.cell? ⟨cap,0,none⟩=some capv→Calls Tryz.prog 107 #[.int .u64 (x:Int),.pointer (some ⟨cap,0,none⟩)] W fun y w'=>y=.returned (.int .i64 (er2:Int))∧W=w') (hfit:e=0→er=0→n≤t.length-p) :
 Calls Tryz.prog 105 #[.pointer (some ⟨g,0,none⟩),.func (Fn.func 106) #[] #[],.func (Fn.func 107) #[] #[.pointer (some ⟨cap,0,none⟩)]] w
  fun y w'=>y=.returned (.int .u64 ((stepV (0:Nat) x (stepE e er er2):Nat):Int))∧InS w' g t (stepP p n (stepE e er er2)) (stepE e er er2)∧Only g w w':=by
 have hf:=fine_any w g t p e h
 by_cases he:e=0
 ·subst he
  have hp:p≤t.length:=by obtain ⟨A,c,_,_,_,_,h⟩:=h;exact h
  have htl:t.length≤9223372036854775807:=by obtain ⟨A,c,_,_,h1,h2,_⟩:=h;unfold maxLen at h2;omega
  have hgl:=h.lt
  have HF:=Lib.hid hf;have H:=Lib.hid h;have HG:=Lib.hid (hg rfl);have FIT:=Lib.hid (hfit rfl);have HR:=Lib.hid hr;have HC:=Lib.hid hcap;clear hf h hg hfit hr hcap
  by_cases h1:er=0
  ·subst h1
   by_cases h2:er2=0
   ·subst h2
    have tk:stepE 0 0 0=0:=rfl
    have HK:=Lib.hid tk;clear tk
    go_enter Tryz.func105,Tryz.ntmps105
    go_wp2_with (go_at_call 108;(with_reducible refine HF.out.mono ?_);rintro y w' ⟨rfl,rfl⟩)
    refine (rest_any _ _ _ _ _ H.out).mono ?_
    rintro y w1 ⟨A1,c1,rfl,hR1,hc1,hm1,k1⟩
    have hz1:w.heap.size=w1.heap.size:=by obtain ⟨m,rfl⟩:=k1;rfl
    have HR1:=Lib.hid hR1;have K1:=Lib.hid k1;have HZ1:=Lib.hid hz1;clear hR1 k1 hz1
    go_wp2_with fail
    refine (HG.out _ _ _ (by rw [←HZ1.out];omega) HR1.out hc1 hm1).mono ?_
    rintro y w2 ⟨rfl,hb2⟩
    have hb:Below w.heap.size w w2:=(K1.out.below (Below.refl _ _)).trans (hb2.mono (by rw [HZ1.out];exact Nat.le_refl _))
    have hi2:=H.out.below hb hgl
    have hcw:w2.cell? ⟨cap,0,none⟩=some capv:=(hb.cell (by simp only;omega)).trans HC.out
    have hc2:=HR.out w2 hcw
    obtain ⟨A3,c3,hb3,_,_,_,_⟩:=hi2
    have x2:=hb3.cell 2;have f2:=hb3.frozen 2
    simp at x2
    have hi:=fun p' hp'=>(H.out.below hb hgl).move p' hp'
    have hfit:=FIT.out (by trivial)
    have HI:=Lib.hid hi;have HC2:=Lib.hid hc2;have HB3:=Lib.hid hb3;clear hi hc2 hb3 hcw
    go_wp2_with (go_at_call 107;(with_reducible refine HC2.out.mono ?_);rintro y w' ⟨rfl,rfl⟩)
    go_ret
    rw [HK.out]
    have hm:=HI.out (p+n) (by omega)
    rw [show ((p+n:Nat):Int)=(p:Int)+(n:Int) from by omega] at hm
    exact ⟨rfl,hm,(Only.of_below hb g).set_ (.inl rfl) _⟩
   ·have tk:stepE 0 0 er2=er2:=by unfold stepE;rw [if_neg (by omega),if_neg (by omega)]
    have tp:stepP p n er2=p:=if_neg h2
    have tv:stepV (0:Nat) x er2=(0:Nat):=if_neg h2
    have t1:((er2:Int) != 0)=true:=by rw [bne_iff_ne];omega
    have HK:=Lib.hid tk;have HP:=Lib.hid tp;have HV:=Lib.hid tv;have H2:=Lib.hid h2;clear tk tp tv h2
    go_enter Tryz.func105,Tryz.ntmps105
    go_wp2_with (go_at_call 108;(with_reducible refine HF.out.mono ?_);rintro y w' ⟨rfl,rfl⟩)
    refine (rest_any _ _ _ _ _ H.out).mono ?_
    rintro y w1 ⟨A1,c1,rfl,hR1,hc1,hm1,k1⟩
    have hz1:w.heap.size=w1.heap.size:=by obtain ⟨m,rfl⟩:=k1;rfl
    have HR1:=Lib.hid hR1;have K1:=Lib.hid k1;have HZ1:=Lib.hid hz1;clear hR1 k1 hz1
    go_wp2_with fail
    refine (HG.out _ _ _ (by rw [←HZ1.out];omega) HR1.out hc1 hm1).mono ?_
    rintro y w2 ⟨rfl,hb2⟩
    have hb:Below w.heap.size w w2:=(K1.out.below (Below.refl _ _)).trans (hb2.mono (by rw [HZ1.out];exact Nat.le_refl _))
    have hi2:=H.out.below hb hgl
    have hcw:w2.cell? ⟨cap,0,none⟩=some capv:=(hb.cell (by simp only;omega)).trans HC.out
    have hc2:=HR.out w2 hcw
    have hi:=hi2.bad er2
    have hfl:=fail_any w2 g t p 0 er2 hi2
    have HI:=Lib.hid hi;have HC2:=Lib.hid hc2;have HFL:=Lib.hid hfl;have HI2:=Lib.hid hi2;clear hi hc2 hfl hi2 hcw
    go_wp2_with (first|(go_at_call 107;(with_reducible refine HC2.out.mono ?_);rintro y w' ⟨rfl,rfl⟩)|(go_at_call 147;refine HFL.out.mono ?_;rintro y w' ⟨rfl,rfl⟩))
    go_ret
    rw [HK.out,HP.out,HV.out]
    exact ⟨rfl,HI.out,(Only.of_below hb g).set_ (.inl rfl) _⟩
  ·have tk:stepE 0 er er2=er:=by unfold stepE;rw [if_neg (by omega),if_pos h1]
   have tp:stepP p n er=p:=if_neg h1
   have tv:stepV (0:Nat) x er=(0:Nat):=if_neg h1
   have t1:((er:Int) != 0)=true:=by rw [bne_iff_ne];omega
   have t2:((er:Int)==0)=false:=by rw [beq_eq_false_iff_ne];omega
   have HK:=Lib.hid tk;have HP:=Lib.hid tp;have HV:=Lib.hid tv;have H1:=Lib.hid h1;clear tk tp tv h1
   go_enter Tryz.func105,Tryz.ntmps105
   go_wp2_with (go_at_call 108;(with_reducible refine HF.out.mono ?_);rintro y w' ⟨rfl,rfl⟩)
   refine (rest_any _ _ _ _ _ H.out).mono ?_
   rintro y w1 ⟨A1,c1,rfl,hR1,hc1,hm1,k1⟩
   have hz1:w.heap.size=w1.heap.size:=by obtain ⟨m,rfl⟩:=k1;rfl
   have HR1:=Lib.hid hR1;have K1:=Lib.hid k1;have HZ1:=Lib.hid hz1;clear hR1 k1 hz1
   go_wp2_with fail
   refine (HG.out _ _ _ (by rw [←HZ1.out];omega) HR1.out hc1 hm1).mono ?_
   rintro y w2 ⟨rfl,hb2⟩
   have hb:Below w.heap.size w w2:=(K1.out.below (Below.refl _ _)).trans (hb2.mono (by rw [HZ1.out];exact Nat.le_refl _))
   have hi2:=H.out.below hb hgl
   have hi:=hi2.bad er
   have hfl:=fail_any w2 g t p 0 er hi2
   have HI:=Lib.hid hi;have HFL:=Lib.hid hfl;have HI2:=Lib.hid hi2;clear hi hfl hi2
   go_wp2_with (go_at_call 147;refine HFL.out.mono ?_;rintro y w' ⟨rfl,rfl⟩)
   go_ret
   rw [HK.out,HP.out,HV.out]
   exact ⟨rfl,HI.out,(Only.of_below hb g).set_ (.inl rfl) _⟩
 ·have hv:stepE e er er2=e:=by unfold stepE;rw [if_pos he]
  have tp:stepP p n e=p:=if_neg he
  have tv:stepV (0:Nat) x e=(0:Nat):=if_neg he
  rw [decide_eq_false he] at hf
  have HF:=Lib.hid hf;have HE:=Lib.hid he;have H:=Lib.hid h;have HV:=Lib.hid hv;have HP:=Lib.hid tp;have HW:=Lib.hid tv;have HR:=Lib.hid hr;have HG:=Lib.hid hg;clear hf he h hv tp tv hr hg hfit
  go_enter Tryz.func105,Tryz.ntmps105
  go_wp2_with (go_at_call 108;(with_reducible refine HF.out.mono ?_);rintro y w' ⟨rfl,rfl⟩)
  go_ret
  rw [HV.out,HP.out,HW.out]
  exact ⟨rfl,H.out,Only.refl g w⟩
theorem readI_any (w:World) (g:Nat) (t:List UInt8) (p e:Nat) (x:Int) (n er er2:Nat) (h:InS w g t p e)
 (hg:e=0→∀ (W:World) A c,g≤W.heap.size→Rd W g 1 A (t.length-p) (u8s (t.drop p))→t.length-p≤c→c≤maxLen →
  Calls Tryz.prog 144 #[.slice A (t.length-p) c] W fun y w'=>y=.returned (.tuple #[.int .i64 x,.int .i64 (n:Int),.int .i64 (er:Int)])∧Below W.heap.size W w')
 (hr:∀ W:World,Calls Tryz.prog 145 #[.int .i64 x] W fun y w'=>y=.returned (.int .i64 (er2:Int))∧W=w') (hfit:e=0→er=0→n≤t.length-p) :
 Calls Tryz.prog 143 #[.pointer (some ⟨g,0,none⟩),.func (Fn.func 144) #[] #[],.func (Fn.func 145) #[] #[]] w
  fun y w'=>y=.returned (.int .i64 (stepV (0:Int) x (stepE e er er2)))∧InS w' g t (stepP p n (stepE e er er2)) (stepE e er er2)∧Only g w w':=by
 have hf:=fine_any w g t p e h
 by_cases he:e=0
 ·subst he
  have hp:p≤t.length:=by obtain ⟨A,c,_,_,_,_,h⟩:=h;exact h
  have htl:t.length≤9223372036854775807:=by obtain ⟨A,c,_,_,h1,h2,_⟩:=h;unfold maxLen at h2;omega
  have hgl:=h.lt
  have HF:=Lib.hid hf;have H:=Lib.hid h;have HG:=Lib.hid (hg rfl);have FIT:=Lib.hid (hfit rfl);have HR:=Lib.hid hr;clear hf h hg hfit hr
  by_cases h1:er=0
  ·subst h1
   by_cases h2:er2=0
   ·subst h2
    have tk:stepE 0 0 0=0:=rfl
    have HK:=Lib.hid tk;clear tk
    go_enter Tryz.func143,Tryz.ntmps143
    go_wp2_with (go_at_call 108;(with_reducible refine HF.out.mono ?_);rintro y w' ⟨rfl,rfl⟩)
    refine (rest_any _ _ _ _ _ H.out).mono ?_
    rintro y w1 ⟨A1,c1,rfl,hR1,hc1,hm1,k1⟩
    have hz1:w.heap.size=w1.heap.size:=by obtain ⟨m,rfl⟩:=k1;rfl
    have HR1:=Lib.hid hR1;have K1:=Lib.hid k1;have HZ1:=Lib.hid hz1;clear hR1 k1 hz1
    go_wp2_with fail
    refine (HG.out _ _ _ (by rw [←HZ1.out];omega) HR1.out hc1 hm1).mono ?_
    rintro y w2 ⟨rfl,hb2⟩
    have hb:Below w.heap.size w w2:=(K1.out.below (Below.refl _ _)).trans (hb2.mono (by rw [HZ1.out];exact Nat.le_refl _))
    have hi2:=H.out.below hb hgl
    have hc2:=HR.out w2
    obtain ⟨A3,c3,hb3,_,_,_,_⟩:=hi2
    have x2:=hb3.cell 2;have f2:=hb3.frozen 2
    simp at x2
    have hi:=fun p' hp'=>(H.out.below hb hgl).move p' hp'
    have hfit:=FIT.out (by trivial)
    have HI:=Lib.hid hi;have HC2:=Lib.hid hc2;have HB3:=Lib.hid hb3;clear hi hc2 hb3
    go_wp2_with (go_at_call 145;(with_reducible refine HC2.out.mono ?_);rintro y w' ⟨rfl,rfl⟩)
    go_ret
    rw [HK.out]
    have hm:=HI.out (p+n) (by omega)
    rw [show ((p+n:Nat):Int)=(p:Int)+(n:Int) from by omega] at hm
    exact ⟨rfl,hm,(Only.of_below hb g).set_ (.inl rfl) _⟩
   ·have tk:stepE 0 0 er2=er2:=by unfold stepE;rw [if_neg (by omega),if_neg (by omega)]
    have tp:stepP p n er2=p:=if_neg h2
    have tv:stepV (0:Int) x er2=(0:Int):=if_neg h2
    have t1:((er2:Int) != 0)=true:=by rw [bne_iff_ne];omega
    have HK:=Lib.hid tk;have HP:=Lib.hid tp;have HV:=Lib.hid tv;have H2:=Lib.hid h2;clear tk tp tv h2
    go_enter Tryz.func143,Tryz.ntmps143
    go_wp2_with (go_at_call 108;(with_reducible refine HF.out.mono ?_);rintro y w' ⟨rfl,rfl⟩)
    refine (rest_any _ _ _ _ _ H.out).mono ?_
    rintro y w1 ⟨A1,c1,rfl,hR1,hc1,hm1,k1⟩
    have hz1:w.heap.size=w1.heap.size:=by obtain ⟨m,rfl⟩:=k1;rfl
    have HR1:=Lib.hid hR1;have K1:=Lib.hid k1;have HZ1:=Lib.hid hz1;clear hR1 k1 hz1
    go_wp2_with fail
    refine (HG.out _ _ _ (by rw [←HZ1.out];omega) HR1.out hc1 hm1).mono ?_
    rintro y w2 ⟨rfl,hb2⟩
    have hb:Below w.heap.size w w2:=(K1.out.below (Below.refl _ _)).trans (hb2.mono (by rw [HZ1.out];exact Nat.le_refl _))
    have hi2:=H.out.below hb hgl
    have hc2:=HR.out w2
    have hi:=hi2.bad er2
    have hfl:=fail_any w2 g t p 0 er2 hi2
    have HI:=Lib.hid hi;have HC2:=Lib.hid hc2;have HFL:=Lib.hid hfl;have HI2:=Lib.hid hi2;clear hi hc2 hfl hi2
    go_wp2_with (first|(go_at_call 145;(with_reducible refine HC2.out.mono ?_);rintro y w' ⟨rfl,rfl⟩)|(go_at_call 147;refine HFL.out.mono ?_;rintro y w' ⟨rfl,rfl⟩))
    go_ret
    rw [HK.out,HP.out,HV.out]
    exact ⟨rfl,HI.out,(Only.of_below hb g).set_ (.inl rfl) _⟩
  ·have tk:stepE 0 er er2=er:=by unfold stepE;rw [if_neg (by omega),if_pos h1]
   have tp:stepP p n er=p:=if_neg h1
   have tv:stepV (0:Int) x er=(0:Int):=if_neg h1
   have t1:((er:Int) != 0)=true:=by rw [bne_iff_ne];omega
   have t2:((er:Int)==0)=false:=by rw [beq_eq_false_iff_ne];omega
   have HK:=Lib.hid tk;have HP:=Lib.hid tp;have HV:=Lib.hid tv;have H1:=Lib.hid h1;clear tk tp tv h1
   go_enter Tryz.func143,Tryz.ntmps143
   go_wp2_with (go_at_call 108;(with_reducible refine HF.out.mono ?_);rintro y w' ⟨rfl,rfl⟩)
   refine (rest_any _ _ _ _ _ H.out).mono ?_
   rintro y w1 ⟨A1,c1,rfl,hR1,hc1,hm1,k1⟩
   have hz1:w.heap.size=w1.heap.size:=by obtain ⟨m,rfl⟩:=k1;rfl
   have HR1:=Lib.hid hR1;have K1:=Lib.hid k1;have HZ1:=Lib.hid hz1;clear hR1 k1 hz1
   go_wp2_with fail
   refine (HG.out _ _ _ (by rw [←HZ1.out];omega) HR1.out hc1 hm1).mono ?_
   rintro y w2 ⟨rfl,hb2⟩
   have hb:Below w.heap.size w w2:=(K1.out.below (Below.refl _ _)).trans (hb2.mono (by rw [HZ1.out];exact Nat.le_refl _))
   have hi2:=H.out.below hb hgl
   have hi:=hi2.bad er
   have hfl:=fail_any w2 g t p 0 er hi2
   have HI:=Lib.hid hi;have HFL:=Lib.hid hfl;have HI2:=Lib.hid hi2;clear hi hfl hi2
   go_wp2_with (go_at_call 147;refine HFL.out.mono ?_;rintro y w' ⟨rfl,rfl⟩)
   go_ret
   rw [HK.out,HP.out,HV.out]
   exact ⟨rfl,HI.out,(Only.of_below hb g).set_ (.inl rfl) _⟩
 ·have hv:stepE e er er2=e:=by unfold stepE;rw [if_pos he]
  have tp:stepP p n e=p:=if_neg he
  have tv:stepV (0:Int) x e=(0:Int):=if_neg he
  rw [decide_eq_false he] at hf
  have HF:=Lib.hid hf;have HE:=Lib.hid he;have H:=Lib.hid h;have HV:=Lib.hid hv;have HP:=Lib.hid tp;have HW:=Lib.hid tv;have HR:=Lib.hid hr;have HG:=Lib.hid hg;clear hf he h hv tp tv hr hg hfit
  go_enter Tryz.func143,Tryz.ntmps143
  go_wp2_with (go_at_call 108;(with_reducible refine HF.out.mono ?_);rintro y w' ⟨rfl,rfl⟩)
  go_ret
  rw [HV.out,HP.out,HW.out]
  exact ⟨rfl,H.out,Only.refl g w⟩
theorem readF_any (w:World) (g:Nat) (t:List UInt8) (p e:Nat) (x:Nat) (n er er2:Nat) (h:InS w g t p e)
 (hg:e=0→∀ (W:World) A c,g≤W.heap.size→Rd W g 1 A (t.length-p) (u8s (t.drop p))→t.length-p≤c→c≤maxLen →
  Calls Tryz.prog 149 #[.slice A (t.length-p) c] W fun y w'=>y=.returned (.tuple #[.float .f64 x,.int .i64 (n:Int),.int .i64 (er:Int)])∧Below W.heap.size W w')
 (hr:∀ W:World,Calls Tryz.prog 150 #[.float .f64 x] W fun y w'=>y=.returned (.int .i64 (er2:Int))∧W=w') (hfit:e=0→er=0→n≤t.length-p) :
 Calls Tryz.prog 148 #[.pointer (some ⟨g,0,none⟩),.func (Fn.func 149) #[] #[],.func (Fn.func 150) #[] #[]] w
  fun y w'=>y=.returned (.float .f64 (stepV (0:Nat) x (stepE e er er2)))∧InS w' g t (stepP p n (stepE e er er2)) (stepE e er er2)∧Only g w w':=by
 have hf:=fine_any w g t p e h
 by_cases he:e=0
 ·subst he
  have hp:p≤t.length:=by obtain ⟨A,c,_,_,_,_,h⟩:=h;exact h
  have htl:t.length≤9223372036854775807:=by obtain ⟨A,c,_,_,h1,h2,_⟩:=h;unfold maxLen at h2;omega
  have hgl:=h.lt
  have HF:=Lib.hid hf;have H:=Lib.hid h;have HG:=Lib.hid (hg rfl);have FIT:=Lib.hid (hfit rfl);have HR:=Lib.hid hr;clear hf h hg hfit hr
  by_cases h1:er=0
  ·subst h1
   by_cases h2:er2=0
   ·subst h2
    have tk:stepE 0 0 0=0:=rfl
    have HK:=Lib.hid tk;clear tk
    go_enter Tryz.func148,Tryz.ntmps148
    go_wp2_with (go_at_call 108;(with_reducible refine HF.out.mono ?_);rintro y w' ⟨rfl,rfl⟩)
    refine (rest_any _ _ _ _ _ H.out).mono ?_
    rintro y w1 ⟨A1,c1,rfl,hR1,hc1,hm1,k1⟩
    have hz1:w.heap.size=w1.heap.size:=by obtain ⟨m,rfl⟩:=k1;rfl
    have HR1:=Lib.hid hR1;have K1:=Lib.hid k1;have HZ1:=Lib.hid hz1;clear hR1 k1 hz1
    go_wp2_with fail
    refine (HG.out _ _ _ (by rw [←HZ1.out];omega) HR1.out hc1 hm1).mono ?_
    rintro y w2 ⟨rfl,hb2⟩
    have hb:Below w.heap.size w w2:=(K1.out.below (Below.refl _ _)).trans (hb2.mono (by rw [HZ1.out];exact Nat.le_refl _))
    have hi2:=H.out.below hb hgl
    have hc2:=HR.out w2
    obtain ⟨A3,c3,hb3,_,_,_,_⟩:=hi2
    have x2:=hb3.cell 2;have f2:=hb3.frozen 2
    simp at x2
    have hi:=fun p' hp'=>(H.out.below hb hgl).move p' hp'
    have hfit:=FIT.out (by trivial)
    have HI:=Lib.hid hi;have HC2:=Lib.hid hc2;have HB3:=Lib.hid hb3;clear hi hc2 hb3
    go_wp2_with (go_at_call 150;(with_reducible refine HC2.out.mono ?_);rintro y w' ⟨rfl,rfl⟩)
    go_ret
    rw [HK.out]
    have hm:=HI.out (p+n) (by omega)
    rw [show ((p+n:Nat):Int)=(p:Int)+(n:Int) from by omega] at hm
    exact ⟨rfl,hm,(Only.of_below hb g).set_ (.inl rfl) _⟩
   ·have tk:stepE 0 0 er2=er2:=by unfold stepE;rw [if_neg (by omega),if_neg (by omega)]
    have tp:stepP p n er2=p:=if_neg h2
    have tv:stepV (0:Nat) x er2=(0:Nat):=if_neg h2
    have t1:((er2:Int) != 0)=true:=by rw [bne_iff_ne];omega
    have HK:=Lib.hid tk;have HP:=Lib.hid tp;have HV:=Lib.hid tv;have H2:=Lib.hid h2;clear tk tp tv h2
    go_enter Tryz.func148,Tryz.ntmps148
    go_wp2_with (go_at_call 108;(with_reducible refine HF.out.mono ?_);rintro y w' ⟨rfl,rfl⟩)
    refine (rest_any _ _ _ _ _ H.out).mono ?_
    rintro y w1 ⟨A1,c1,rfl,hR1,hc1,hm1,k1⟩
    have hz1:w.heap.size=w1.heap.size:=by obtain ⟨m,rfl⟩:=k1;rfl
    have HR1:=Lib.hid hR1;have K1:=Lib.hid k1;have HZ1:=Lib.hid hz1;clear hR1 k1 hz1
    go_wp2_with fail
    refine (HG.out _ _ _ (by rw [←HZ1.out];omega) HR1.out hc1 hm1).mono ?_
    rintro y w2 ⟨rfl,hb2⟩
    have hb:Below w.heap.size w w2:=(K1.out.below (Below.refl _ _)).trans (hb2.mono (by rw [HZ1.out];exact Nat.le_refl _))
    have hi2:=H.out.below hb hgl
    have hc2:=HR.out w2
    have hi:=hi2.bad er2
    have hfl:=fail_any w2 g t p 0 er2 hi2
    have HI:=Lib.hid hi;have HC2:=Lib.hid hc2;have HFL:=Lib.hid hfl;have HI2:=Lib.hid hi2;clear hi hc2 hfl hi2
    go_wp2_with (first|(go_at_call 150;(with_reducible refine HC2.out.mono ?_);rintro y w' ⟨rfl,rfl⟩)|(go_at_call 147;refine HFL.out.mono ?_;rintro y w' ⟨rfl,rfl⟩))
    go_ret
    rw [HK.out,HP.out,HV.out]
    exact ⟨rfl,HI.out,(Only.of_below hb g).set_ (.inl rfl) _⟩
  ·have tk:stepE 0 er er2=er:=by unfold stepE;rw [if_neg (by omega),if_pos h1]
   have tp:stepP p n er=p:=if_neg h1
   have tv:stepV (0:Nat) x er=(0:Nat):=if_neg h1
   have t1:((er:Int) != 0)=true:=by rw [bne_iff_ne];omega
   have t2:((er:Int)==0)=false:=by rw [beq_eq_false_iff_ne];omega
   have HK:=Lib.hid tk;have HP:=Lib.hid tp;have HV:=Lib.hid tv;have H1:=Lib.hid h1;clear tk tp tv h1
   go_enter Tryz.func148,Tryz.ntmps148
   go_wp2_with (go_at_call 108;(with_reducible refine HF.out.mono ?_);rintro y w' ⟨rfl,rfl⟩)
   refine (rest_any _ _ _ _ _ H.out).mono ?_
   rintro y w1 ⟨A1,c1,rfl,hR1,hc1,hm1,k1⟩
   have hz1:w.heap.size=w1.heap.size:=by obtain ⟨m,rfl⟩:=k1;rfl
   have HR1:=Lib.hid hR1;have K1:=Lib.hid k1;have HZ1:=Lib.hid hz1;clear hR1 k1 hz1
   go_wp2_with fail
   refine (HG.out _ _ _ (by rw [←HZ1.out];omega) HR1.out hc1 hm1).mono ?_
   rintro y w2 ⟨rfl,hb2⟩
   have hb:Below w.heap.size w w2:=(K1.out.below (Below.refl _ _)).trans (hb2.mono (by rw [HZ1.out];exact Nat.le_refl _))
   have hi2:=H.out.below hb hgl
   have hi:=hi2.bad er
   have hfl:=fail_any w2 g t p 0 er hi2
   have HI:=Lib.hid hi;have HFL:=Lib.hid hfl;have HI2:=Lib.hid hi2;clear hi hfl hi2
   go_wp2_with (go_at_call 147;refine HFL.out.mono ?_;rintro y w' ⟨rfl,rfl⟩)
   go_ret
   rw [HK.out,HP.out,HV.out]
   exact ⟨rfl,HI.out,(Only.of_below hb g).set_ (.inl rfl) _⟩
 ·have hv:stepE e er er2=e:=by unfold stepE;rw [if_pos he]
  have tp:stepP p n e=p:=if_neg he
  have tv:stepV (0:Nat) x e=(0:Nat):=if_neg he
  rw [decide_eq_false he] at hf
  have HF:=Lib.hid hf;have HE:=Lib.hid he;have H:=Lib.hid h;have HV:=Lib.hid hv;have HP:=Lib.hid tp;have HW:=Lib.hid tv;have HR:=Lib.hid hr;have HG:=Lib.hid hg;clear hf he h hv tp tv hr hg hfit
  go_enter Tryz.func148,Tryz.ntmps148
  go_wp2_with (go_at_call 108;(with_reducible refine HF.out.mono ?_);rintro y w' ⟨rfl,rfl⟩)
  go_ret
  rw [HV.out,HP.out,HW.out]
  exact ⟨rfl,H.out,Only.refl g w⟩
def inU (t:List UInt8) (p e most:Nat):Nat×Nat×Nat :=
 (stepV 0 (getU (t.drop p)).1 (stepE e (getU (t.drop p)).2.2 (overE (getU (t.drop p)).1 most)),
  stepP p (getU (t.drop p)).2.1 (stepE e (getU (t.drop p)).2.2 (overE (getU (t.drop p)).1 most)),stepE e (getU (t.drop p)).2.2 (overE (getU (t.drop p)).1 most))
theorem inU_any (w:World) (g:Nat) (t:List UInt8) (p e most:Nat) (h:InS w g t p e) :
 Calls Tryz.prog 41 #[.pointer (some ⟨g,0,none⟩),.int .u64 (most:Int)] w
  fun y w'=>y=.returned (.int .u64 ((inU t p e most).1:Int))∧InS w' g t (inU t p e most).2.1 (inU t p e most).2.2∧Only g w w':=by
 have hgl:=h.lt
 have hi:InS (w.alloc (.cells #[.int .u64 (most:Int)] 40)) g t p e:=by
  exact h.below ((Below.refl _ w).alloc (Nat.le_refl _) _) hgl
 have hc:(w.alloc (.cells #[.int .u64 (most:Int)] 40)).cell? ⟨w.heap.size,0,none⟩=some (.int .u64 (most:Int)):=by simp [go_sem]
 have hr:=readU_any _ g w.heap.size t p e (getU (t.drop p)).1 (getU (t.drop p)).2.1 (getU (t.drop p)).2.2 (overE (getU (t.drop p)).1 most) hi _ hc (by simp)
  (fun _ W A c hgW hR h1 h2=>(getU_any A (t.length-p) c g (t.drop p) W hR h1 h2).mono fun y w' ⟨hy,k⟩=>⟨hy,Drw.below k (Below.refl _ _)⟩)
  (fun W hW=>inU1_any W _ _ _ hW) (fun _ h0=>by have:=getU_fits (t.drop p) h0;rwa [List.length_drop] at this)
 have HR:=Lib.hid hr;clear hr hc
 go_enter Tryz.func41,Tryz.ntmps41
 go_wp2_with (go_at_call 105;(with_reducible refine HR.out.mono ?_);rintro y w1 ⟨rfl,hi1,ho1⟩)
 go_ret
 exact ⟨rfl,hi1,(((Only.refl g w).alloc _).trans ho1)⟩
theorem all64_any (x:Int) (w:World):Calls Tryz.prog 145 #[.int .i64 x] w fun y w'=>y=.returned (.int .i64 ((0:Nat):Int))∧w=w':=by
 go_enter Tryz.func145,Tryz.ntmps145
 go_wp2
 go_ret
 exact ⟨rfl,rfl⟩
theorem refGetU_any (A:Option Addr) (m c B:Nat) (t:List UInt8) (w:World) (h:Rd w B 1 A m (u8s t)) (hc:m≤maxLen) :
 Calls Tryz.prog 162 #[.slice A m c] w fun e w'=>e=.returned (.tuple #[.int .u64 ((getU t).1:Nat),.int .i64 ((getU t).2.1:Nat),.int .i64 ((getU t).2.2:Nat)])∧Drw w w':=by
 obtain rfl:m=t.length:=h.u8.symm
 have hcc:=hc
 unfold maxLen at hcc
 cases t with
 | nil =>
   have hl:([]:List UInt8).length=0:=rfl
   rw [hl]
   go_enter Tryz.func162,Tryz.ntmps162
   go_wp2
   go_ret3
   exact ⟨rfl,Drw.refl _⟩
 | cons x t =>
   have hl:(x::t).length=t.length+1:=rfl
   rw [hl] at h hcc ⊢
   obtain ⟨a,rfl,hb,hx⟩:=h.byte (k:=0) (by simp)
   rw [add_zero'] at hx
   simp only [List.getElem_cons_zero] at hx
   have hx8:=x.toNat_lt
   have t0:(((t.length:Int)+1)==0)=false:=by rw [beq_eq_false_iff_ne];omega
   have H:=Lib.hid h;have HL:=Lib.hid hl;clear h hl
   by_cases h8:8<x.toNat
   ·have hfin:getU (x::t)=(0,0,6):=by simp [getU,h8]
    have HF:=Lib.hid hfin;clear hfin
    go_enter Tryz.func162,Tryz.ntmps162
    go_wp2
    go_ret3
    exact ⟨by rw [HF.out];rfl,Drw.refl _⟩
   ·have hfin:getU (x::t)=if (numB t x.toNat).2=0 then ((numB t x.toNat).1,x.toNat+1,0) else (0,0,(numB t x.toNat).2):=by simp [getU,h8]
    generalize hn:x.toNat=n at *
    have HN:=Lib.hid hn;clear hn
    by_cases hn0:0<n
    ·by_cases ht:0<t.length
     ·obtain ⟨a1,ea,_,hx1⟩:=H.out.byte (k:=1) (by simp;omega)
      injection ea with ea;subst ea
      simp only [List.getElem_cons_succ] at hx1
      have hx1':w.cell? ⟨a.block,a.off+1,none⟩=some (.int .u8 (t[0].toNat:Int)):=by rw [←hx1];rfl
      clear hx1
      by_cases hz:t[0]=0
      ·have hnum:=numB_form t n hn0 ht hz
       rw [hnum] at hfin
       have t1:=u8_z hz
       have HF:=Lib.hid hfin;have HZ:=Lib.hid hz;have HM:=Lib.hid hnum;clear hfin hz hnum
       go_enter Tryz.func162,Tryz.ntmps162
       go_wp2
       go_ret3
       exact ⟨by rw [HF.out];rfl,Drw.refl _⟩
      ·have t1:=u8_nz hz
       have hhd:t.headD 0≠0:=by rw [headD_get t ht];exact hz
       have HZ:=Lib.hid hz;have HHD:=Lib.hid hhd;clear hz hhd
       by_cases hl:t.length<n
       ·have hnum:=numB_short t n hl (fun _=>HHD.out)
        rw [hnum] at hfin
        have HF:=Lib.hid hfin;have HM:=Lib.hid hnum;clear hfin hnum
        go_enter Tryz.func162,Tryz.ntmps162
        go_wp2
        go_ret3
        exact ⟨by rw [HF.out];rfl,Drw.refl _⟩
       ·have hnum:=numB_ok t n (by omega) (fun _=>HHD.out)
        rw [hnum] at hfin
        have HF:=Lib.hid hfin;have HM:=Lib.hid hnum;clear hfin hnum
        go_enter Tryz.func162,Tryz.ntmps162
        go_wp2
        go_loop [6,7] (fun y i=>∃ j:Nat,j≤n∧i=.int .i64 ((j:Int)+1)∧y=.int .u64 (bv (t.take j):Nat)) (fun _ i=>n+2-(intOf i).toNat)
        case atStart=>exact ⟨0,by omega,rfl,rfl⟩
        case round =>
         obtain ⟨j,hj,rfl,rfl⟩:=hrel
         by_cases hlt:j<n
         ·have hjt:j<t.length:=by omega
          obtain ⟨a2,ea,_,hx2⟩:=H.out.byte (k:=j+1) (by simp;omega)
          injection ea with ea;subst ea
          rw [add_succ] at hx2
          simp only [List.getElem_cons_succ] at hx2
          have hbt:=bv_take t j hjt
          have hlt1:=bv_lt (t.take j)
          have hlt2:256^(t.take j).length≤256^7:=Nat.pow_le_pow_right (by decide) (by rw [List.length_take];omega)
          have hbb:bv (t.take j)<72057594037927936:=by simpa using Nat.lt_of_lt_of_le hlt1 hlt2
          have hc8:=t[j].toNat_lt
          have HT:=Lib.hid hbt;clear hbt hlt1 hlt2
          go_wp2
          go_round
          case rel=>exact ⟨j+1,by omega,by go_num,by rw [HT.out];go_num⟩
          case measure=>simp [intOf];omega
         ·obtain rfl:j=n:=by omega
          go_wp2
          go_ret3
          exact ⟨by rw [HF.out];rfl,Drw.refl _⟩
     ·have hl:t.length<n:=by omega
      have hnum:=numB_short t n hl (fun h=>absurd h ht)
      rw [hnum] at hfin
      obtain rfl:t=[]:=List.eq_nil_of_length_eq_zero (by omega)
      have HF:=Lib.hid hfin;have HM:=Lib.hid hnum;clear hfin hnum
      go_enter Tryz.func162,Tryz.ntmps162
      go_wp2
      go_ret3
      exact ⟨by rw [HF.out];rfl,Drw.refl _⟩
    ·obtain rfl:n=0:=by omega
     have hnum:numB t 0=(0,0):=by simp [numB]
     rw [hnum] at hfin
     have HF:=Lib.hid hfin;have HM:=Lib.hid hnum;clear hfin hnum
     go_enter Tryz.func162,Tryz.ntmps162
     go_wp2
     go_loop [6,7] (fun y i=>i=.int .i64 1∧y=.int .u64 0) (fun _ i=>2-(intOf i).toNat)
     case atStart=>exact ⟨rfl,rfl⟩
     case round =>
      obtain ⟨rfl,rfl⟩:=hrel
      go_wp2
      go_ret3
      exact ⟨by rw [HF.out];rfl,Drw.refl _⟩
theorem own_head {w:World} {base n c:Nat} {A:Option Addr} {b:UInt8} {l:List UInt8} (h:w.ownsRow base 5 1 (.slice A n c) n (u8s (b::l))) :
 ∃ g,A=some ⟨g,0,none⟩∧base≤g∧g<w.heap.size∧w.cell? ⟨g,0,none⟩=some (.int .u8 (b.toNat:Int))∧w.frozen? ⟨g,0,none⟩=false ∧
  ∀ d:UInt8,(w.setCell ⟨g,0,none⟩ (.int .u8 (d.toNat:Int))).ownsRow base 5 1 (.slice A n c) n (u8s (d::l)):=by
 have hn:n=l.length+1:=by have:=h.1;rw [u8s_length] at this;simp at this;omega
 obtain ⟨g,cap,hv,hg,hgl⟩:=h.form (by omega)
 injection hv with hA _ hcap
 subst hA hcap
 refine ⟨g,rfl,hg,hgl,?_,h.frozenAt 0,fun d=>?_⟩
 ·rw [h.cellAt 0 (by omega)];rfl
 ·have:=(h.stored 0 (.int .u8 (d.toNat:Int))).1
  exact this
theorem own_at {w:World} {base n c:Nat} {A:Option Addr} {l:List UInt8} (h:w.ownsRow base 5 1 (.slice A n c) n (u8s l)) (j:Nat) (hj:j<l.length) :
 ∃ g,A=some ⟨g,0,none⟩∧base≤g∧g<w.heap.size∧w.cell? ⟨g,j,none⟩=some (.int .u8 ((l[j]'hj).toNat:Int))∧w.frozen? ⟨g,j,none⟩=false ∧
  ∀ d:UInt8,(w.setCell ⟨g,j,none⟩ (.int .u8 (d.toNat:Int))).ownsRow base 5 1 (.slice A n c) n (u8s (l.set j d)):=by
 have hn:n=l.length:=by have:=h.1;rw [u8s_length] at this;omega
 obtain ⟨g,cap,hv,hg,hgl⟩:=h.form (by omega)
 injection hv with hA _ hcap
 subst hA hcap
 refine ⟨g,rfl,hg,hgl,?_,h.frozenAt j,fun d=>?_⟩
 ·rw [h.cellAt j (by omega),u8s_get l j hj]
 ·have:=(h.stored j (.int .u8 (d.toNat:Int))).1
  have e:(u8s l).set j (.int .u8 (d.toNat:Int))=u8s (l.set j d):=by unfold u8s;rw [List.map_set]
  rw [e] at this
  exact this
def fl (l:List UInt8) (j:Nat):List UInt8:=(l.take j).map (255 - ·)++l.drop j
theorem fl_length (l:List UInt8) (j:Nat) (h:j≤l.length):(fl l j).length=l.length:=by simp [fl];omega
theorem fl_zero (l:List UInt8):fl l 0=l:=by simp [fl]
theorem fl_end (l:List UInt8):fl l l.length=l.map (255 - ·):=by simp [fl]
theorem fl_get? (l:List UInt8) (j:Nat) (h:j<l.length):(fl l j)[j]?=some l[j]:=by
 unfold fl
 have hj:((l.take j).map (255 - ·)).length=j:=by simp;omega
 rw [List.getElem?_append_right (by omega),hj,Nat.sub_self,List.drop_eq_getElem_cons h]
 rfl
theorem fl_get (l:List UInt8) (j:Nat) (h:j<l.length) (h':j<(fl l j).length):(fl l j)[j]=l[j]:=by
 have:=fl_get? l j h
 rw [List.getElem?_eq_getElem h'] at this
 injection this
theorem fl_set (l:List UInt8) (j:Nat) (h:j<l.length):(fl l j).set j (255-l[j])=fl l (j+1):=by
 unfold fl
 have hj:((l.take j).map (255 - ·)).length=j:=by simp;omega
 rw [List.set_append_right _ _ (by omega),hj,Nat.sub_self,List.drop_eq_getElem_cons h,List.set_cons_zero,List.take_succ_eq_append_getElem h,List.map_append,List.append_assoc]
 rfl
theorem sub255 (b:UInt8):(255:Int)-(b.toNat:Int)=(((255-b:UInt8)).toNat:Int):=by
 have hb:=b.toNat_lt
 rw [UInt8.toNat_sub_of_le _ _ (by rw [UInt8.le_iff_toNat_le];simp;omega)]
 simp;omega
end Go.Proofs.YtfhmaincnlaapaaGreat
