/- code.number, GetU, GetI, GetT: what they read of any bytes. -/
import Derived.IntWalk
import Derived.Deep.LoopGhost
import Derived.StillTailTactics
import Derived.Deep.DeepCutAuto
import Derived.Test.YtfhmaincnlaapaaGreatTrSy2
namespace Go.Proofs.YtfhmaincnlaapaaGreat
open Go.ChangeShapes Go.WideShapes Go.ChangeAt Go.RowKit
set_option linter.unusedVariables false
theorem bl_trans:∀ {a b c:List UInt8},Op.bytesLess a b=true→Op.bytesLess b c=true→Op.bytesLess a c=true
 | _,[],_,h,_=>by cases ‹List UInt8›<;>simp [Op.bytesLess] at h
 | _,_::_,[],_,h=>by simp [Op.bytesLess] at h
 | [],_::_,_::_,_,_=>by simp [Op.bytesLess]
 | a::x,b::y,c::z,h1,h2=>by
   simp only [Op.bytesLess,Bool.or_eq_true,Bool.and_eq_true,decide_eq_true_iff,beq_iff_eq] at h1 h2 ⊢
   rcases h1 with h1|⟨rfl,h1⟩
   ·rcases h2 with h2|⟨rfl,h2⟩
    ·exact .inl (UInt8.lt_trans h1 h2)
    ·exact .inl h1
   ·rcases h2 with h2|⟨rfl,h2⟩
    ·exact .inl h2
    ·exact .inr ⟨rfl,bl_trans h1 h2⟩
theorem bl_irr:∀ a:List UInt8,Op.bytesLess a a=false
 | []=>rfl
 | a::x=>by simp [Op.bytesLess,bl_irr x]
theorem bl_tri:∀ {a b:List UInt8},Op.bytesLess a b=false→a≠b→Op.bytesLess b a=true
 | [],[],_,h=>absurd rfl h
 | [],_::_,h,_=>by simp [Op.bytesLess] at h
 | _::_,[],_,_=>by simp [Op.bytesLess]
 | a::x,b::y,h1,h2=>by
   simp only [Op.bytesLess,Bool.or_eq_false_iff,decide_eq_false_iff_not,Bool.and_eq_false_iff,beq_eq_false_iff_ne,ne_eq] at h1
   simp only [Op.bytesLess,Bool.or_eq_true,Bool.and_eq_true,decide_eq_true_iff,beq_iff_eq]
   obtain ⟨h3,h4⟩:=h1
   by_cases e:a=b
   ·subst e
    rcases h4 with h4|h4
    ·exact absurd rfl h4
    ·exact .inr ⟨rfl,bl_tri h4 (fun e=>h2 (by rw [e]))⟩
   ·exact .inl (by
     have h5:¬a.toNat<b.toNat:=fun h=>h3 (UInt8.lt_iff_toNat_lt.2 h)
     have h6:a.toNat≠b.toNat:=fun h=>e (UInt8.toNat_inj.1 h)
     exact UInt8.lt_iff_toNat_lt.2 (by omega))
def wordsL:List ByteArray:=[⟨#[97,110,100]⟩,⟨#[97,115,99]⟩,⟨#[98,121]⟩,⟨#[99,111,117,110,116]⟩,⟨#[100,101,115,99]⟩,⟨#[100,101,118]⟩,⟨#[105,110]⟩,⟨#[108,105,109,105,116]⟩,⟨#[109,97,120]⟩,⟨#[109,101,97,110]⟩,⟨#[109,105,110]⟩,⟨#[111,114,100,101,114]⟩,⟨#[115,101,108,101,99,116]⟩,⟨#[115,104,97,114,101]⟩,⟨#[115,117,109]⟩,⟨#[119,104,101,114,101]⟩]
abbrev strs (l:List ByteArray):List Value:=l.map Value.string
theorem wordsL_len:wordsL.length=16:=rfl
def memB (l:List ByteArray) (s:ByteArray):Bool:=l.any fun x=>x.toList==s.toList
theorem Rd.str_len {w:World} {B n:Nat} {A:Option Addr} {l:List ByteArray} (h:Rd w B 1 A n (strs l)):n=l.length:=by have:=h.1;simp at this;omega
theorem Rd.str {w:World} {B n:Nat} {A:Option Addr} {l:List ByteArray} (h:Rd w B 1 A n (strs l)) {k:Nat} (hk:k<l.length):∃ a,A=some a∧a.block<B∧w.cell? (a.add k)=some (.string l[k]):=by
 obtain ⟨a,rfl,hb,hc⟩:=h.2 (by rw [h.str_len];omega)
 exact ⟨a,rfl,hb,hc k _ (by simp [strs,hk])⟩
theorem words_lit (w:World):Rd (w.alloc (.cells (strs wordsL).toArray 9)) (w.heap.size+1) 1 (some ⟨w.heap.size,0,none⟩) 16 (strs wordsL) :=
 ⟨rfl,fun _=>⟨_,rfl,Nat.lt_succ_self _,fun j u hu=>by
  have hadd:(⟨w.heap.size,0,none⟩:Addr).add j=⟨w.heap.size,j,none⟩:=by unfold Addr.add;split<;>simp_all
  rw [hadd,(Blk.new w 9 (strs wordsL).toArray).cell j]
  simpa using hu⟩⟩
set_option maxRecDepth 20000 in
theorem words_any (w:World):Calls Tryz.prog 193 #[] w fun y w'=>y=.returned (.slice (some ⟨w.heap.size,0,none⟩) 16 16)∧w.alloc (.cells (strs wordsL).toArray 9)=w':=by
 go_enter Tryz.func193,Tryz.ntmps193
 go_wp2
 go_ret
 exact ⟨rfl,rfl⟩
set_option maxRecDepth 20000 in
theorem rwords_any (w:World):Calls Tryz.prog 161 #[] w fun y w'=>y=.returned (.slice (some ⟨w.heap.size,0,none⟩) 16 16)∧w.alloc (.cells (strs wordsL).toArray 9)=w':=by
 go_enter Tryz.func161,Tryz.ntmps161
 go_wp2
 go_ret
 exact ⟨rfl,rfl⟩
def PlaceIs (l:List ByteArray) (s:ByteArray) (z:Int):Prop:=(z=-1∧memB l s=false)∨(0≤z∧z<(l.length:Int)∧memB l s=true)
theorem memB_take_succ (l:List ByteArray) (s:ByteArray) (k:Nat) (hk:k<l.length):memB (l.take (k+1)) s=(memB (l.take k) s||(l[k].toList==s.toList)):=by
 unfold memB
 rw [List.take_succ_eq_append_getElem hk,List.any_append]
 simp
set_option maxRecDepth 20000 in
theorem place_any (w:World) (A:Option Addr) (n c B:Nat) (l:List ByteArray) (s:ByteArray) (h:Rd w B 1 A n (strs l)) (hn:n≤maxLen) :
 Calls Tryz.prog 160 #[.slice A n c,.string s] w fun y w'=>∃ z,y=.returned (.int .i64 z)∧PlaceIs l s z∧w=w':=by
 obtain rfl:n=l.length:=h.str_len
 unfold maxLen at hn
 have H:=Lib.hid h;clear h
 go_enter Tryz.func160,Tryz.ntmps160
 go_wp2
 go_loop [5] (fun i=>∃ k:Nat,k≤l.length∧i=.int .i64 (k:Int)∧Hid (memB (l.take k) s=false)) (fun i=>l.length-(intOf i).toNat)
 case atStart=>exact ⟨0,by omega,rfl,rfl⟩
 case round =>
  obtain ⟨k,hk,rfl,HA⟩:=hrel
  by_cases hlt:k<l.length
  ·obtain ⟨a,rfl,hab,x0⟩:=H.out.str hlt
   have q1:(0:Int)≤(k:Int):=by omega
   have q2:(k:Int)<(l.length:Int):=by omega
   have hst:=memB_take_succ l s k hlt
   rw [HA.out,Bool.false_or] at hst
   have hmem:(l[k].toList==s.toList)=true→memB l s=true:=fun e=>List.any_eq_true.2 ⟨_,List.getElem_mem hlt,e⟩
   generalize l[k]=x at *
   have HST:=Lib.hid hst;have HM:=Lib.hid hmem;clear hst hmem
   cases he:(x.toList==s.toList) with
   | true =>
     have hm:=HM.out he
     have HMM:=Lib.hid hm;clear hm
     go_wp2
     go_ret
     exact ⟨_,rfl,.inr ⟨q1,q2,HMM.out⟩,rfl⟩
   | false =>
     have HE:=Lib.hid he
     go_wp2
     go_round
     case rel=>exact ⟨k+1,by omega,by go_num,by show memB (l.take (k+1)) s=false;rw [HST.out];exact HE.out⟩
     case measure=>simp [intOf];omega
  ·obtain rfl:k=l.length:=by omega
   have hA:=HA.out
   rw [List.take_length] at hA
   have HA2:=Lib.hid hA;clear hA
   go_wp2
   go_ret
   exact ⟨_,rfl,.inl ⟨rfl,HA2.out⟩,rfl⟩
theorem words_sorted:∀ i j:Fin 16,i.1<j.1→Op.bytesLess (wordsL[i.1]'(by have:=i.2;have:=wordsL_len;omega)).toList (wordsL[j.1]'(by have:=j.2;have:=wordsL_len;omega)).toList=true:=by decide +kernel
theorem words_lt (i j:Nat) (hij:i<j) (hj:j<wordsL.length):Op.bytesLess (wordsL[i]'(by omega)).toList wordsL[j].toList=true :=
 words_sorted ⟨i,by have:=wordsL_len;omega⟩ ⟨j,by have:=wordsL_len;omega⟩ hij
theorem add_lit0 (g k:Nat):(⟨g,0,none⟩:Addr).add k=⟨g,k,none⟩:=by unfold Addr.add;split<;>simp_all
def Half (s:ByteArray) (lo hi:Nat):Prop:=(∀ j (hj:j<wordsL.length),j<lo→Op.bytesLess wordsL[j].toList s.toList=true)∧(∀ j (hj:j<wordsL.length),hi≤j→Op.bytesLess s.toList wordsL[j].toList=true)
theorem Half.no {s:ByteArray} {lo hi:Nat} (h:Half s lo hi) (he:hi≤lo):memB wordsL s=false:=by
 unfold memB
 rw [List.any_eq_false]
 intro x hx
 obtain ⟨j,hj,rfl⟩:=List.getElem_of_mem hx
 rw [beq_iff_eq]
 intro e
 rcases Nat.lt_or_ge j lo with h1|h1
 ·have:=h.1 j hj h1
  rw [e,bl_irr] at this;cases this
 ·have:=h.2 j hj (by omega)
  rw [e,bl_irr] at this;cases this
theorem Half.up {s:ByteArray} {lo hi mid:Nat} (h:Half s lo hi) (hm:mid<wordsL.length) (hl:Op.bytesLess wordsL[mid].toList s.toList=true):Half s (mid+1) hi :=
 ⟨fun j hj hjm=>by
  rcases Nat.lt_or_ge j mid with h1|h1
  ·exact bl_trans (words_lt j mid h1 hm) hl
  ·obtain rfl:j=mid:=by omega
   exact hl,h.2⟩
theorem Half.down {s:ByteArray} {lo hi mid:Nat} (h:Half s lo hi) (hm:mid<wordsL.length) (hl:Op.bytesLess wordsL[mid].toList s.toList=false) (hne:(wordsL[mid].toList==s.toList)=false):Half s lo mid :=
 ⟨h.1,fun j hj hjm=>by
  have h2:=bl_tri hl (by rw [beq_eq_false_iff_ne] at hne;exact hne)
  rcases Nat.eq_or_lt_of_le hjm with h1|h1
  ·subst h1;exact h2
  ·exact bl_trans h2 (words_lt mid j h1 hj)⟩
set_option maxRecDepth 20000 in
set_option maxHeartbeats 1000000 in
theorem word_any (w:World) (s:ByteArray):Calls Tryz.prog 158 #[.string s] w fun y w'=>y=.returned (.bool (memB wordsL s))∧w.alloc (.cells (strs wordsL).toArray 9)=w':=by
 have hr:=words_lit w
 have hhd:Half s 0 16:=⟨fun j _ h=>by omega,fun j hj h=>by have:=wordsL_len;omega⟩
 have HR:=Lib.hid hr;have HHD:=Lib.hid hhd;clear hr hhd
 go_enter Tryz.func158,Tryz.ntmps158
 go_wp2_with (go_at_call 193;(with_reducible refine (words_any _).mono ?_);rintro y w1 ⟨rfl,hw1⟩)
 rw [hw1] at HR
 have HW1:=Lib.hid hw1;clear hw1
 go_loop [4,5] (fun v4 v5=>∃ lo hi:Nat,lo≤hi∧hi≤16∧v4=.int .i64 (lo:Int)∧v5=.int .i64 (hi:Int)∧Hid (Half s lo hi)) (fun v4 v5=>(intOf v5).toNat-(intOf v4).toNat)
 case atStart=>exact ⟨0,16,by omega,by omega,rfl,rfl,HHD⟩
 case round =>
  obtain ⟨lo,hi,hlh,h16,rfl,rfl,HA⟩:=hrel
  by_cases hlt:lo<hi
  ·obtain ⟨mid,hmid⟩:∃ mid,(lo+hi)/2=mid:=⟨_,rfl⟩
   have hm1:lo≤mid:=by omega
   have hm2:mid<hi:=by omega
   have hq:((lo:Int)+(hi:Int)).tdiv 2=(mid:Int):=by
    rw [Int.tdiv_eq_ediv_of_nonneg (by omega)];omega
   have q0:(lo:Int)<(hi:Int):=by omega
   have q1:(0:Int)≤(mid:Int):=by omega
   have q2:(mid:Int)<16:=by omega
   have hml:mid<wordsL.length:=by have:=wordsL_len;omega
   obtain ⟨a,ha,hab,x0⟩:=HR.out.str hml
   injection ha with ha
   subst ha
   rw [add_lit0] at x0
   have hup:=HA.out.up hml
   have hdn:=HA.out.down hml
   have hmem:(wordsL[mid].toList==s.toList)=true→memB wordsL s=true:=fun e=>List.any_eq_true.2 ⟨_,List.getElem_mem hml,e⟩
   have HMID:=Lib.hid hmid;clear hmid
   generalize wordsL[mid]=x at *
   have HUP:=Lib.hid hup;have HDN:=Lib.hid hdn;have HM:=Lib.hid hmem;clear hup hdn hmem
   cases he:(x.toList==s.toList) with
   | true =>
     have hm:=HM.out he
     have HMM:=Lib.hid hm;clear hm
     go_wp2
     go_ret
     exact ⟨by rw [HMM.out];rfl,HW1.out⟩
   | false =>
     cases hl:Op.bytesLess x.toList s.toList with
     | true =>
       have hu:=HUP.out hl
       have HU:=Lib.hid hu;clear hu
       go_wp2
       go_round
       case rel=>exact ⟨mid+1,hi,by omega,by omega,by go_num,rfl,HU⟩
       case measure=>simp [intOf];omega
     | false =>
       have hd:=HDN.out hl he
       have HD:=Lib.hid hd;clear hd
       go_wp2
       go_round
       case rel=>exact ⟨lo,mid,by omega,by omega,rfl,rfl,HD⟩
       case measure=>simp [intOf];omega
  ·have hno:=HA.out.no (by omega)
   have HNO:=Lib.hid hno;clear hno
   go_wp2
   go_ret
   exact ⟨by rw [HNO.out];rfl,HW1.out⟩
def smallC (c:UInt8):Bool:=decide (97≤c.toNat)&&decide (c.toNat≤122)
def otherC (c:UInt8):Bool:=(decide (48≤c.toNat)&&decide (c.toNat≤57))||decide (c.toNat=95)
def okC (c:UInt8):Bool:=smallC c||otherC c
def isB (s:ByteArray):Bool:=decide (1≤s.size)&&decide (s.size≤16)&&smallC (s.data.toList.headD 0)&&s.data.toList.all okC && !memB wordsL s
theorem isB_long (s:ByteArray) (h:¬s.size≤16):isB s=false:=by unfold isB;rw [decide_eq_false h];simp
theorem isB_first (s:ByteArray) (h:smallC (s.data.toList.headD 0)=false):isB s=false:=by unfold isB;rw [h];simp
theorem isB_bad (s:ByteArray) (k:Nat) (hk:k<s.size) (h:okC s[k]=false):isB s=false:=by
 have:s.data.toList.all okC=false:=by
  rw [List.all_eq_false]
  exact ⟨s[k],by
   have hk2:k<s.data.toList.length:=by simpa using hk
   have:s[k]=s.data.toList[k]:=rfl
   rw [this];exact List.getElem_mem hk2,by rw [h];decide⟩
 unfold isB
 rw [this];simp
theorem isB_word (s:ByteArray) (h:memB wordsL s=true):isB s=false:=by unfold isB;rw [h];simp
theorem headD_getT (L:List UInt8) (hL:0<L.length):L.headD 0=L[0]:=by
 cases L with
 | nil=>simp at hL
 | cons a l=>rfl
theorem head_get (s:ByteArray) (h1:1≤s.size):s.data.toList.headD 0=s[0]'(by omega):=by
 have hl:s.data.toList.length=s.size:=rfl
 rw [headD_getT _ (by omega)];rfl
theorem isB_yes (s:ByteArray) (h1:1≤s.size) (h2:s.size≤16) (h3:smallC (s[0]'(by omega))=true) (h4:∀ k (hk:k<s.size),okC s[k]=true):isB s=!memB wordsL s:=by
 have h5:s.data.toList.all okC=true:=by
  rw [List.all_eq_true]
  intro x hx
  obtain ⟨j,hj,rfl⟩:=List.getElem_of_mem hx
  exact h4 j hj
 unfold isB
 rw [decide_eq_true h1,decide_eq_true h2,h5,head_get s h1,h3];simp
theorem toList_ne (s:ByteArray) (h:1≤s.size):s.toList.isEmpty=false:=by
 have hl:s.data.toList.length=s.size:=rfl
 rw [ByteArray.toList_eq]
 cases hs:s.data.toList with
 | nil=>rw [hs] at hl;simp at hl;omega
 | cons a l=>rfl
theorem nat_cases (n:Nat):n<48∨(48≤n∧n≤57)∨(57<n∧n<95)∨n=95∨n=96∨(97≤n∧n≤122)∨122<n:=by omega
set_option maxRecDepth 20000 in
set_option maxHeartbeats 2000000 in
theorem is_any (w:World) (s:ByteArray):Calls Tryz.prog 103 #[.string s] w fun y w'=>y=.returned (.bool (isB s))∧Below w.heap.size w w':=by
 by_cases h0:s.size=0
 ·obtain rfl:s=⟨#[]⟩:=by
   apply ByteArray.ext
   exact Array.eq_empty_of_size_eq_zero h0
  go_enter Tryz.func103,Tryz.ntmps103
  go_wp2
  go_ret
  exact ⟨rfl,belR w⟩
 ·have h1:1≤s.size:=by omega
  have hne:=toList_ne s h1
  clear h0
  by_cases h16:s.size≤16
  ·have hh:=head_get s h1
   by_cases hf1:(s[0]'(by omega)).toNat<97
   ·have hno:=isB_first s (by rw [hh];unfold smallC;rw [decide_eq_false (by omega)];rfl)
    have HNO:=Lib.hid hno;clear hno hh
    go_enter Tryz.func103,Tryz.ntmps103
    go_wp2
    go_ret
    exact ⟨by rw [HNO.out];rfl,belR w⟩
   ·by_cases hf2:122<(s[0]'(by omega)).toNat
    ·have hno:=isB_first s (by rw [hh];unfold smallC;rw [decide_eq_false (show ¬(s[0]'(by omega)).toNat≤122 by omega)];simp)
     have HNO:=Lib.hid hno;clear hno hh
     go_enter Tryz.func103,Tryz.ntmps103
     go_wp2
     go_ret
     exact ⟨by rw [HNO.out];rfl,belR w⟩
    ·have hsm:smallC (s[0]'(by omega))=true:=by unfold smallC;rw [decide_eq_true (by omega),decide_eq_true (by omega)];rfl
     have HSM:=Lib.hid hsm;clear hsm hh
     have HW:=Lib.hid (fun W=>word_any W s)
     go_enter Tryz.func103,Tryz.ntmps103
     go_wp2
     clear hne hf1 hf2
     go_loop [24] (fun i=>∃ k:Nat,k≤s.size∧i=.int .i64 (k:Int)∧Hid (∀ j (hj:j<s.size),j<k→okC s[j]=true)) (fun i=>s.size-(intOf i).toNat)
     case atStart=>exact ⟨0,by omega,rfl,fun j _ hj=>by omega⟩
     case round =>
      obtain ⟨k,hk,rfl,HA⟩:=hrel
      by_cases hlt:k<s.size
      ·have hbad:=isB_bad s k hlt
       have hst:=fun (h:okC s[k]=true)=>(show ∀ j (hj:j<s.size),j<k+1→okC s[j]=true from fun j hj hjk=>by
        by_cases e:j=k
        ·subst e;exact h
        ·exact HA.out j hj (by omega))
       have q1:(0:Int)≤(k:Int):=by omega
       have q2:(k:Int)<(s.size:Int):=by omega
       have HST:=Lib.hid hst;have HBAD:=Lib.hid hbad;clear hst hbad
       rcases nat_cases s[k].toNat with hc|hc|hc|hc|hc|hc|hc
       case inl|inr.inr.inl|inr.inr.inr.inr.inl|inr.inr.inr.inr.inr.inr =>
        have hno:=HBAD.out (by unfold okC smallC otherC;simp;omega)
        have HNO:=Lib.hid hno;clear hno
        have t95:((s[k].toNat:Int) != 95)=true:=by rw [bne_iff_ne];omega
        go_wp2
        go_ret
        exact ⟨by rw [HNO.out];rfl,belR w⟩
       all_goals
        have hy:=HST.out (by unfold okC smallC otherC;simp;omega)
        have HY:=Lib.hid hy;clear hy
        go_wp2
        go_round
        case rel=>exact ⟨k+1,by omega,by go_num,HY⟩
        case measure=>simp [intOf];omega
      ·have hyes:=isB_yes s h1 h16 HSM.out (fun j hj=>HA.out j hj (by omega))
       have HYES:=Lib.hid hyes;clear hyes
       go_wp2_with (go_at_call 158;(with_reducible refine (HW.out _).mono ?_);rintro y w1 ⟨rfl,hw1⟩)
       go_ret
       exact ⟨by rw [HYES.out];rfl,by rw [←hw1];exact belA (belR w) _⟩
  ·have hno:=isB_long s h16
   have HNO:=Lib.hid hno;clear hno
   go_enter Tryz.func103,Tryz.ntmps103
   go_wp2
   go_ret
   exact ⟨by rw [HNO.out];rfl,belR w⟩
set_option maxRecDepth 20000 in
set_option maxHeartbeats 2000000 in
theorem refIs_any (w:World) (s:ByteArray):Calls Tryz.prog 109 #[.string s] w fun y w'=>y=.returned (.bool (isB s))∧Below w.heap.size w w':=by
 by_cases h0:s.size<1
 ·have hno:isB s=false:=by unfold isB;rw [decide_eq_false (by omega)];rfl
  have HNO:=Lib.hid hno;clear hno
  go_enter Tryz.func109,Tryz.ntmps109
  go_wp2
  go_ret
  exact ⟨by rw [HNO.out];rfl,belR w⟩
 ·have h1:1≤s.size:=by omega
  by_cases h16:s.size≤16
  ·have HP:=Lib.hid (place_any (w.alloc (.cells (strs wordsL).toArray 9)) _ 16 16 _ wordsL s (words_lit w) (by unfold maxLen;omega))
   have hb1:=belA (belR w) (.cells (strs wordsL).toArray 9)
   have HB1:=Lib.hid hb1;clear hb1
   cases hm:memB wordsL s with
   | true =>
     have hno:=isB_word s hm
     have HNO:=Lib.hid hno;have HM:=Lib.hid hm;clear hno hm
     go_enter Tryz.func109,Tryz.ntmps109
     go_wp2_with (first
      | (go_at_call 161;(with_reducible refine (rwords_any _).mono ?_);rintro y w1 ⟨rfl,rfl⟩)
      | (go_at_call 160;(with_reducible refine HP.out.mono ?_);rintro y w2 ⟨z,rfl,hz,rfl⟩;have hz0:0≤z:=by rcases hz with ⟨_,hz⟩|⟨hz,_⟩;(rw [HM.out] at hz;cases hz);exact hz))
     go_ret
     exact ⟨by rw [HNO.out];rfl,HB1.out⟩
   | false =>
     have hh:=head_get s h1
     have HM:=Lib.hid hm;clear hm
     have HH:=Lib.hid hh;clear hh
     go_enter Tryz.func109,Tryz.ntmps109
     go_wp2_with (first
      | (go_at_call 161;(with_reducible refine (rwords_any _).mono ?_);rintro y w1 ⟨rfl,rfl⟩)
      | (go_at_call 160;(with_reducible refine HP.out.mono ?_);rintro y w2 ⟨z,rfl,hz,rfl⟩;have hz0:¬0≤z:=by rcases hz with ⟨hz,_⟩|⟨_,_,hz⟩;omega;(rw [HM.out] at hz;cases hz)))
     go_loop [3] (fun i=>∃ k:Nat,k≤s.size∧i=.int .i64 (k:Int)∧Hid ((∀ j (hj:j<s.size),j<k→okC s[j]=true)∧(0<k→smallC (s[0]'(by omega))=true))) (fun i=>s.size-(intOf i).toNat)
     case atStart=>exact ⟨0,by omega,rfl,⟨fun j _ hj=>by omega,fun h=>by omega⟩⟩
     case round =>
      obtain ⟨k,hk,rfl,HA⟩:=hrel
      by_cases hlt:k<s.size
      ·have hbad:=isB_bad s k hlt
       have hbad0:=isB_first s
       rw [HH.out] at hbad0
       have hst:=fun (h:okC s[k]=true) (h0:k=0→smallC (s[0]'(by omega))=true)=>(show (∀ j (hj:j<s.size),j<k+1→okC s[j]=true)∧(0<k+1→smallC (s[0]'(by omega))=true) from ⟨fun j hj hjk=>by
        by_cases e:j=k
        ·subst e;exact h
        ·exact HA.out.1 j hj (by omega),fun _=>by
        by_cases e:k=0
        ·exact h0 e
        ·exact HA.out.2 (by omega)⟩)
       have q1:(0:Int)≤(k:Int):=by omega
       have q2:(k:Int)<(s.size:Int):=by omega
       have HST:=Lib.hid hst;have HBAD:=Lib.hid hbad;have HBAD0:=Lib.hid hbad0;clear hst hbad hbad0
       rcases nat_cases s[k].toNat with hc|hc|hc|hc|hc|hc|hc
       case inl|inr.inr.inl|inr.inr.inr.inr.inl|inr.inr.inr.inr.inr.inr =>
        have hno:=HBAD.out (by unfold okC smallC otherC;simp;omega)
        have HNO:=Lib.hid hno;clear hno
        have t95:((s[k].toNat:Int)==95)=false:=by rw [beq_eq_false_iff_ne];omega
        try have t122:decide ((s[k].toNat:Int)≤122)=false:=decide_eq_false (by omega)
        go_wp2
        go_ret
        exact ⟨by rw [HNO.out];rfl,HB1.out⟩
       case inr.inr.inr.inr.inr.inl =>
        have hy:=HST.out (by unfold okC smallC otherC;simp;omega) (fun e=>by subst e;unfold smallC;simp;omega)
        have HY:=Lib.hid hy;clear hy
        go_wp2
        go_round
        case rel=>exact ⟨k+1,by omega,by go_num,HY⟩
        case measure=>simp [intOf];omega
       all_goals
        by_cases hk0:k=0
        ·subst hk0
         have hno:=HBAD0.out (by unfold smallC;simp;omega)
         have HNO:=Lib.hid hno;clear hno
         go_wp2
         go_ret
         exact ⟨by rw [HNO.out];rfl,HB1.out⟩
        ·have tk:((k:Int)==0)=false:=by rw [beq_eq_false_iff_ne];omega
         have hy:=HST.out (by unfold okC smallC otherC;simp;omega) (fun e=>absurd e hk0)
         have HY:=Lib.hid hy;clear hy hk0
         go_wp2
         go_round
         case rel=>exact ⟨k+1,by omega,by go_num,HY⟩
         case measure=>simp [intOf];omega
      ·have hyes:=isB_yes s h1 h16 (HA.out.2 (by omega)) (fun j hj=>HA.out.1 j hj (by omega))
       rw [HM.out] at hyes
       have HYES:=Lib.hid hyes;clear hyes
       go_wp2
       go_ret
       exact ⟨by rw [HYES.out];rfl,HB1.out⟩
  ·have hno:=isB_long s h16
   have HNO:=Lib.hid hno;clear hno
   go_enter Tryz.func109,Tryz.ntmps109
   go_wp2
   go_ret
   exact ⟨by rw [HNO.out];rfl,belR w⟩
theorem Rd.takeN {w:World} {B n k:Nat} {A:Option Addr} {xs:List Value} (h:Rd w B 1 A n xs) (hk:k≤n):Rd w B 1 A k (xs.take k) :=
 ⟨by rw [List.length_take,h.1];omega,fun h0=>by
  obtain ⟨a,e,hb,hc⟩:=h.2 (by omega)
  refine ⟨a,e,hb,fun j u hu=>hc j u ?_⟩
  rw [List.getElem?_take] at hu
  split at hu
  ·exact hu
  ·cases hu⟩
theorem PlaceIs.two {l:List ByteArray} {s:ByteArray} {z:Int} (h:PlaceIs l s z):(z<0∧memB l s=false)∨(0≤z∧memB l s=true):=by
 rcases h with ⟨h1,h2⟩|⟨h1,_,h2⟩
 ·exact .inl ⟨by omega,h2⟩
 ·exact .inr ⟨h1,h2⟩
def dupTo (l:List ByteArray) (k:Nat):Bool:=(List.range k).any fun i=>memB (l.take i) (l.getD i ⟨#[]⟩)
def dupB (l:List ByteArray):Bool:=dupTo l l.length
theorem dupTo_succ (l:List ByteArray) (k:Nat) (hk:k<l.length):dupTo l (k+1)=(dupTo l k||memB (l.take k) l[k]):=by
 unfold dupTo
 rw [List.range_succ,List.any_append]
 simp [List.getD,hk]
theorem dupTo_mono (l:List ByteArray) (k:Nat) (hk:k<l.length) (h:memB (l.take k) l[k]=true):dupB l=true:=by
 unfold dupB dupTo
 rw [List.any_eq_true]
 exact ⟨k,List.mem_range.2 hk,by rw [←h];simp [List.getD,hk]⟩
def TwIs (l:List ByteArray) (z:Int):Prop:=(z=-1∧dupB l=false)∨(0≤z∧dupB l=true)
set_option maxRecDepth 20000 in
set_option maxHeartbeats 1000000 in
theorem refTwice_any (w:World) (A:Option Addr) (n c B:Nat) (l:List ByteArray) (h:Rd w B 1 A n (strs l)) (hnc:n≤c) (hc:c≤maxLen) :
 Calls Tryz.prog 110 #[.slice A n c] w fun y w'=>∃ z,y=.returned (.int .i64 z)∧TwIs l z∧Drw w w':=by
 obtain rfl:n=l.length:=h.str_len
 have hcc:=hc
 unfold maxLen at hcc
 have H:=Lib.hid h;have HC:=Lib.hid hc;clear h hc
 go_enter Tryz.func110,Tryz.ntmps110
 go_wp2
 go_loopw [3] (fun i wr=>∃ k:Nat,k≤l.length∧i=.int .i64 (k:Int)∧Hid (dupTo l k=false)∧Drw w wr) (fun i _=>l.length-(intOf i).toNat)
 case atStart=>exact ⟨0,by omega,rfl,rfl,Drw.refl w⟩
 case round =>
  obtain ⟨k,hk,rfl,HA,hd⟩:=hrel
  have HD:=Lib.hid hd;clear hd
  by_cases hlt:k<l.length
  ·have HR:Hid (Rd wr B 1 A l.length (strs l)):=by obtain ⟨j,hj⟩:=HD.out;exact Lib.hid (by rw [hj];exact H.out.drewN j)
   obtain ⟨a,rfl,hab,x0⟩:=HR.out.str hlt
   have q1:(0:Int)≤(k:Int):=by omega
   have q2:(k:Int)<(l.length:Int):=by omega
   have q3:(k:Int)≤(c:Int):=by omega
   have hst:=dupTo_succ l k hlt
   rw [HA.out,Bool.false_or] at hst
   have hmo:=dupTo_mono l k hlt
   have htk:Rd wr.drew B 1 (some a) k (strs (l.take k)):=by
    have:=HR.out.takeN (k:=k) (by omega)
    rw [show strs (l.take k)=(strs l).take k from List.map_take]
    exact this
   have hpl:=place_any wr.drew (some a) k c B (l.take k) l[k] htk (by have:=HC.out;omega)
   generalize l[k]=x at *
   have HST:=Lib.hid hst;have HM:=Lib.hid hmo;have HPL:=Lib.hid hpl;clear hst hmo hpl htk
   go_upto_region 4 with (fail)
   go_still_tail 7,(by kernel_rfl)
   have hpl2:Calls Tryz.prog 160 #[.slice (some a) k c,.string x] wr.drew fun y w'=>∃ z,y=.returned (.int .i64 z)∧(z<0∧memB (l.take k) x=false)∧wr.drew=w'∨y=.returned (.int .i64 z)∧(0≤z∧memB (l.take k) x=true)∧wr.drew=w' :=
    HPL.out.mono fun y w' ⟨z,h1,h2,h3⟩=>⟨z,by rcases h2.two with h2|h2;exact .inl ⟨h1,h2,h3⟩;exact .inr ⟨h1,h2,h3⟩⟩
   have HPL2:=Lib.hid hpl2;clear hpl2
   have HD1:Hid (Drw w wr.drew):=Lib.hid HD.out.drew
   go_wp2_with fail
   (with_reducible refine HPL2.out.mono ?_)
   rintro y w2 ⟨z,⟨rfl,⟨hz,hm⟩,rfl⟩|⟨rfl,⟨hz,hm⟩,rfl⟩⟩
   ·rw [hm] at HST
    clear hm
    go_wp2
    go_roundw
    case rel=>exact ⟨k+1,by omega,by go_num,HST,HD1.out⟩
    case measure=>simp [intOf];omega
   ·have hy:=HM.out hm
    have HY:=Lib.hid hy;clear hm hy
    go_wp2
    go_ret
    exact ⟨_,rfl,.inr ⟨q1,HY.out⟩,HD1.out⟩
  ·obtain rfl:k=l.length:=by omega
   have HA2:Hid (dupB l=false):=HA
   go_wp2
   go_ret
   exact ⟨_,rfl,.inl ⟨rfl,HA2.out⟩,HD.out⟩
end Go.Proofs.YtfhmaincnlaapaaGreat
namespace Go.Proofs.YtfhmaincnlaapaaGreat
set_option linter.unusedVariables false
def wdF:Nat→Nat→Nat
 | 0,_=>0
 | f+1,x=>if x=0 then 0 else wdF f (x/256)+1
def wd (x:Nat):Nat:=wdF 8 x
def be:Nat→Nat→List UInt8
 | 0,_=>[]
 | k+1,x=>UInt8.ofNat (x/256^k)::be k x
theorem be_length (k x:Nat):(be k x).length=k:=by
 induction k with
 | zero=>rfl
 | succ k ih=>simp [be,ih]
theorem be_get (k x j:Nat) (h:j<k):(be k x)[j]?=some (UInt8.ofNat (x/256^(k-1-j))):=by
 induction k generalizing j with
 | zero=>omega
 | succ k ih =>
   cases j with
   | zero=>simp [be]
   | succ j=>simp only [be,List.getElem?_cons_succ];rw [ih j (by omega)];congr 4;omega
theorem be_take (k x j:Nat) (h:j<k):(be k x).take (j+1)=(be k x).take j ++ [UInt8.ofNat (x/256^(k-1-j))]:=by
 rw [List.take_add_one,be_get k x j h];rfl
theorem be_snoc (k x:Nat):be (k+1) x=be k (x/256) ++ [UInt8.ofNat x]:=by
 induction k with
 | zero=>simp [be]
 | succ k ih =>
   rw [be,ih]
   conv=>rhs;rw [be]
   simp only [List.cons_append]
   congr 2
   rw [Nat.div_div_eq_div_mul,Nat.pow_succ,Nat.mul_comm]
theorem wdF_le (f x:Nat):wdF f x≤f:=by
 induction f generalizing x with
 | zero=>simp [wdF]
 | succ f ih=>simp only [wdF];split;omega;have:=ih (x/256);omega
theorem wd_le (x:Nat):wd x≤8:=wdF_le 8 x
theorem wdF_more (f x:Nat) (h:x<256^f):wdF (f+1) x=wdF f x:=by
 induction f generalizing x with
 | zero=>simp at h;simp [wdF,h]
 | succ f ih =>
   rw [wdF]
   split
   ·rename_i h0;simp [wdF,h0]
   ·rename_i h0
    rw [ih (x/256) (by rw [Nat.pow_succ] at h;omega)]
    conv=>rhs;rw [wdF]
    rw [if_neg h0]
theorem wd_step (x:Nat) (h:x<18446744073709551616) (h0:0<x):wd x=wd (x/256)+1:=by
 unfold wd
 rw [show wdF 8 x=(if x=0 then 0 else wdF 7 (x/256)+1) from rfl,if_neg (by omega),wdF_more 7 (x/256) (by simp;omega)]
theorem wd_zero:wd 0=0:=rfl
theorem be_cell (x j m k:Nat) (h:j+1+m=k):Value.int IntKind.u8 ((x:Int)/2^(8*j)%256)=.int .u8 ((UInt8.ofNat (x/256^(k-1-m))).toNat:Int):=by
 have e:k-1-m=j:=by omega
 rw [e,UInt8.toNat_ofNat',show (256:Nat)=2^8 from rfl,←Nat.pow_mul]
 simp
def encU (x:Nat):List UInt8:=UInt8.ofNat (wd x)::be (wd x) x
def encI (z:Int):List UInt8 :=
 if 0≤z then UInt8.ofNat (9+wd z.toNat)::be (wd z.toNat) z.toNat
 else UInt8.ofNat (8-wd (-(z+1)).toNat)::be (wd (-(z+1)).toNat) (18446744073709551615-(-(z+1)).toNat)
theorem encU_length (x:Nat):(encU x).length=wd x+1:=by simp [encU,be_length]
end Go.Proofs.YtfhmaincnlaapaaGreat
namespace Go.Proofs.YtfhmaincnlaapaaGreat
open Go.ChangeShapes Go.WideShapes Go.ChangeAt Go.RowKit
set_option linter.unusedVariables false
theorem wide_any (x:Nat) (w:World) (hx:x<18446744073709551616) :
 Calls Tryz.prog 191 #[.int .u64 (x:Int)] w fun e w'=>e=.returned (.int .i64 (wd x:Nat))∧w=w':=by
 go_enter Tryz.func191,Tryz.ntmps191
 go_wp2
 go_loop [0,3] (fun v n=>∃ (y k:Nat),y<18446744073709551616∧v=.int .u64 (y:Int)∧n=.int .i64 (k:Int)∧k+wd y=wd x) (fun v _=>(intOf v).toNat)
 case atStart=>exact ⟨x,0,hx,rfl,rfl,by omega⟩
 case round =>
  obtain ⟨y,k,hy,rfl,rfl,hk⟩:=hrel
  have hw:=wd_le x
  have hk2:k≤8:=by omega
  have K:=Lib.hid hk;clear hk
  by_cases h0:0<y
  ·go_wp2
   go_round
   case rel=>exact ⟨y/256,k+1,by omega,by go_num,by go_num,by have:=K.out;have:=wd_step y hy h0;omega⟩
   case measure=>simp [intOf];omega
  ·obtain rfl:y=0:=by omega
   go_wp2
   go_ret
   exact ⟨by have:=K.out;rw [wd_zero] at this;simp at this;rw [←this];rfl,rfl⟩
theorem info_u8:(Tryz.prog.info? 5).map (fun i=>(i.zero,i.size,i.bytes))=some (some (.int .u8 0),1,1):=by kernel_rfl
set_option maxRecDepth 20000 in
theorem bytes_any (base n x k:Nat) (v:Value) (xs:List UInt8) (w:World) (hown:w.ownsRow base 5 1 v n (u8s xs)) (hbase:base≤w.heap.size) (hx:x<18446744073709551616) (hk:k≤8) (hn:n≤1000000) :
 Calls Tryz.prog 192 #[v,.int .u64 (x:Int),.int .i64 (k:Int)] w fun e w'=>∃ v',e=.returned v'∧w'.ownsRow base 5 1 v' (n+k) (u8s (xs++be k x))∧Appd w w' v v':=by
 go_enter Tryz.func192,Tryz.ntmps192
 go_wp2
 go_loopw [0,7] (fun v1 i wr=>∃ j m:Nat,j+m=k∧i=.int .i64 ((j:Int)-1)∧wr.ownsRow base 5 1 v1 (n+m) (u8s (xs++(be k x).take m))∧Appd w wr v v1) (fun _ i _=>(intOf i+1).toNat)
 case atStart=>exact ⟨k,0,by omega,rfl,by simpa using hown,Appd.refl _ _⟩
 case round =>
  obtain ⟨j,m,hj,rfl,ho,hb⟩:=hrel
  have hbz:base≤wr.heap.size:=Nat.le_trans hbase hb.1.size
  have J:=Lib.hid hj;clear hj
  cases j with
  | succ j =>
    rw [show ((j+1:Nat):Int)-1=(j:Int) from by omega]
    have hm:8*(j:Int)≤56:=by have:=J.out;omega
    have hm2:m≤7:=by have:=J.out;omega
    go_wp2_with (at_builtin;go_loud (refine wpList_app1 _ _ rfl rfl _ _ 27 rfl base 5 _ 1 info_u8 rfl Tryz.underlying27 _ _ _ ho rfl rfl ?_ ?_ ?_ ?_);omega;omega;exact hbz;intro v2 w2 ho2 hb2)
    go_roundw
    case rel=>exact ⟨j,m+1,by have:=J.out;omega,rfl,by rw [be_take _ _ _ (by have:=J.out;omega),←List.append_assoc,←u8s_snoc _ _ _ (be_cell x j m k J.out)];exact ho2,hb.trans hb2⟩
    case measure=>simp [intOf]
  | zero =>
    obtain rfl:m=k:=by have:=J.out;omega
    go_wp2
    go_ret
    exact ⟨_,rfl,by rw [List.take_of_length_le (by rw [be_length];omega)] at ho;exact ho,hb⟩
theorem own_lit1 (w:World) (u:Value) (base:Nat) (hb:base≤w.heap.size) (e:TypeId):(w.alloc (.cells #[u] e)).ownsRow base e 1 (.slice (some ⟨w.heap.size,0,none⟩) 1 1) 1 [u] :=
 World.ownsRow_lit w #[u] 1 hb (by simp [maxLen]) (by simp)
theorem appd_lit1 {w w':World} {u v':Value} {e:TypeId} (h:Appd (w.alloc (.cells #[u] e)) w' (.slice (some ⟨w.heap.size,0,none⟩) 1 1) v'):Below w.heap.size w w'∧∀ k,v'.ownBlock=some k→w.heap.size≤k:=by
 have hsz:(w.alloc (.cells #[u] e)).heap.size=w.heap.size+1:=by simp
 refine ⟨((Below.refl _ w).alloc (Nat.le_refl _) _).grown h.1 (by omega) (fun k hk=>by cases hk;exact Nat.le_refl _),fun k hk=>?_⟩
 rcases h.2 with e|⟨i,e,hi⟩
 ·rw [e] at hk;cases hk;exact Nat.le_refl _
 ·rw [e] at hk;cases hk;omega
theorem own_lit1b (w:World) (z:Int) (b:Nat) (hz:z=(b:Int)) (hb:b<256):(w.alloc (.cells #[.int .u8 z] 5)).ownsRow w.heap.size 5 1 (.slice (some ⟨w.heap.size,0,none⟩) 1 1) 1 (u8s [UInt8.ofNat b]):=by
 have:=own_lit1 w (.int .u8 z) w.heap.size (Nat.le_refl _) 5
 have e:u8s [UInt8.ofNat b]=[.int .u8 z]:=by
  simp only [u8s,List.map_cons,List.map_nil,UInt8.toNat_ofNat',hz]
  rw [Nat.mod_eq_of_lt (by omega)]
 rw [e];exact this
theorem codeU_any (x:Nat) (w:World) (hx:x<18446744073709551616) :
 Calls Tryz.prog 154 #[.int .u64 (x:Int)] w fun e w'=>∃ v',e=.returned v'∧w'.ownsRow w.heap.size 5 1 v' (wd x+1) (u8s (encU x))∧Below w.heap.size w w':=by
 have hw:=wd_le x
 have hc:=bytes_any w.heap.size 1 x (wd x) _ [UInt8.ofNat (wd x)] _ (own_lit1b w (wd x:Int) (wd x) rfl (by omega)) (by simp) hx hw (by omega)
 go_enter Tryz.func154,Tryz.ntmps154
 go_wp2_with (first|(go_at_call 191;(with_reducible refine (wide_any x _ hx).mono ?_);rintro e w' ⟨rfl,rfl⟩)|(go_at_call 192;(with_reducible refine hc.mono ?_);rintro e w' ⟨v',rfl,ho,hb⟩))
 go_ret
 exact ⟨_,rfl,by rw [Nat.add_comm];exact ho,(appd_lit1 hb).1⟩
end Go.Proofs.YtfhmaincnlaapaaGreat
namespace Go.Proofs.YtfhmaincnlaapaaGreat
set_option linter.unusedVariables false
theorem snoc_ind {α:Type} {p:List α→Prop} (h0:p []) (h1:∀ l b,p l→p (l ++ [b])) (l:List α):p l:=by
 have h:∀ r:List α,p r.reverse:=by
  intro r
  induction r with
  | nil=>exact h0
  | cons b r ih=>rw [List.reverse_cons];exact h1 _ _ ih
 have:=h l.reverse
 rwa [List.reverse_reverse] at this
def bv (l:List UInt8):Nat:=l.foldl (fun x b=>x*256+b.toNat) 0
theorem bv_snoc (l:List UInt8) (b:UInt8):bv (l ++ [b])=bv l*256+b.toNat:=by simp [bv]
theorem bv_lt (l:List UInt8):bv l<256^l.length:=by
 refine snoc_ind (p:=fun l=>bv l<256^l.length) (by simp [bv]) (fun l b ih=>?_) l
 rw [bv_snoc,List.length_append,List.length_singleton,Nat.pow_succ]
 have:=b.toNat_lt
 omega
theorem bv_take (l:List UInt8) (i:Nat) (h:i<l.length):bv (l.take (i+1))=bv (l.take i)*256+l[i].toNat:=by
 rw [List.take_succ_eq_append_getElem h,bv_snoc]
theorem be_bv (l:List UInt8):be l.length (bv l)=l:=by
 refine snoc_ind (p:=fun l=>be l.length (bv l)=l) rfl (fun l b ih=>?_) l
 have hb:=b.toNat_lt
 rw [List.length_append,List.length_singleton,be_snoc,bv_snoc]
 have e1:(bv l*256+b.toNat)/256=bv l:=by omega
 rw [e1,ih]
 congr 2
 apply UInt8.toNat_inj.1
 rw [UInt8.toNat_ofNat']
 omega
def numB (t:List UInt8) (n:Nat):Nat×Nat :=
 if n=0 then (0,0) else
 match t with
 | []=>(0,5)
 | c::_=>if c=0 then (0,6) else if t.length<n then (0,5) else (bv (t.take n),0)
theorem numB_ok (t:List UInt8) (n:Nat) (h:n≤t.length) (hz:0<n→t.headD 0≠0):numB t n=(bv (t.take n),0):=by
 unfold numB
 by_cases h0:n=0
 ·subst h0;rfl
 ·rw [if_neg h0]
  cases t with
  | nil=>simp at h;omega
  | cons c t =>
    have hc:c≠0:=hz (by omega)
    have hl:¬(c::t).length<n:=by omega
    simp only [if_neg hc,if_neg hl]
theorem numB_short (t:List UInt8) (n:Nat) (h:t.length<n) (hz:0<t.length→t.headD 0≠0):numB t n=(0,5):=by
 unfold numB
 rw [if_neg (by omega)]
 cases t with
 | nil=>rfl
 | cons c t =>
   have hc:c≠0:=hz (by simp)
   simp only [if_neg hc,if_pos h]
theorem numB_form (t:List UInt8) (n:Nat) (h0:0<n) (h:0<t.length) (hz:t[0]=0):numB t n=(0,6):=by
 unfold numB
 rw [if_neg (by omega)]
 cases t with
 | nil=>simp at h
 | cons c t =>
   have hc:c=0:=hz
   simp only [if_pos hc]
theorem headD_get (t:List UInt8) (h:0<t.length):t.headD 0=t[0]:=by
 cases t with
 | nil=>simp at h
 | cons c t=>rfl
theorem or_byte (X b:Nat) (hX:X<72057594037927936) (hb:b<256):bits .or .u64 ((X:Int)*256) (b:Int)=((X*256+b:Nat):Int):=by
 have e:((X:Int)*256)=((X*256:Nat):Int):=by omega
 rw [e,u64_or_nat _ _ (by omega) (by omega)]
 congr 1
 have:=Nat.shiftLeft_add_eq_or_of_lt (show b<2^8 from hb) X
 rw [Nat.shiftLeft_eq] at this
 exact this.symm
theorem or_byte0 (b:Nat) (hb:b<256):bits .or .u64 0 (b:Int)=(b:Int):=by
 have:=or_byte 0 b (by omega) hb
 simpa using this
def getU (l:List UInt8):Nat×Nat×Nat :=
 match l with
 | []=>(0,0,5)
 | c::t=>if 8<c.toNat then (0,0,6) else
   if (numB t c.toNat).2=0 then ((numB t c.toNat).1,c.toNat+1,0) else (0,0,(numB t c.toNat).2)
def sgn (c:UInt8):Nat×Bool:=if c.toNat<9 then (8-c.toNat,true) else (c.toNat-9,false)
def prt (c:UInt8) (t:List UInt8):List UInt8:=if (sgn c).2 then (t.take (sgn c).1).map (255 - ·) else t.take (sgn c).1
def getI (l:List UInt8):Int×Nat×Nat :=
 match l with
 | []=>(0,0,5)
 | c::t=>if 8<(sgn c).1 then (0,0,6) else
   if (sgn c).1=8∧127<((prt c t).headD 0).toNat then (0,0,6) else
   if (numB (prt c t) (sgn c).1).2=0 then (if (sgn c).2 then -((numB (prt c t) (sgn c).1).1:Int)-1 else (numB (prt c t) (sgn c).1).1,(sgn c).1+1,0)
   else (0,0,(numB (prt c t) (sgn c).1).2)
theorem numB_lt (t:List UInt8) (n:Nat) (hn:n≤8):(numB t n).1<18446744073709551616:=by
 have h1:=bv_lt (t.take n)
 have h2:256^(t.take n).length≤256^8:=Nat.pow_le_pow_right (by decide) (by rw [List.length_take];omega)
 have h3:(256:Nat)^8=18446744073709551616:=by decide
 unfold numB
 split
 ·simp
 ·split
  ·simp
  ·split
   ·simp
   ·split
    ·simp
    ·simp only;omega
theorem numB_lt63 (t:List UInt8) (n:Nat) (hn:n≤8) (h:n=8→(t.headD 0).toNat≤127):(numB t n).1<9223372036854775808:=by
 unfold numB
 split
 ·simp
 ·split
  ·simp
  ·rename_i c u
   split
   ·simp
   ·split
    ·simp
    ·rename_i hl
     simp only
     have h1:=bv_lt ((c::u).take n)
     have h3:((c::u).take n).length=n:=by rw [List.length_take];omega
     rw [h3] at h1
     by_cases h8:n=8
     ·subst h8
      have hc:c.toNat≤127:=h rfl
      have e:(c::u).take 8=c::u.take 7:=rfl
      have hb:bv (c::u.take 7)=c.toNat*256^(u.take 7).length+bv (u.take 7):=by
       have:=be_bv (c::u.take 7)
       have hlen:(u.take 7).length=7:=by rw [List.length_take];simp at hl;omega
       have key:∀ (l:List UInt8) (x:Nat),l.foldl (fun x b=>x*256+b.toNat) x=x*256^l.length+bv l:=by
        intro l
        induction l with
        | nil=>intro x;simp [bv]
        | cons d l ih =>
          intro x
          rw [List.foldl_cons,ih]
          have:=ih (0*256+d.toNat)
          rw [show bv (d::l)=l.foldl (fun x b=>x*256+b.toNat) (0*256+d.toNat) from rfl,this]
          rw [List.length_cons,Nat.pow_succ,Nat.zero_mul,Nat.zero_add,Nat.add_mul,Nat.mul_assoc,Nat.mul_comm 256,Nat.add_assoc]
       show (u.take 7).foldl (fun x b=>x*256+b.toNat) (0*256+c.toNat)=_
       rw [key,Nat.zero_mul,Nat.zero_add]
      rw [e,hb]
      have hlen:(u.take 7).length=7:=by rw [List.length_take];simp at hl;omega
      have h4:=bv_lt (u.take 7)
      rw [hlen] at h4 ⊢
      have:(256:Nat)^7=72057594037927936:=by decide
      omega
     ·have h5:256^n≤256^7:=Nat.pow_le_pow_right (by decide) (by omega)
      have:(256:Nat)^7=72057594037927936:=by decide
      omega
end Go.Proofs.YtfhmaincnlaapaaGreat
namespace Go.Proofs.YtfhmaincnlaapaaGreat
open Go.ChangeShapes Go.WideShapes Go.ChangeAt Go.RowKit
set_option linter.unusedVariables false
theorem number_any (A:Option Addr) (m c n B:Nat) (t:List UInt8) (w:World) (h:Rd w B 1 A m (u8s t)) (hn:n≤8) (hm:m≤maxLen) :
 Calls Tryz.prog 159 #[.slice A m c,.int .i64 (n:Int)] w fun e w'=>e=.returned (.tuple #[.int .u64 ((numB t n).1:Nat),.int .i64 ((numB t n).2:Nat)])∧∃ k,w'=w.drewN k:=by
 obtain rfl:m=t.length:=h.u8.symm
 unfold maxLen at hm
 have H:=Lib.hid h;clear h
 go_enter Tryz.func159,Tryz.ntmps159
 go_wp2
 go_loopw [6,9] (fun x i wr=>∃ k:Nat,k≤n∧k≤t.length∧i=.int .i64 (k:Int)∧x=.int .u64 (bv (t.take k):Nat)∧(0<k→t.headD 0≠0)∧∃ q,wr=w.drewN q) (fun _ i _=>n-(intOf i).toNat)
 case atStart=>exact ⟨0,by omega,by omega,rfl,rfl,fun h=>absurd h (by omega),0,rfl⟩
 case round =>
  obtain ⟨k,hk,hk',rfl,rfl,hnz,q,rfl⟩:=hrel
  have NZ:=Lib.hid hnz;clear hnz
  by_cases h1:k<n
  ·by_cases h2:k<t.length
   ·obtain ⟨a,rfl,hb,hc⟩:=H.out.byte h2
    have hbt:=bv_take t k h2
    have hlt:=bv_lt (t.take k)
    have hlt2:256^(t.take k).length≤256^7:=Nat.pow_le_pow_right (by decide) (by rw [List.length_take];omega)
    have hbb:bv (t.take k)<72057594037927936:=by simpa using Nat.lt_of_lt_of_le hlt hlt2
    have hc8:=t[k].toNat_lt
    clear hlt hlt2
    by_cases h3:k=0
    ·subst h3
     have e0:a.add 0=a:=by simp [Addr.add]
     rw [e0] at hc
     have hne:t≠[]:=by intro h;rw [h] at h2;simp at h2
     have hbb0:bv (List.take 0 t)=0:=rfl
     have hor:=or_byte0 t[0].toNat hc8
     have hhd:=headD_get t h2
     rw [show ((0:Nat):Int)=0 from rfl,hbb0]
     rw [hbb0] at hbt
     simp only [Nat.zero_mul,Nat.zero_add] at hbt
     have E0:=Lib.hid e0;have HB:=Lib.hid hbb0;have HT:=Lib.hid hbt;have HH:=Lib.hid hhd;clear e0 hbb0 hbt hhd
     by_cases h4:t[0]=0
     ·have t1:((t[0].toNat:Int)==0)=true:=by rw [h4];rfl
      have hfin:=numB_form t n h1 h2 h4
      have H4:=Lib.hid h4;have HF:=Lib.hid hfin;clear h4 hfin
      go_wp2
      go_ret2
      exact ⟨by rw [HF.out];rfl,_,rfl⟩
     ·have t1:((t[0].toNat:Int)==0)=false:=by rw [beq_eq_false_iff_ne];intro h;exact h4 (UInt8.toNat_inj.1 (by simp;omega))
      have H4:=Lib.hid h4;clear h4
      go_wp2
      go_roundw
      case rel=>exact ⟨1,by omega,by omega,rfl,by rw [HT.out],fun _=>by rw [HH.out];exact H4.out,_,rfl⟩
      case measure=>simp [intOf];omega
    ·have t0:((k:Int)==0)=false:=by rw [beq_eq_false_iff_ne];omega
     have hor:=or_byte (bv (t.take k)) t[k].toNat hbb hc8
     have HT:=Lib.hid hbt;clear hbt
     go_wp2
     go_roundw
     case rel=>exact ⟨k+1,by omega,by omega,by go_num,by rw [HT.out];go_num,fun _=>NZ.out (by omega),_,rfl⟩
     case measure=>simp [intOf];omega
   ·obtain rfl:k=t.length:=by omega
    have hfin:=numB_short t n h1 NZ.out
    have HF:=Lib.hid hfin;clear hfin
    go_wp2
    go_ret2
    exact ⟨by rw [HF.out];rfl,_,rfl⟩
  ·obtain rfl:k=n:=by omega
   have hfin:=numB_ok t k hk' NZ.out
   have HF:=Lib.hid hfin;clear hfin
   go_wp2
   go_ret2
   exact ⟨by rw [HF.out];rfl,_,rfl⟩
theorem getU_any (A:Option Addr) (m c B:Nat) (t:List UInt8) (w:World) (h:Rd w B 1 A m (u8s t)) (hmc:m≤c) (hc:c≤maxLen) :
 Calls Tryz.prog 106 #[.slice A m c] w fun e w'=>e=.returned (.tuple #[.int .u64 ((getU t).1:Nat),.int .i64 ((getU t).2.1:Nat),.int .i64 ((getU t).2.2:Nat)])∧∃ k,w'=w.drewN k:=by
 obtain rfl:m=t.length:=h.u8.symm
 have hcc:=hc
 unfold maxLen at hcc
 cases t with
 | nil =>
   go_enter Tryz.func106,Tryz.ntmps106
   go_wp2
   go_ret3
   exact ⟨rfl,0,rfl⟩
 | cons x t =>
   have hl:(x::t).length=t.length+1:=rfl
   rw [hl] at h hmc ⊢
   obtain ⟨a,rfl,hb,hx⟩:=h.byte (k:=0) (by simp)
   have e0:a.add 0=a:=by simp [Addr.add]
   rw [e0] at hx
   simp only [List.getElem_cons_zero] at hx
   have hx8:=x.toNat_lt
   have h1:=h.rest
   have h10:=fun h0=>h.rest0 (n:=t.length) h0
   have hmt:t.length≤maxLen:=by unfold maxLen;omega
   have H1:=Lib.hid h1;have H10:=Lib.hid h10;have E0:=Lib.hid e0;clear h1 h10 e0 hl
   by_cases h8:8<x.toNat
   ·have hfin:getU (x::t)=(0,0,6):=by simp [getU,h8]
    have HF:=Lib.hid hfin;clear hfin
    go_enter Tryz.func106,Tryz.ntmps106
    go_wp2
    go_ret3
    exact ⟨by rw [HF.out];rfl,0,rfl⟩
   ·have hfin:getU (x::t)=if (numB t x.toNat).2=0 then ((numB t x.toNat).1,x.toNat+1,0) else (0,0,(numB t x.toNat).2):=by simp [getU,h8]
    have hnum:=fun A' c' (hR:Rd w B 1 A' t.length (u8s t))=>number_any A' t.length c' x.toNat B t w hR (by omega) hmt
    generalize hN:numB t x.toNat=N at *
    have HN:=Lib.hid hN
    have HNUM:=Lib.hid hnum;clear hnum hN
    by_cases he:N.2=0
    ·have t1:((N.2:Int) != 0)=false:=by rw [he];rfl
     rw [if_pos he] at hfin
     have HF:=Lib.hid hfin;have HE:=Lib.hid he;clear hfin he
     by_cases hc1:c=1
     ·obtain rfl:t=[]:=List.eq_nil_of_length_eq_zero (by omega)
      subst hc1
      clear hmc hmt hcc
      go_enter Tryz.func106,Tryz.ntmps106
      go_wp2_with (go_at_call 159;(refine (HNUM.out (some a) 0 (H10.out rfl)).mono ?_);rintro e w' ⟨rfl,k1,rfl⟩)
      go_ret3
      exact ⟨by rw [HF.out];go_num,_,rfl⟩
     ·go_enter Tryz.func106,Tryz.ntmps106
      go_wp2_with (go_at_call 159;(with_reducible refine (HNUM.out (some ⟨a.block,a.off+1,none⟩) _ H1.out).mono ?_);rintro e w' ⟨rfl,k1,rfl⟩)
      go_ret3
      exact ⟨by rw [HF.out];go_num,_,rfl⟩
    ·have t1:((N.2:Int) != 0)=true:=by rw [bne_iff_ne];omega
     rw [if_neg he] at hfin
     have HF:=Lib.hid hfin;have HE:=Lib.hid he;clear hfin he
     by_cases hc1:c=1
     ·obtain rfl:t=[]:=List.eq_nil_of_length_eq_zero (by omega)
      subst hc1
      clear hmc hmt hcc
      go_enter Tryz.func106,Tryz.ntmps106
      go_wp2_with (go_at_call 159;(refine (HNUM.out (some a) 0 (H10.out rfl)).mono ?_);rintro e w' ⟨rfl,k1,rfl⟩)
      go_ret3
      exact ⟨by rw [HF.out];rfl,_,rfl⟩
     ·go_enter Tryz.func106,Tryz.ntmps106
      go_wp2_with (go_at_call 159;(with_reducible refine (HNUM.out (some ⟨a.block,a.off+1,none⟩) _ H1.out).mono ?_);rintro e w' ⟨rfl,k1,rfl⟩)
      go_ret3
      exact ⟨by rw [HF.out];rfl,_,rfl⟩
theorem u8_z {b:UInt8} (h:b=0):((b.toNat:Int)==0)=true:=by rw [h];rfl
theorem u8_nz {b:UInt8} (h:b≠0):((b.toNat:Int)==0)=false:=by rw [beq_eq_false_iff_ne];intro e;exact h (UInt8.toNat_inj.1 (by simp;omega))
end Go.Proofs.YtfhmaincnlaapaaGreat
