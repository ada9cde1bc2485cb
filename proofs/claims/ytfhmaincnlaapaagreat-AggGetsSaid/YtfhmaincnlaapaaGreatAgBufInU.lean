/- THE READER's U, I, T. -/
import Derived.Test.YtfhmaincnlaapaaGreatAgSy2
namespace Go.Proofs.YtfhmaincnlaapaaGreat
set_option linter.unusedVariables false
def wdF:Nat→Nat→Nat
 | 0,_=>0
 | f+1,x=>if x=0 then 0 else wdF f (x/256)+1
def wd (x:Nat):Nat:=wdF 8 x
def be:Nat→Nat→List UInt8
 | 0,_=>[]
 | k+1,x=>UInt8.ofNat (x/256^k) :: be k x
theorem be_length (k x:Nat):(be k x).length=k:=by
 induction k with
 | zero=>rfl
 | succ k ih=>simp [be,ih]
theorem be_get (k x j:Nat) (h:j<k):(be k x)[j]?=some (UInt8.ofNat (x/256^(k-1-j))):=by
 induction k generalizing j with
 | zero=>omega
 | succ k ih =>
   cases j with
   | zero=>simp [be]
   | succ j=>simp only [be,List.getElem?_cons_succ];rw [ih j (by omega)];congr 4;omega
theorem be_snoc (k x:Nat):be (k+1) x=be k (x/256) ++ [UInt8.ofNat x]:=by
 induction k with
 | zero=>simp [be]
 | succ k ih =>
   rw [be,ih]
   conv=>rhs;rw [be]
   simp only [List.cons_append]
   congr 2
   rw [Nat.div_div_eq_div_mul,Nat.pow_succ,Nat.mul_comm]
theorem wdF_le (f x:Nat):wdF f x≤f:=by
 induction f generalizing x with
 | zero=>simp [wdF]
 | succ f ih=>simp only [wdF];split;omega;have:=ih (x/256);omega
theorem wd_le (x:Nat):wd x≤8:=wdF_le 8 x
theorem wdF_lt (f x:Nat) (h:x<256^f):x<256^wdF f x:=by
 induction f generalizing x with
 | zero=>simpa [wdF] using h
 | succ f ih =>
   simp only [wdF]
   split
   ·omega
   ·have:=ih (x/256) (by rw [Nat.pow_succ] at h;omega)
    rw [Nat.pow_succ];omega
theorem wdF_ge (f x:Nat) (h0:0<x) (h:x<256^f):256^(wdF f x-1)≤x:=by
 induction f generalizing x with
 | zero=>simp at h;omega
 | succ f ih =>
   simp only [wdF]
   rw [if_neg (by omega)]
   by_cases hx:x/256=0
   ·have:wdF f (x/256)=0:=by rw [hx];cases f <;> simp [wdF]
    rw [this];simp;omega
   ·have:=ih (x/256) (by omega) (by rw [Nat.pow_succ] at h;omega)
    have hw:1≤wdF f (x/256):=by
     cases f with
     | zero=>simp at h;omega
     | succ f=>simp only [wdF];rw [if_neg hx];omega
    have e:wdF f (x/256)+1-1=(wdF f (x/256)-1)+1:=by omega
    rw [e,Nat.pow_succ];omega
theorem wd_zero:wd 0=0:=rfl
theorem wd_lt (x:Nat) (h:x<18446744073709551616):x<256^wd x:=wdF_lt 8 x (by simpa using h)
theorem wd_ge (x:Nat) (h0:0<x) (h:x<18446744073709551616):256^(wd x-1)≤x:=wdF_ge 8 x h0 (by simpa using h)
def encU (x:Nat):List UInt8:=UInt8.ofNat (wd x) :: be (wd x) x
def encI (z:Int):List UInt8 :=
 if 0≤z then UInt8.ofNat (9+wd z.toNat) :: be (wd z.toNat) z.toNat
 else UInt8.ofNat (8-wd (-(z+1)).toNat) :: be (wd (-(z+1)).toNat) (18446744073709551615-(-(z+1)).toNat)
theorem encU_length (x:Nat):(encU x).length=wd x+1:=by simp [encU,be_length]
theorem be_flip (k y:Nat) (hk:k≤8) (hy:y<18446744073709551616):be k (18446744073709551615-y)=(be k y).map (255 - ·):=by
 apply List.ext_getElem?
 intro j
 by_cases hj:j<k
 ·rw [List.getElem?_map,be_get _ _ _ hj,be_get _ _ _ hj]
  simp only [Option.map_some]
  congr 1
  apply UInt8.toNat_inj.1
  rw [UInt8.toNat_sub_of_le _ _ (by rw [UInt8.le_iff_toNat_le];have:=(UInt8.ofNat (y/256^(k-1-j))).toNat_lt;simp;omega)]
  simp only [UInt8.toNat_ofNat']
  have hm:k-1-j≤7:=by omega
  generalize k-1-j=m at hm
  have:m=0∨m=1∨m=2∨m=3∨m=4∨m=5∨m=6∨m=7:=by omega
  rcases this with rfl|rfl|rfl|rfl|rfl|rfl|rfl|rfl <;> simp <;> omega
 ·rw [List.getElem?_eq_none (by rw [be_length];omega),List.getElem?_eq_none (by rw [List.length_map,be_length];omega)]
end Go.Proofs.YtfhmaincnlaapaaGreat
namespace Go.Proofs.YtfhmaincnlaapaaGreat
open Go.ChangeShapes Go.WideShapes Go.ChangeAt Go.RowKit
set_option linter.unusedVariables false
theorem info_u8:(Tryz.prog.info? 5).map (fun i=>(i.zero,i.size,i.bytes))=some (some (.int .u8 0),1,1):=by kernel_rfl
theorem own_lit1 (w:World) (u:Value) (base:Nat) (hb:base≤w.heap.size) (e:TypeId):(w.alloc (.cells #[u] e)).ownsRow base e 1 (.slice (some ⟨w.heap.size,0,none⟩) 1 1) 1 [u] :=
 World.ownsRow_lit w #[u] 1 hb (by simp [maxLen]) (by simp)
end Go.Proofs.YtfhmaincnlaapaaGreat
namespace Go.Proofs.YtfhmaincnlaapaaGreat
set_option linter.unusedVariables false
theorem snoc_ind {α:Type} {p:List α→Prop} (h0:p []) (h1:∀ l b,p l→p (l ++ [b])) (l:List α):p l:=by
 have h:∀ r:List α,p r.reverse:=by
  intro r
  induction r with
  | nil=>exact h0
  | cons b r ih=>rw [List.reverse_cons];exact h1 _ _ ih
 have:=h l.reverse
 rwa [List.reverse_reverse] at this
def bv (l:List UInt8):Nat:=l.foldl (fun x b=>x*256+b.toNat) 0
theorem bv_snoc (l:List UInt8) (b:UInt8):bv (l ++ [b])=bv l*256+b.toNat:=by simp [bv]
theorem bv_lt (l:List UInt8):bv l<256^l.length:=by
 refine snoc_ind (p:=fun l=>bv l<256^l.length) (by simp [bv]) (fun l b ih=>?_) l
 rw [bv_snoc,List.length_append,List.length_singleton,Nat.pow_succ]
 have:=b.toNat_lt
 omega
theorem bv_take (l:List UInt8) (i:Nat) (h:i<l.length):bv (l.take (i+1))=bv (l.take i)*256+l[i].toNat:=by
 rw [List.take_succ_eq_append_getElem h,bv_snoc]
theorem be_bv (l:List UInt8):be l.length (bv l)=l:=by
 refine snoc_ind (p:=fun l=>be l.length (bv l)=l) rfl (fun l b ih=>?_) l
 have hb:=b.toNat_lt
 rw [List.length_append,List.length_singleton,be_snoc,bv_snoc]
 have e1:(bv l*256+b.toNat)/256=bv l:=by omega
 rw [e1,ih]
 congr 2
 apply UInt8.toNat_inj.1
 rw [UInt8.toNat_ofNat']
 omega
def numB (t:List UInt8) (n:Nat):Nat×Nat :=
 if n=0 then (0,0) else
 match t with
 | []=>(0,5)
 | c :: _=>if c=0 then (0,6) else if t.length<n then (0,5) else (bv (t.take n),0)
theorem numB_ok (t:List UInt8) (n:Nat) (h:n≤t.length) (hz:0<n→t.headD 0≠0):numB t n=(bv (t.take n),0):=by
 unfold numB
 by_cases h0:n=0
 ·subst h0;rfl
 ·rw [if_neg h0]
  cases t with
  | nil=>simp at h;omega
  | cons c t =>
    have hc:c≠0:=hz (by omega)
    have hl:¬ (c :: t).length<n:=by omega
    simp only [if_neg hc,if_neg hl]
theorem numB_short (t:List UInt8) (n:Nat) (h:t.length<n) (hz:0<t.length→t.headD 0≠0):numB t n=(0,5):=by
 unfold numB
 rw [if_neg (by omega)]
 cases t with
 | nil=>rfl
 | cons c t =>
   have hc:c≠0:=hz (by simp)
   simp only [if_neg hc,if_pos h]
theorem numB_form (t:List UInt8) (n:Nat) (h0:0<n) (h:0<t.length) (hz:t[0]=0):numB t n=(0,6):=by
 unfold numB
 rw [if_neg (by omega)]
 cases t with
 | nil=>simp at h
 | cons c t =>
   have hc:c=0:=hz
   simp only [if_pos hc]
theorem headD_get (t:List UInt8) (h:0<t.length):t.headD 0=t[0]:=by
 cases t with
 | nil=>simp at h
 | cons c t=>rfl
theorem or_byte (X b:Nat) (hX:X<72057594037927936) (hb:b<256):bits .or .u64 ((X:Int)*256) (b:Int)=((X*256+b:Nat):Int):=by
 have e:((X:Int)*256)=((X*256:Nat):Int):=by omega
 rw [e,u64_or_nat _ _ (by omega) (by omega)]
 congr 1
 have:=Nat.shiftLeft_add_eq_or_of_lt (show b<2^8 from hb) X
 rw [Nat.shiftLeft_eq] at this
 exact this.symm
theorem or_byte0 (b:Nat) (hb:b<256):bits .or .u64 0 (b:Int)=(b:Int):=by
 have:=or_byte 0 b (by omega) hb
 simpa using this
def getU (l:List UInt8):Nat×Nat×Nat :=
 match l with
 | []=>(0,0,5)
 | c :: t=>if 8<c.toNat then (0,0,6) else
   if (numB t c.toNat).2=0 then ((numB t c.toNat).1,c.toNat+1,0) else (0,0,(numB t c.toNat).2)
def sgn (c:UInt8):Nat×Bool:=if c.toNat<9 then (8-c.toNat,true) else (c.toNat-9,false)
def prt (c:UInt8) (t:List UInt8):List UInt8:=if (sgn c).2 then (t.take (sgn c).1).map (255 - ·) else t.take (sgn c).1
def getI (l:List UInt8):Int×Nat×Nat :=
 match l with
 | []=>(0,0,5)
 | c :: t=>if 8<(sgn c).1 then (0,0,6) else
   if (sgn c).1=8∧127<((prt c t).headD 0).toNat then (0,0,6) else
   if (numB (prt c t) (sgn c).1).2=0 then (if (sgn c).2 then -((numB (prt c t) (sgn c).1).1:Int)-1 else (numB (prt c t) (sgn c).1).1,(sgn c).1+1,0)
   else (0,0,(numB (prt c t) (sgn c).1).2)
theorem numB_lt (t:List UInt8) (n:Nat) (hn:n≤8):(numB t n).1<18446744073709551616:=by
 have h1:=bv_lt (t.take n)
 have h2:256^(t.take n).length≤256^8:=Nat.pow_le_pow_right (by decide) (by rw [List.length_take];omega)
 have h3:(256:Nat)^8=18446744073709551616:=by decide
 unfold numB
 split
 ·simp
 ·split
  ·simp
  ·split
   ·simp
   ·split
    ·simp
    ·simp only;omega
theorem numB_lt63 (t:List UInt8) (n:Nat) (hn:n≤8) (h:n=8→(t.headD 0).toNat≤127):(numB t n).1<9223372036854775808:=by
 unfold numB
 split
 ·simp
 ·split
  ·simp
  ·rename_i c u
   split
   ·simp
   ·split
    ·simp
    ·rename_i hl
     simp only
     have h1:=bv_lt ((c :: u).take n)
     have h3:((c :: u).take n).length=n:=by rw [List.length_take];omega
     rw [h3] at h1
     by_cases h8:n=8
     ·subst h8
      have hc:c.toNat≤127:=h rfl
      have e:(c :: u).take 8=c :: u.take 7:=rfl
      have hb:bv (c :: u.take 7)=c.toNat*256^(u.take 7).length+bv (u.take 7):=by
       have:=be_bv (c :: u.take 7)
       have hlen:(u.take 7).length=7:=by rw [List.length_take];simp at hl;omega
       have key:∀ (l:List UInt8) (x:Nat),l.foldl (fun x b=>x*256+b.toNat) x=x*256^l.length+bv l:=by
        intro l
        induction l with
        | nil=>intro x;simp [bv]
        | cons d l ih =>
          intro x
          rw [List.foldl_cons,ih]
          have:=ih (0*256+d.toNat)
          rw [show bv (d :: l)=l.foldl (fun x b=>x*256+b.toNat) (0*256+d.toNat) from rfl,this]
          rw [List.length_cons,Nat.pow_succ,Nat.zero_mul,Nat.zero_add,Nat.add_mul,Nat.mul_assoc,Nat.mul_comm 256,Nat.add_assoc]
       show (u.take 7).foldl (fun x b=>x*256+b.toNat) (0*256+c.toNat)=_
       rw [key,Nat.zero_mul,Nat.zero_add]
      rw [e,hb]
      have hlen:(u.take 7).length=7:=by rw [List.length_take];simp at hl;omega
      have h4:=bv_lt (u.take 7)
      rw [hlen] at h4 ⊢
      have:(256:Nat)^7=72057594037927936:=by decide
      omega
     ·have h5:256^n≤256^7:=Nat.pow_le_pow_right (by decide) (by omega)
      have:(256:Nat)^7=72057594037927936:=by decide
      omega
end Go.Proofs.YtfhmaincnlaapaaGreat
namespace Go.Proofs.YtfhmaincnlaapaaGreat
open Go.ChangeShapes Go.WideShapes Go.ChangeAt Go.RowKit
set_option linter.unusedVariables false
theorem number_any (A:Option Addr) (m c n B:Nat) (t:List UInt8) (w:World) (h:Rd w B 1 A m (u8s t)) (hn:n≤8) (hm:m≤maxLen) :
 Calls Tryz.prog 159 #[.slice A m c,.int .i64 (n:Int)] w fun e w'=>e=.returned (.tuple #[.int .u64 ((numB t n).1:Nat),.int .i64 ((numB t n).2:Nat)])∧∃ k,w'=w.drewN k:=by
 obtain rfl:m=t.length:=h.u8.symm
 unfold maxLen at hm
 have H:=Lib.hid h;clear h
 go_enter Tryz.func159,Tryz.ntmps159
 go_wp2
 go_loopw [6,9] (fun x i wr=>∃ k:Nat,k≤n∧k≤t.length∧i=.int .i64 (k:Int)∧x=.int .u64 (bv (t.take k):Nat)∧(0<k→t.headD 0≠0)∧∃ q,wr=w.drewN q) (fun _ i _=>n-(intOf i).toNat)
 case atStart=>exact ⟨0,by omega,by omega,rfl,rfl,fun h=>absurd h (by omega),0,rfl⟩
 case round =>
  obtain ⟨k,hk,hk',rfl,rfl,hnz,q,rfl⟩:=hrel
  have NZ:=Lib.hid hnz;clear hnz
  by_cases h1:k<n
  ·by_cases h2:k<t.length
   ·obtain ⟨a,rfl,hb,hc⟩:=H.out.byte h2
    have hbt:=bv_take t k h2
    have hlt:=bv_lt (t.take k)
    have hlt2:256^(t.take k).length≤256^7:=Nat.pow_le_pow_right (by decide) (by rw [List.length_take];omega)
    have hbb:bv (t.take k)<72057594037927936:=by simpa using Nat.lt_of_lt_of_le hlt hlt2
    have hc8:=t[k].toNat_lt
    clear hlt hlt2
    by_cases h3:k=0
    ·subst h3
     have e0:a.add 0=a:=by simp [Addr.add]
     rw [e0] at hc
     have hne:t≠[]:=by intro h;rw [h] at h2;simp at h2
     have hbb0:bv (List.take 0 t)=0:=rfl
     have hor:=or_byte0 t[0].toNat hc8
     have hhd:=headD_get t h2
     rw [show ((0:Nat):Int)=0 from rfl,hbb0]
     rw [hbb0] at hbt
     simp only [Nat.zero_mul,Nat.zero_add] at hbt
     have E0:=Lib.hid e0;have HB:=Lib.hid hbb0;have HT:=Lib.hid hbt;have HH:=Lib.hid hhd;clear e0 hbb0 hbt hhd
     by_cases h4:t[0]=0
     ·have t1:((t[0].toNat:Int)==0)=true:=by rw [h4];rfl
      have hfin:=numB_form t n h1 h2 h4
      have H4:=Lib.hid h4;have HF:=Lib.hid hfin;clear h4 hfin
      go_wp2
      go_ret2
      exact ⟨by rw [HF.out];rfl,_,rfl⟩
     ·have t1:((t[0].toNat:Int)==0)=false:=by rw [beq_eq_false_iff_ne];intro h;exact h4 (UInt8.toNat_inj.1 (by simp;omega))
      have H4:=Lib.hid h4;clear h4
      go_wp2
      go_roundw
      case rel=>exact ⟨1,by omega,by omega,rfl,by rw [HT.out],fun _=>by rw [HH.out];exact H4.out,_,rfl⟩
      case measure=>simp [intOf];omega
    ·have t0:((k:Int)==0)=false:=by rw [beq_eq_false_iff_ne];omega
     have hor:=or_byte (bv (t.take k)) t[k].toNat hbb hc8
     have HT:=Lib.hid hbt;clear hbt
     go_wp2
     go_roundw
     case rel=>exact ⟨k+1,by omega,by omega,by go_num,by rw [HT.out];go_num,fun _=>NZ.out (by omega),_,rfl⟩
     case measure=>simp [intOf];omega
   ·obtain rfl:k=t.length:=by omega
    have hfin:=numB_short t n h1 NZ.out
    have HF:=Lib.hid hfin;clear hfin
    go_wp2
    go_ret2
    exact ⟨by rw [HF.out];rfl,_,rfl⟩
  ·obtain rfl:k=n:=by omega
   have hfin:=numB_ok t k hk' NZ.out
   have HF:=Lib.hid hfin;clear hfin
   go_wp2
   go_ret2
   exact ⟨by rw [HF.out];rfl,_,rfl⟩
theorem getU_any (A:Option Addr) (m c B:Nat) (t:List UInt8) (w:World) (h:Rd w B 1 A m (u8s t)) (hmc:m≤c) (hc:c≤maxLen) :
 Calls Tryz.prog 106 #[.slice A m c] w fun e w'=>e=.returned (.tuple #[.int .u64 ((getU t).1:Nat),.int .i64 ((getU t).2.1:Nat),.int .i64 ((getU t).2.2:Nat)])∧∃ k,w'=w.drewN k:=by
 obtain rfl:m=t.length:=h.u8.symm
 have hcc:=hc
 unfold maxLen at hcc
 cases t with
 | nil =>
   go_enter Tryz.func106,Tryz.ntmps106
   go_wp2
   go_ret3
   exact ⟨rfl,0,rfl⟩
 | cons x t =>
   have hl:(x :: t).length=t.length+1:=rfl
   rw [hl] at h hmc ⊢
   obtain ⟨a,rfl,hb,hx⟩:=h.byte (k:=0) (by simp)
   have e0:a.add 0=a:=by simp [Addr.add]
   rw [e0] at hx
   simp only [List.getElem_cons_zero] at hx
   have hx8:=x.toNat_lt
   have h1:=h.rest
   have h10:=fun h0=>h.rest0 (n:=t.length) h0
   have hmt:t.length≤maxLen:=by unfold maxLen;omega
   have H1:=Lib.hid h1;have H10:=Lib.hid h10;have E0:=Lib.hid e0;clear h1 h10 e0 hl
   by_cases h8:8<x.toNat
   ·have hfin:getU (x :: t)=(0,0,6):=by simp [getU,h8]
    have HF:=Lib.hid hfin;clear hfin
    go_enter Tryz.func106,Tryz.ntmps106
    go_wp2
    go_ret3
    exact ⟨by rw [HF.out];rfl,0,rfl⟩
   ·have hfin:getU (x :: t)=if (numB t x.toNat).2=0 then ((numB t x.toNat).1,x.toNat+1,0) else (0,0,(numB t x.toNat).2):=by simp [getU,h8]
    have hnum:=fun A' c' (hR:Rd w B 1 A' t.length (u8s t))=>number_any A' t.length c' x.toNat B t w hR (by omega) hmt
    generalize hN:numB t x.toNat=N at *
    have HN:=Lib.hid hN
    have HNUM:=Lib.hid hnum;clear hnum hN
    by_cases he:N.2=0
    ·have t1:((N.2:Int) != 0)=false:=by rw [he];rfl
     rw [if_pos he] at hfin
     have HF:=Lib.hid hfin;have HE:=Lib.hid he;clear hfin he
     by_cases hc1:c=1
     ·obtain rfl:t=[]:=List.eq_nil_of_length_eq_zero (by omega)
      subst hc1
      clear hmc hmt hcc
      go_enter Tryz.func106,Tryz.ntmps106
      go_wp2_with (go_at_call 159;(refine (HNUM.out (some a) 0 (H10.out rfl)).mono ?_);rintro e w' ⟨rfl,k1,rfl⟩)
      go_ret3
      exact ⟨by rw [HF.out];go_num,_,rfl⟩
     ·go_enter Tryz.func106,Tryz.ntmps106
      go_wp2_with (go_at_call 159;(with_reducible refine (HNUM.out (some ⟨a.block,a.off+1,none⟩) _ H1.out).mono ?_);rintro e w' ⟨rfl,k1,rfl⟩)
      go_ret3
      exact ⟨by rw [HF.out];go_num,_,rfl⟩
    ·have t1:((N.2:Int) != 0)=true:=by rw [bne_iff_ne];omega
     rw [if_neg he] at hfin
     have HF:=Lib.hid hfin;have HE:=Lib.hid he;clear hfin he
     by_cases hc1:c=1
     ·obtain rfl:t=[]:=List.eq_nil_of_length_eq_zero (by omega)
      subst hc1
      clear hmc hmt hcc
      go_enter Tryz.func106,Tryz.ntmps106
      go_wp2_with (go_at_call 159;(refine (HNUM.out (some a) 0 (H10.out rfl)).mono ?_);rintro e w' ⟨rfl,k1,rfl⟩)
      go_ret3
      exact ⟨by rw [HF.out];rfl,_,rfl⟩
     ·go_enter Tryz.func106,Tryz.ntmps106
      go_wp2_with (go_at_call 159;(with_reducible refine (HNUM.out (some ⟨a.block,a.off+1,none⟩) _ H1.out).mono ?_);rintro e w' ⟨rfl,k1,rfl⟩)
      go_ret3
      exact ⟨by rw [HF.out];rfl,_,rfl⟩
theorem u8_z {b:UInt8} (h:b=0):((b.toNat:Int)==0)=true:=by rw [h];rfl
theorem u8_nz {b:UInt8} (h:b≠0):((b.toNat:Int)==0)=false:=by rw [beq_eq_false_iff_ne];intro e;exact h (UInt8.toNat_inj.1 (by simp;omega))
theorem slice_from {P:Program} {w:World} {B n c p:Nat} {A:Option Addr} {l:List UInt8} {T E:TypeId} (hT:P.underlying T=some (.slice E)) (hE:P.elem T=E) (hs:∀ w,(sizeOf E).run P w=.ok 1 w)
 (h:Rd w B 1 A n (u8s l)) (hp:p≤n) (hc:n≤c) :
 ∃ A',(∀ W,(Instr.slice T (.slice A n c) (some (.int .i64 (p:Int))) none none).run P W=.ok (.slice A' (n-p) (c-p)) W)∧Rd w B 1 A' (n-p) (u8s (l.drop p)):=by
 have h1:=h.cut (k:=p) (c:=c) hp hc
 rw [u8s_drop,Nat.mul_one] at h1
 refine ⟨_,fun W=>?_,h1⟩
 rw [run_slice_l W T A n c (by rw [hE];exact hT) .i64 (p:Int) (by omega) (by omega),hE,hs]
 simp [Result.andThen,sliced]
def InS (w:World) (g:Nat) (t:List UInt8) (p e:Nat):Prop :=
 ∃ A c,Blk w g 169 #[.bool true,.slice A t.length c,.int .i64 (p:Int),.int .i64 (e:Int)]∧Rd w g 1 A t.length (u8s t)∧t.length≤c∧c≤maxLen∧p≤t.length
section
variable {w w':World} {g p e:Nat} {t:List UInt8}
theorem InS.lt (h:InS w g t p e):g<w.heap.size:=by obtain ⟨A,c,hb,_⟩:=h;exact hb.lt
theorem InS.drw (h:InS w g t p e) (k:Drw w w'):InS w' g t p e:=by
 obtain ⟨n,rfl⟩:=k;exact h
theorem InS.below {B:Nat} (h:InS w g t p e) (hb:Below B w w') (hg:g<B):InS w' g t p e:=by
 obtain ⟨A,c,h1,h2,h3⟩:=h
 exact ⟨A,c,h1.below hb hg,h2.keep fun q hq=>hb.cell (by omega),h3⟩
end
theorem szu8 (w:World):(sizeOf 5).run Tryz.prog w=.ok 1 w:=by kernel_rfl
theorem elu8:Tryz.prog.elem 27=5:=by kernel_rfl
theorem fine_any (w:World) (g:Nat) (t:List UInt8) (p e:Nat) (h:InS w g t p e) :
 Calls Tryz.prog 108 #[.pointer (some ⟨g,0,none⟩)] w fun x w'=>x=.returned (.bool (decide (e=0)))∧w=w':=by
 obtain ⟨A,c,hb,hR,hc,hm,hp⟩:=h
 have c0:=hb.cell 0;have c3:=hb.cell 3
 simp at c0 c3
 have HB:=Lib.hid hb;have HR:=Lib.hid hR;clear hb hR
 by_cases he:e=0
 ·subst he
  go_enter Tryz.func108,Tryz.ntmps108
  go_wp2
  go_ret
  exact ⟨rfl,rfl⟩
 ·have t1:((e:Int)==0)=false:=by rw [beq_eq_false_iff_ne];omega
  have t2:decide (e=0)=false:=decide_eq_false he
  have T2:=Lib.hid t2;have HE:=Lib.hid he;clear t2 he
  go_enter Tryz.func108,Tryz.ntmps108
  go_wp2
  go_ret
  exact ⟨by rw [T2.out];rfl,rfl⟩
theorem rest_any (w:World) (g:Nat) (t:List UInt8) (p e:Nat) (h:InS w g t p e) :
 Calls Tryz.prog 146 #[.pointer (some ⟨g,0,none⟩)] w fun x w'=>∃ A' c',x=.returned (.slice A' (t.length-p) c')∧Rd w' g 1 A' (t.length-p) (u8s (t.drop p))∧t.length-p≤c'∧c'≤maxLen∧Drw w w':=by
 obtain ⟨A,c,hb,hR,hc,hm,hp⟩:=h
 have c1:=hb.cell 1;have c2:=hb.cell 2
 simp at c1 c2
 obtain ⟨A',hsl,hR'⟩:=slice_from Tryz.underlying27 elu8 szu8 hR hp hc
 have HB:=Lib.hid hb;have HR:=Lib.hid hR;clear hb hR
 go_enter Tryz.func146,Tryz.ntmps146
 go_wp2
 go_quiet (fail)
 go_wp2
 go_ret
 exact ⟨A',c-p,rfl,hR',by omega,by omega,⟨_,rfl⟩⟩
theorem InS.bad {w:World} {g:Nat} {t:List UInt8} {p e:Nat} (h:InS w g t p e) (e':Nat):InS (w.setCell ⟨g,3,none⟩ (.int .i64 (e':Int))) g t p e':=by
 obtain ⟨A,c,hb,hR,r⟩:=h
 have:=hb.set_ 3 (.int .i64 (e':Int))
 exact ⟨A,c,by simpa using this,hR.keep fun q hq=>World.cell?_setCell_other w _ q _ (fun e=>by subst e;simp at hq),r⟩
theorem InS.move {w:World} {g:Nat} {t:List UInt8} {p e:Nat} (h:InS w g t p e) (p':Nat) (hp:p'≤t.length):InS (w.setCell ⟨g,2,none⟩ (.int .i64 (p':Int))) g t p' e:=by
 obtain ⟨A,c,hb,hR,h1,h2,h3⟩:=h
 have:=hb.set_ 2 (.int .i64 (p':Int))
 exact ⟨A,c,by simpa using this,hR.keep fun q hq=>World.cell?_setCell_other w _ q _ (fun e=>by subst e;simp at hq),h1,h2,hp⟩
theorem Only.set1 (w:World) (g i:Nat) (u:Value):Only g w (w.setCell ⟨g,i,none⟩ u):=(Only.refl g w).set_ (p:=⟨g,i,none⟩) (.inl rfl) u
theorem fail_any (w:World) (g:Nat) (t:List UInt8) (p e e':Nat) (h:InS w g t p e) :
 Calls Tryz.prog 147 #[.pointer (some ⟨g,0,none⟩),.int .i64 (e':Int)] w fun x w'=>x=.returned (.tuple #[])∧w.setCell ⟨g,3,none⟩ (.int .i64 (e':Int))=w':=by
 obtain ⟨A,c,hb,_⟩:=h
 have c3:=hb.cell 3;have f3:=hb.frozen 3
 simp at c3
 have HB:=Lib.hid hb;clear hb
 go_enter Tryz.func147,Tryz.ntmps147
 go_wp2
 go_end0
 exact ⟨rfl,rfl⟩
def faultP (p e:Nat):Int:=if e=0 then 0 else (p:Int)
theorem fault_any (w:World) (g:Nat) (t:List UInt8) (p e:Nat) (h:InS w g t p e) :
 Calls Tryz.prog 42 #[.pointer (some ⟨g,0,none⟩)] w fun x w'=>x=.returned (.tuple #[.int .i64 (faultP p e),.int .i64 (e:Int)])∧Drw w w':=by
 obtain ⟨A,c,hb,_⟩:=h
 have c0:=hb.cell 0;have c2:=hb.cell 2;have c3:=hb.cell 3
 simp at c0 c2 c3
 have HB:=Lib.hid hb;clear hb
 by_cases he:e=0
 ·subst he
  go_enter Tryz.func42,Tryz.ntmps42
  go_wp2
  go_ret2
  exact ⟨rfl,Drw.refl _⟩
 ·have t1:((e:Int)==0)=false:=by rw [beq_eq_false_iff_ne];omega
  have t2:faultP p e=p:=if_neg he
  have T2:=Lib.hid t2;have HE:=Lib.hid he;clear t2 he
  go_enter Tryz.func42,Tryz.ntmps42
  go_wp2
  go_quiet (fail)
  go_wp2
  go_ret2
  exact ⟨by rw [T2.out];rfl,⟨_,rfl⟩⟩
def leftN (t:List UInt8) (p e:Nat):Int:=if e=0 then (t.length:Int)-(p:Int) else 0
theorem left_any (w:World) (g:Nat) (t:List UInt8) (p e:Nat) (h:InS w g t p e) :
 Calls Tryz.prog 91 #[.pointer (some ⟨g,0,none⟩)] w fun x w'=>x=.returned (.int .i64 (leftN t p e))∧Drw w w':=by
 have hf:=fine_any w g t p e h
 obtain ⟨A,c,hb,hR,hc,hm,hp⟩:=h
 have c1:=hb.cell 1;have c2:=hb.cell 2
 simp at c1 c2
 unfold maxLen at hm
 have HB:=Lib.hid hb;have HR:=Lib.hid hR;clear hb hR
 by_cases he:e=0
 ·have t1:decide (e=0)=true:=decide_eq_true he
  have t2:leftN t p e=(t.length:Int)-(p:Int):=if_pos he
  rw [t1] at hf
  have T2:=Lib.hid t2;have HE:=Lib.hid he;have HF:=Lib.hid hf;clear t1 t2 he hf
  go_enter Tryz.func91,Tryz.ntmps91
  go_wp2_with (go_at_call 108;(with_reducible refine HF.out.mono ?_);rintro x w' ⟨rfl,rfl⟩)
  go_quiet (fail)
  go_wp2
  go_ret
  exact ⟨by rw [T2.out];rfl,⟨_,rfl⟩⟩
 ·have t1:decide (e=0)=false:=decide_eq_false he
  have t2:leftN t p e=0:=if_neg he
  rw [t1] at hf
  have T2:=Lib.hid t2;have HE:=Lib.hid he;have HF:=Lib.hid hf;clear t1 t2 he hf
  go_enter Tryz.func91,Tryz.ntmps91
  go_wp2_with (go_at_call 108;(with_reducible refine HF.out.mono ?_);rintro x w' ⟨rfl,rfl⟩)
  go_ret
  exact ⟨by rw [T2.out];rfl,Drw.refl _⟩
theorem newIn_any (w:World) (A:Option Addr) (n c:Nat) (t:List UInt8) (h:Rd w w.heap.size 1 A n (u8s t)) (hn:n≤1000000) :
 Calls Tryz.prog 40 #[.slice A n c] w fun x w'=>∃ g,x=.returned (.pointer (some ⟨g,0,none⟩))∧w.heap.size≤g∧InS w' g t 0 0∧Below w.heap.size w w':=by
 obtain rfl:n=t.length:=h.u8.symm
 have H:=Lib.hid h;clear h
 have hnil:=World.ownsRow_nil w w.heap.size 5 1
 go_enter Tryz.func40,Tryz.ntmps40
 go_wp2_with (at_builtin;refine wpList_appS _ rfl _ _ 27 rfl w.heap.size 5 _ 1 1 info_u8 rfl (by decide) Tryz.underlying27 _ _ _ hnil rfl _ _ _ _ _ H.out rfl (u8s_one _) ?_ ?_ ?_ ?_;omega;omega;exact Nat.le_refl _;intro v2 w2 ho2 hb2;obtain ⟨A2,c2,rfl,hc2,hm2,hn2⟩:=own_form ho2)
 go_ret
 have hb3:=hb2.below_nil (Nat.le_refl _)
 have hR2:=(Rd.own ho2).alloc (Nat.le_refl _) (.cells #[.bool true,.slice A2 (0+t.length) c2,.int .i64 0,.int .i64 0] 169)
 rw [List.nil_append,Nat.zero_add] at hR2
 rw [Nat.zero_add] at hc2
 refine ⟨_,rfl,hb3.size,⟨A2,c2,?_,hR2,hc2,hm2,Nat.zero_le _⟩,hb3.alloc hb3.size _⟩
 have:=Blk.new w2 169 #[.bool true,.slice A2 t.length c2,.int .i64 0,.int .i64 0]
 exact this
def overE (x most:Nat):Nat:=if most<x then 2 else 0
theorem inU1_any (w:World) (cap x most:Nat) (hc:w.cell? ⟨cap,0,none⟩=some (.int .u64 (most:Int))) :
 Calls Tryz.prog 107 #[.int .u64 (x:Int),.pointer (some ⟨cap,0,none⟩)] w fun e w'=>e=.returned (.int .i64 (overE x most:Int))∧w=w':=by
 by_cases hl:most<x
 ·have t1:overE x most=2:=if_pos hl
  have T1:=Lib.hid t1;clear t1
  go_enter Tryz.func107,Tryz.ntmps107
  go_wp2
  go_ret
  exact ⟨by rw [T1.out];rfl,rfl⟩
 ·have t1:overE x most=0:=if_neg hl
  have T1:=Lib.hid t1;clear t1
  go_enter Tryz.func107,Tryz.ntmps107
  go_wp2
  go_ret
  exact ⟨by rw [T1.out];rfl,rfl⟩
theorem numB_fits (t:List UInt8) (n:Nat) (h:(numB t n).2=0):n≤t.length:=by
 by_cases hn:n=0
 ·omega
 ·by_cases hl:n≤t.length
  ·exact hl
  ·exfalso
   by_cases h0:0<t.length
   ·by_cases hz:t[0]=0
    ·rw [numB_form t n (by omega) h0 hz] at h;simp at h
    ·rw [numB_short t n (by omega) (fun _=>by rw [headD_get t h0];exact hz)] at h;simp at h
   ·rw [numB_short t n (by omega) (fun h=>absurd h h0)] at h;simp at h
theorem getU_fits (t:List UInt8) (h:(getU t).2.2=0):(getU t).2.1≤t.length:=by
 cases t with
 | nil=>simp [getU]
 | cons c t =>
   unfold getU at h ⊢
   simp only at h ⊢
   by_cases h8:8<c.toNat
   ·rw [if_pos h8];simp
   ·rw [if_neg h8] at h ⊢
    by_cases hn:(numB t c.toNat).2=0
    ·rw [if_pos hn];have:=numB_fits t c.toNat hn;simp;exact this
    ·rw [if_neg hn];simp
theorem getU_lt (t:List UInt8):(getU t).1<18446744073709551616:=by
 cases t with
 | nil=>simp [getU]
 | cons c t =>
   unfold getU
   simp only
   by_cases h8:8<c.toNat
   ·rw [if_pos h8];omega
   ·rw [if_neg h8]
    by_cases hn:(numB t c.toNat).2=0
    ·rw [if_pos hn];exact numB_lt t _ (by omega)
    ·rw [if_neg hn];simp
def stepE (e er er2:Nat):Nat:=if e≠0 then e else if er≠0 then er else er2
def stepP (p n k:Nat):Nat:=if k=0 then p+n else p
def stepV {α:Type} (z x:α) (k:Nat):α:=if k=0 then x else z
theorem readU_any (w:World) (g cap:Nat) (t:List UInt8) (p e:Nat) (x:Nat) (n er er2:Nat) (h:InS w g t p e) (capv:Value) (hcap:w.cell? ⟨cap,0,none⟩=some capv) (hc:cap<w.heap.size)
 (hg:e=0→∀ (W:World) A c,g≤W.heap.size→Rd W g 1 A (t.length-p) (u8s (t.drop p))→t.length-p≤c→c≤maxLen →
  Calls Tryz.prog 106 #[.slice A (t.length-p) c] W fun y w'=>y=.returned (.tuple #[.int .u64 (x:Int),.int .i64 (n:Int),.int .i64 (er:Int)])∧Below W.heap.size W w')
 (hr:∀ W:World,W.cell? ⟨cap,0,none⟩=some capv→Calls Tryz.prog 107 #[.int .u64 (x:Int),.pointer (some ⟨cap,0,none⟩)] W fun y w'=>y=.returned (.int .i64 (er2:Int))∧W=w') (hfit:e=0→er=0→n≤t.length-p) :
 Calls Tryz.prog 105 #[.pointer (some ⟨g,0,none⟩),.func (Fn.func 106) #[] #[],.func (Fn.func 107) #[] #[.pointer (some ⟨cap,0,none⟩)]] w
  fun y w'=>y=.returned (.int .u64 ((stepV (0:Nat) x (stepE e er er2):Nat):Int))∧InS w' g t (stepP p n (stepE e er er2)) (stepE e er er2)∧Only g w w':=by
 have hf:=fine_any w g t p e h
 by_cases he:e=0
 ·subst he
  have hp:p≤t.length:=by obtain ⟨A,c,_,_,_,_,h⟩:=h;exact h
  have htl:t.length≤9223372036854775807:=by obtain ⟨A,c,_,_,h1,h2,_⟩:=h;unfold maxLen at h2;omega
  have hgl:=h.lt
  have HF:=Lib.hid hf;have H:=Lib.hid h;have HG:=Lib.hid (hg rfl);have FIT:=Lib.hid (hfit rfl);have HR:=Lib.hid hr;have HC:=Lib.hid hcap;clear hf h hg hfit hr hcap
  by_cases h1:er=0
  ·subst h1
   by_cases h2:er2=0
   ·subst h2
    have tk:stepE 0 0 0=0:=rfl
    have HK:=Lib.hid tk;clear tk
    go_enter Tryz.func105,Tryz.ntmps105
    go_wp2_with (go_at_call 108;(with_reducible refine HF.out.mono ?_);rintro y w' ⟨rfl,rfl⟩)
    refine (rest_any _ _ _ _ _ H.out).mono ?_
    rintro y w1 ⟨A1,c1,rfl,hR1,hc1,hm1,k1⟩
    have hz1:w.heap.size=w1.heap.size:=by obtain ⟨m,rfl⟩:=k1;rfl
    have HR1:=Lib.hid hR1;have K1:=Lib.hid k1;have HZ1:=Lib.hid hz1;clear hR1 k1 hz1
    go_wp2_with fail
    refine (HG.out _ _ _ (by rw [← HZ1.out];omega) HR1.out hc1 hm1).mono ?_
    rintro y w2 ⟨rfl,hb2⟩
    have hb:Below w.heap.size w w2:=(K1.out.below (Below.refl _ _)).trans (hb2.mono (by rw [HZ1.out];exact Nat.le_refl _))
    have hi2:=H.out.below hb hgl
    have hcw:w2.cell? ⟨cap,0,none⟩=some capv:=(hb.cell (by simp only;omega)).trans HC.out
    have hc2:=HR.out w2 hcw
    obtain ⟨A3,c3,hb3,_,_,_,_⟩:=hi2
    have x2:=hb3.cell 2;have f2:=hb3.frozen 2
    simp at x2
    have hi:=fun p' hp'=>(H.out.below hb hgl).move p' hp'
    have hfit:=FIT.out (by trivial)
    have HI:=Lib.hid hi;have HC2:=Lib.hid hc2;have HB3:=Lib.hid hb3;clear hi hc2 hb3 hcw
    go_wp2_with (go_at_call 107;(with_reducible refine HC2.out.mono ?_);rintro y w' ⟨rfl,rfl⟩)
    go_ret
    rw [HK.out]
    have hm:=HI.out (p+n) (by omega)
    rw [show ((p+n:Nat):Int)=(p:Int)+(n:Int) from by omega] at hm
    exact ⟨rfl,hm,(Only.of_below hb g).set_ (.inl rfl) _⟩
   ·have tk:stepE 0 0 er2=er2:=by unfold stepE;rw [if_neg (by omega),if_neg (by omega)]
    have tp:stepP p n er2=p:=if_neg h2
    have tv:stepV (0:Nat) x er2=(0:Nat):=if_neg h2
    have t1:((er2:Int) != 0)=true:=by rw [bne_iff_ne];omega
    have HK:=Lib.hid tk;have HP:=Lib.hid tp;have HV:=Lib.hid tv;have H2:=Lib.hid h2;clear tk tp tv h2
    go_enter Tryz.func105,Tryz.ntmps105
    go_wp2_with (go_at_call 108;(with_reducible refine HF.out.mono ?_);rintro y w' ⟨rfl,rfl⟩)
    refine (rest_any _ _ _ _ _ H.out).mono ?_
    rintro y w1 ⟨A1,c1,rfl,hR1,hc1,hm1,k1⟩
    have hz1:w.heap.size=w1.heap.size:=by obtain ⟨m,rfl⟩:=k1;rfl
    have HR1:=Lib.hid hR1;have K1:=Lib.hid k1;have HZ1:=Lib.hid hz1;clear hR1 k1 hz1
    go_wp2_with fail
    refine (HG.out _ _ _ (by rw [← HZ1.out];omega) HR1.out hc1 hm1).mono ?_
    rintro y w2 ⟨rfl,hb2⟩
    have hb:Below w.heap.size w w2:=(K1.out.below (Below.refl _ _)).trans (hb2.mono (by rw [HZ1.out];exact Nat.le_refl _))
    have hi2:=H.out.below hb hgl
    have hcw:w2.cell? ⟨cap,0,none⟩=some capv:=(hb.cell (by simp only;omega)).trans HC.out
    have hc2:=HR.out w2 hcw
    have hi:=hi2.bad er2
    have hfl:=fail_any w2 g t p 0 er2 hi2
    have HI:=Lib.hid hi;have HC2:=Lib.hid hc2;have HFL:=Lib.hid hfl;have HI2:=Lib.hid hi2;clear hi hc2 hfl hi2 hcw
    go_wp2_with (first|(go_at_call 107;(with_reducible refine HC2.out.mono ?_);rintro y w' ⟨rfl,rfl⟩)|(go_at_call 147;refine HFL.out.mono ?_;rintro y w' ⟨rfl,rfl⟩))
    go_ret
    rw [HK.out,HP.out,HV.out]
    exact ⟨rfl,HI.out,(Only.of_below hb g).set_ (.inl rfl) _⟩
  ·have tk:stepE 0 er er2=er:=by unfold stepE;rw [if_neg (by omega),if_pos h1]
   have tp:stepP p n er=p:=if_neg h1
   have tv:stepV (0:Nat) x er=(0:Nat):=if_neg h1
   have t1:((er:Int) != 0)=true:=by rw [bne_iff_ne];omega
   have t2:((er:Int)==0)=false:=by rw [beq_eq_false_iff_ne];omega
   have HK:=Lib.hid tk;have HP:=Lib.hid tp;have HV:=Lib.hid tv;have H1:=Lib.hid h1;clear tk tp tv h1
   go_enter Tryz.func105,Tryz.ntmps105
   go_wp2_with (go_at_call 108;(with_reducible refine HF.out.mono ?_);rintro y w' ⟨rfl,rfl⟩)
   refine (rest_any _ _ _ _ _ H.out).mono ?_
   rintro y w1 ⟨A1,c1,rfl,hR1,hc1,hm1,k1⟩
   have hz1:w.heap.size=w1.heap.size:=by obtain ⟨m,rfl⟩:=k1;rfl
   have HR1:=Lib.hid hR1;have K1:=Lib.hid k1;have HZ1:=Lib.hid hz1;clear hR1 k1 hz1
   go_wp2_with fail
   refine (HG.out _ _ _ (by rw [← HZ1.out];omega) HR1.out hc1 hm1).mono ?_
   rintro y w2 ⟨rfl,hb2⟩
   have hb:Below w.heap.size w w2:=(K1.out.below (Below.refl _ _)).trans (hb2.mono (by rw [HZ1.out];exact Nat.le_refl _))
   have hi2:=H.out.below hb hgl
   have hi:=hi2.bad er
   have hfl:=fail_any w2 g t p 0 er hi2
   have HI:=Lib.hid hi;have HFL:=Lib.hid hfl;have HI2:=Lib.hid hi2;clear hi hfl hi2
   go_wp2_with (go_at_call 147;refine HFL.out.mono ?_;rintro y w' ⟨rfl,rfl⟩)
   go_ret
   rw [HK.out,HP.out,HV.out]
   exact ⟨rfl,HI.out,(Only.of_below hb g).set_ (.inl rfl) _⟩
 ·have hv:stepE e er er2=e:=by unfold stepE;rw [if_pos he]
  have tp:stepP p n e=p:=if_neg he
  have tv:stepV (0:Nat) x e=(0:Nat):=if_neg he
  rw [decide_eq_false he] at hf
  have HF:=Lib.hid hf;have HE:=Lib.hid he;have H:=Lib.hid h;have HV:=Lib.hid hv;have HP:=Lib.hid tp;have HW:=Lib.hid tv;have HR:=Lib.hid hr;have HG:=Lib.hid hg;clear hf he h hv tp tv hr hg hfit
  go_enter Tryz.func105,Tryz.ntmps105
  go_wp2_with (go_at_call 108;(with_reducible refine HF.out.mono ?_);rintro y w' ⟨rfl,rfl⟩)
  go_ret
  rw [HV.out,HP.out,HW.out]
  exact ⟨rfl,H.out,Only.refl g w⟩
theorem readI_any (w:World) (g:Nat) (t:List UInt8) (p e:Nat) (x:Int) (n er er2:Nat) (h:InS w g t p e)
 (hg:e=0→∀ (W:World) A c,g≤W.heap.size→Rd W g 1 A (t.length-p) (u8s (t.drop p))→t.length-p≤c→c≤maxLen →
  Calls Tryz.prog 144 #[.slice A (t.length-p) c] W fun y w'=>y=.returned (.tuple #[.int .i64 x,.int .i64 (n:Int),.int .i64 (er:Int)])∧Below W.heap.size W w')
 (hr:∀ W:World,Calls Tryz.prog 145 #[.int .i64 x] W fun y w'=>y=.returned (.int .i64 (er2:Int))∧W=w') (hfit:e=0→er=0→n≤t.length-p) :
 Calls Tryz.prog 143 #[.pointer (some ⟨g,0,none⟩),.func (Fn.func 144) #[] #[],.func (Fn.func 145) #[] #[]] w
  fun y w'=>y=.returned (.int .i64 (stepV (0:Int) x (stepE e er er2)))∧InS w' g t (stepP p n (stepE e er er2)) (stepE e er er2)∧Only g w w':=by
 have hf:=fine_any w g t p e h
 by_cases he:e=0
 ·subst he
  have hp:p≤t.length:=by obtain ⟨A,c,_,_,_,_,h⟩:=h;exact h
  have htl:t.length≤9223372036854775807:=by obtain ⟨A,c,_,_,h1,h2,_⟩:=h;unfold maxLen at h2;omega
  have hgl:=h.lt
  have HF:=Lib.hid hf;have H:=Lib.hid h;have HG:=Lib.hid (hg rfl);have FIT:=Lib.hid (hfit rfl);have HR:=Lib.hid hr;clear hf h hg hfit hr
  by_cases h1:er=0
  ·subst h1
   by_cases h2:er2=0
   ·subst h2
    have tk:stepE 0 0 0=0:=rfl
    have HK:=Lib.hid tk;clear tk
    go_enter Tryz.func143,Tryz.ntmps143
    go_wp2_with (go_at_call 108;(with_reducible refine HF.out.mono ?_);rintro y w' ⟨rfl,rfl⟩)
    refine (rest_any _ _ _ _ _ H.out).mono ?_
    rintro y w1 ⟨A1,c1,rfl,hR1,hc1,hm1,k1⟩
    have hz1:w.heap.size=w1.heap.size:=by obtain ⟨m,rfl⟩:=k1;rfl
    have HR1:=Lib.hid hR1;have K1:=Lib.hid k1;have HZ1:=Lib.hid hz1;clear hR1 k1 hz1
    go_wp2_with fail
    refine (HG.out _ _ _ (by rw [← HZ1.out];omega) HR1.out hc1 hm1).mono ?_
    rintro y w2 ⟨rfl,hb2⟩
    have hb:Below w.heap.size w w2:=(K1.out.below (Below.refl _ _)).trans (hb2.mono (by rw [HZ1.out];exact Nat.le_refl _))
    have hi2:=H.out.below hb hgl
    have hc2:=HR.out w2
    obtain ⟨A3,c3,hb3,_,_,_,_⟩:=hi2
    have x2:=hb3.cell 2;have f2:=hb3.frozen 2
    simp at x2
    have hi:=fun p' hp'=>(H.out.below hb hgl).move p' hp'
    have hfit:=FIT.out (by trivial)
    have HI:=Lib.hid hi;have HC2:=Lib.hid hc2;have HB3:=Lib.hid hb3;clear hi hc2 hb3
    go_wp2_with (go_at_call 145;(with_reducible refine HC2.out.mono ?_);rintro y w' ⟨rfl,rfl⟩)
    go_ret
    rw [HK.out]
    have hm:=HI.out (p+n) (by omega)
    rw [show ((p+n:Nat):Int)=(p:Int)+(n:Int) from by omega] at hm
    exact ⟨rfl,hm,(Only.of_below hb g).set_ (.inl rfl) _⟩
   ·have tk:stepE 0 0 er2=er2:=by unfold stepE;rw [if_neg (by omega),if_neg (by omega)]
    have tp:stepP p n er2=p:=if_neg h2
    have tv:stepV (0:Int) x er2=(0:Int):=if_neg h2
    have t1:((er2:Int) != 0)=true:=by rw [bne_iff_ne];omega
    have HK:=Lib.hid tk;have HP:=Lib.hid tp;have HV:=Lib.hid tv;have H2:=Lib.hid h2;clear tk tp tv h2
    go_enter Tryz.func143,Tryz.ntmps143
    go_wp2_with (go_at_call 108;(with_reducible refine HF.out.mono ?_);rintro y w' ⟨rfl,rfl⟩)
    refine (rest_any _ _ _ _ _ H.out).mono ?_
    rintro y w1 ⟨A1,c1,rfl,hR1,hc1,hm1,k1⟩
    have hz1:w.heap.size=w1.heap.size:=by obtain ⟨m,rfl⟩:=k1;rfl
    have HR1:=Lib.hid hR1;have K1:=Lib.hid k1;have HZ1:=Lib.hid hz1;clear hR1 k1 hz1
    go_wp2_with fail
    refine (HG.out _ _ _ (by rw [← HZ1.out];omega) HR1.out hc1 hm1).mono ?_
    rintro y w2 ⟨rfl,hb2⟩
    have hb:Below w.heap.size w w2:=(K1.out.below (Below.refl _ _)).trans (hb2.mono (by rw [HZ1.out];exact Nat.le_refl _))
    have hi2:=H.out.below hb hgl
    have hc2:=HR.out w2
    have hi:=hi2.bad er2
    have hfl:=fail_any w2 g t p 0 er2 hi2
    have HI:=Lib.hid hi;have HC2:=Lib.hid hc2;have HFL:=Lib.hid hfl;have HI2:=Lib.hid hi2;clear hi hc2 hfl hi2
    go_wp2_with (first|(go_at_call 145;(with_reducible refine HC2.out.mono ?_);rintro y w' ⟨rfl,rfl⟩)|(go_at_call 147;refine HFL.out.mono ?_;rintro y w' ⟨rfl,rfl⟩))
    go_ret
    rw [HK.out,HP.out,HV.out]
    exact ⟨rfl,HI.out,(Only.of_below hb g).set_ (.inl rfl) _⟩
  ·have tk:stepE 0 er er2=er:=by unfold stepE;rw [if_neg (by omega),if_pos h1]
   have tp:stepP p n er=p:=if_neg h1
   have tv:stepV (0:Int) x er=(0:Int):=if_neg h1
   have t1:((er:Int) != 0)=true:=by rw [bne_iff_ne];omega
   have t2:((er:Int)==0)=false:=by rw [beq_eq_false_iff_ne];omega
   have HK:=Lib.hid tk;have HP:=Lib.hid tp;have HV:=Lib.hid tv;have H1:=Lib.hid h1;clear tk tp tv h1
   go_enter Tryz.func143,Tryz.ntmps143
   go_wp2_with (go_at_call 108;(with_reducible refine HF.out.mono ?_);rintro y w' ⟨rfl,rfl⟩)
   refine (rest_any _ _ _ _ _ H.out).mono ?_
   rintro y w1 ⟨A1,c1,rfl,hR1,hc1,hm1,k1⟩
   have hz1:w.heap.size=w1.heap.size:=by obtain ⟨m,rfl⟩:=k1;rfl
   have HR1:=Lib.hid hR1;have K1:=Lib.hid k1;have HZ1:=Lib.hid hz1;clear hR1 k1 hz1
   go_wp2_with fail
   refine (HG.out _ _ _ (by rw [← HZ1.out];omega) HR1.out hc1 hm1).mono ?_
   rintro y w2 ⟨rfl,hb2⟩
   have hb:Below w.heap.size w w2:=(K1.out.below (Below.refl _ _)).trans (hb2.mono (by rw [HZ1.out];exact Nat.le_refl _))
   have hi2:=H.out.below hb hgl
   have hi:=hi2.bad er
   have hfl:=fail_any w2 g t p 0 er hi2
   have HI:=Lib.hid hi;have HFL:=Lib.hid hfl;have HI2:=Lib.hid hi2;clear hi hfl hi2
   go_wp2_with (go_at_call 147;refine HFL.out.mono ?_;rintro y w' ⟨rfl,rfl⟩)
   go_ret
   rw [HK.out,HP.out,HV.out]
   exact ⟨rfl,HI.out,(Only.of_below hb g).set_ (.inl rfl) _⟩
 ·have hv:stepE e er er2=e:=by unfold stepE;rw [if_pos he]
  have tp:stepP p n e=p:=if_neg he
  have tv:stepV (0:Int) x e=(0:Int):=if_neg he
  rw [decide_eq_false he] at hf
  have HF:=Lib.hid hf;have HE:=Lib.hid he;have H:=Lib.hid h;have HV:=Lib.hid hv;have HP:=Lib.hid tp;have HW:=Lib.hid tv;have HR:=Lib.hid hr;have HG:=Lib.hid hg;clear hf he h hv tp tv hr hg hfit
  go_enter Tryz.func143,Tryz.ntmps143
  go_wp2_with (go_at_call 108;(with_reducible refine HF.out.mono ?_);rintro y w' ⟨rfl,rfl⟩)
  go_ret
  rw [HV.out,HP.out,HW.out]
  exact ⟨rfl,H.out,Only.refl g w⟩
theorem readF_any (w:World) (g:Nat) (t:List UInt8) (p e:Nat) (x:Nat) (n er er2:Nat) (h:InS w g t p e)
 (hg:e=0→∀ (W:World) A c,g≤W.heap.size→Rd W g 1 A (t.length-p) (u8s (t.drop p))→t.length-p≤c→c≤maxLen →
  Calls Tryz.prog 149 #[.slice A (t.length-p) c] W fun y w'=>y=.returned (.tuple #[.float .f64 x,.int .i64 (n:Int),.int .i64 (er:Int)])∧Below W.heap.size W w')
 (hr:∀ W:World,Calls Tryz.prog 150 #[.float .f64 x] W fun y w'=>y=.returned (.int .i64 (er2:Int))∧W=w') (hfit:e=0→er=0→n≤t.length-p) :
 Calls Tryz.prog 148 #[.pointer (some ⟨g,0,none⟩),.func (Fn.func 149) #[] #[],.func (Fn.func 150) #[] #[]] w
  fun y w'=>y=.returned (.float .f64 (stepV (0:Nat) x (stepE e er er2)))∧InS w' g t (stepP p n (stepE e er er2)) (stepE e er er2)∧Only g w w':=by
 have hf:=fine_any w g t p e h
 by_cases he:e=0
 ·subst he
  have hp:p≤t.length:=by obtain ⟨A,c,_,_,_,_,h⟩:=h;exact h
  have htl:t.length≤9223372036854775807:=by obtain ⟨A,c,_,_,h1,h2,_⟩:=h;unfold maxLen at h2;omega
  have hgl:=h.lt
  have HF:=Lib.hid hf;have H:=Lib.hid h;have HG:=Lib.hid (hg rfl);have FIT:=Lib.hid (hfit rfl);have HR:=Lib.hid hr;clear hf h hg hfit hr
  by_cases h1:er=0
  ·subst h1
   by_cases h2:er2=0
   ·subst h2
    have tk:stepE 0 0 0=0:=rfl
    have HK:=Lib.hid tk;clear tk
    go_enter Tryz.func148,Tryz.ntmps148
    go_wp2_with (go_at_call 108;(with_reducible refine HF.out.mono ?_);rintro y w' ⟨rfl,rfl⟩)
    refine (rest_any _ _ _ _ _ H.out).mono ?_
    rintro y w1 ⟨A1,c1,rfl,hR1,hc1,hm1,k1⟩
    have hz1:w.heap.size=w1.heap.size:=by obtain ⟨m,rfl⟩:=k1;rfl
    have HR1:=Lib.hid hR1;have K1:=Lib.hid k1;have HZ1:=Lib.hid hz1;clear hR1 k1 hz1
    go_wp2_with fail
    refine (HG.out _ _ _ (by rw [← HZ1.out];omega) HR1.out hc1 hm1).mono ?_
    rintro y w2 ⟨rfl,hb2⟩
    have hb:Below w.heap.size w w2:=(K1.out.below (Below.refl _ _)).trans (hb2.mono (by rw [HZ1.out];exact Nat.le_refl _))
    have hi2:=H.out.below hb hgl
    have hc2:=HR.out w2
    obtain ⟨A3,c3,hb3,_,_,_,_⟩:=hi2
    have x2:=hb3.cell 2;have f2:=hb3.frozen 2
    simp at x2
    have hi:=fun p' hp'=>(H.out.below hb hgl).move p' hp'
    have hfit:=FIT.out (by trivial)
    have HI:=Lib.hid hi;have HC2:=Lib.hid hc2;have HB3:=Lib.hid hb3;clear hi hc2 hb3
    go_wp2_with (go_at_call 150;(with_reducible refine HC2.out.mono ?_);rintro y w' ⟨rfl,rfl⟩)
    go_ret
    rw [HK.out]
    have hm:=HI.out (p+n) (by omega)
    rw [show ((p+n:Nat):Int)=(p:Int)+(n:Int) from by omega] at hm
    exact ⟨rfl,hm,(Only.of_below hb g).set_ (.inl rfl) _⟩
   ·have tk:stepE 0 0 er2=er2:=by unfold stepE;rw [if_neg (by omega),if_neg (by omega)]
    have tp:stepP p n er2=p:=if_neg h2
    have tv:stepV (0:Nat) x er2=(0:Nat):=if_neg h2
    have t1:((er2:Int) != 0)=true:=by rw [bne_iff_ne];omega
    have HK:=Lib.hid tk;have HP:=Lib.hid tp;have HV:=Lib.hid tv;have H2:=Lib.hid h2;clear tk tp tv h2
    go_enter Tryz.func148,Tryz.ntmps148
    go_wp2_with (go_at_call 108;(with_reducible refine HF.out.mono ?_);rintro y w' ⟨rfl,rfl⟩)
    refine (rest_any _ _ _ _ _ H.out).mono ?_
    rintro y w1 ⟨A1,c1,rfl,hR1,hc1,hm1,k1⟩
    have hz1:w.heap.size=w1.heap.size:=by obtain ⟨m,rfl⟩:=k1;rfl
    have HR1:=Lib.hid hR1;have K1:=Lib.hid k1;have HZ1:=Lib.hid hz1;clear hR1 k1 hz1
    go_wp2_with fail
    refine (HG.out _ _ _ (by rw [← HZ1.out];omega) HR1.out hc1 hm1).mono ?_
    rintro y w2 ⟨rfl,hb2⟩
    have hb:Below w.heap.size w w2:=(K1.out.below (Below.refl _ _)).trans (hb2.mono (by rw [HZ1.out];exact Nat.le_refl _))
    have hi2:=H.out.below hb hgl
    have hc2:=HR.out w2
    have hi:=hi2.bad er2
    have hfl:=fail_any w2 g t p 0 er2 hi2
    have HI:=Lib.hid hi;have HC2:=Lib.hid hc2;have HFL:=Lib.hid hfl;have HI2:=Lib.hid hi2;clear hi hc2 hfl hi2
    go_wp2_with (first|(go_at_call 150;(with_reducible refine HC2.out.mono ?_);rintro y w' ⟨rfl,rfl⟩)|(go_at_call 147;refine HFL.out.mono ?_;rintro y w' ⟨rfl,rfl⟩))
    go_ret
    rw [HK.out,HP.out,HV.out]
    exact ⟨rfl,HI.out,(Only.of_below hb g).set_ (.inl rfl) _⟩
  ·have tk:stepE 0 er er2=er:=by unfold stepE;rw [if_neg (by omega),if_pos h1]
   have tp:stepP p n er=p:=if_neg h1
   have tv:stepV (0:Nat) x er=(0:Nat):=if_neg h1
   have t1:((er:Int) != 0)=true:=by rw [bne_iff_ne];omega
   have t2:((er:Int)==0)=false:=by rw [beq_eq_false_iff_ne];omega
   have HK:=Lib.hid tk;have HP:=Lib.hid tp;have HV:=Lib.hid tv;have H1:=Lib.hid h1;clear tk tp tv h1
   go_enter Tryz.func148,Tryz.ntmps148
   go_wp2_with (go_at_call 108;(with_reducible refine HF.out.mono ?_);rintro y w' ⟨rfl,rfl⟩)
   refine (rest_any _ _ _ _ _ H.out).mono ?_
   rintro y w1 ⟨A1,c1,rfl,hR1,hc1,hm1,k1⟩
   have hz1:w.heap.size=w1.heap.size:=by obtain ⟨m,rfl⟩:=k1;rfl
   have HR1:=Lib.hid hR1;have K1:=Lib.hid k1;have HZ1:=Lib.hid hz1;clear hR1 k1 hz1
   go_wp2_with fail
   refine (HG.out _ _ _ (by rw [← HZ1.out];omega) HR1.out hc1 hm1).mono ?_
   rintro y w2 ⟨rfl,hb2⟩
   have hb:Below w.heap.size w w2:=(K1.out.below (Below.refl _ _)).trans (hb2.mono (by rw [HZ1.out];exact Nat.le_refl _))
   have hi2:=H.out.below hb hgl
   have hi:=hi2.bad er
   have hfl:=fail_any w2 g t p 0 er hi2
   have HI:=Lib.hid hi;have HFL:=Lib.hid hfl;have HI2:=Lib.hid hi2;clear hi hfl hi2
   go_wp2_with (go_at_call 147;refine HFL.out.mono ?_;rintro y w' ⟨rfl,rfl⟩)
   go_ret
   rw [HK.out,HP.out,HV.out]
   exact ⟨rfl,HI.out,(Only.of_below hb g).set_ (.inl rfl) _⟩
 ·have hv:stepE e er er2=e:=by unfold stepE;rw [if_pos he]
  have tp:stepP p n e=p:=if_neg he
  have tv:stepV (0:Nat) x e=(0:Nat):=if_neg he
  rw [decide_eq_false he] at hf
  have HF:=Lib.hid hf;have HE:=Lib.hid he;have H:=Lib.hid h;have HV:=Lib.hid hv;have HP:=Lib.hid tp;have HW:=Lib.hid tv;have HR:=Lib.hid hr;have HG:=Lib.hid hg;clear hf he h hv tp tv hr hg hfit
  go_enter Tryz.func148,Tryz.ntmps148
  go_wp2_with (go_at_call 108;(with_reducible refine HF.out.mono ?_);rintro y w' ⟨rfl,rfl⟩)
  go_ret
  rw [HV.out,HP.out,HW.out]
  exact ⟨rfl,H.out,Only.refl g w⟩
def inU (t:List UInt8) (p e most:Nat):Nat×Nat×Nat :=
 (stepV 0 (getU (t.drop p)).1 (stepE e (getU (t.drop p)).2.2 (overE (getU (t.drop p)).1 most)),
  stepP p (getU (t.drop p)).2.1 (stepE e (getU (t.drop p)).2.2 (overE (getU (t.drop p)).1 most)),stepE e (getU (t.drop p)).2.2 (overE (getU (t.drop p)).1 most))
theorem inU_any (w:World) (g:Nat) (t:List UInt8) (p e most:Nat) (h:InS w g t p e) :
 Calls Tryz.prog 41 #[.pointer (some ⟨g,0,none⟩),.int .u64 (most:Int)] w
  fun y w'=>y=.returned (.int .u64 ((inU t p e most).1:Int))∧InS w' g t (inU t p e most).2.1 (inU t p e most).2.2∧Only g w w':=by
 have hgl:=h.lt
 have hi:InS (w.alloc (.cells #[.int .u64 (most:Int)] 40)) g t p e:=by
  exact h.below ((Below.refl _ w).alloc (Nat.le_refl _) _) hgl
 have hc:(w.alloc (.cells #[.int .u64 (most:Int)] 40)).cell? ⟨w.heap.size,0,none⟩=some (.int .u64 (most:Int)):=by simp [go_sem]
 have hr:=readU_any _ g w.heap.size t p e (getU (t.drop p)).1 (getU (t.drop p)).2.1 (getU (t.drop p)).2.2 (overE (getU (t.drop p)).1 most) hi _ hc (by simp)
  (fun _ W A c hgW hR h1 h2=>(getU_any A (t.length-p) c g (t.drop p) W hR h1 h2).mono fun y w' ⟨hy,k⟩=>⟨hy,Drw.below k (Below.refl _ _)⟩)
  (fun W hW=>inU1_any W _ _ _ hW) (fun _ h0=>by have:=getU_fits (t.drop p) h0;rwa [List.length_drop] at this)
 have HR:=Lib.hid hr;clear hr hc
 go_enter Tryz.func41,Tryz.ntmps41
 go_wp2_with (go_at_call 105;(with_reducible refine HR.out.mono ?_);rintro y w1 ⟨rfl,hi1,ho1⟩)
 go_ret
 exact ⟨rfl,hi1,(((Only.refl g w).alloc _).trans ho1)⟩
theorem all64_any (x:Int) (w:World):Calls Tryz.prog 145 #[.int .i64 x] w fun y w'=>y=.returned (.int .i64 ((0:Nat):Int))∧w=w':=by
 go_enter Tryz.func145,Tryz.ntmps145
 go_wp2
 go_ret
 exact ⟨rfl,rfl⟩
end Go.Proofs.YtfhmaincnlaapaaGreat
