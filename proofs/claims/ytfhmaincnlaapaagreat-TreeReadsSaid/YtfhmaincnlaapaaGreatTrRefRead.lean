/- bushelref08.Read (U), bushelref11.Reader: Ask, U, End. -/
import Derived.StillTailTactics
import Derived.Test.YtfhmaincnlaapaaGreatTrGetWalks
import Derived.Test.YtfhmaincnlaapaaGreatTrRefCode
namespace Go.Proofs.YtfhmaincnlaapaaGreat
open Go.ChangeShapes Go.WideShapes Go.ChangeAt Go.RowKit
set_option linter.unusedVariables false
theorem getI_cons (x:UInt8) (t:List UInt8) (n:Nat) (b:Bool) (p:List UInt8) (hs:sgn x=(n,b)) (hp:prt x t=p) (hn:n≤8) :
 getI (x::t)=if n=8∧127<(p.headD 0).toNat then (0,0,6) else if (numB p n).2=0 then (if b then -((numB p n).1:Int)-1 else (numB p n).1,n+1,0) else (0,0,(numB p n).2):=by
 unfold getI
 simp only [hs,hp]
 rw [if_neg (by omega)]
theorem i64_small (x:Nat) (h:x<9223372036854775808):IntKind.i64.wrap (x:Int)=(x:Int):=IntWalk.i64_in _ (by omega)
theorem bits_not8 (y:Nat) (h:y<256):bits .xor .u8 IntKind.u8.max (y:Int)=((255-y:Nat):Int):=by
 have e:IntKind.u8.max=((255:Nat):Int):=by decide
 rw [e,u8_xor_nat _ _ (by omega) h]
 congr 1
 have e:(BitVec.allOnes 8 ^^^ BitVec.ofNat 8 y).toNat=255-y:=by
  rw [BitVec.allOnes_xor,BitVec.toNat_not,BitVec.toNat_ofNat,Nat.mod_eq_of_lt (by omega)]
 rw [BitVec.toNat_xor,BitVec.toNat_ofNat,Nat.mod_eq_of_lt (by omega)] at e
 simpa using e
theorem number_case (A:Option Addr) (m c n:Nat) (t:List UInt8) (w:World) (h:Rd w w.heap.size 1 A m (u8s t)) (hn:n≤8) (hm:m≤8) (N:Nat×Nat) (hN:numB t n=N) :
 Calls Tryz.prog 159 #[.slice A m c,.int .i64 (n:Int)] w fun e w'=>e=.returned (.tuple #[.int .u64 (N.1:Nat),.int .i64 (N.2:Nat)])∧∃ k,w'=w.drewN k:=by
 have:=number_any A m c n w.heap.size t w h hn (by unfold maxLen;omega)
 rw [hN] at this
 exact this
set_option maxHeartbeats 2000000 in
theorem getI_pos (a:Addr) (c n q:Nat) (x:UInt8) (t:List UInt8) (w:World) (h:Rd w w.heap.size 1 (some a) (t.length+1) (u8s (x::t))) (hmc:t.length+1≤c) (hc:c≤maxLen) (hx:x.toNat=n+9) (hn:n≤8) (hc1:1<c) (hq:q=min t.length n) :
 Calls Tryz.prog 144 #[.slice (some a) (t.length+1) c] w fun e w'=>e=.returned (.tuple #[.int .i64 (getI (x::t)).1,.int .i64 ((getI (x::t)).2.1:Nat),.int .i64 ((getI (x::t)).2.2:Nat)])∧Below w.heap.size w w':=by
 have hcc:=hc
 unfold maxLen at hcc
 have hs:sgn x=(n,false):=by unfold sgn;rw [if_neg (by omega),hx,Nat.add_sub_cancel]
 have hp:prt x t=t.take n:=by unfold prt;rw [hs];rfl
 have hfin:=getI_cons x t n false _ hs hp hn
 have h63:=numB_lt63 (t.take n) n hn
 obtain ⟨a',ea,hb,hcell⟩:=h.byte (k:=0) (by simp)
 injection ea with ea
 subst ea
 rw [add_zero'] at hcell
 simp only [List.getElem_cons_zero,hx] at hcell
 have h1:=(h.rest).take (k:=q) (by omega)
 have hpq:t.take q=t.take n:=by rw [hq];rcases Nat.le_total t.length n with h|h
                                ·rw [Nat.min_eq_left h,List.take_of_length_le h,List.take_of_length_le (Nat.le_refl _)]
                                ·rw [Nat.min_eq_right h]
 rw [hpq] at h1
 have hq8:q≤8:=by omega
 have hload:0<q→w.cell? ⟨a.block,a.off+1,none⟩=some (.int .u8 (((t.take n).headD 0).toNat:Int)):=by
  intro h0
  obtain ⟨a',ea,_,hc'⟩:=h1.byte (k:=0) (by rw [h1.u8];exact h0)
  injection ea with ea
  subst ea
  rw [add_zero'] at hc'
  rw [hc',headD_get]
 generalize t.take n=p at *
 generalize hN:numB p n=N at *
 have hnum:=fun c'=>number_case (some ⟨a.block,a.off+1,none⟩) q c' n p w h1 hn hq8 N hN
 have hpl:=h1.u8
 have hp0:q=0→(p.headD 0).toNat=0:=by intro h0;have:p=[]:=List.eq_nil_of_length_eq_zero (by omega);rw [this];rfl
 have H1:=Lib.hid h1;have HX:=Lib.hid hx;have HNUM:=Lib.hid hnum;have HN:=Lib.hid hN;have HPL:=Lib.hid hpl;have HPQ:=Lib.hid hpq;have HS:=Lib.hid hs;have HP:=Lib.hid hp;have HL:=Lib.hid hload;have HF:=Lib.hid hfin;have H63:=Lib.hid h63;have HP0:=Lib.hid hp0
 clear h1 hx hnum hN hpl hpq hs hp hload hfin h63 hp0
 have hp8:=(p.headD 0).toNat_lt
 generalize hy:(p.headD 0).toNat=y at *
 have HY:=Lib.hid hy;clear hy
 by_cases hl:t.length≤n
 ·obtain rfl:q=t.length:=by omega
  clear hq
  by_cases h8:n=8
  ·have t8:((n:Int)==8)=true:=by rw [h8];rfl
   have H8:=Lib.hid h8;clear h8
   by_cases hq0:0<t.length
   ·have hload:=HL.out hq0
    by_cases hy:127<y
    ·have hf:=HF.out
     rw [if_pos ⟨H8.out,hy⟩] at hf
     have HFF:=Lib.hid hf;clear hf
     go_enter Tryz.func144,Tryz.ntmps144
     go_wp2
     go_ret3
     exact ⟨by rw [HFF.out];rfl,Below.refl _ _⟩
    ·by_cases he:N.2=0
     ·have t1:((N.2:Int) != 0)=false:=by rw [he];rfl
      have hf:=HF.out
      rw [if_neg (by omega),if_pos he] at hf
      have h63:=H63.out (by intro _;omega)
      have hw:=i64_small N.1 h63
      have HFF:=Lib.hid hf;have HE:=Lib.hid he;clear hf he
      go_enter Tryz.func144,Tryz.ntmps144
      go_wp2_with (go_at_call 159;(with_reducible refine (HNUM.out _).mono ?_);rintro e w' ⟨rfl,k1,rfl⟩)
      go_ret3
      exact ⟨by rw [HFF.out];first|rfl|go_num,belD (belR w) _⟩
     ·have t1:((N.2:Int) != 0)=true:=by rw [bne_iff_ne];omega
      have hf:=HF.out
      rw [if_neg (by omega),if_neg he] at hf
      have HFF:=Lib.hid hf;have HE:=Lib.hid he;clear hf he
      go_enter Tryz.func144,Tryz.ntmps144
      go_wp2_with (go_at_call 159;(with_reducible refine (HNUM.out _).mono ?_);rintro e w' ⟨rfl,k1,rfl⟩)
      go_ret3
      exact ⟨by rw [HFF.out];first|rfl|go_num,belD (belR w) _⟩
   ·have hy0:y=0:=HP0.out (by omega)
    have HY0:=Lib.hid hy0;clear hy0
    by_cases he:N.2=0
    ·have t1:((N.2:Int) != 0)=false:=by rw [he];rfl
     have hf:=HF.out
     rw [if_neg (by have:=HY0.out;omega),if_pos he] at hf
     have h63:=H63.out (by intro _;have:=HY0.out;omega)
     have hw:=i64_small N.1 h63
     have HFF:=Lib.hid hf;have HE:=Lib.hid he;clear hf he
     go_enter Tryz.func144,Tryz.ntmps144
     go_wp2_with (go_at_call 159;(with_reducible refine (HNUM.out _).mono ?_);rintro e w' ⟨rfl,k1,rfl⟩)
     go_ret3
     exact ⟨by rw [HFF.out];first|rfl|go_num,belD (belR w) _⟩
    ·have t1:((N.2:Int) != 0)=true:=by rw [bne_iff_ne];omega
     have hf:=HF.out
     rw [if_neg (by have:=HY0.out;omega),if_neg he] at hf
     have HFF:=Lib.hid hf;have HE:=Lib.hid he;clear hf he
     go_enter Tryz.func144,Tryz.ntmps144
     go_wp2_with (go_at_call 159;(with_reducible refine (HNUM.out _).mono ?_);rintro e w' ⟨rfl,k1,rfl⟩)
     go_ret3
     exact ⟨by rw [HFF.out];first|rfl|go_num,belD (belR w) _⟩
  ·have t8:((n:Int)==8)=false:=by rw [beq_eq_false_iff_ne];omega
   have H8:=Lib.hid h8;clear h8
   by_cases he:N.2=0
   ·have t1:((N.2:Int) != 0)=false:=by rw [he];rfl
    have hf:=HF.out
    rw [if_neg (fun h=>H8.out h.1),if_pos he] at hf
    have h63:=H63.out (fun h=>absurd h H8.out)
    have hw:=i64_small N.1 h63
    have HFF:=Lib.hid hf;have HE:=Lib.hid he;clear hf he
    go_enter Tryz.func144,Tryz.ntmps144
    go_wp2_with (go_at_call 159;(with_reducible refine (HNUM.out _).mono ?_);rintro e w' ⟨rfl,k1,rfl⟩)
    go_ret3
    exact ⟨by rw [HFF.out];first|rfl|go_num,belD (belR w) _⟩
   ·have t1:((N.2:Int) != 0)=true:=by rw [bne_iff_ne];omega
    have hf:=HF.out
    rw [if_neg (fun h=>H8.out h.1),if_neg he] at hf
    have HFF:=Lib.hid hf;have HE:=Lib.hid he;clear hf he
    go_enter Tryz.func144,Tryz.ntmps144
    go_wp2_with (go_at_call 159;(with_reducible refine (HNUM.out _).mono ?_);rintro e w' ⟨rfl,k1,rfl⟩)
    go_ret3
    exact ⟨by rw [HFF.out];first|rfl|go_num,belD (belR w) _⟩
 ·obtain rfl:n=q:=by omega
  have hl':n<t.length:=by omega
  clear hl
  clear hq
  by_cases h8:n=8
  ·have t8:((n:Int)==8)=true:=by rw [h8];rfl
   have H8:=Lib.hid h8;clear h8
   by_cases hq0:0<n
   ·have hload:=HL.out hq0
    by_cases hy:127<y
    ·have hf:=HF.out
     rw [if_pos ⟨H8.out,hy⟩] at hf
     have HFF:=Lib.hid hf;clear hf
     go_enter Tryz.func144,Tryz.ntmps144
     go_wp2
     go_ret3
     exact ⟨by rw [HFF.out];rfl,Below.refl _ _⟩
    ·by_cases he:N.2=0
     ·have t1:((N.2:Int) != 0)=false:=by rw [he];rfl
      have hf:=HF.out
      rw [if_neg (by omega),if_pos he] at hf
      have h63:=H63.out (by intro _;omega)
      have hw:=i64_small N.1 h63
      have HFF:=Lib.hid hf;have HE:=Lib.hid he;clear hf he
      go_enter Tryz.func144,Tryz.ntmps144
      go_wp2_with (go_at_call 159;(with_reducible refine (HNUM.out _).mono ?_);rintro e w' ⟨rfl,k1,rfl⟩)
      go_ret3
      exact ⟨by rw [HFF.out];first|rfl|go_num,belD (belR w) _⟩
     ·have t1:((N.2:Int) != 0)=true:=by rw [bne_iff_ne];omega
      have hf:=HF.out
      rw [if_neg (by omega),if_neg he] at hf
      have HFF:=Lib.hid hf;have HE:=Lib.hid he;clear hf he
      go_enter Tryz.func144,Tryz.ntmps144
      go_wp2_with (go_at_call 159;(with_reducible refine (HNUM.out _).mono ?_);rintro e w' ⟨rfl,k1,rfl⟩)
      go_ret3
      exact ⟨by rw [HFF.out];first|rfl|go_num,belD (belR w) _⟩
   ·exfalso;have:=H8.out;omega
  ·have t8:((n:Int)==8)=false:=by rw [beq_eq_false_iff_ne];omega
   have H8:=Lib.hid h8;clear h8
   by_cases he:N.2=0
   ·have t1:((N.2:Int) != 0)=false:=by rw [he];rfl
    have hf:=HF.out
    rw [if_neg (fun h=>H8.out h.1),if_pos he] at hf
    have h63:=H63.out (fun h=>absurd h H8.out)
    have hw:=i64_small N.1 h63
    have HFF:=Lib.hid hf;have HE:=Lib.hid he;clear hf he
    go_enter Tryz.func144,Tryz.ntmps144
    go_wp2_with (go_at_call 159;(with_reducible refine (HNUM.out _).mono ?_);rintro e w' ⟨rfl,k1,rfl⟩)
    go_ret3
    exact ⟨by rw [HFF.out];first|rfl|go_num,belD (belR w) _⟩
   ·have t1:((N.2:Int) != 0)=true:=by rw [bne_iff_ne];omega
    have hf:=HF.out
    rw [if_neg (fun h=>H8.out h.1),if_neg he] at hf
    have HFF:=Lib.hid hf;have HE:=Lib.hid he;clear hf he
    go_enter Tryz.func144,Tryz.ntmps144
    go_wp2_with (go_at_call 159;(with_reducible refine (HNUM.out _).mono ?_);rintro e w' ⟨rfl,k1,rfl⟩)
    go_ret3
    exact ⟨by rw [HFF.out];first|rfl|go_num,belD (belR w) _⟩
theorem flip_cell (b:UInt8) (u:Value) (h:u=.int .u8 (bits .xor .u8 IntKind.u8.max (b.toNat:Int))):u=.int .u8 (((255-b:UInt8)).toNat:Int):=by
 have hb:=b.toNat_lt
 rw [h,bits_not8 _ hb,UInt8.toNat_sub_of_le _ _ (by rw [UInt8.le_iff_toNat_le];simp;omega)]
 rfl
theorem map_take_snoc (l:List UInt8) (j:Nat) (h:j<l.length):(l.map (255 - ·)).take (j+1)=(l.map (255 - ·)).take j ++ [255-l[j]]:=by
 rw [List.take_succ_eq_append_getElem (by simpa using h),List.getElem_map]
set_option maxRecDepth 20000 in
set_option maxHeartbeats 4000000 in
theorem getI_neg (a:Addr) (c n q:Nat) (x:UInt8) (t:List UInt8) (w:World) (h:Rd w w.heap.size 1 (some a) (t.length+1) (u8s (x::t))) (hmc:t.length+1≤c) (hc:c≤maxLen) (hx:x.toNat+n=8) (hc1:1<c) (hq:q=min t.length n) :
 Calls Tryz.prog 144 #[.slice (some a) (t.length+1) c] w fun e w'=>e=.returned (.tuple #[.int .i64 (getI (x::t)).1,.int .i64 ((getI (x::t)).2.1:Nat),.int .i64 ((getI (x::t)).2.2:Nat)])∧Below w.heap.size w w':=by
 have hcc:=hc
 unfold maxLen at hcc
 have hn:n≤8:=by omega
 have hs:sgn x=(n,true):=by unfold sgn;rw [if_pos (by omega)];congr 1;omega
 have hp:prt x t=(t.take n).map (255 - ·):=by unfold prt;rw [hs];rfl
 have hfin:=getI_cons x t n true _ hs hp hn
 have h63:=numB_lt63 ((t.take n).map (255 - ·)) n hn
 obtain ⟨a',ea,hb,hcell⟩:=h.byte (k:=0) (by simp)
 injection ea with ea
 subst ea
 rw [add_zero'] at hcell
 have hx':(x.toNat:Int)=8-(n:Int):=by omega
 simp only [List.getElem_cons_zero,hx'] at hcell
 have h1:=(h.rest).take (k:=q) (by omega)
 have hpq:t.take q=t.take n:=by rw [hq];rcases Nat.le_total t.length n with h|h
                                ·rw [Nat.min_eq_left h,List.take_of_length_le h,List.take_of_length_le (Nat.le_refl _)]
                                ·rw [Nat.min_eq_right h]
 rw [hpq] at h1
 have hq8:q≤8:=by omega
 generalize t.take n=p0 at *
 have hpl:=h1.u8
 have hpl':(p0.map (255 - ·)).length=q:=by simpa using hpl
 have H1:=Lib.hid h1;have HX:=Lib.hid hx;have HX':=Lib.hid hx';have HPL:=Lib.hid hpl;have HPQ:=Lib.hid hpq;have HS:=Lib.hid hs;have HP:=Lib.hid hp;have HF:=Lib.hid hfin;have H63:=Lib.hid h63;have HPL':=Lib.hid hpl'
 clear h1 hx hx' hpq hs hp hfin h63 hpl hpl'
 have hcase:(q=t.length∧t.length≤n)∨(n=q∧n<t.length):=by omega
 have e88:(8:Int)-(8-(n:Int))=(n:Int):=by omega
 have e88n:8-(8-n)=n:=by omega
 have hbelow:8-(n:Int)-9<0:=by omega
 clear hq
 rcases hcase with ⟨rfl,hl⟩|⟨rfl,hl⟩
 ·go_enter Tryz.func144,Tryz.ntmps144
  go_wp2
  go_loopw [8,40] (fun v k wr=>∃ j:Nat,j≤t.length∧k=.int .i64 (j:Int)∧wr.ownsRow w.heap.size 5 1 v j (u8s ((p0.map (255 - ·)).take j))∧Below w.heap.size w wr) (fun _ k _=>t.length-(intOf k).toNat)
  case atStart=>exact ⟨0,by omega,rfl,by simpa [u8s] using World.ownsRow_nil w w.heap.size _ 1,Below.refl _ _⟩
  case round =>
   obtain ⟨j,hj,rfl,ho,hbel⟩:=hrel
   have hbz:=hbel.size
   by_cases hlt:j<t.length
   ·have hR:=H1.out.below hbel
    have hjl:j<p0.length:=by rw [HPL.out];exact hlt
    obtain ⟨a1,ea,_,hcj⟩:=hR.byte hjl
    injection ea with ea
    subst ea
    have hadr:(⟨a.block,a.off+1,none⟩:Addr).add j=⟨a.block,a.off+1+j,none⟩:=by unfold Addr.add;split<;>simp_all
    rw [hadr] at hcj
    have hsn:=map_take_snoc p0 j hjl
    have hfl:=fun u=>flip_cell p0[j] u
    have hcj8:=p0[j].toNat_lt
    generalize p0[j]=b at *
    have HSN:=Lib.hid hsn;have HFL:=Lib.hid hfl;have HADR:=Lib.hid hadr;clear hsn hfl hadr hR hjl
    go_wp2_with (at_builtin;refine wpList_app1 _ _ rfl rfl _ _ 27 rfl w.heap.size 5 _ 1 info_u8 rfl Tryz.underlying27 _ _ _ ho rfl rfl ?_ ?_ ?_ ?_;omega;omega;exact hbz;intro v2 w2 ho2 hb2)
    go_roundw
    case rel=>exact ⟨j+1,by omega,by go_num,by rw [HSN.out,←u8s_snoc _ _ _ (HFL.out _ rfl)];exact ho2,hbel.trans (hb2.below hbz ho)⟩
    case measure=>simp [intOf];omega
   ·obtain rfl:j=t.length:=by omega
    rw [List.take_of_length_le (by rw [HPL'.out];exact Nat.le_refl _)] at ho
    obtain ⟨A2,c2,rfl,hc2,_,_⟩:=own_form ho
    have hR2:=Rd.own ho
    generalize p0.map (255 - ·)=p at *
    have hload:0<t.length→∃ a2,A2=some a2∧wr.cell? a2=some (.int .u8 ((p.headD 0).toNat:Int)):=by
     intro h0
     obtain ⟨a',ea,_,hc'⟩:=hR2.byte (k:=0) (by rw [hR2.u8];exact h0)
     rw [add_zero'] at hc'
     exact ⟨a',ea,by rw [hc',headD_get]⟩
    have hp0:t.length=0→(p.headD 0).toNat=0:=by intro h0;have:p=[]:=List.eq_nil_of_length_eq_zero (by rw [hR2.u8];exact h0);rw [this];rfl
    generalize hN:numB p n=N at *
    have hnum:=fun c'=>number_case A2 t.length c' n p wr hR2 hn hq8 N hN
    have hp8:=(p.headD 0).toNat_lt
    generalize hy:(p.headD 0).toNat=y at *
    have HO:=Lib.hid ho;have HR2:=Lib.hid hR2;have HL:=Lib.hid hload;have HP0:=Lib.hid hp0;have HN:=Lib.hid hN;have HNUM:=Lib.hid hnum;have HY:=Lib.hid hy;have HC2:=Lib.hid hc2
    clear ho hR2 hload hp0 hN hnum hy hc2
    by_cases h8:n=8
    ·have t8:((n:Int)==8)=true:=by rw [h8];rfl
     have H8:=Lib.hid h8;clear h8
     by_cases hq0:0<t.length
     ·obtain ⟨a2,rfl,hload⟩:=HL.out hq0
      by_cases hy:127<y
      ·have hf:=HF.out
       rw [if_pos ⟨H8.out,hy⟩] at hf
       have HFF:=Lib.hid hf;clear hf
       go_wp2
       go_ret3
       exact ⟨by rw [HFF.out];rfl,hbel⟩
      ·by_cases he:N.2=0
       ·have t1:((N.2:Int) != 0)=false:=by rw [he];rfl
        have hf:=HF.out
        rw [if_neg (by omega),if_pos he] at hf
        have h63:=H63.out (by intro _;omega)
        have hw:=i64_small N.1 h63
        have HFF:=Lib.hid hf;have HE:=Lib.hid he;clear hf he
        go_wp2_with (go_at_call 159;(with_reducible refine (HNUM.out _).mono ?_);rintro e w' ⟨rfl,k1,rfl⟩)
        go_ret3
        exact ⟨by rw [HFF.out];first|rfl|go_num,belD hbel _⟩
       ·have t1:((N.2:Int) != 0)=true:=by rw [bne_iff_ne];omega
        have hf:=HF.out
        rw [if_neg (by omega),if_neg he] at hf
        have HFF:=Lib.hid hf;have HE:=Lib.hid he;clear hf he
        go_wp2_with (go_at_call 159;(with_reducible refine (HNUM.out _).mono ?_);rintro e w' ⟨rfl,k1,rfl⟩)
        go_ret3
        exact ⟨by rw [HFF.out];first|rfl|go_num,belD hbel _⟩
     ·have hy0:y=0:=HP0.out (by omega)
      have HY0:=Lib.hid hy0;clear hy0
      by_cases he:N.2=0
      ·have t1:((N.2:Int) != 0)=false:=by rw [he];rfl
       have hf:=HF.out
       rw [if_neg (by have:=HY0.out;omega),if_pos he] at hf
       have h63:=H63.out (by intro _;have:=HY0.out;omega)
       have hw:=i64_small N.1 h63
       have HFF:=Lib.hid hf;have HE:=Lib.hid he;clear hf he
       go_wp2_with (go_at_call 159;(with_reducible refine (HNUM.out _).mono ?_);rintro e w' ⟨rfl,k1,rfl⟩)
       go_ret3
       exact ⟨by rw [HFF.out];first|rfl|go_num,belD hbel _⟩
      ·have t1:((N.2:Int) != 0)=true:=by rw [bne_iff_ne];omega
       have hf:=HF.out
       rw [if_neg (by have:=HY0.out;omega),if_neg he] at hf
       have HFF:=Lib.hid hf;have HE:=Lib.hid he;clear hf he
       go_wp2_with (go_at_call 159;(with_reducible refine (HNUM.out _).mono ?_);rintro e w' ⟨rfl,k1,rfl⟩)
       go_ret3
       exact ⟨by rw [HFF.out];first|rfl|go_num,belD hbel _⟩
    ·have t8:((n:Int)==8)=false:=by rw [beq_eq_false_iff_ne];omega
     have H8:=Lib.hid h8;clear h8
     by_cases he:N.2=0
     ·have t1:((N.2:Int) != 0)=false:=by rw [he];rfl
      have hf:=HF.out
      rw [if_neg (fun h=>H8.out h.1),if_pos he] at hf
      have h63:=H63.out (fun h=>absurd h H8.out)
      have hw:=i64_small N.1 h63
      have HFF:=Lib.hid hf;have HE:=Lib.hid he;clear hf he
      go_wp2_with (go_at_call 159;(with_reducible refine (HNUM.out _).mono ?_);rintro e w' ⟨rfl,k1,rfl⟩)
      go_ret3
      exact ⟨by rw [HFF.out];first|rfl|go_num,belD hbel _⟩
     ·have t1:((N.2:Int) != 0)=true:=by rw [bne_iff_ne];omega
      have hf:=HF.out
      rw [if_neg (fun h=>H8.out h.1),if_neg he] at hf
      have HFF:=Lib.hid hf;have HE:=Lib.hid he;clear hf he
      go_wp2_with (go_at_call 159;(with_reducible refine (HNUM.out _).mono ?_);rintro e w' ⟨rfl,k1,rfl⟩)
      go_ret3
      exact ⟨by rw [HFF.out];first|rfl|go_num,belD hbel _⟩
 ·go_enter Tryz.func144,Tryz.ntmps144
  go_wp2
  go_loopw [8,40] (fun v k wr=>∃ j:Nat,j≤n∧k=.int .i64 (j:Int)∧wr.ownsRow w.heap.size 5 1 v j (u8s ((p0.map (255 - ·)).take j))∧Below w.heap.size w wr) (fun _ k _=>n-(intOf k).toNat)
  case atStart=>exact ⟨0,by omega,rfl,by simpa [u8s] using World.ownsRow_nil w w.heap.size _ 1,Below.refl _ _⟩
  case round =>
   obtain ⟨j,hj,rfl,ho,hbel⟩:=hrel
   have hbz:=hbel.size
   by_cases hlt:j<n
   ·have hR:=H1.out.below hbel
    have hjl:j<p0.length:=by rw [HPL.out];exact hlt
    obtain ⟨a1,ea,_,hcj⟩:=hR.byte hjl
    injection ea with ea
    subst ea
    have hadr:(⟨a.block,a.off+1,none⟩:Addr).add j=⟨a.block,a.off+1+j,none⟩:=by unfold Addr.add;split<;>simp_all
    rw [hadr] at hcj
    have hsn:=map_take_snoc p0 j hjl
    have hfl:=fun u=>flip_cell p0[j] u
    have hcj8:=p0[j].toNat_lt
    generalize p0[j]=b at *
    have HSN:=Lib.hid hsn;have HFL:=Lib.hid hfl;have HADR:=Lib.hid hadr;clear hsn hfl hadr hR hjl
    go_wp2_with (at_builtin;refine wpList_app1 _ _ rfl rfl _ _ 27 rfl w.heap.size 5 _ 1 info_u8 rfl Tryz.underlying27 _ _ _ ho rfl rfl ?_ ?_ ?_ ?_;omega;omega;exact hbz;intro v2 w2 ho2 hb2)
    go_roundw
    case rel=>exact ⟨j+1,by omega,by go_num,by rw [HSN.out,←u8s_snoc _ _ _ (HFL.out _ rfl)];exact ho2,hbel.trans (hb2.below hbz ho)⟩
    case measure=>simp [intOf];omega
   ·obtain rfl:n=j:=by omega
    rw [List.take_of_length_le (by rw [HPL'.out];exact Nat.le_refl _)] at ho
    obtain ⟨A2,c2,rfl,hc2,_,_⟩:=own_form ho
    have hR2:=Rd.own ho
    generalize p0.map (255 - ·)=p at *
    have hload:0<n→∃ a2,A2=some a2∧wr.cell? a2=some (.int .u8 ((p.headD 0).toNat:Int)):=by
     intro h0
     obtain ⟨a',ea,_,hc'⟩:=hR2.byte (k:=0) (by rw [hR2.u8];exact h0)
     rw [add_zero'] at hc'
     exact ⟨a',ea,by rw [hc',headD_get]⟩
    have hp0:n=0→(p.headD 0).toNat=0:=by intro h0;have:p=[]:=List.eq_nil_of_length_eq_zero (by rw [hR2.u8];exact h0);rw [this];rfl
    generalize hN:numB p n=N at *
    have hnum:=fun c'=>number_case A2 n c' n p wr hR2 hn hq8 N hN
    have hp8:=(p.headD 0).toNat_lt
    generalize hy:(p.headD 0).toNat=y at *
    have HO:=Lib.hid ho;have HR2:=Lib.hid hR2;have HL:=Lib.hid hload;have HP0:=Lib.hid hp0;have HN:=Lib.hid hN;have HNUM:=Lib.hid hnum;have HY:=Lib.hid hy;have HC2:=Lib.hid hc2
    clear ho hR2 hload hp0 hN hnum hy hc2
    by_cases h8:n=8
    ·have t8:((n:Int)==8)=true:=by rw [h8];rfl
     have H8:=Lib.hid h8;clear h8
     by_cases hq0:0<n
     ·obtain ⟨a2,rfl,hload⟩:=HL.out hq0
      by_cases hy:127<y
      ·have hf:=HF.out
       rw [if_pos ⟨H8.out,hy⟩] at hf
       have HFF:=Lib.hid hf;clear hf
       go_wp2
       go_ret3
       exact ⟨by rw [HFF.out];rfl,hbel⟩
      ·by_cases he:N.2=0
       ·have t1:((N.2:Int) != 0)=false:=by rw [he];rfl
        have hf:=HF.out
        rw [if_neg (by omega),if_pos he] at hf
        have h63:=H63.out (by intro _;omega)
        have hw:=i64_small N.1 h63
        have HFF:=Lib.hid hf;have HE:=Lib.hid he;clear hf he
        go_wp2_with (go_at_call 159;(with_reducible refine (HNUM.out _).mono ?_);rintro e w' ⟨rfl,k1,rfl⟩)
        go_ret3
        exact ⟨by rw [HFF.out];first|rfl|go_num,belD hbel _⟩
       ·have t1:((N.2:Int) != 0)=true:=by rw [bne_iff_ne];omega
        have hf:=HF.out
        rw [if_neg (by omega),if_neg he] at hf
        have HFF:=Lib.hid hf;have HE:=Lib.hid he;clear hf he
        go_wp2_with (go_at_call 159;(with_reducible refine (HNUM.out _).mono ?_);rintro e w' ⟨rfl,k1,rfl⟩)
        go_ret3
        exact ⟨by rw [HFF.out];first|rfl|go_num,belD hbel _⟩
     ·exfalso;have:=H8.out;omega
    ·have t8:((n:Int)==8)=false:=by rw [beq_eq_false_iff_ne];omega
     have H8:=Lib.hid h8;clear h8
     by_cases he:N.2=0
     ·have t1:((N.2:Int) != 0)=false:=by rw [he];rfl
      have hf:=HF.out
      rw [if_neg (fun h=>H8.out h.1),if_pos he] at hf
      have h63:=H63.out (fun h=>absurd h H8.out)
      have hw:=i64_small N.1 h63
      have HFF:=Lib.hid hf;have HE:=Lib.hid he;clear hf he
      go_wp2_with (go_at_call 159;(with_reducible refine (HNUM.out _).mono ?_);rintro e w' ⟨rfl,k1,rfl⟩)
      go_ret3
      exact ⟨by rw [HFF.out];first|rfl|go_num,belD hbel _⟩
     ·have t1:((N.2:Int) != 0)=true:=by rw [bne_iff_ne];omega
      have hf:=HF.out
      rw [if_neg (fun h=>H8.out h.1),if_neg he] at hf
      have HFF:=Lib.hid hf;have HE:=Lib.hid he;clear hf he
      go_wp2_with (go_at_call 159;(with_reducible refine (HNUM.out _).mono ?_);rintro e w' ⟨rfl,k1,rfl⟩)
      go_ret3
      exact ⟨by rw [HFF.out];first|rfl|go_num,belD hbel _⟩
theorem getI_form (a:Addr) (c:Nat) (x:UInt8) (t:List UInt8) (w:World) (h:Rd w w.heap.size 1 (some a) (t.length+1) (u8s (x::t))) (hmc:t.length+1≤c) (hc:c≤maxLen) (hx:17<x.toNat) :
 Calls Tryz.prog 144 #[.slice (some a) (t.length+1) c] w fun e w'=>e=.returned (.tuple #[.int .i64 (getI (x::t)).1,.int .i64 ((getI (x::t)).2.1:Nat),.int .i64 ((getI (x::t)).2.2:Nat)])∧Below w.heap.size w w':=by
 have hcc:=hc
 unfold maxLen at hcc
 have hs:sgn x=(x.toNat-9,false):=by unfold sgn;rw [if_neg (by omega)]
 have hfin:getI (x::t)=(0,0,6):=by unfold getI;simp only [hs];rw [if_pos (by omega)]
 obtain ⟨a',ea,hb,hcell⟩:=h.byte (k:=0) (by simp)
 injection ea with ea
 subst ea
 rw [add_zero'] at hcell
 simp only [List.getElem_cons_zero] at hcell
 have hx8:=x.toNat_lt
 have HF:=Lib.hid hfin;have HS:=Lib.hid hs;clear hfin hs
 go_enter Tryz.func144,Tryz.ntmps144
 go_wp2
 go_ret3
 exact ⟨by rw [HF.out];rfl,Below.refl _ _⟩
theorem getI_nil (A:Option Addr) (c:Nat) (w:World) :
 Calls Tryz.prog 144 #[.slice A 0 c] w fun e w'=>e=.returned (.tuple #[.int .i64 (getI []).1,.int .i64 ((getI []).2.1:Nat),.int .i64 ((getI []).2.2:Nat)])∧Below w.heap.size w w':=by
 go_enter Tryz.func144,Tryz.ntmps144
 go_wp2
 go_ret3
 exact ⟨rfl,Below.refl _ _⟩
theorem rd_zero (w:World) (B size:Nat) (A:Option Addr):Rd w B size A 0 (u8s []):=⟨by simp [u8s],fun h=>absurd h (by omega)⟩
set_option maxHeartbeats 1000000 in
theorem getI_one (a:Addr) (n:Nat) (x:UInt8) (b:Bool) (w:World) (h:Rd w w.heap.size 1 (some a) 1 (u8s [x])) (hn:n≤8) (hx:(b=false∧x.toNat=n+9)∨(b=true∧x.toNat+n=8)) :
 Calls Tryz.prog 144 #[.slice (some a) 1 1] w fun e w'=>e=.returned (.tuple #[.int .i64 (getI [x]).1,.int .i64 ((getI [x]).2.1:Nat),.int .i64 ((getI [x]).2.2:Nat)])∧Below w.heap.size w w':=by
 have hs:sgn x=(n,b):=by
  unfold sgn
  rcases hx with ⟨rfl,hx⟩|⟨rfl,hx⟩
  ·rw [if_neg (by omega)];congr 1;omega
  ·rw [if_pos (by omega)];congr 1;omega
 have hp:prt x []=[]:=by unfold prt;split<;>simp
 have hfin:=getI_cons x [] n b _ hs hp hn
 obtain ⟨a',ea,hb,hcell⟩:=h.byte (k:=0) (by simp)
 injection ea with ea
 subst ea
 rw [add_zero'] at hcell
 simp only [List.getElem_cons_zero] at hcell
 have hxz:(x.toNat:Int)=if b then 8-(n:Int) else ((n+9:Nat):Int):=by
  rcases hx with ⟨rfl,hx⟩|⟨rfl,hx⟩
  ·rw [hx];rfl
  ·simp only [if_true];omega
 rw [hxz] at hcell
 generalize hN:numB [] n=N at *
 have h63:N.1<9223372036854775808:=by rw [←hN];exact numB_lt63 [] n hn (by simp)
 have hw:=i64_small N.1 h63
 have hnum:=fun A' c' W=>number_case A' 0 c' n [] W (rd_zero W _ _ A') hn (by omega) N hN
 have e88:(8:Int)-(8-(n:Int))=(n:Int):=by omega
 have hbelow:8-(n:Int)-9<0:=by omega
 rw [if_neg (by simp)] at hfin
 have HNUM:=Lib.hid hnum;have HN:=Lib.hid hN;have HF:=Lib.hid hfin;have HS:=Lib.hid hs;have HP:=Lib.hid hp;have HX:=Lib.hid hx;have HXZ:=Lib.hid hxz
 clear hnum hN hfin hs hp hx hxz
 cases b
 ·simp only [Bool.false_eq_true,if_false] at hcell
  by_cases he:N.2=0
  ·have t1:((N.2:Int) != 0)=false:=by rw [he];rfl
   have hf:=HF.out
   rw [if_pos he] at hf
   have HFF:=Lib.hid hf;have HE:=Lib.hid he;clear hf he
   by_cases h8:n=8
   ·have t8:((n:Int)==8)=true:=by rw [h8];rfl
    have H8:=Lib.hid h8;clear h8
    go_enter Tryz.func144,Tryz.ntmps144
    go_wp2_with (go_at_call 159;(with_reducible refine (HNUM.out _ _ _).mono ?_);rintro e w' ⟨rfl,k1,rfl⟩)
    go_ret3
    exact ⟨by rw [HFF.out];first|rfl|go_num,belD (belR w) _⟩
   ·have t8:((n:Int)==8)=false:=by rw [beq_eq_false_iff_ne];omega
    have H8:=Lib.hid h8;clear h8
    go_enter Tryz.func144,Tryz.ntmps144
    go_wp2_with (go_at_call 159;(with_reducible refine (HNUM.out _ _ _).mono ?_);rintro e w' ⟨rfl,k1,rfl⟩)
    go_ret3
    exact ⟨by rw [HFF.out];first|rfl|go_num,belD (belR w) _⟩
  ·have t1:((N.2:Int) != 0)=true:=by rw [bne_iff_ne];omega
   have hf:=HF.out
   rw [if_neg he] at hf
   have HFF:=Lib.hid hf;have HE:=Lib.hid he;clear hf he
   by_cases h8:n=8
   ·have t8:((n:Int)==8)=true:=by rw [h8];rfl
    have H8:=Lib.hid h8;clear h8
    go_enter Tryz.func144,Tryz.ntmps144
    go_wp2_with (go_at_call 159;(with_reducible refine (HNUM.out _ _ _).mono ?_);rintro e w' ⟨rfl,k1,rfl⟩)
    go_ret3
    exact ⟨by rw [HFF.out];first|rfl|go_num,belD (belR w) _⟩
   ·have t8:((n:Int)==8)=false:=by rw [beq_eq_false_iff_ne];omega
    have H8:=Lib.hid h8;clear h8
    go_enter Tryz.func144,Tryz.ntmps144
    go_wp2_with (go_at_call 159;(with_reducible refine (HNUM.out _ _ _).mono ?_);rintro e w' ⟨rfl,k1,rfl⟩)
    go_ret3
    exact ⟨by rw [HFF.out];first|rfl|go_num,belD (belR w) _⟩
 ·simp only [if_true] at hcell
  by_cases he:N.2=0
  ·have t1:((N.2:Int) != 0)=false:=by rw [he];rfl
   have hf:=HF.out
   rw [if_pos he] at hf
   have HFF:=Lib.hid hf;have HE:=Lib.hid he;clear hf he
   by_cases h8:n=8
   ·have t8:((n:Int)==8)=true:=by rw [h8];rfl
    have H8:=Lib.hid h8;clear h8
    go_enter Tryz.func144,Tryz.ntmps144
    go_wp2
    go_loopw [8,40] (fun v k wr=>v=.slice none 0 0∧k=.int .i64 0∧w=wr) (fun _ _ _=>0)
    case atStart=>exact ⟨rfl,rfl,rfl⟩
    case round =>
     obtain ⟨rfl,rfl,rfl⟩:=hrel
     go_wp2_with (go_at_call 159;(with_reducible refine (HNUM.out _ _ _).mono ?_);rintro e w' ⟨rfl,k1,rfl⟩)
     go_ret3
     exact ⟨by rw [HFF.out];first|rfl|go_num,belD (belR _) _⟩
   ·have t8:((n:Int)==8)=false:=by rw [beq_eq_false_iff_ne];omega
    have H8:=Lib.hid h8;clear h8
    go_enter Tryz.func144,Tryz.ntmps144
    go_wp2
    go_loopw [8,40] (fun v k wr=>v=.slice none 0 0∧k=.int .i64 0∧w=wr) (fun _ _ _=>0)
    case atStart=>exact ⟨rfl,rfl,rfl⟩
    case round =>
     obtain ⟨rfl,rfl,rfl⟩:=hrel
     go_wp2_with (go_at_call 159;(with_reducible refine (HNUM.out _ _ _).mono ?_);rintro e w' ⟨rfl,k1,rfl⟩)
     go_ret3
     exact ⟨by rw [HFF.out];first|rfl|go_num,belD (belR _) _⟩
  ·have t1:((N.2:Int) != 0)=true:=by rw [bne_iff_ne];omega
   have hf:=HF.out
   rw [if_neg he] at hf
   have HFF:=Lib.hid hf;have HE:=Lib.hid he;clear hf he
   by_cases h8:n=8
   ·have t8:((n:Int)==8)=true:=by rw [h8];rfl
    have H8:=Lib.hid h8;clear h8
    go_enter Tryz.func144,Tryz.ntmps144
    go_wp2
    go_loopw [8,40] (fun v k wr=>v=.slice none 0 0∧k=.int .i64 0∧w=wr) (fun _ _ _=>0)
    case atStart=>exact ⟨rfl,rfl,rfl⟩
    case round =>
     obtain ⟨rfl,rfl,rfl⟩:=hrel
     go_wp2_with (go_at_call 159;(with_reducible refine (HNUM.out _ _ _).mono ?_);rintro e w' ⟨rfl,k1,rfl⟩)
     go_ret3
     exact ⟨by rw [HFF.out];first|rfl|go_num,belD (belR _) _⟩
   ·have t8:((n:Int)==8)=false:=by rw [beq_eq_false_iff_ne];omega
    have H8:=Lib.hid h8;clear h8
    go_enter Tryz.func144,Tryz.ntmps144
    go_wp2
    go_loopw [8,40] (fun v k wr=>v=.slice none 0 0∧k=.int .i64 0∧w=wr) (fun _ _ _=>0)
    case atStart=>exact ⟨rfl,rfl,rfl⟩
    case round =>
     obtain ⟨rfl,rfl,rfl⟩:=hrel
     go_wp2_with (go_at_call 159;(with_reducible refine (HNUM.out _ _ _).mono ?_);rintro e w' ⟨rfl,k1,rfl⟩)
     go_ret3
     exact ⟨by rw [HFF.out];first|rfl|go_num,belD (belR _) _⟩
theorem getI_any (A:Option Addr) (m c:Nat) (t:List UInt8) (w:World) (h:Rd w w.heap.size 1 A m (u8s t)) (hmc:m≤c) (hc:c≤maxLen) :
 Calls Tryz.prog 144 #[.slice A m c] w fun e w'=>e=.returned (.tuple #[.int .i64 (getI t).1,.int .i64 ((getI t).2.1:Nat),.int .i64 ((getI t).2.2:Nat)])∧Below w.heap.size w w':=by
 obtain rfl:m=t.length:=h.u8.symm
 cases t with
 | nil=>exact getI_nil A c w
 | cons x t =>
   obtain ⟨a,rfl,_⟩:=h.2 (by simp)
   have hl:(x::t).length=t.length+1:=rfl
   rw [hl] at h hmc ⊢
   by_cases hx17:17<x.toNat
   ·exact getI_form a c x t w h hmc hc hx17
   ·by_cases hc1:1<c
    ·by_cases hx9:x.toNat<9
     ·exact getI_neg a c (8-x.toNat) _ x t w h hmc hc (by omega) hc1 rfl
     ·exact getI_pos a c (x.toNat-9) _ x t w h hmc hc (by omega) (by omega) hc1 rfl
    ·obtain rfl:t=[]:=List.eq_nil_of_length_eq_zero (by omega)
     obtain rfl:c=1:=by simp at hmc;omega
     by_cases hx9:x.toNat<9
     ·exact getI_one a (8-x.toNat) x true w h (by omega) (.inr ⟨rfl,by omega⟩)
     ·exact getI_one a (x.toNat-9) x false w h (by omega) (.inl ⟨rfl,by omega⟩)
def RdS (w:World) (g:Nat) (t:List UInt8) (p e:Nat):Prop :=
 ∃ A c,Blk w g 98 #[.slice A t.length c,.int .i64 (p:Int),.int .i64 (e:Int)]∧Rd w g 1 A t.length (u8s t)∧t.length≤c∧c≤maxLen∧p≤t.length
section
variable {w w':World} {g p e:Nat} {t:List UInt8}
theorem RdS.lt (h:RdS w g t p e):g<w.heap.size:=by obtain ⟨A,c,hb,_⟩:=h;exact hb.lt
theorem RdS.drw (h:RdS w g t p e) (k:Drw w w'):RdS w' g t p e:=by
 obtain ⟨n,rfl⟩:=k;exact h
theorem RdS.below {B:Nat} (h:RdS w g t p e) (hb:Below B w w') (hg:g<B):RdS w' g t p e:=by
 obtain ⟨A,c,h1,h2,h3⟩:=h
 exact ⟨A,c,h1.below hb hg,h2.keep fun q hq=>hb.cell (by omega),h3⟩
theorem RdS.bad (h:RdS w g t p e) (e':Nat):RdS (w.setCell ⟨g,2,none⟩ (.int .i64 (e':Int))) g t p e':=by
 obtain ⟨A,c,hb,hR,r⟩:=h
 have:=hb.set_ 2 (.int .i64 (e':Int))
 exact ⟨A,c,by simpa using this,hR.keep fun q hq=>World.cell?_setCell_other w _ q _ (fun e=>by subst e;simp at hq),r⟩
theorem RdS.move (h:RdS w g t p e) (p':Nat) (hp:p'≤t.length):RdS (w.setCell ⟨g,1,none⟩ (.int .i64 (p':Int))) g t p' e:=by
 obtain ⟨A,c,hb,hR,h1,h2,h3⟩:=h
 have:=hb.set_ 1 (.int .i64 (p':Int))
 exact ⟨A,c,by simpa using this,hR.keep fun q hq=>World.cell?_setCell_other w _ q _ (fun e=>by subst e;simp at hq),h1,h2,hp⟩
end
def Lit3 (w w':World):Prop:=∃ c1 t1 c2 t2 c3 t3 k,w'=(((w.alloc (.cells c1 t1)).alloc (.cells c2 t2)).alloc (.cells c3 t3)).drewN k
theorem Lit3.below {w w':World} (h:Lit3 w w'):Below w.heap.size w w':=by
 obtain ⟨_,_,_,_,_,_,k,rfl⟩:=h;exact belD (belA (belA (belA (belR w) _) _) _) k
theorem bel_lit3 (W:World) (a b c:Obj) (k:Nat):Below W.heap.size W ((((W.alloc a).alloc b).alloc c).drewN k):=belD (belA (belA (belA (belR _) _) _) _) _
end Go.Proofs.YtfhmaincnlaapaaGreat
