/- bushelref12.Float: the number of a key. -/
import Derived.Deep.DeepCutAuto
import Derived.Test.YtfhmaincnlaapaaGreatTrFloNearM
namespace Go.Proofs.YtfhmaincnlaapaaGreat
open Go.ChangeShapes Go.WideShapes Go.ChangeAt Go.RowKit Ieee
set_option linter.unusedVariables false
set_option linter.unusedSimpArgs false
structure NearW (w wr:World) (AP:Option Addr) (nP cP P:Nat) (AQ:Option Addr) (nQ cQ Q:Nat):Prop where
 a:Blk wr w.heap.size 134 #[.bool false,.slice AP nP cP]
 b:Blk wr (w.heap.size+1) 134 #[.bool false,.slice AQ nQ cQ]
 p:NumV wr wr.heap.size false AP nP cP (P:Int)
 q:NumV wr wr.heap.size false AQ nQ cQ (Q:Int)
 n:Below w.heap.size w wr
section
variable {w wr w':World} {AP AQ AS:Option Addr} {nP cP P nQ cQ Q nS cS R:Nat}
theorem NearW.below (h:NearW w wr AP nP cP P AQ nQ cQ Q) (hb:Below wr.heap.size wr w'):NearW w w' AP nP cP P AQ nQ cQ Q :=
 ⟨h.a.below hb h.a.lt,h.b.below hb h.b.lt,h.p.keep hb hb.size,h.q.keep hb hb.size,belT h.n hb⟩
theorem NearW.putP (h:NearW w wr AP nP cP P AQ nQ cQ Q) (hv:NumV wr wr.heap.size false AS nS cS (R:Int)) :
 NearW w ((wr.setCell ⟨w.heap.size,0,none⟩ (.bool false)).setCell ⟨w.heap.size,1,none⟩ (.slice AS nS cS)) AS nS cS R AQ nQ cQ Q:=by
 have hp:=hv.put h.a (Nat.le_refl _)
 have hq:=h.q.far2 h.a false AS nS cS
 exact ⟨hp.2,(h.b.far (by simp only [ne_eq];omega) _).far (by simp only [ne_eq];omega) _,hp.1,⟨hq.sgn,hq.len,hq.rd.more (by simp),hq.hc,hq.hm⟩,(h.n.setCell (by simp only;omega) _).setCell (by simp only;omega) _⟩
theorem NearW.putQ (h:NearW w wr AP nP cP P AQ nQ cQ Q) (hv:NumV wr wr.heap.size false AS nS cS (R:Int)) :
 NearW w ((wr.setCell ⟨w.heap.size+1,0,none⟩ (.bool false)).setCell ⟨w.heap.size+1,1,none⟩ (.slice AS nS cS)) AP nP cP P AS nS cS R:=by
 have hp:=hv.put h.b (Nat.le_refl _)
 have hq:=h.p.far2 h.b false AS nS cS
 exact ⟨(h.a.far (by simp only [ne_eq];omega) _).far (by simp only [ne_eq];omega) _,hp.2,⟨hq.sgn,hq.len,hq.rd.more (by simp),hq.hc,hq.hm⟩,hp.1,(h.n.setCell (by simp only;omega) _).setCell (by simp only;omega) _⟩
theorem drws_below {w w':World} (h:Drws w w'):Below w.heap.size w w':=Drw.below h (belR w)
theorem NearW.drew (h:NearW w wr AP nP cP P AQ nQ cQ Q):NearW w wr.drew AP nP cP P AQ nQ cQ Q:=h.below (belR wr).drew
theorem NumV.pos {B n c x:Nat} {b:Bool} {A:Option Addr} (h:NumV w B b A n c (x:Int)):b=false:=by
 rw [h.sgn];exact decide_eq_false (by omega)
theorem NumV.up {B n1 n c p d:Nat} {b:Bool} {A:Option Addr} (h1:(dig p).length=n1) (h:NumV w B b A n c ((p*p2 d:Nat):Int)):n≤n1+d:=by
 refine h.dlen ?_
 rw [Nat.pow_add]
 have h2:=pow_dig p n1 h1
 have h3:p2 d≤1000^d:=Nat.pow_le_pow_left (by decide) d
 exact Nat.lt_of_lt_of_le (Nat.mul_lt_mul_of_pos_right h2 (p2_pos d)) (Nat.mul_le_mul_left _ h3)
end
theorem pow_le2 (a b:Nat) (h:a≤b):2^a≤1*2^b:=by rw [Nat.one_mul];exact Nat.pow_le_pow_right (by decide) h
theorem times_infN (w:World) (n:Nat) (hn:n=3074):Calls Tryz.prog 196 #[.float .f64 4607182418800017408,.int .i64 ((n:Int)-1074)] w fun y w'=>y=.returned (.float .f64 irg)∧Below w.heap.size w w':=by
 have h:=times_any w 1 n 4607182418800017408 (by decide) (by decide) (by rw [show (4607182418800017408:Nat)=ir 1 from by decide +kernel,(ir_vl 1 (by decide)).2]) (by omega)
 refine h.mono ?_
 rintro y w' ⟨⟨r,rfl,_,_,hr⟩,hd⟩
 exact ⟨by rw [hr (pow_le2 _ _ (by have:=FF_eq;omega))],drws_below hd⟩
theorem times_inf (w:World):Calls Tryz.prog 196 #[.float .f64 4607182418800017408,.int .i64 2000] w fun y w'=>y=.returned (.float .f64 irg)∧Below w.heap.size w w':=times_infN w 3074 rfl
def NearX (w wx:World) (p P:Nat) (AQ:Option Addr) (nQ cQ Q k:Nat):Prop:=∃ AP nP cP,NearW w wx AP nP cP P AQ nQ cQ Q∧nP≤k
def NearY (w wx:World) (AP:Option Addr) (nP cP P Q k:Nat):Prop:=∃ AQ nQ cQ,NearW w wx AP nP cP P AQ nQ cQ Q∧nQ≤k
set_option maxRecDepth 20000 in
set_option maxHeartbeats 8000000 in
theorem near_any (w:World) (B:Nat) (A1:Option Addr) (n1 c1 p:Nat) (A2:Option Addr) (n2 c2 q x:Nat) (h1:NumV w B false A1 n1 c1 (p:Int)) (h2:NumV w B false A2 n2 c2 (q:Int)) (hB:B≤w.heap.size) (hn1:n1≤50000) (hn2:n2≤50000) (hq:0<q) (hx:x≤12000) :
 Calls Tryz.prog 166 #[.agg #[.bool false,.slice A1 n1 c1],.agg #[.bool false,.slice A2 n2 c2],.int .i64 ((x:Int)-9000)] w fun y w'=>RetFlo w (NearOk p q x) y w':=by
 obtain ⟨W0,hW0⟩:∃ W0,W0=(w.alloc (.cells #[.bool false,.slice A1 n1 c1] 134)).alloc (.cells #[.bool false,.slice A2 n2 c2] 134):=⟨_,rfl⟩
 have hd0:NearW w W0 A1 n1 c1 p A2 n2 c2 q:=by
  have hb:Below w.heap.size w W0:=by rw [hW0];exact belA (belA (belR w) _) _
  refine ⟨by rw [hW0];exact (Blk.new w _ _).alloc _,?_,h1.keep (hb.mono hB) (Nat.le_trans hB hb.size),h2.keep (hb.mono hB) (Nat.le_trans hB hb.size),hb⟩
  rw [hW0];have:=Blk.new (w.alloc (.cells #[.bool false,.slice A1 n1 c1] 134)) 134 #[.bool false,.slice A2 n2 c2]
  simpa using this
 have hl1:=h1.len;have hl2:=h2.len
 rw [Int.natAbs_natCast] at hl1 hl2
 have HL1:=Lib.hid hl1.symm;have HL2:=Lib.hid hl2.symm;have HW0:=Lib.hid hW0;have HD0:=Lib.hid hd0;have HQ:=Lib.hid hq
 have g1:decide ((x:Int)-9000>3000)=false:=decide_eq_false (by omega)
 have g2:decide ((x:Int)-9000 < -9000)=false:=decide_eq_false (by omega)
 clear hW0 hd0 h1 h2 hl1 hl2 hq
 go_enter Tryz.func166,Tryz.ntmps166
 go_wp2
 rw [←HW0.out]
 clear g1 g2
 go_loopw [7,8] (fun vlo vhi wr=>∃ L U:Nat,L≤U∧U≤2098∧vlo=.int .i64 ((L:Int)-1074)∧vhi=.int .i64 ((U:Int)-1074)∧Hid (∀ b,b<L→belX p q x b=false)∧Hid (U<2098→belX p q x U=true)∧Hid (NearW w wr A1 n1 c1 p A2 n2 c2 q)) (fun vlo vhi _=>(intOf vhi-intOf vlo).toNat)
 case atStart=>exact ⟨0,2098,by omega,by omega,(by first|rfl|go_num),(by first|rfl|go_num),Lib.hid fun b hb=>by omega,Lib.hid fun hb=>by omega,HD0.out⟩
 case round =>
  obtain ⟨L,U,hLU,hU,rfl,rfl,HLo,HHi,HD⟩:=hrel
  by_cases hlt:L<U
  ·obtain ⟨M,hM⟩:∃ M,L+(U-L)/2=M:=⟨_,rfl⟩
   have hM1:L≤M:=by omega
   have hM2:M<U:=by omega
   have g1:decide ((L:Int)-1074<(U:Int)-1074)=true:=decide_eq_true (by omega)
   have e1:(U:Int)-1074-((L:Int)-1074)=((U-L:Nat):Int):=by omega
   have e5:(L:Int)-1074+((U-L:Nat):Int)/2=(M:Int)-1074:=by omega
   have hd:=HD.out
   have a0:=hd.a.cell 0;have a1:=hd.a.cell 1;have b0:=hd.b.cell 0;have b1:=hd.b.cell 1
   simp at a0 a1 b0 b1
   have HBE:=Lib.hid (belowX_any wr wr.heap.size A1 n1 c1 p A2 n2 c2 q x M hd.p hd.q (Nat.le_refl _) (by omega) (by omega) hx (by omega))
   clear hd
   go_wp2_with fail
   (with_reducible refine HBE.out.mono ?_);rintro y w5 ⟨rfl,hb5⟩
   have HD5:=Lib.hid (HD.out.below hb5)
   clear hb5 HBE a0 a1 b0 b1
   cases hbx:belX p q x M with
   | true =>
     have HBX:=Lib.hid hbx
     clear hbx
     go_wp2
     go_roundw
     case rel=>exact ⟨L,M,hM1,by omega,rfl,(by first|rfl|go_num),HLo.out,Lib.hid fun _=>HBX.out,HD5.out⟩
     case measure=>simp [intOf];omega
   | false =>
     have HBX:=Lib.hid hbx
     have e6:(M:Int)-1074+1=((M+1:Nat):Int)-1074:=by omega
     clear hbx
     go_wp2
     go_roundw
     case rel=>exact ⟨M+1,U,by omega,hU,(by first|rw [e6]|go_num|rfl),rfl,Lib.hid fun b hb=>belX_anti HBX.out (by omega),HHi.out,HD5.out⟩
     case measure=>simp [intOf];omega
  ·obtain rfl:L=U:=by omega
   have g1:decide ((L:Int)-1074<(L:Int)-1074)=false:=decide_eq_false (by omega)
   by_cases hbig:2045<L
   ·have g2:decide ((L:Int)-1074>971)=true:=decide_eq_true (by omega)
    have HT:=Lib.hid times_inf
    clear hlt
    go_wp2_with (go_at_call 196;(with_reducible refine (HT.out _).mono ?_);rintro y w6 ⟨rfl,hb6⟩)
    go_ret
    exact ⟨irg,rfl,⟨L,HLo.out,.inl ⟨hbig,hU,rfl⟩⟩,belT HD.out.n hb6⟩
   have g2:decide ((L:Int)-1074>971)=false:=decide_eq_false (by omega)
   have hbt:=HHi.out (by omega)
   have hhi:=belX_hi hbt
   have HBT:=Lib.hid hbt;have HHI:=Lib.hid hhi
   have HVM:=Lib.hid (rnd_le (upQ_pos x L HQ.out) hhi)
   have HQP:=Lib.hid (upQ_pos x L HQ.out)
   have HV0:Hid (rnd (upP p x L) (upQ q x L)=0→L=0):=Lib.hid fun h=>by
    cases L with
    | zero=>rfl
    | succ l =>
      have:=rnd_ge (upQ_pos x (l+1) HQ.out) (belX_lo (HLo.out l (by omega)))
      omega
   clear hbt hhi HHi hlt
   have hd:=HD.out
   have a0:=hd.a.cell 0;have a1:=hd.a.cell 1;have b0:=hd.b.cell 0;have b1:=hd.b.cell 1
   have f0:=hd.a.frozen 0;have f1:=hd.a.frozen 1;have f2:=hd.b.frozen 0;have f3:=hd.b.frozen 1
   simp at a0 a1 b0 b1
   clear hd
   rcases Nat.lt_or_ge x (L+7926) with hxl|hxl
   ·have g3:decide ((x:Int)-9000≥(L:Int)-1074)=false:=decide_eq_false (by omega)
    obtain ⟨d,hd⟩:∃ d,L+7926-x=d:=⟨_,rfl⟩
    have e7:(L:Int)-1074-((x:Int)-9000)=(d:Int):=by omega
    have hdd:d≤12000:=by omega
    have HTW:=Lib.hid (fun W=>two01_any W d (by omega))
    have HPE:Hid (upP p x L=p):=Lib.hid (by unfold upP;rw [show x-(L+7926)=0 from by omega,p2_0,Nat.mul_one])
    have HQE:Hid (upQ q x L=q*p2 d):=Lib.hid (by unfold upQ;rw [hd])
    have wd:IntKind.i64.wrap (d:Int)=(d:Int):=IntWalk.i64_in _ (by omega)
    clear hd
    go_upto_region 15 with (fail)
    clear g1 g2 g3
    go_cut [53] (fun v53 wx=>NearY w wx A1 n1 c1 p (q*p2 d) (n2+d))
    case first =>
     go_region_with (first
      | (go_at_call 197;(try rw [e7]);(with_reducible refine (HTW.out _).mono ?_);rintro y w7 ⟨b7,A7,n7,c7,rfl,hv7,hb7⟩;have HD7:=Lib.hid (HD.out.drew.below hb7);have hn7:=p2_len hv7;have u0:=HD7.out.b.cell 0;have u1:=HD7.out.b.cell 1;simp at u0 u1;have HMU:=Lib.hid (mul01_any w7 w7.heap.size false A2 n2 c2 (q:Int) b7 A7 n7 c7 _ HD7.out.q hv7 (Nat.le_refl _) (by omega) (by omega));clear hv7 hb7 hn7)
      | (go_at_call 186;(with_reducible refine HMU.out.mono ?_);rintro y w8 ⟨b8,A8,n8,c8,rfl,hv8,hb8⟩;rw [←Int.natCast_mul] at hv8;have hb:=hv8.pos;subst hb;have HD8:=Lib.hid (HD7.out.below hb8);have u2:=HD8.out.b.cell 0;have u3:=HD8.out.b.cell 1;simp at u2 u3;have f4:=HD8.out.b.frozen 0;have f5:=HD8.out.b.frozen 1;have HP8:Hid (NearY w _ A1 n1 c1 p (q*p2 d) (n2+d)):=Lib.hid ⟨A8,n8,c8,HD8.out.putQ hv8,hv8.up HL2.out⟩;clear hv8 hb8))
     all_goals
      go_wp2
      go_meet
      case rel=>exact HP8.out
    case rest =>
     obtain ⟨AQ,nQ,cQ,hdx,hnQ⟩:=hcut
     clear a0 a1 b0 b1 f0 f1 f2 f3 HTW
     obtain ⟨Q,hQ⟩:∃ Q,q*p2 d=Q:=⟨_,rfl⟩
     rw [hQ] at hdx HQE
     obtain ⟨AP,nP,cP,P,rfl,rfl,rfl,rfl⟩:∃ AP nP cP P,AP=A1∧nP=n1∧cP=c1∧P=p:=⟨_,_,_,_,rfl,rfl,rfl,rfl⟩
     have HDX:=Lib.hid hdx
     have hvm:=HVM.out;have hqp:=HQP.out;have hv0:=HV0.out
     rw [HPE.out,HQE.out] at hvm hv0
     rw [HQE.out] at hqp
     have hlQ:P%Q<Q:=Nat.mod_lt _ hqp
     have hdv:=div01_any wc wc.heap.size AP nP cP P AQ nQ cQ Q hdx.p hdx.q (Nat.le_refl _) (by omega) (by omega) hqp
     have hqd:=hdx.q.len
     rw [Int.natAbs_natCast] at hqd
     have hqx:=pow_dig Q nQ hqd.symm
     have hrd:rnd P Q=if Q<P%Q+P%Q∨P%Q+P%Q=Q∧P/Q%2=1 then P/Q+1 else P/Q:=rfl
     obtain ⟨m,hm⟩:∃ m,P/Q=m:=⟨_,rfl⟩
     obtain ⟨l,hl⟩:∃ l,P%Q=l:=⟨_,rfl⟩
     rw [hm,hl] at hdv hrd
     rw [hl] at hlQ
     rw [hm] at hvm
     obtain ⟨cv,hcv⟩:∃ cv,cmpZ ((l+l:Nat):Int) (Q:Int)=cv:=⟨_,rfl⟩
     have HDV:=Lib.hid hdv;have HLX:=Lib.hid (Nat.lt_trans hlQ hqx);have HCV:=Lib.hid hcv;have HRD:=Lib.hid hrd;have HVB:=Lib.hid hvm.2;have HV1:=Lib.hid hv0
     have hmb:=hvm.1
     clear HVM HQP HV0 hvm hv0 hdv hqd hqx hm hl hcv hrd
     have a0:=hdx.a.cell 0;have a1:=hdx.a.cell 1;have b0:=hdx.b.cell 0;have b1:=hdx.b.cell 1
     simp at a0 a1 b0 b1
     clear hdx
     go_wp2_with fail
     (with_reducible refine HDV.out.mono ?_);rintro y w6 ⟨b3,A3,n3,c3,b4,A4,n4,c4,rfl,hv3,hv4,hb6⟩
     have hd6:=HDX.out.below hb6
     clear a0 a1 b0 b1 HDV hb6
     obtain ⟨W7,hW7⟩:∃ W7,W7=(w6.alloc (.cells #[.bool b3,.slice A3 n3 c3] 134)).alloc (.cells #[.bool b4,.slice A4 n4 c4] 134):=⟨_,rfl⟩
     have hb7:Below w6.heap.size w6 W7:=by rw [hW7];exact belA (belA (belR w6) _) _
     have km:Blk W7 w6.heap.size 134 #[.bool b3,.slice A3 n3 c3]:=by rw [hW7];exact (Blk.new w6 _ _).alloc _
     have kl:Blk W7 (w6.heap.size+1) 134 #[.bool b4,.slice A4 n4 c4]:=by
      rw [hW7];have:=Blk.new (w6.alloc (.cells #[.bool b3,.slice A3 n3 c3] 134)) 134 #[.bool b4,.slice A4 n4 c4]
      simpa using this
     have hd7:=hd6.below hb7
     have hn4:=hv4.dlen HLX.out
     have HV3:=Lib.hid (hv3.keep hb7 hb7.size);have HV4:=Lib.hid (hv4.keep hb7 hb7.size);have HD7:=Lib.hid hd7;have HW7:=Lib.hid hW7;have HKM:=Lib.hid km
     clear hv3 hv4 hb7 hW7
     have b0:=hd7.b.cell 0;have b1:=hd7.b.cell 1;have c0:=kl.cell 0;have c1:=kl.cell 1
     simp at b0 b1 c0 c1
     have l1:=hd7.b.lt;have l2:=kl.lt
     clear hd6 hd7 km kl
     go_upto_region 17 with (fail)
     rw [←HW7.out]
     clear HW7
     generalize w6.heap.size=gm at *
     have HKP:Hid (∀ W,Below W7.heap.size W7 W→W.cell? ⟨w.heap.size+1,0,none⟩=some (.bool false)∧W.cell? ⟨w.heap.size+1,1,none⟩=some (.slice AQ nQ cQ)∧W.cell? ⟨gm+1,0,none⟩=some (.bool b4)∧W.cell? ⟨gm+1,1,none⟩=some (.slice A4 n4 c4)):=Lib.hid fun W hb=>⟨(hb.cell (p:=⟨w.heap.size+1,0,none⟩) (by simp only;omega)).trans b0,(hb.cell (p:=⟨w.heap.size+1,1,none⟩) (by simp only;omega)).trans b1,(hb.cell (p:=⟨gm+1,0,none⟩) (by simp only;omega)).trans c0,(hb.cell (p:=⟨gm+1,1,none⟩) (by simp only;omega)).trans c1⟩
     clear b0 b1 c0 c1
     refine wp_region_held_drew (S:=(fun W=>W.cell? ⟨w.heap.size+1,0,none⟩=some (.bool false)∧W.cell? ⟨w.heap.size+1,1,none⟩=some (.slice AQ nQ cQ)∧W.cell? ⟨gm+1,0,none⟩=some (.bool b4)∧W.cell? ⟨gm+1,1,none⟩=some (.slice A4 n4 c4))) (by kernel_rfl) (HKP.out _ (belR W7).drew) (fun hHeld=>?_)
     have HAD:=Lib.hid (add01_any W7.drew W7.heap.size b4 A4 n4 c4 (l:Int) b4 A4 n4 c4 (l:Int) (HV4.out.keep (belR W7).drew (Nat.le_refl _)) (HV4.out.keep (belR W7).drew (Nat.le_refl _)) (Nat.le_refl _) (by omega) (by omega))
     refine rh_take 0 (some 60) (v:=?_) rfl rfl (by kernel_rfl) (by kernel_rfl) (by kernel_rfl) (by kernel_rfl) (fun _ _ _ h=>h) hHeld ?_ ?_
     rotate_left
     ·(intro w hSw;(try dsimp only at hSw);go_simp;try with_reducible rfl)
     try simp only [Act.put,List.setIfInBounds_toArray,List.set_cons_zero,List.set_cons_succ]
     refine rh_take 1 (some 61) (v:=?_) rfl rfl (by kernel_rfl) (by kernel_rfl) (by kernel_rfl) (by kernel_rfl) (fun _ _ _ h=>h) hHeld ?_ ?_
     rotate_left
     ·(intro w hSw;(try dsimp only at hSw);go_simp;try with_reducible rfl)
     try simp only [Act.put,List.setIfInBounds_toArray,List.set_cons_zero,List.set_cons_succ]
     refine rh_take 3 (some 63) (v:=?_) rfl rfl (by kernel_rfl) (by kernel_rfl) (by kernel_rfl) (by kernel_rfl) (fun _ _ _ h=>h) hHeld ?_ ?_
     rotate_left
     ·(intro w hSw;(try dsimp only at hSw);go_simp;try with_reducible rfl)
     try simp only [Act.put,List.setIfInBounds_toArray,List.set_cons_zero,List.set_cons_succ]
     refine rh_call 2 (some 62) (by kernel_rfl) rfl rfl (by kernel_rfl) (fun K hK=>?_)
     clear hHeld
     go_simp
     go_at_call 185;(with_reducible refine HAD.out.mono ?_);rintro y w8 ⟨b8,A8,n8,c8,rfl,hv8,hb8⟩;rw [←Int.natCast_add] at hv8;have HB8:=Lib.hid ((belR W7).drew.trans hb8);have hcp:=cmp01_any w8 w8.heap.size b8 A8 n8 c8 _ false AQ nQ cQ (Q:Int) hv8 (HD7.out.below HB8.out).q (Nat.le_refl _);rw [HCV.out] at hcp;have HCP:=Lib.hid hcp;clear hv8 hb8 hcp
     refine hK.out _ _ (HKP.out _ HB8.out) (fun hHeld=>?_)
     clear hK K
     try simp only [Act.put,List.setIfInBounds_toArray,List.set_cons_zero,List.set_cons_succ]
     refine rh_call 4 (some 64) (by kernel_rfl) rfl rfl (by kernel_rfl) (fun K hK=>?_)
     clear hHeld
     go_simp
     go_at_call 199;(with_reducible refine HCP.out.mono ?_);rintro y w9 ⟨rfl,hb9⟩;have HB9:=Lib.hid (belT HB8.out hb9);clear hb9
     refine hK.out _ _ (HKP.out _ HB9.out) (fun hHeld=>?_)
     clear hK K
     try simp only [Act.put,List.setIfInBounds_toArray,List.set_cons_zero,List.set_cons_succ]
     refine rh_take 5 (some 12) (v:=?_) rfl rfl (by kernel_rfl) (by kernel_rfl) (by kernel_rfl) (by kernel_rfl) (fun _ _ _ h=>h) hHeld ?_ ?_
     rotate_left
     ·(intro w hSw;(try dsimp only at hSw);go_simp;try with_reducible rfl)
     try simp only [Act.put,List.setIfInBounds_toArray,List.set_cons_zero,List.set_cons_succ]
     refine wpAnyH_done (by kernel_rfl) ?_ _
     clear hHeld
     have hk9:=HKM.out.below HB9.out HKM.out.lt
     have e0:=hk9.cell 0;have e1:=hk9.cell 1
     simp at e0 e1
     have hui:=uint01_any w9 w9.heap.size b3 A3 n3 c3 (m:Int) (HV3.out.keep HB9.out HB9.out.size) (Nat.le_refl _) (by rw [Int.natAbs_natCast];omega)
     rw [Int.natAbs_natCast] at hui
     have HUI:=Lib.hid hui
     clear hk9 hui HV3 HV4 HKM HKP HAD HCP
     have w1:IntKind.u64.wrap ((m:Int)+1)=((m+1:Nat):Int):=by rw [IntKind.wrap_u64];omega
     have w2:IntKind.u64.wrap (m:Int)=(m:Int):=by rw [IntKind.wrap_u64];omega
     have hvb:=HVB.out
     rw [HRD.out] at hvb
     rcases Nat.lt_trichotomy (l+l) Q with hc|hc|hc
     ·obtain rfl:cv=-1:=by rw [←HCV.out];unfold cmpZ;rw [if_pos (by omega)]
      rw [if_neg (by omega)] at hvb
      have HTV:=Lib.hid (fun W=>timesV_any W m L (by omega) (fun h0=>HV1.out (by rw [HRD.out];(repeat' split)<;>omega)) (by omega))
      have hfi:floatOfInt .f64 ((m:Nat):Int)=fi m:=(fi_of m (by omega)).1
      have HRV:Hid (rnd P Q=m):=Lib.hid (by rw [HRD.out];(repeat' split)<;>omega)
      clear hvb
      go_wp2_with (first
       | (go_at_call 200;(with_reducible refine HUI.out.mono ?_);rintro y w10 ⟨rfl,hb10⟩;have HB10:=Lib.hid (belT HB9.out hb10);clear hb10)
       | (go_at_call 196;(try rw [hfi]);(try rw [hfi2]);(with_reducible refine (HTV.out _).mono ?_);rintro y w11 ⟨⟨r,rfl,hr⟩,hd11⟩;have HR:=Lib.hid hr;have HB11:=Lib.hid (belT HB10.out (drws_below hd11));clear hr hd11))
      go_ret
      exact ⟨r,rfl,⟨L,HLo.out,.inr ⟨by omega,HBT.out,by rw [HPE.out,HQE.out,HRV.out];exact HR.out⟩⟩,belT HD7.out.n HB11.out⟩
     ·obtain rfl:cv=0:=by rw [←HCV.out];unfold cmpZ;rw [if_neg (by omega),if_neg (by omega)]
      by_cases hmo:m%2=1
      ·have g5:(m:Int)%2=1:=by omega
       rw [if_pos (.inr ⟨hc,hmo⟩)] at hvb
       have HTV:=Lib.hid (fun W=>timesV_any W (m+1) L (by omega) (fun h0=>HV1.out (by rw [HRD.out];(repeat' split)<;>omega)) (by omega))
       have hfi:floatOfInt .f64 (((m+1):Nat):Int)=fi (m+1):=(fi_of (m+1) (by omega)).1
       have hfi2:floatOfInt .f64 ((m:Int)+1)=fi (m+1):=hfi
       have w3:IntKind.u64.wrap ((m:Int)+1)=(m:Int)+1:=by rw [IntKind.wrap_u64];omega
       clear w1
       have HRV:Hid (rnd P Q=(m+1)):=Lib.hid (by rw [HRD.out];(repeat' split)<;>omega)
       clear hvb
       go_wp2_with (first
        | (go_at_call 200;(with_reducible refine HUI.out.mono ?_);rintro y w10 ⟨rfl,hb10⟩;have HB10:=Lib.hid (belT HB9.out hb10);clear hb10)
        | (go_at_call 196;(try rw [hfi]);(try rw [hfi2]);(with_reducible refine (HTV.out _).mono ?_);rintro y w11 ⟨⟨r,rfl,hr⟩,hd11⟩;have HR:=Lib.hid hr;have HB11:=Lib.hid (belT HB10.out (drws_below hd11));clear hr hd11))
       go_ret
       exact ⟨r,rfl,⟨L,HLo.out,.inr ⟨by omega,HBT.out,by rw [HPE.out,HQE.out,HRV.out];exact HR.out⟩⟩,belT HD7.out.n HB11.out⟩
      ·have g5:(m:Int)%2=0:=by omega
       rw [if_neg (by omega)] at hvb
       have HTV:=Lib.hid (fun W=>timesV_any W m L (by omega) (fun h0=>HV1.out (by rw [HRD.out];(repeat' split)<;>omega)) (by omega))
       have hfi:floatOfInt .f64 ((m:Nat):Int)=fi m:=(fi_of m (by omega)).1
       have HRV:Hid (rnd P Q=m):=Lib.hid (by rw [HRD.out];(repeat' split)<;>omega)
       clear hvb
       go_wp2_with (first
        | (go_at_call 200;(with_reducible refine HUI.out.mono ?_);rintro y w10 ⟨rfl,hb10⟩;have HB10:=Lib.hid (belT HB9.out hb10);clear hb10)
        | (go_at_call 196;(try rw [hfi]);(try rw [hfi2]);(with_reducible refine (HTV.out _).mono ?_);rintro y w11 ⟨⟨r,rfl,hr⟩,hd11⟩;have HR:=Lib.hid hr;have HB11:=Lib.hid (belT HB10.out (drws_below hd11));clear hr hd11))
       go_ret
       exact ⟨r,rfl,⟨L,HLo.out,.inr ⟨by omega,HBT.out,by rw [HPE.out,HQE.out,HRV.out];exact HR.out⟩⟩,belT HD7.out.n HB11.out⟩
     ·obtain rfl:cv=1:=by rw [←HCV.out];unfold cmpZ;rw [if_neg (by omega),if_pos (by omega)]
      rw [if_pos (.inl hc)] at hvb
      have HTV:=Lib.hid (fun W=>timesV_any W (m+1) L (by omega) (fun h0=>HV1.out (by rw [HRD.out];(repeat' split)<;>omega)) (by omega))
      have hfi:floatOfInt .f64 (((m+1):Nat):Int)=fi (m+1):=(fi_of (m+1) (by omega)).1
      have hfi2:floatOfInt .f64 ((m:Int)+1)=fi (m+1):=hfi
      have w3:IntKind.u64.wrap ((m:Int)+1)=(m:Int)+1:=by rw [IntKind.wrap_u64];omega
      clear w1
      have HRV:Hid (rnd P Q=(m+1)):=Lib.hid (by rw [HRD.out];(repeat' split)<;>omega)
      clear hvb
      go_wp2_with (first
       | (go_at_call 200;(with_reducible refine HUI.out.mono ?_);rintro y w10 ⟨rfl,hb10⟩;have HB10:=Lib.hid (belT HB9.out hb10);clear hb10)
       | (go_at_call 196;(try rw [hfi]);(try rw [hfi2]);(with_reducible refine (HTV.out _).mono ?_);rintro y w11 ⟨⟨r,rfl,hr⟩,hd11⟩;have HR:=Lib.hid hr;have HB11:=Lib.hid (belT HB10.out (drws_below hd11));clear hr hd11))
      go_ret
      exact ⟨r,rfl,⟨L,HLo.out,.inr ⟨by omega,HBT.out,by rw [HPE.out,HQE.out,HRV.out];exact HR.out⟩⟩,belT HD7.out.n HB11.out⟩
   ·have g3:decide ((x:Int)-9000≥(L:Int)-1074)=true:=decide_eq_true (by omega)
    obtain ⟨d,hd⟩:∃ d,x-(L+7926)=d:=⟨_,rfl⟩
    have e7:(x:Int)-9000-((L:Int)-1074)=(d:Int):=by omega
    have hdd:d≤12000:=by omega
    have HTW:=Lib.hid (fun W=>two01_any W d (by omega))
    have HPE:Hid (upP p x L=p*p2 d):=Lib.hid (by unfold upP;rw [hd])
    have HQE:Hid (upQ q x L=q):=Lib.hid (by unfold upQ;rw [show L+7926-x=0 from by omega,p2_0,Nat.mul_one])
    have wd:IntKind.i64.wrap (d:Int)=(d:Int):=IntWalk.i64_in _ (by omega)
    clear hd
    go_upto_region 14 with (fail)
    clear g1 g2 g3
    go_cut [47] (fun v47 wx=>NearX w wx p (p*p2 d) A2 n2 c2 q (n1+d))
    case first =>
     go_region_with (first
      | (go_at_call 197;(try rw [e7]);(with_reducible refine (HTW.out _).mono ?_);rintro y w7 ⟨b7,A7,n7,c7,rfl,hv7,hb7⟩;have HD7:=Lib.hid (HD.out.drew.below hb7);have hn7:=p2_len hv7;have u0:=HD7.out.a.cell 0;have u1:=HD7.out.a.cell 1;simp at u0 u1;have HMU:=Lib.hid (mul01_any w7 w7.heap.size false A1 n1 c1 (p:Int) b7 A7 n7 c7 _ HD7.out.p hv7 (Nat.le_refl _) (by omega) (by omega));clear hv7 hb7 hn7)
      | (go_at_call 186;(with_reducible refine HMU.out.mono ?_);rintro y w8 ⟨b8,A8,n8,c8,rfl,hv8,hb8⟩;rw [←Int.natCast_mul] at hv8;have hb:=hv8.pos;subst hb;have HD8:=Lib.hid (HD7.out.below hb8);have u2:=HD8.out.a.cell 0;have u3:=HD8.out.a.cell 1;simp at u2 u3;have f4:=HD8.out.a.frozen 0;have f5:=HD8.out.a.frozen 1;have HP8:Hid (NearX w _ p (p*p2 d) A2 n2 c2 q (n1+d)):=Lib.hid ⟨A8,n8,c8,HD8.out.putP hv8,hv8.up HL1.out⟩;clear hv8 hb8))
     all_goals
      go_wp2
      go_meet
      case rel=>exact HP8.out
    case rest =>
     obtain ⟨AP,nP,cP,hdx,hnP⟩:=hcut
     clear a0 a1 b0 b1 f0 f1 f2 f3 HTW
     obtain ⟨P,hP⟩:∃ P,p*p2 d=P:=⟨_,rfl⟩
     rw [hP] at hdx HPE
     obtain ⟨AQ,nQ,cQ,Q,rfl,rfl,rfl,rfl⟩:∃ AQ nQ cQ Q,AQ=A2∧nQ=n2∧cQ=c2∧Q=q:=⟨_,_,_,_,rfl,rfl,rfl,rfl⟩
     have HDX:=Lib.hid hdx
     have hvm:=HVM.out;have hqp:=HQP.out;have hv0:=HV0.out
     rw [HPE.out,HQE.out] at hvm hv0
     rw [HQE.out] at hqp
     have hlQ:P%Q<Q:=Nat.mod_lt _ hqp
     have hdv:=div01_any wc wc.heap.size AP nP cP P AQ nQ cQ Q hdx.p hdx.q (Nat.le_refl _) (by omega) (by omega) hqp
     have hqd:=hdx.q.len
     rw [Int.natAbs_natCast] at hqd
     have hqx:=pow_dig Q nQ hqd.symm
     have hrd:rnd P Q=if Q<P%Q+P%Q∨P%Q+P%Q=Q∧P/Q%2=1 then P/Q+1 else P/Q:=rfl
     obtain ⟨m,hm⟩:∃ m,P/Q=m:=⟨_,rfl⟩
     obtain ⟨l,hl⟩:∃ l,P%Q=l:=⟨_,rfl⟩
     rw [hm,hl] at hdv hrd
     rw [hl] at hlQ
     rw [hm] at hvm
     obtain ⟨cv,hcv⟩:∃ cv,cmpZ ((l+l:Nat):Int) (Q:Int)=cv:=⟨_,rfl⟩
     have HDV:=Lib.hid hdv;have HLX:=Lib.hid (Nat.lt_trans hlQ hqx);have HCV:=Lib.hid hcv;have HRD:=Lib.hid hrd;have HVB:=Lib.hid hvm.2;have HV1:=Lib.hid hv0
     have hmb:=hvm.1
     clear HVM HQP HV0 hvm hv0 hdv hqd hqx hm hl hcv hrd
     have a0:=hdx.a.cell 0;have a1:=hdx.a.cell 1;have b0:=hdx.b.cell 0;have b1:=hdx.b.cell 1
     simp at a0 a1 b0 b1
     clear hdx
     go_wp2_with fail
     (with_reducible refine HDV.out.mono ?_);rintro y w6 ⟨b3,A3,n3,c3,b4,A4,n4,c4,rfl,hv3,hv4,hb6⟩
     have hd6:=HDX.out.below hb6
     clear a0 a1 b0 b1 HDV hb6
     obtain ⟨W7,hW7⟩:∃ W7,W7=(w6.alloc (.cells #[.bool b3,.slice A3 n3 c3] 134)).alloc (.cells #[.bool b4,.slice A4 n4 c4] 134):=⟨_,rfl⟩
     have hb7:Below w6.heap.size w6 W7:=by rw [hW7];exact belA (belA (belR w6) _) _
     have km:Blk W7 w6.heap.size 134 #[.bool b3,.slice A3 n3 c3]:=by rw [hW7];exact (Blk.new w6 _ _).alloc _
     have kl:Blk W7 (w6.heap.size+1) 134 #[.bool b4,.slice A4 n4 c4]:=by
      rw [hW7];have:=Blk.new (w6.alloc (.cells #[.bool b3,.slice A3 n3 c3] 134)) 134 #[.bool b4,.slice A4 n4 c4]
      simpa using this
     have hd7:=hd6.below hb7
     have hn4:=hv4.dlen HLX.out
     have HV3:=Lib.hid (hv3.keep hb7 hb7.size);have HV4:=Lib.hid (hv4.keep hb7 hb7.size);have HD7:=Lib.hid hd7;have HW7:=Lib.hid hW7;have HKM:=Lib.hid km
     clear hv3 hv4 hb7 hW7
     have b0:=hd7.b.cell 0;have b1:=hd7.b.cell 1;have c0:=kl.cell 0;have c1:=kl.cell 1
     simp at b0 b1 c0 c1
     have l1:=hd7.b.lt;have l2:=kl.lt
     clear hd6 hd7 km kl
     go_upto_region 17 with (fail)
     rw [←HW7.out]
     clear HW7
     generalize w6.heap.size=gm at *
     have HKP:Hid (∀ W,Below W7.heap.size W7 W→W.cell? ⟨w.heap.size+1,0,none⟩=some (.bool false)∧W.cell? ⟨w.heap.size+1,1,none⟩=some (.slice AQ nQ cQ)∧W.cell? ⟨gm+1,0,none⟩=some (.bool b4)∧W.cell? ⟨gm+1,1,none⟩=some (.slice A4 n4 c4)):=Lib.hid fun W hb=>⟨(hb.cell (p:=⟨w.heap.size+1,0,none⟩) (by simp only;omega)).trans b0,(hb.cell (p:=⟨w.heap.size+1,1,none⟩) (by simp only;omega)).trans b1,(hb.cell (p:=⟨gm+1,0,none⟩) (by simp only;omega)).trans c0,(hb.cell (p:=⟨gm+1,1,none⟩) (by simp only;omega)).trans c1⟩
     clear b0 b1 c0 c1
     refine wp_region_held_drew (S:=(fun W=>W.cell? ⟨w.heap.size+1,0,none⟩=some (.bool false)∧W.cell? ⟨w.heap.size+1,1,none⟩=some (.slice AQ nQ cQ)∧W.cell? ⟨gm+1,0,none⟩=some (.bool b4)∧W.cell? ⟨gm+1,1,none⟩=some (.slice A4 n4 c4))) (by kernel_rfl) (HKP.out _ (belR W7).drew) (fun hHeld=>?_)
     have HAD:=Lib.hid (add01_any W7.drew W7.heap.size b4 A4 n4 c4 (l:Int) b4 A4 n4 c4 (l:Int) (HV4.out.keep (belR W7).drew (Nat.le_refl _)) (HV4.out.keep (belR W7).drew (Nat.le_refl _)) (Nat.le_refl _) (by omega) (by omega))
     refine rh_take 0 (some 60) (v:=?_) rfl rfl (by kernel_rfl) (by kernel_rfl) (by kernel_rfl) (by kernel_rfl) (fun _ _ _ h=>h) hHeld ?_ ?_
     rotate_left
     ·(intro w hSw;(try dsimp only at hSw);go_simp;try with_reducible rfl)
     try simp only [Act.put,List.setIfInBounds_toArray,List.set_cons_zero,List.set_cons_succ]
     refine rh_take 1 (some 61) (v:=?_) rfl rfl (by kernel_rfl) (by kernel_rfl) (by kernel_rfl) (by kernel_rfl) (fun _ _ _ h=>h) hHeld ?_ ?_
     rotate_left
     ·(intro w hSw;(try dsimp only at hSw);go_simp;try with_reducible rfl)
     try simp only [Act.put,List.setIfInBounds_toArray,List.set_cons_zero,List.set_cons_succ]
     refine rh_take 3 (some 63) (v:=?_) rfl rfl (by kernel_rfl) (by kernel_rfl) (by kernel_rfl) (by kernel_rfl) (fun _ _ _ h=>h) hHeld ?_ ?_
     rotate_left
     ·(intro w hSw;(try dsimp only at hSw);go_simp;try with_reducible rfl)
     try simp only [Act.put,List.setIfInBounds_toArray,List.set_cons_zero,List.set_cons_succ]
     refine rh_call 2 (some 62) (by kernel_rfl) rfl rfl (by kernel_rfl) (fun K hK=>?_)
     clear hHeld
     go_simp
     go_at_call 185;(with_reducible refine HAD.out.mono ?_);rintro y w8 ⟨b8,A8,n8,c8,rfl,hv8,hb8⟩;rw [←Int.natCast_add] at hv8;have HB8:=Lib.hid ((belR W7).drew.trans hb8);have hcp:=cmp01_any w8 w8.heap.size b8 A8 n8 c8 _ false AQ nQ cQ (Q:Int) hv8 (HD7.out.below HB8.out).q (Nat.le_refl _);rw [HCV.out] at hcp;have HCP:=Lib.hid hcp;clear hv8 hb8 hcp
     refine hK.out _ _ (HKP.out _ HB8.out) (fun hHeld=>?_)
     clear hK K
     try simp only [Act.put,List.setIfInBounds_toArray,List.set_cons_zero,List.set_cons_succ]
     refine rh_call 4 (some 64) (by kernel_rfl) rfl rfl (by kernel_rfl) (fun K hK=>?_)
     clear hHeld
     go_simp
     go_at_call 199;(with_reducible refine HCP.out.mono ?_);rintro y w9 ⟨rfl,hb9⟩;have HB9:=Lib.hid (belT HB8.out hb9);clear hb9
     refine hK.out _ _ (HKP.out _ HB9.out) (fun hHeld=>?_)
     clear hK K
     try simp only [Act.put,List.setIfInBounds_toArray,List.set_cons_zero,List.set_cons_succ]
     refine rh_take 5 (some 12) (v:=?_) rfl rfl (by kernel_rfl) (by kernel_rfl) (by kernel_rfl) (by kernel_rfl) (fun _ _ _ h=>h) hHeld ?_ ?_
     rotate_left
     ·(intro w hSw;(try dsimp only at hSw);go_simp;try with_reducible rfl)
     try simp only [Act.put,List.setIfInBounds_toArray,List.set_cons_zero,List.set_cons_succ]
     refine wpAnyH_done (by kernel_rfl) ?_ _
     clear hHeld
     have hk9:=HKM.out.below HB9.out HKM.out.lt
     have e0:=hk9.cell 0;have e1:=hk9.cell 1
     simp at e0 e1
     have hui:=uint01_any w9 w9.heap.size b3 A3 n3 c3 (m:Int) (HV3.out.keep HB9.out HB9.out.size) (Nat.le_refl _) (by rw [Int.natAbs_natCast];omega)
     rw [Int.natAbs_natCast] at hui
     have HUI:=Lib.hid hui
     clear hk9 hui HV3 HV4 HKM HKP HAD HCP
     have w1:IntKind.u64.wrap ((m:Int)+1)=((m+1:Nat):Int):=by rw [IntKind.wrap_u64];omega
     have w2:IntKind.u64.wrap (m:Int)=(m:Int):=by rw [IntKind.wrap_u64];omega
     have hvb:=HVB.out
     rw [HRD.out] at hvb
     rcases Nat.lt_trichotomy (l+l) Q with hc|hc|hc
     ·obtain rfl:cv=-1:=by rw [←HCV.out];unfold cmpZ;rw [if_pos (by omega)]
      rw [if_neg (by omega)] at hvb
      have HTV:=Lib.hid (fun W=>timesV_any W m L (by omega) (fun h0=>HV1.out (by rw [HRD.out];(repeat' split)<;>omega)) (by omega))
      have hfi:floatOfInt .f64 ((m:Nat):Int)=fi m:=(fi_of m (by omega)).1
      have HRV:Hid (rnd P Q=m):=Lib.hid (by rw [HRD.out];(repeat' split)<;>omega)
      clear hvb
      go_wp2_with (first
       | (go_at_call 200;(with_reducible refine HUI.out.mono ?_);rintro y w10 ⟨rfl,hb10⟩;have HB10:=Lib.hid (belT HB9.out hb10);clear hb10)
       | (go_at_call 196;(try rw [hfi]);(try rw [hfi2]);(with_reducible refine (HTV.out _).mono ?_);rintro y w11 ⟨⟨r,rfl,hr⟩,hd11⟩;have HR:=Lib.hid hr;have HB11:=Lib.hid (belT HB10.out (drws_below hd11));clear hr hd11))
      go_ret
      exact ⟨r,rfl,⟨L,HLo.out,.inr ⟨by omega,HBT.out,by rw [HPE.out,HQE.out,HRV.out];exact HR.out⟩⟩,belT HD7.out.n HB11.out⟩
     ·obtain rfl:cv=0:=by rw [←HCV.out];unfold cmpZ;rw [if_neg (by omega),if_neg (by omega)]
      by_cases hmo:m%2=1
      ·have g5:(m:Int)%2=1:=by omega
       rw [if_pos (.inr ⟨hc,hmo⟩)] at hvb
       have HTV:=Lib.hid (fun W=>timesV_any W (m+1) L (by omega) (fun h0=>HV1.out (by rw [HRD.out];(repeat' split)<;>omega)) (by omega))
       have hfi:floatOfInt .f64 (((m+1):Nat):Int)=fi (m+1):=(fi_of (m+1) (by omega)).1
       have hfi2:floatOfInt .f64 ((m:Int)+1)=fi (m+1):=hfi
       have w3:IntKind.u64.wrap ((m:Int)+1)=(m:Int)+1:=by rw [IntKind.wrap_u64];omega
       clear w1
       have HRV:Hid (rnd P Q=(m+1)):=Lib.hid (by rw [HRD.out];(repeat' split)<;>omega)
       clear hvb
       go_wp2_with (first
        | (go_at_call 200;(with_reducible refine HUI.out.mono ?_);rintro y w10 ⟨rfl,hb10⟩;have HB10:=Lib.hid (belT HB9.out hb10);clear hb10)
        | (go_at_call 196;(try rw [hfi]);(try rw [hfi2]);(with_reducible refine (HTV.out _).mono ?_);rintro y w11 ⟨⟨r,rfl,hr⟩,hd11⟩;have HR:=Lib.hid hr;have HB11:=Lib.hid (belT HB10.out (drws_below hd11));clear hr hd11))
       go_ret
       exact ⟨r,rfl,⟨L,HLo.out,.inr ⟨by omega,HBT.out,by rw [HPE.out,HQE.out,HRV.out];exact HR.out⟩⟩,belT HD7.out.n HB11.out⟩
      ·have g5:(m:Int)%2=0:=by omega
       rw [if_neg (by omega)] at hvb
       have HTV:=Lib.hid (fun W=>timesV_any W m L (by omega) (fun h0=>HV1.out (by rw [HRD.out];(repeat' split)<;>omega)) (by omega))
       have hfi:floatOfInt .f64 ((m:Nat):Int)=fi m:=(fi_of m (by omega)).1
       have HRV:Hid (rnd P Q=m):=Lib.hid (by rw [HRD.out];(repeat' split)<;>omega)
       clear hvb
       go_wp2_with (first
        | (go_at_call 200;(with_reducible refine HUI.out.mono ?_);rintro y w10 ⟨rfl,hb10⟩;have HB10:=Lib.hid (belT HB9.out hb10);clear hb10)
        | (go_at_call 196;(try rw [hfi]);(try rw [hfi2]);(with_reducible refine (HTV.out _).mono ?_);rintro y w11 ⟨⟨r,rfl,hr⟩,hd11⟩;have HR:=Lib.hid hr;have HB11:=Lib.hid (belT HB10.out (drws_below hd11));clear hr hd11))
       go_ret
       exact ⟨r,rfl,⟨L,HLo.out,.inr ⟨by omega,HBT.out,by rw [HPE.out,HQE.out,HRV.out];exact HR.out⟩⟩,belT HD7.out.n HB11.out⟩
     ·obtain rfl:cv=1:=by rw [←HCV.out];unfold cmpZ;rw [if_neg (by omega),if_pos (by omega)]
      rw [if_pos (.inl hc)] at hvb
      have HTV:=Lib.hid (fun W=>timesV_any W (m+1) L (by omega) (fun h0=>HV1.out (by rw [HRD.out];(repeat' split)<;>omega)) (by omega))
      have hfi:floatOfInt .f64 (((m+1):Nat):Int)=fi (m+1):=(fi_of (m+1) (by omega)).1
      have hfi2:floatOfInt .f64 ((m:Int)+1)=fi (m+1):=hfi
      have w3:IntKind.u64.wrap ((m:Int)+1)=(m:Int)+1:=by rw [IntKind.wrap_u64];omega
      clear w1
      have HRV:Hid (rnd P Q=(m+1)):=Lib.hid (by rw [HRD.out];(repeat' split)<;>omega)
      clear hvb
      go_wp2_with (first
       | (go_at_call 200;(with_reducible refine HUI.out.mono ?_);rintro y w10 ⟨rfl,hb10⟩;have HB10:=Lib.hid (belT HB9.out hb10);clear hb10)
       | (go_at_call 196;(try rw [hfi]);(try rw [hfi2]);(with_reducible refine (HTV.out _).mono ?_);rintro y w11 ⟨⟨r,rfl,hr⟩,hd11⟩;have HR:=Lib.hid hr;have HB11:=Lib.hid (belT HB10.out (drws_below hd11));clear hr hd11))
      go_ret
      exact ⟨r,rfl,⟨L,HLo.out,.inr ⟨by omega,HBT.out,by rw [HPE.out,HQE.out,HRV.out];exact HR.out⟩⟩,belT HD7.out.n HB11.out⟩
theorem run_neg64 (w:World) (b:Nat):(Op.unary .neg (.float .f64 b)).run Tryz.prog w=.ok (.float .f64 (Op.negFloat .f64 b)) w:=by simp [Op.unary]
def sgnF (neg:Bool) (b:Nat):Nat:=if neg then Op.negFloat .f64 b else b
set_option maxRecDepth 20000 in
set_option maxHeartbeats 4000000 in
theorem sign03_any (w:World) (neg:Bool) (b:Nat):Calls Tryz.prog 139 #[.bool neg,.float .f64 b] w fun y w'=>y=.returned (.float .f64 (sgnF neg b))∧w'=w:=by
 have hng:=run_neg64
 cases neg with
 | false =>
   go_enter Tryz.func139,Tryz.ntmps139
   go_wp2
   go_ret
   exact ⟨rfl,rfl⟩
 | true =>
   go_enter Tryz.func139,Tryz.ntmps139
   go_wp2
   go_ret
   exact ⟨rfl,rfl⟩
theorem dig_pos_len {m:Nat} (h:0<m):0<(dig m).length:=by
 rcases Nat.eq_zero_or_pos (dig m).length with h0|h0
 ·have h1:=vd_dig m
  rw [List.eq_nil_of_length_eq_zero h0] at h1
  have:vd []=0:=rfl
  omega
 ·exact h0
set_option maxRecDepth 20000 in
set_option maxHeartbeats 4000000 in
theorem join03_any (w:World) (B:Nat) (neg:Bool) (A:Option Addr) (n c m x:Nat) (hv:NumV w B false A n c (m:Int)) (hB:B≤w.heap.size) (hm:0<m) (hn:n≤50000) (hx:x≤12000) :
 Calls Tryz.prog 113 #[.bool neg,.agg #[.bool false,.slice A n c],.int .i64 ((x:Int)-9000)] w fun y w'=>RetFlo w (fun r=>∃ s,NearOk m 1 x s∧r=sgnF neg s) y w':=by
 obtain ⟨W0,hW0⟩:∃ W0,W0=w.alloc (.cells #[.bool false,.slice A n c] 134):=⟨_,rfl⟩
 have hw:Below w.heap.size w W0:=by rw [hW0];exact belA (belR w) _
 have k1:Blk W0 w.heap.size 134 #[.bool false,.slice A n c]:=by rw [hW0];exact Blk.new w _ _
 have a0:=k1.cell 0;have a1:=k1.cell 1
 simp at a0 a1
 have l1:=k1.lt
 have hl:=hv.len
 rw [Int.natAbs_natCast] at hl
 have hpl:=dig_pos_len hm
 rw [←hl] at hpl
 have g0:decide ((n:Int)=0)=false:=decide_eq_false (by omega)
 have g1:decide ((x:Int)-9000>3000)=false:=decide_eq_false (by omega)
 have g2:decide ((x:Int)-9000 < -9000)=false:=decide_eq_false (by omega)
 have HV:=Lib.hid (fun W (hb:Below w.heap.size w W)=>hv.keep (hb.mono hB) (Nat.le_trans hB hb.size):∀ W,Below w.heap.size w W→NumV W W.heap.size false A n c (m:Int))
 have HNA:Hid (∀ W,Calls Tryz.prog 114 #[.int .u64 1] W fun y w'=>RetNum W ((1:Nat):Int) y w'):=Lib.hid fun W=>nat01_any W 1 (by decide)
 have HW0:=Lib.hid hW0;have HBW:=Lib.hid hw
 clear hW0 hw k1 hv hl
 go_enter Tryz.func113,Tryz.ntmps113
 go_upto_region 7 with (fail)
 rw [←HW0.out]
 have HKP:Hid (∀ W,Below W0.heap.size W0 W→W.cell? ⟨w.heap.size,0,none⟩=some (.bool false)∧W.cell? ⟨w.heap.size,1,none⟩=some (.slice A n c)):=Lib.hid fun W hb=>⟨(hb.cell (p:=⟨w.heap.size,0,none⟩) (by simp only;omega)).trans a0,(hb.cell (p:=⟨w.heap.size,1,none⟩) (by simp only;omega)).trans a1⟩
 clear a0 a1
 refine wp_region_held_drew (S:=(fun W=>W.cell? ⟨w.heap.size,0,none⟩=some (.bool false)∧W.cell? ⟨w.heap.size,1,none⟩=some (.slice A n c))) (by kernel_rfl) (HKP.out _ (belR W0).drew) (fun hHeld=>?_)
 refine rh_take 0 (some 19) (v:=?_) rfl rfl (by kernel_rfl) (by kernel_rfl) (by kernel_rfl) (by kernel_rfl) (fun _ _ _ h=>h) hHeld ?_ ?_
 rotate_left
 ·(intro w hSw;(try dsimp only at hSw);go_simp;try with_reducible rfl)
 try simp only [Act.put,List.setIfInBounds_toArray,List.set_cons_zero,List.set_cons_succ]
 refine rh_take 1 (some 20) (v:=?_) rfl rfl (by kernel_rfl) (by kernel_rfl) (by kernel_rfl) (by kernel_rfl) (fun _ _ _ h=>h) hHeld ?_ ?_
 rotate_left
 ·(intro w hSw;(try dsimp only at hSw);go_simp;try with_reducible rfl)
 try simp only [Act.put,List.setIfInBounds_toArray,List.set_cons_zero,List.set_cons_succ]
 refine rh_take 3 (some 22) (v:=?_) rfl rfl (by kernel_rfl) (by kernel_rfl) (by kernel_rfl) (by kernel_rfl) (fun _ _ _ h=>h) hHeld ?_ ?_
 rotate_left
 ·(intro w hSw;(try dsimp only at hSw);go_simp;try with_reducible rfl)
 try simp only [Act.put,List.setIfInBounds_toArray,List.set_cons_zero,List.set_cons_succ]
 refine rh_call 2 (some 21) (by kernel_rfl) rfl rfl (by kernel_rfl) (fun K hK=>?_)
 clear hHeld
 go_simp
 go_at_call 114;(with_reducible refine (HNA.out _).mono ?_);rintro y w7 ⟨b7,A7,n7,c7,rfl,hv7,hb7⟩;have hb:=NumV.pos (x:=1) hv7;subst hb;have HB7:=Lib.hid ((belR W0).drew.trans hb7);have hn7:n7≤1:=NumV.dlen (x:=1) hv7 (by decide);have HNE:=Lib.hid (near_any w7 w7.heap.size A n c m A7 n7 c7 1 x (HV.out w7 (belT HBW.out HB7.out)) hv7 (Nat.le_refl _) hn (by omega) (by decide) hx);clear hv7 hb7 hn7
 refine hK.out _ _ (HKP.out _ HB7.out) (fun hHeld=>?_)
 clear hK K
 try simp only [Act.put,List.setIfInBounds_toArray,List.set_cons_zero,List.set_cons_succ]
 refine rh_call 4 (some 23) (by kernel_rfl) rfl rfl (by kernel_rfl) (fun K hK=>?_)
 clear hHeld
 go_simp
 go_at_call 166;(with_reducible refine HNE.out.mono ?_);rintro y w8 ⟨s,rfl,hs,hb8⟩;have HS:=Lib.hid hs;have HB8:=Lib.hid (belT HB7.out hb8);clear hs hb8
 refine hK.out _ _ (HKP.out _ HB8.out) (fun hHeld=>?_)
 clear hK K
 try simp only [Act.put,List.setIfInBounds_toArray,List.set_cons_zero,List.set_cons_succ]
 refine rh_call 5 (some 24) (by kernel_rfl) rfl rfl (by kernel_rfl) (fun K hK=>?_)
 clear hHeld
 go_simp
 go_at_call 139;(with_reducible refine (sign03_any _ neg s).mono ?_);rintro y w9 ⟨rfl,rfl⟩
 refine hK.out _ _ (HKP.out _ HB8.out) (fun hHeld=>?_)
 clear hK K
 try simp only [Act.put,List.setIfInBounds_toArray,List.set_cons_zero,List.set_cons_succ]
 refine rh_take 6 (some 6) (v:=?_) rfl rfl (by kernel_rfl) (by kernel_rfl) (by kernel_rfl) (by kernel_rfl) (fun _ _ _ h=>h) hHeld ?_ ?_
 rotate_left
 ·(intro w hSw;(try dsimp only at hSw);go_simp;try with_reducible rfl)
 try simp only [Act.put,List.setIfInBounds_toArray,List.set_cons_zero,List.set_cons_succ]
 refine wpAnyH_done (by kernel_rfl) ?_ _
 clear hHeld
 go_wp2
 go_ret
 exact ⟨_,rfl,⟨s,HS.out,rfl⟩,belT HBW.out HB8.out⟩
theorem join03_zero (w:World) (neg:Bool) (A:Option Addr) (c:Nat) (e:Int) :
 Calls Tryz.prog 113 #[.bool neg,.agg #[.bool false,.slice A 0 c],.int .i64 e] w fun y w'=>RetFlo w (fun r=>r=sgnF neg 0) y w':=by
 have HBW:=Lib.hid (show Below w.heap.size w (w.alloc (.cells #[.bool false,.slice A 0 c] 134)) from belA (belR w) _)
 go_enter Tryz.func113,Tryz.ntmps113
 go_wp2_with (go_at_call 139;(with_reducible refine (sign03_any _ neg 0).mono ?_);rintro y w9 ⟨rfl,rfl⟩)
 go_ret
 exact ⟨_,rfl,rfl,HBW.out⟩
theorem near_exact {r s:Nat} (h0:0<r) (hr:r<irg) (h:NearOk (mg r) 1 (ex r+7926) s):s=r:=by
 obtain ⟨a,hlo,hh⟩:=h
 obtain ⟨hm1,hm2,hm3,hm4⟩:=mg_bound r hr
 have hb:belX (mg r) 1 (ex r+7926) (ex r)=true:=by
  rw [belX,decide_eq_true_iff]
  generalize ex r+7926=y
  rw [Nat.one_mul,p2_add,p2_53,Nat.mul_comm]
  exact Nat.mul_lt_mul_of_pos_left hm1 (p2_pos _)
 have ha:a≤ex r:=by
  rcases Nat.lt_or_ge (ex r) a with h1|h1
  ·rw [hlo _ h1] at hb;cases hb
  ·exact h1
 rcases hh with ⟨h1,_,_⟩|⟨h1,_,_,h2,_⟩
 ·omega
 ·have hP:upP (mg r) (ex r+7926) a=mg r*p2 (ex r-a):=by unfold upP;rw [show ex r+7926-(a+7926)=ex r-a from by omega]
  have hQ:upQ 1 (ex r+7926) a=1:=by unfold upQ;rw [show a+7926-(ex r+7926)=0 from by omega,p2_0]
  have hR:rnd (mg r*p2 (ex r-a)) 1*2^a=vl r:=by
   have e:rnd (mg r*p2 (ex r-a)) 1=mg r*p2 (ex r-a):=by unfold rnd;rw [Nat.mod_one,Nat.div_one];simp
   rw [e,vl,p2,Nat.mul_assoc,←Nat.pow_add,show ex r-a+a=ex r from by omega]
  rw [hP,hQ,hR] at h2
  obtain ⟨h3,h4⟩:=h2 (vl_pow r hr)
  rcases Nat.lt_trichotomy s r with h5|h5|h5
  ·have:=vl_lt h5;omega
  ·exact h5
  ·have:=vl_lt h5;omega
theorem joinR_any (w:World) (B:Nat) (A:Option Addr) (n c m r:Nat) (E:Int) (hr:r<irg) (hm:m=mg r) (hE:E=(ex r:Int)-1074) (hv:NumV w B false A n c (m:Int)) (hB:B≤w.heap.size) :
 Calls Tryz.prog 113 #[.bool false,.agg #[.bool false,.slice A n c],.int .i64 E] w fun y w'=>RetFlo w (fun s=>s=r) y w':=by
 subst hm
 rcases Nat.eq_zero_or_pos r with h0|h0
 ·obtain rfl:=h0
  have hn:n≤0:=hv.dlen (k:=0) (by decide)
  obtain rfl:n=0:=by omega
  exact (join03_zero w false A c E).mono fun y w' h=>h
 ·obtain ⟨h1,h2,h3,h4⟩:=mg_bound r hr
  have hmp:0<mg r:=by
   rcases Nat.eq_zero_or_pos (mg r) with h5|h5
   ·have:=vl_lt h0
    rw [vl_zero,vl,h5] at this;omega
   ·exact h5
  have:=join03_any w B false A n c (mg r) (ex r+7926) hv hB hmp (by have:=hv.len_le (k:=53) (by rw [Int.natAbs_natCast];exact h1);omega) (by omega)
  rw [show ((ex r+7926:Nat):Int)-9000=E from by omega] at this
  refine this.mono ?_
  rintro y w' ⟨s,rfl,⟨s',hs,rfl⟩,hb⟩
  exact ⟨_,rfl,near_exact h0 hr hs,hb⟩
def rk12 (k:Nat):Nat:=if k<9223372036854775808 then 9223372036854775807-k else k-9223372036854775808
def flo12 (k:Nat):Nat:=sgnF (decide (k<9223372036854775808)) (min (rk12 k) irg)
theorem div_inf:FloatKind.f64.format.div 4607182418800017408 0=some irg:=by decide +kernel
set_option maxRecDepth 20000 in
set_option maxHeartbeats 4000000 in
theorem float12_any (w:World) (k:Nat) (hk:k<18446744073709551615) :
 Calls Tryz.prog 48 #[.int .u64 (k:Int)] w fun y w'=>RetFlo w (fun s=>s=flo12 k) y w':=by
 have hng:=run_neg64
 have hinf:=fun w=>run_float_arith (P:=Tryz.prog) w .quo 57 .f64 4607182418800017408 0 irg div_inf
 have HNA:=Lib.hid (fun W (m:Nat) (hm:m<18446744073709551616)=>nat01_any W m hm)
 obtain ⟨r,hr⟩:∃ r,rk12 k=r:=⟨_,rfl⟩
 have hrb:r<9223372036854775808:=by rw [←hr];unfold rk12;split<;>omega
 have hfl:flo12 k=sgnF (decide (k<9223372036854775808)) (min r irg):=by rw [flo12,hr]
 have HFL:=Lib.hid hfl
 obtain ⟨e,he⟩:∃ e,r/4503599627370496=e:=⟨_,rfl⟩
 obtain ⟨m,hm⟩:∃ m,r%4503599627370496=m:=⟨_,rfl⟩
 have he1:e≤2047:=by omega
 have hme:m<4503599627370496:=by omega
 have g0:((k:Int)==18446744073709551615)=false:=by rw [beq_eq_false_iff_ne];omega
 have d1:(r:Int)/4503599627370496=(e:Int):=by omega
 have d2:(r:Int)%4503599627370496=(m:Int):=by omega
 have hre:r=4503599627370496*e+m:=by omega
 have wr_:IntKind.u64.wrap (r:Int)=(r:Int):=by rw [IntKind.wrap_u64];omega
 have we:IntKind.u64.wrap (e:Int)=(e:Int):=by rw [IntKind.wrap_u64];omega
 have wm:IntKind.u64.wrap (m:Int)=(m:Int):=by rw [IntKind.wrap_u64];omega
 obtain ⟨m2,hm2⟩:∃ m2,m+4503599627370496=m2:=⟨_,rfl⟩
 have hm3:m2<9007199254740992:=by omega
 have wmm:IntKind.u64.wrap ((m:Int)+4503599627370496)=(m2:Int):=by rw [IntKind.wrap_u64];omega
 unfold rk12 at hr
 clear hfl
 by_cases hb:k<9223372036854775808
 ·rw [if_pos hb] at hr
  have w2:IntKind.u64.wrap (9223372036854775807-(k:Int))=(r:Int):=by rw [IntKind.wrap_u64];omega
  have g1:decide ((k:Int)<9223372036854775808)=true:=decide_eq_true (by omega)
  have hd:decide (k<9223372036854775808)=true:=decide_eq_true hb
  rw [hd] at HFL
  clear hd hr
  rcases Nat.lt_or_ge r 4503599627370496 with h1|h1
  ·have g2:((e:Int)==2047)=false:=by rw [beq_eq_false_iff_ne];omega
   have g2d:decide ((e:Int)=2047)=false:=decide_eq_false (by omega)
   have g3:((e:Int)==0)=true:=by rw [beq_iff_eq];omega
   have g3d:decide ((e:Int)=0)=true:=decide_eq_true (by omega)
   have hrI:r<irg:=by unfold irg;omega
   have hmg:m=mg r:=by unfold mg;rw [if_pos h1];omega
   have hex:(-1074)=(ex r:Int)-1074:=by unfold ex;rw [if_pos h1];omega
   have HMN:Hid (min r irg=r):=Lib.hid (Nat.min_eq_left (Nat.le_of_lt hrI))
   have HJJ:=Lib.hid (fun W A n c hv hB=>joinR_any W W.heap.size A n c m r (-1074) hrI hmg hex hv hB)
   clear hrI hmg hex
   clear hre he hm hm2
   go_enter Tryz.func48,Tryz.ntmps48
   go_wp2_with (first
    | (go_at_call 114;(with_reducible refine (HNA.out _ m (by omega)).mono ?_);rintro y w7 ⟨b7,A7,n7,c7,rfl,hv7,hb7⟩;have hbb:=hv7.pos;subst hbb;have HJ:=Lib.hid (HJJ.out w7 A7 n7 c7 hv7 (Nat.le_refl _));have HB7:=Lib.hid hb7;clear hv7 hb7)
    | (go_at_call 113;(with_reducible refine HJ.out.mono ?_);rintro y w8 ⟨s,rfl,rfl,hb8⟩;have HB8:=Lib.hid (belT HB7.out hb8);clear hb8))
   go_ret
   exact ⟨_,rfl,by rw [HFL.out,HMN.out];rfl,HB8.out⟩
  ·rcases Nat.lt_or_ge e 2047 with h2|h2
   ·have g2:((e:Int)==2047)=false:=by rw [beq_eq_false_iff_ne];omega
    have g2d:decide ((e:Int)=2047)=false:=decide_eq_false (by omega)
    have g3:((e:Int)==0)=false:=by rw [beq_eq_false_iff_ne];omega
    have g3d:decide ((e:Int)=0)=false:=decide_eq_false (by omega)
    have hrI:r<irg:=by unfold irg;omega
    have hmg:m2=mg r:=by unfold mg;rw [if_neg (by omega)];omega
    have hex:((e:Int)-1075)=(ex r:Int)-1074:=by unfold ex;rw [if_neg (by omega)];omega
    have HMN:Hid (min r irg=r):=Lib.hid (Nat.min_eq_left (Nat.le_of_lt hrI))
    have HJJ:=Lib.hid (fun W A n c hv hB=>joinR_any W W.heap.size A n c m2 r ((e:Int)-1075) hrI hmg hex hv hB)
    clear hrI hmg hex
    clear hre he hm hm2
    go_enter Tryz.func48,Tryz.ntmps48
    go_wp2_with (first
     | (go_at_call 114;(with_reducible refine (HNA.out _ m2 (by omega)).mono ?_);rintro y w7 ⟨b7,A7,n7,c7,rfl,hv7,hb7⟩;have hbb:=hv7.pos;subst hbb;have HJ:=Lib.hid (HJJ.out w7 A7 n7 c7 hv7 (Nat.le_refl _));have HB7:=Lib.hid hb7;clear hv7 hb7)
     | (go_at_call 113;(with_reducible refine HJ.out.mono ?_);rintro y w8 ⟨s,rfl,rfl,hb8⟩;have HB8:=Lib.hid (belT HB7.out hb8);clear hb8))
    go_ret
    exact ⟨_,rfl,by rw [HFL.out,HMN.out];rfl,HB8.out⟩
   ·have g2:((e:Int)==2047)=true:=by rw [beq_iff_eq];omega
    have g2d:decide ((e:Int)=2047)=true:=decide_eq_true (by omega)
    have HMN:Hid (min r irg=irg):=Lib.hid (Nat.min_eq_right (by unfold irg;omega))
    clear HNA
    clear hre he hm hm2
    go_enter Tryz.func48,Tryz.ntmps48
    go_wp2
    go_ret
    exact ⟨_,rfl,by rw [HFL.out,HMN.out];rfl,belR _⟩
 ·rw [if_neg hb] at hr
  have w2:IntKind.u64.wrap ((k:Int)-9223372036854775808)=(r:Int):=by rw [IntKind.wrap_u64];omega
  have g1:decide ((k:Int)<9223372036854775808)=false:=decide_eq_false (by omega)
  have hd:decide (k<9223372036854775808)=false:=decide_eq_false hb
  rw [hd] at HFL
  clear hd hr
  rcases Nat.lt_or_ge r 4503599627370496 with h1|h1
  ·have g2:((e:Int)==2047)=false:=by rw [beq_eq_false_iff_ne];omega
   have g2d:decide ((e:Int)=2047)=false:=decide_eq_false (by omega)
   have g3:((e:Int)==0)=true:=by rw [beq_iff_eq];omega
   have g3d:decide ((e:Int)=0)=true:=decide_eq_true (by omega)
   have hrI:r<irg:=by unfold irg;omega
   have hmg:m=mg r:=by unfold mg;rw [if_pos h1];omega
   have hex:(-1074)=(ex r:Int)-1074:=by unfold ex;rw [if_pos h1];omega
   have HMN:Hid (min r irg=r):=Lib.hid (Nat.min_eq_left (Nat.le_of_lt hrI))
   have HJJ:=Lib.hid (fun W A n c hv hB=>joinR_any W W.heap.size A n c m r (-1074) hrI hmg hex hv hB)
   clear hrI hmg hex
   clear hre he hm hm2
   go_enter Tryz.func48,Tryz.ntmps48
   go_wp2_with (first
    | (go_at_call 114;(with_reducible refine (HNA.out _ m (by omega)).mono ?_);rintro y w7 ⟨b7,A7,n7,c7,rfl,hv7,hb7⟩;have hbb:=hv7.pos;subst hbb;have HJ:=Lib.hid (HJJ.out w7 A7 n7 c7 hv7 (Nat.le_refl _));have HB7:=Lib.hid hb7;clear hv7 hb7)
    | (go_at_call 113;(with_reducible refine HJ.out.mono ?_);rintro y w8 ⟨s,rfl,rfl,hb8⟩;have HB8:=Lib.hid (belT HB7.out hb8);clear hb8))
   go_ret
   exact ⟨_,rfl,by rw [HFL.out,HMN.out];rfl,HB8.out⟩
  ·rcases Nat.lt_or_ge e 2047 with h2|h2
   ·have g2:((e:Int)==2047)=false:=by rw [beq_eq_false_iff_ne];omega
    have g2d:decide ((e:Int)=2047)=false:=decide_eq_false (by omega)
    have g3:((e:Int)==0)=false:=by rw [beq_eq_false_iff_ne];omega
    have g3d:decide ((e:Int)=0)=false:=decide_eq_false (by omega)
    have hrI:r<irg:=by unfold irg;omega
    have hmg:m2=mg r:=by unfold mg;rw [if_neg (by omega)];omega
    have hex:((e:Int)-1075)=(ex r:Int)-1074:=by unfold ex;rw [if_neg (by omega)];omega
    have HMN:Hid (min r irg=r):=Lib.hid (Nat.min_eq_left (Nat.le_of_lt hrI))
    have HJJ:=Lib.hid (fun W A n c hv hB=>joinR_any W W.heap.size A n c m2 r ((e:Int)-1075) hrI hmg hex hv hB)
    clear hrI hmg hex
    clear hre he hm hm2
    go_enter Tryz.func48,Tryz.ntmps48
    go_wp2_with (first
     | (go_at_call 114;(with_reducible refine (HNA.out _ m2 (by omega)).mono ?_);rintro y w7 ⟨b7,A7,n7,c7,rfl,hv7,hb7⟩;have hbb:=hv7.pos;subst hbb;have HJ:=Lib.hid (HJJ.out w7 A7 n7 c7 hv7 (Nat.le_refl _));have HB7:=Lib.hid hb7;clear hv7 hb7)
     | (go_at_call 113;(with_reducible refine HJ.out.mono ?_);rintro y w8 ⟨s,rfl,rfl,hb8⟩;have HB8:=Lib.hid (belT HB7.out hb8);clear hb8))
    go_ret
    exact ⟨_,rfl,by rw [HFL.out,HMN.out];rfl,HB8.out⟩
   ·have g2:((e:Int)==2047)=true:=by rw [beq_iff_eq];omega
    have g2d:decide ((e:Int)=2047)=true:=decide_eq_true (by omega)
    have HMN:Hid (min r irg=irg):=Lib.hid (Nat.min_eq_right (by unfold irg;omega))
    clear HNA
    clear hre he hm hm2
    go_enter Tryz.func48,Tryz.ntmps48
    go_wp2
    go_ret
    exact ⟨_,rfl,by rw [HFL.out,HMN.out];rfl,belR _⟩
end Go.Proofs.YtfhmaincnlaapaaGreat
