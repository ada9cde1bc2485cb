/- bushelref08.Read of a number with a sign; of bytes. -/
import Derived.Laws.BitsAllLaws
import Derived.Deep.LoopGhost
import Derived.Deep.DeepCutAuto
import Derived.Test.YtfhmaincnlaapaaGreatTrSy2
import Derived.Test.YtfhmaincnlaapaaGreatTrGetWalks
import Derived.Test.YtfhmaincnlaapaaGreatTrRefCode
import Derived.Test.YtfhmaincnlaapaaGreatTrRefRead
import Derived.Test.YtfhmaincnlaapaaGreatTrGetFWalks
namespace Go.Proofs.YtfhmaincnlaapaaGreat
open Go.ChangeShapes Go.WideShapes Go.ChangeAt Go.RowKit
set_option linter.unusedVariables false
theorem f64from_minf (w:World):(callFunc 178 #[.int .u64 18442240474082181120]).run Tryz.prog w=.ok (.value (.float .f64 18442240474082181120)) w:=f64from 18442240474082181120 w
theorem f64from_inf (w:World):(callFunc 178 #[.int .u64 9218868437227405312]).run Tryz.prog w=.ok (.value (.float .f64 9218868437227405312)) w:=f64from 9218868437227405312 w
theorem f64bits_inf (w:World):(callFunc 188 #[.float .f64 9218868437227405312]).run Tryz.prog w=.ok (.value (.int .u64 9218868437227405312)) w:=f64bits 9218868437227405312 w
theorem f64bits_m1 (w:World):(callFunc 188 #[.float .f64 13830554455654793216]).run Tryz.prog w=.ok (.value (.int .u64 13830554455654793216)) w:=f64bits 13830554455654793216 w
theorem bits_minf:bits .or .u64 (bits .andNot .u64 9218868437227405312 9223372036854775808) (bits .and .u64 13830554455654793216 9223372036854775808)=18442240474082181120:=by decide +kernel
theorem copysign_any (w:World):Calls Tryz.prog 205 #[.float .f64 9218868437227405312,.float .f64 13830554455654793216] w fun e w'=>e=.returned (.float .f64 18442240474082181120)∧w=w':=by
 have hf:=f64bits_inf
 have hg:=f64bits_m1
 have hh:=f64from_minf
 have hb:=bits_minf
 go_enter Tryz.func205,Tryz.ntmps205
 go_wp2
 go_ret
 exact ⟨rfl,rfl⟩
theorem inf_any (w:World):Calls Tryz.prog 135 #[.int .i64 1] w fun e w'=>e=.returned (.float .f64 9218868437227405312)∧w=w':=by
 have hh:=f64from_inf
 go_enter Tryz.func135,Tryz.ntmps135
 go_wp2
 go_ret
 exact ⟨rfl,rfl⟩
theorem signed_inf (w:World):Calls Tryz.prog 180 #[.bool false,.float .f64 9218868437227405312] w fun e w'=>e=.returned (.float .f64 9218868437227405312)∧w=w':=by
 go_enter Tryz.func180,Tryz.ntmps180
 go_wp2
 go_ret
 exact ⟨rfl,rfl⟩
theorem signed_minf (w:World):Calls Tryz.prog 180 #[.bool true,.float .f64 9218868437227405312] w fun e w'=>e=.returned (.float .f64 18442240474082181120)∧w=w':=by
 go_enter Tryz.func180,Tryz.ntmps180
 go_wp2_with (go_at_call 205;(with_reducible refine (copysign_any _).mono ?_);rintro y w1 ⟨rfl,rfl⟩)
 go_ret
 exact ⟨rfl,rfl⟩
theorem size_one (w:World) (g:Nat) (h:w.cell? ⟨g,0,none⟩=some (.int .u32 1)):Calls Tryz.prog 140 #[.slice (some ⟨g,0,none⟩) 1 1] w fun e w'=>e=.returned (.int .i64 1)∧w=w':=by
 go_enter Tryz.func140,Tryz.ntmps140
 go_wp2
 go_loop [3] (fun v=>v=.int .i64 1) (fun _=>0)
 case atStart=>rfl
 case round =>
  subst hrel
  go_wp2
  go_ret
  exact ⟨rfl,rfl⟩
theorem bits_one (w:World) (g:Nat) (h:w.cell? ⟨g,0,none⟩=some (.int .u32 1)):Calls Tryz.prog 179 #[.slice (some ⟨g,0,none⟩) 1 1] w fun e w'=>e=.returned (.int .i64 1)∧w=w':=by
 go_enter Tryz.func179,Tryz.ntmps179
 go_wp2_with (go_at_call 140;(with_reducible refine (size_one _ g h).mono ?_);rintro y w1 ⟨rfl,rfl⟩)
 go_loop [4,5] (fun n t=>(n=.int .i64 0∧t=.int .u32 1)∨(n=.int .i64 1∧t=.int .u32 0)) (fun _ t=>(intOf t).toNat)
 case atStart=>exact .inl ⟨rfl,rfl⟩
 case round =>
  rcases hrel with ⟨rfl,rfl⟩|⟨rfl,rfl⟩
  ·go_wp2
   go_round
   case rel=>exact .inr ⟨rfl,rfl⟩
   case measure=>simp [intOf]
  ·go_wp2
   go_ret
   exact ⟨rfl,rfl⟩
def infB:Bool→Nat
 | true=>18442240474082181120
 | false=>9218868437227405312
theorem join2000 (w:World) (g:Nat) (b:Bool) (h:w.cell? ⟨g,0,none⟩=some (.int .u32 1)):Calls Tryz.prog 136 #[.bool b,.slice (some ⟨g,0,none⟩) 1 1,.int .i64 2000] w fun e w'=>e=.returned (.float .f64 (infB b))∧w=w':=by
 cases b
 all_goals
  go_enter Tryz.func136,Tryz.ntmps136
  go_wp2_with (first
   | (go_at_call 179;(with_reducible refine (bits_one _ g h).mono ?_);rintro y w1 ⟨rfl,rfl⟩)
   | (go_at_call 135;(with_reducible refine (inf_any _).mono ?_);rintro y w1 ⟨rfl,rfl⟩)
   | (go_at_call 180;(with_reducible refine (signed_inf _).mono ?_);rintro y w1 ⟨rfl,rfl⟩)
   | (go_at_call 180;(with_reducible refine (signed_minf _).mono ?_);rintro y w1 ⟨rfl,rfl⟩))
  go_ret
  exact ⟨rfl,rfl⟩
theorem or_sh (P b N:Nat) (hb:b<256):P*2^(N+8) ||| b*2^N=P*2^(N+8)+b*2^N:=by
 refine nat_join (N+8) _ _ (Nat.mul_mod_left _ _) ?_
 rw [Nat.pow_add,Nat.mul_comm]
 exact Nat.mul_lt_mul_of_pos_left hb (Nat.two_pow_pos N)
theorem andnot_sh (P N:Nat) (h:P*2^(N+8)+(2^(N+8)-1)<2^64):(P*2^(N+8)+(2^(N+8)-1)) &&& (2^64-(255*2^N+1))=P*2^(N+8)+(2^N-1):=by
 have e1:P*2^(N+8)+(2^(N+8)-1)=(P <<< (N+8)) ||| (2^(N+8)-1):=by
  rw [Nat.shiftLeft_eq]
  exact (nat_join (N+8) _ _ (Nat.mul_mod_left _ _) (by have:=Nat.two_pow_pos (N+8);omega)).symm
 have e2:P*2^(N+8)+(2^N-1)=(P <<< (N+8)) ||| (2^N-1):=by
  rw [Nat.shiftLeft_eq]
  refine (nat_join (N+8) _ _ (Nat.mul_mod_left _ _) ?_).symm
  have:=Nat.two_pow_pos N
  have:2^(N+8)=2^N*256:=by rw [Nat.pow_add]
  omega
 have e3:255*2^N=(2^8-1) <<< N:=by rw [Nat.shiftLeft_eq]
 have hm:(2^8-1) <<< N<2^64:=by
  rw [←e3]
  have:=Nat.two_pow_pos N
  have:2^(N+8)=2^N*256:=by rw [Nat.pow_add]
  omega
 apply Nat.eq_of_testBit_eq
 intro i
 rw [e2,e1,e3]
 have hl:i≥64→((P <<< (N+8)) ||| (2^(N+8)-1)).testBit i=false:=fun hi=>by
  rw [←e1];exact Nat.testBit_lt_two_pow (Nat.lt_of_lt_of_le h (Nat.pow_le_pow_right (by decide) hi))
 rw [Nat.testBit_and,Nat.testBit_two_pow_sub_succ hm]
 by_cases hi:64≤i
 ·rw [hl hi]
  have:=hl hi
  simp only [Nat.testBit_or,Nat.testBit_shiftLeft,Nat.testBit_two_pow_sub_one,Bool.or_eq_false_iff,decide_eq_false_iff_not] at this
  simp only [Nat.testBit_or,Nat.testBit_shiftLeft,Nat.testBit_two_pow_sub_one,Bool.false_and]
  rw [this.1]
  simp
  omega
 ·simp only [Nat.testBit_or,Nat.testBit_shiftLeft,Nat.testBit_two_pow_sub_one]
  by_cases h1:i<N
  ·simp [h1,show ¬N+8≤i by omega,show ¬N≤i by omega,show i<N+8 by omega];omega
  ·by_cases h2:i<N+8
   ·simp [h1,h2,show ¬N+8≤i by omega,show N≤i by omega];omega
   ·simp [h1,h2,show N+8≤i by omega,show N≤i by omega];omega
def kpw (k:Nat):Nat:=256^(8-k)
def klo (t:List UInt8) (k:Nat):Nat:=bv (t.take k)*kpw k
def khi (t:List UInt8) (k:Nat):Nat:=bv (t.take k)*kpw k+(kpw k-1)
theorem kpw_eq (k q:Nat) (h:k+q=7):kpw k=2^(8*q+8)∧kpw (k+1)=2^(8*q):=by
 unfold kpw
 have e1:8-k=q+1:=by omega
 have e2:8-(k+1)=q:=by omega
 have e3:∀ n,(256:Nat)^n=2^(8*n):=fun n=>(Nat.pow_mul 2 8 n).symm
 exact ⟨by rw [e1,e3];rfl,by rw [e2,e3]⟩
theorem bv_pw (t:List UInt8) (k:Nat) (h:k≤8):bv (t.take k)*kpw k+(kpw k-1)<2^64:=by
 have h1:=bv_lt (t.take k)
 have h2:(t.take k).length≤k:=by rw [List.length_take];omega
 have h3:256^(t.take k).length≤256^k:=Nat.pow_le_pow_right (by decide) h2
 have hp:0<kpw k:=Nat.pow_pos (by decide)
 have h4:(bv (t.take k)+1)*kpw k≤256^k*kpw k:=Nat.mul_le_mul_right _ (by omega)
 have h5:256^k*kpw k=2^64:=by unfold kpw;rw [←Nat.pow_add,show k+(8-k)=8 by omega]
 rw [h5,Nat.succ_mul] at h4
 omega
theorem key_step (t:List UInt8) (k q:Nat) (h:k+q=7) (hk:k<t.length) :
 bits .or .u64 (klo t k:Int) (IntKind.u64.wrap ((t[k].toNat:Int)*2^(8*q)))=(klo t (k+1):Int) ∧
 bits .or .u64 (bits .andNot .u64 (khi t k:Int) (IntKind.u64.wrap (255*2^(8*q)))) (IntKind.u64.wrap ((t[k].toNat:Int)*2^(8*q)))=(khi t (k+1):Int):=by
 obtain ⟨p1,p2⟩:=kpw_eq k q h
 have hb:=t[k].toNat_lt
 have hv:=bv_take t k hk
 have hq:=Nat.two_pow_pos (8*q)
 have hB:=bv_pw t k (by omega)
 have hB2:=bv_pw t (k+1) (by omega)
 unfold klo khi
 rw [p1] at hB
 rw [p2,hv] at hB2
 rw [p1,p2,hv]
 generalize t[k].toNat=b at *
 generalize bv (t.take k)=P at *
 generalize 8*q=N at *
 have e8:(P*256+b)*2^N=P*2^(N+8)+b*2^N:=by rw [Nat.pow_add,Nat.add_mul,Nat.mul_comm (2^N),Nat.mul_assoc]
 have e9:2^(N+8)=2^N*256:=by rw [Nat.pow_add]
 have hbN:b*2^N≤255*2^N:=Nat.mul_le_mul_right _ (by omega)
 rw [e8] at hB2 ⊢
 have z64:(2:Nat)^64=18446744073709551616:=rfl
 rw [z64] at hB hB2
 have w1:IntKind.u64.wrap ((b:Int)*2^N)=((b*2^N:Nat):Int):=by
  have:(b:Int)*2^N=((b*2^N:Nat):Int):=by rw [Int.natCast_mul,Int.natCast_pow];rfl
  rw [this,IntKind.wrap_u64]
  omega
 have w2:IntKind.u64.wrap (255*2^N)=((255*2^N:Nat):Int):=by
  have:(255:Int)*2^N=((255*2^N:Nat):Int):=by rw [Int.natCast_mul,Int.natCast_pow];rfl
  rw [this,IntKind.wrap_u64]
  omega
 rw [w1,w2]
 constructor
 ·rw [u64_or_nat _ _ (by omega) (by omega),or_sh _ _ _ (by omega)]
 ·have ea:=andnot_sh P N (by rw [z64];omega)
  rw [u64_andNot_nat _ _ (by omega) (by omega),show 18446744073709551615-255*2^N=2^64-(255*2^N+1) by rw [z64];omega,ea]
  have hf:P*2^(N+8)+(2^N-1)<18446744073709551616:=by omega
  rw [u64_or_nat _ _ hf (by omega)]
  congr 1
  have e1:P*2^(N+8)+(2^N-1)=P*2^(N+8) ||| (2^N-1):=(nat_join (N+8) _ _ (Nat.mul_mod_left _ _) (by omega)).symm
  rw [e1,Nat.or_assoc,Nat.or_comm (2^N-1),←Nat.or_assoc,or_sh _ _ _ (by omega)]
  refine nat_join N _ _ ?_ (by omega)
  rw [Nat.pow_add,←Nat.mul_assoc,Nat.mul_right_comm,←Nat.add_mul]
  exact Nat.mul_mod_left _ _
def shortB (t:List UInt8):Bool:=(decide (4503599627370495≤khi t t.length)&&decide (klo t t.length≤18442240474082181120))||decide (khi t t.length=18446744073709551615)
theorem key_minf:keyB (infB true)=4503599627370495:=by decide +kernel
theorem key_inf:keyB (infB false)=18442240474082181120:=by decide +kernel
set_option maxRecDepth 20000 in
set_option maxHeartbeats 2000000 in
theorem keyB_any (A:Option Addr) (m c B:Nat) (t:List UInt8) (w:World) (h:Rd w B 1 A m (u8s t)) (hm:m<8) :
 Calls Tryz.prog 189 #[.slice A m c] w fun e w'=>e=.returned (.bool (shortB t))∧Below w.heap.size w w':=by
 obtain rfl:m=t.length:=h.u8.symm
 have H:=Lib.hid h;clear h
 go_enter Tryz.func189,Tryz.ntmps189
 go_wp2
 go_loopw [3,4,12] (fun lo hi i wr=>∃ k:Nat,k≤t.length∧i=.int .i64 (k:Int)∧lo=.int .u64 (klo t k:Int)∧hi=.int .u64 (khi t k:Int)∧Drw w wr) (fun _ _ i _=>t.length-(intOf i).toNat)
 case atStart=>exact ⟨0,by omega,rfl,by simp [klo,bv],by simp [khi,bv,kpw],Drw.refl _⟩
 case round =>
  obtain ⟨k,hk,rfl,rfl,rfl,j,rfl⟩:=hrel
  by_cases hlt:k<t.length
  ·obtain ⟨a,rfl,hab,x0⟩:=(H.out.drewN j).byte hlt
   obtain ⟨q,hq⟩:∃ q,k+q=7:=⟨7-k,by omega⟩
   obtain ⟨st1,st2⟩:=key_step t k q hq hlt
   have hqz:(7:Int)-(k:Int)=(q:Int):=by omega
   have hq7:q≤7:=by omega
   have s0:(0:Int)≤8*(q:Int):=by omega
   have s1:8*(q:Int)≤64:=by omega
   have q1:(0:Int)≤(k:Int):=by omega
   have q2:(k:Int)<(t.length:Int):=by omega
   generalize hx:t[k]=x at *
   have hx8:=x.toNat_lt
   generalize x.toNat=b at *
   have ST1:=Lib.hid st1;have ST2:=Lib.hid st2;clear st1 st2
   have HX:=Lib.hid hx;have HQ:=Lib.hid hq;clear hx hq
   go_wp2
   go_quiet (fail)
   go_wp2
   go_roundw
   case rel=>exact ⟨k+1,by omega,by go_num,congrArg (Value.int .u64) ST1.out,congrArg (Value.int .u64) ST2.out,_,rfl⟩
   case measure=>simp [intOf];omega
  ·obtain rfl:k=t.length:=by omega
   have hs:shortB t=((decide (4503599627370495≤khi t t.length)&&decide (klo t t.length≤18442240474082181120))||decide (khi t t.length=18446744073709551615)):=rfl
   have c1:((w.drewN j).alloc (.cells #[.int .u32 1] 39)).cell? ⟨w.heap.size,0,none⟩=some (.int .u32 1):=(Blk.new (w.drewN j) _ _).cell 0
   have c2:(((w.drewN j).alloc (.cells #[.int .u32 1] 39)).alloc (.cells #[.int .u32 1] 39)).cell? ⟨w.heap.size+1,0,none⟩=some (.int .u32 1):=by
    have:=(Blk.new ((w.drewN j).alloc (.cells #[.int .u32 1] 39)) 39 #[.int .u32 1]).cell 0
    simpa using this
   have j1:=join2000 _ _ true c1
   have j2:=join2000 _ _ false c2
   have k1:=fun W=>key_any (infB true) W (by decide)
   have k2:=fun W=>key_any (infB false) W (by decide)
   rw [key_minf] at k1
   rw [key_inf] at k2
   have J1:=Lib.hid j1;have J2:=Lib.hid j2;have K1:=Lib.hid k1;have K2:=Lib.hid k2;clear j1 j2 k1 k2
   have hl:=bv_pw t t.length (by omega)
   have hkl:khi t t.length<18446744073709551616:=by rw [List.take_length] at hl;unfold khi;rw [List.take_length];exact hl
   generalize khi t t.length=hi at *
   generalize klo t t.length=lo at *
   obtain ⟨b1,t1⟩:∃ b,decide ((4503599627370495:Int)≤(hi:Int))=b:=⟨_,rfl⟩
   obtain ⟨b2,t2⟩:∃ b,decide ((lo:Int)≤18442240474082181120)=b:=⟨_,rfl⟩
   obtain ⟨b3,t3⟩:∃ b,((hi:Int)==18446744073709551615)=b:=⟨_,rfl⟩
   have e1:decide (4503599627370495≤hi)=b1:=by rw [←t1];exact decide_eq_decide.2 (by omega)
   have e2:decide (lo≤18442240474082181120)=b2:=by rw [←t2];exact decide_eq_decide.2 (by omega)
   have e3:decide (hi=18446744073709551615)=b3:=by rw [←t3,Bool.eq_iff_iff];simp;omega
   rw [e1,e2,e3] at hs
   have HS:=Lib.hid hs;clear hs e1 e2 e3
   cases b1<;>cases b2<;>cases b3
   all_goals
    go_wp2_with (first
     | (go_at_call 136;(with_reducible refine J1.out.mono ?_);rintro y w1 ⟨rfl,rfl⟩)
     | (go_at_call 136;(with_reducible refine J2.out.mono ?_);rintro y w1 ⟨rfl,rfl⟩)
     | (go_at_call 141;(with_reducible refine (K1.out _).mono ?_);rintro y w1 ⟨rfl,rfl⟩)
     | (go_at_call 141;(with_reducible refine (K2.out _).mono ?_);rintro y w1 ⟨rfl,rfl⟩))
    go_ret
    exact ⟨by rw [HS.out];rfl,belA (belA (belD (belR w) j) _) _⟩
def getF (t:List UInt8):Nat×Nat×Nat :=
 if t.length<8 then (0,0,if shortB t then 5 else 6) else match fromB (bv (t.take 8)) with
  | some b=>(b,8,0)
  | none=>(0,0,6)
theorem getF_any (A:Option Addr) (m c B:Nat) (t:List UInt8) (w:World) (h:Rd w B 1 A m (u8s t)) (hmc:m≤c) (hc:c≤maxLen) :
 Calls Tryz.prog 149 #[.slice A m c] w fun e w'=>e=.returned (.tuple #[.float .f64 (getF t).1,.int .i64 ((getF t).2.1:Int),.int .i64 ((getF t).2.2:Int)])∧Below w.heap.size w w':=by
 have hm:=h.u8
 by_cases h8:8≤m
 ·refine (getF8_any A m c B t w h h8 hmc hc).mono ?_
  rintro e w' ⟨rfl,j,rfl⟩
  refine ⟨?_,belD (belR w) j⟩
  have e1:getF t=match fromB (bv (t.take 8)) with|some b=>(b,8,0)|none=>(0,0,6):=if_neg (by omega)
  rw [e1]
  unfold getF8
  cases fromB (bv (t.take 8))<;>rfl
 ·have hk:=keyB_any A m c B t w h (by omega)
  have e1:getF t=(0,0,if shortB t then 5 else 6):=if_pos (by omega)
  rw [e1]
  have h9:m<8:=by omega
  have HK:=Lib.hid hk;clear hk e1 h h8
  generalize shortB t=b at *
  cases b
  all_goals
   go_enter Tryz.func149,Tryz.ntmps149
   go_wp2_with (go_at_call 189;(with_reducible refine HK.out.mono ?_);rintro y w1 ⟨rfl,hb1⟩)
   go_ret3
   exact ⟨rfl,hb1⟩
def keyedB (k:Nat):Bool:=decide (k=18446744073709551615)||(decide (4503599627370495≤k)&&decide (k≤18442240474082181120))
theorem keyed_any (k:Nat) (w:World):Calls Tryz.prog 194 #[.int .u64 (k:Int)] w fun e w'=>e=.returned (.bool (keyedB k))∧w=w':=by
 obtain ⟨b1,t1⟩:∃ b,((k:Int)==18446744073709551615)=b:=⟨_,rfl⟩
 obtain ⟨b2,t2⟩:∃ b,decide ((4503599627370495:Int)≤(k:Int))=b:=⟨_,rfl⟩
 obtain ⟨b3,t3⟩:∃ b,decide ((k:Int)≤18442240474082181120)=b:=⟨_,rfl⟩
 have e1:decide (k=18446744073709551615)=b1:=by rw [←t1,Bool.eq_iff_iff];simp;omega
 have e2:decide (4503599627370495≤k)=b2:=by rw [←t2];exact decide_eq_decide.2 (by omega)
 have e3:decide (k≤18442240474082181120)=b3:=by rw [←t3];exact decide_eq_decide.2 (by omega)
 have hs:keyedB k=(b1||(b2&&b3)):=by unfold keyedB;rw [e1,e2,e3]
 have HS:=Lib.hid hs;clear hs e1 e2 e3
 cases b1<;>cases b2<;>cases b3
 all_goals
  go_enter Tryz.func194,Tryz.ntmps194
  go_wp2
  go_ret
  exact ⟨by rw [HS.out];rfl,rfl⟩
def loS (t:List UInt8):Nat→Nat
 | 0=>0
 | i+1=>loS t i*256+if h:i<t.length then t[i].toNat else 0
def hiS (t:List UInt8):Nat→Nat
 | 0=>0
 | i+1=>hiS t i*256+if h:i<t.length then t[i].toNat else 255
theorem loS_lt (t:List UInt8) (i:Nat):loS t i<256^i:=by
 induction i with
 | zero=>simp [loS]
 | succ i ih =>
   rw [loS,Nat.pow_succ]
   split
   ·have:=t[i].toNat_lt;omega
   ·omega
theorem hiS_lt (t:List UInt8) (i:Nat):hiS t i<256^i:=by
 induction i with
 | zero=>simp [hiS]
 | succ i ih =>
   rw [hiS,Nat.pow_succ]
   split
   ·have:=t[i].toNat_lt;omega
   ·omega
theorem loS_in (t:List UInt8) (i:Nat) (h:i≤t.length):loS t i=bv (t.take i)∧hiS t i=bv (t.take i):=by
 induction i with
 | zero=>exact ⟨rfl,rfl⟩
 | succ i ih =>
   obtain ⟨h1,h2⟩:=ih (by omega)
   have h':i<t.length:=h
   rw [loS,hiS,h1,h2,bv_take t i h,dif_pos h',dif_pos h']
   exact ⟨rfl,rfl⟩
theorem loS_out (t:List UInt8) (j:Nat):loS t (t.length+j)=bv t*256^j∧hiS t (t.length+j)=bv t*256^j+(256^j-1):=by
 induction j with
 | zero =>
   obtain ⟨h1,h2⟩:=loS_in t t.length (Nat.le_refl _)
   rw [List.take_length] at h1 h2
   rw [Nat.add_zero,h1,h2];simp
 | succ j ih =>
   obtain ⟨h1,h2⟩:=ih
   rw [←Nat.add_assoc,loS,hiS,dif_neg (by omega),dif_neg (by omega),h1,h2,Nat.pow_succ,←Nat.mul_assoc]
   have:=Nat.pow_pos (n:=j) (show 0<256 by decide)
   exact ⟨by omega,by omega⟩
theorem loS_eight (t:List UInt8) (h:t.length<8):loS t 8=klo t t.length∧hiS t 8=khi t t.length:=by
 have:=loS_out t (8-t.length)
 rw [show t.length+(8-t.length)=8 by omega] at this
 unfold klo khi kpw
 rw [List.take_length];exact this
theorem loS_full (t:List UInt8) (h:8≤t.length):loS t 8=bv (t.take 8):=(loS_in t 8 h).1
def rgetF (t:List UInt8):Nat×Nat :=
 if 8≤t.length then (if keyedB (loS t 8) then (loS t 8,0) else (0,6))
 else if keyedB (loS t 8)||keyedB (hiS t 8)||(decide (loS t 8<9223372036854775808)&&decide (9223372036854775808≤hiS t 8)) then (0,5) else (0,6)
theorem p56 (k x:Nat) (hk:k<8) (h:x<256^k):x<72057594037927936 :=
 Nat.lt_of_lt_of_le h (Nat.le_trans (Nat.pow_le_pow_right (by decide) (show k≤7 by omega)) (by decide))
set_option maxRecDepth 200000 in
set_option maxHeartbeats 2000000 in
theorem refGetF_any (A:Option Addr) (m c B:Nat) (t:List UInt8) (w:World) (h:Rd w B 1 A m (u8s t)) (hc:m≤maxLen) :
 Calls Tryz.prog 164 #[.slice A m c] w fun e w'=>e=.returned (.tuple #[.int .u64 ((rgetF t).1:Int),.int .i64 ((rgetF t).2:Int)])∧Drw w w':=by
 obtain rfl:m=t.length:=h.u8.symm
 have hcc:=hc
 unfold maxLen at hcc
 have H:=Lib.hid h;clear h
 go_enter Tryz.func164,Tryz.ntmps164
 go_wp2
 go_loopw [4,5,6] (fun lo hi i wr=>∃ k:Nat,k≤8∧i=.int .i64 (k:Int)∧lo=.int .u64 (loS t k:Int)∧hi=.int .u64 (hiS t k:Int)∧Drw w wr) (fun _ _ i _=>8-(intOf i).toNat)
 case atStart=>exact ⟨0,by omega,rfl,rfl,rfl,Drw.refl _⟩
 case round =>
  obtain ⟨k,hk,rfl,rfl,rfl,j,rfl⟩:=hrel
  by_cases hlt:k<8
  ·have b1:=p56 k _ hlt (loS_lt t k)
   have b2:=p56 k _ hlt (hiS_lt t k)
   have s1:loS t (k+1)=loS t k*256+if h:k<t.length then t[k].toNat else 0:=rfl
   have s2:hiS t (k+1)=hiS t k*256+if h:k<t.length then t[k].toNat else 255:=rfl
   generalize hlo:loS t k=lo at *
   generalize hhi:hiS t k=hi at *
   by_cases hin:k<t.length
   ·obtain ⟨a,rfl,hab,x0⟩:=H.out.byte hin
    rw [dif_pos hin] at s1 s2
    have q1:(0:Int)≤(k:Int):=by omega
    have q2:(k:Int)<(t.length:Int):=by omega
    have hx8:=t[k].toNat_lt
    generalize t[k].toNat=b at *
    have S1:=Lib.hid s1;have S2:=Lib.hid s2;have HLO:=Lib.hid hlo;have HHI:=Lib.hid hhi;clear s1 s2 hlo hhi
    have w1:IntKind.u64.wrap ((lo:Int)*256+(b:Int))=(lo:Int)*256+(b:Int):=by rw [IntKind.wrap_u64];omega
    have w2:IntKind.u64.wrap ((hi:Int)*256+(b:Int))=(hi:Int)*256+(b:Int):=by rw [IntKind.wrap_u64];omega
    go_wp2
    go_quiet (fail)
    go_wp2
    go_roundw
    case rel=>exact ⟨k+1,by omega,by go_num,congrArg (Value.int .u64) (by rw [S1.out];omega),congrArg (Value.int .u64) (by rw [S2.out];omega),_,rfl⟩
    case measure=>simp [intOf];omega
   ·rw [dif_neg hin] at s1 s2
    have S1:=Lib.hid s1;have S2:=Lib.hid s2;have HLO:=Lib.hid hlo;have HHI:=Lib.hid hhi;clear s1 s2 hlo hhi
    go_wp2
    go_roundw
    case rel=>exact ⟨k+1,by omega,by go_num,congrArg (Value.int .u64) (by rw [S1.out];omega),congrArg (Value.int .u64) (by rw [S2.out];omega),_,rfl⟩
    case measure=>simp [intOf];omega
  ·obtain rfl:k=8:=by omega
   have hs:rgetF t=if 8≤t.length then (if keyedB (loS t 8) then (loS t 8,0) else (0,6)) else if keyedB (loS t 8)||keyedB (hiS t 8)||(decide (loS t 8<9223372036854775808)&&decide (9223372036854775808≤hiS t 8)) then (0,5) else (0,6):=rfl
   have k1:=fun W=>keyed_any (loS t 8) W
   have k2:=fun W=>keyed_any (hiS t 8) W
   have hlo8:=loS_lt t 8
   have hhi8:=hiS_lt t 8
   rw [show (256:Nat)^8=18446744073709551616 from by decide] at hlo8 hhi8
   generalize loS t 8=lo at *
   generalize hiS t 8=hi at *
   obtain ⟨b1,t1⟩:∃ b,keyedB lo=b:=⟨_,rfl⟩
   obtain ⟨b2,t2⟩:∃ b,keyedB hi=b:=⟨_,rfl⟩
   rw [t1] at hs k1
   rw [t2] at hs k2
   have K1:=Lib.hid k1;have K2:=Lib.hid k2;clear k1 k2 t1 t2
   by_cases h8:8≤t.length
   ·rw [if_pos h8] at hs
    have HS:=Lib.hid hs;clear hs
    cases b1
    all_goals
     go_wp2_with (go_at_call 194;(with_reducible refine (K1.out _).mono ?_);rintro y w1 ⟨rfl,rfl⟩)
     go_ret2
     exact ⟨by rw [HS.out];rfl,_,rfl⟩
   ·rw [if_neg h8] at hs
    have h9:t.length<8:=by omega
    have HS0:=Lib.hid hs;clear hs
    go_upto_region 13 with (fail)
    have hs:=HS0.out
    obtain ⟨b3,t3⟩:∃ b,decide ((lo:Int)<9223372036854775808)=b:=⟨_,rfl⟩
    obtain ⟨b4,t4⟩:∃ b,decide ((9223372036854775808:Int)≤(hi:Int))=b:=⟨_,rfl⟩
    have e3:decide (lo<9223372036854775808)=b3:=by rw [←t3];exact decide_eq_decide.2 (by omega)
    have e4:decide (9223372036854775808≤hi)=b4:=by rw [←t4];exact decide_eq_decide.2 (by omega)
    have t3':decide ((9223372036854775808:Int)≤(lo:Int))=!b3:=by rw [←t3,←decide_not];exact decide_eq_decide.2 (by omega)
    have t4':decide ((hi:Int)<9223372036854775808)=!b4:=by rw [←t4,←decide_not];exact decide_eq_decide.2 (by omega)
    rw [e3,e4] at hs
    have HS:=Lib.hid hs;clear hs e3 e4 h8 hlt hk t3' t4'
    cases b1<;>cases b2<;>cases b3<;>cases b4
    all_goals
     go_wp2_with (first|(go_at_call 194;(with_reducible refine (K1.out _).mono ?_);rintro y w1 ⟨rfl,rfl⟩)|(go_at_call 194;(with_reducible refine (K2.out _).mono ?_);rintro y w1 ⟨rfl,rfl⟩))
     go_ret2
     exact ⟨by rw [HS.out];rfl,_,rfl⟩
theorem getF_doc (t:List UInt8):(getF t).2.2=(rgetF t).2∧((rgetF t).2≠0→getF t=(0,0,(rgetF t).2))∧((rgetF t).2=0→(getF t).2.1=8∧keyB (getF t).1=(rgetF t).1∧(getF t).1<18446744073709551616):=by
 by_cases h8:t.length<8
 ·obtain ⟨e1,e2⟩:=loS_eight t h8
  have hg:getF t=(0,0,if shortB t then 5 else 6):=if_pos h8
  have hr:rgetF t=if keyedB (klo t t.length)||keyedB (khi t t.length)||(decide (klo t t.length<9223372036854775808)&&decide (9223372036854775808≤khi t t.length)) then (0,5) else (0,6):=by
   unfold rgetF;rw [if_neg (by omega),e1,e2]
  have hle:klo t t.length≤khi t t.length:=Nat.le_add_right _ _
  have hlt:khi t t.length<18446744073709551616:=by have:=bv_pw t t.length (by omega);exact this
  have hs:shortB t=(keyedB (klo t t.length)||keyedB (khi t t.length)||(decide (klo t t.length<9223372036854775808)&&decide (9223372036854775808≤khi t t.length))):=by
   rw [Bool.eq_iff_iff]
   unfold shortB keyedB
   simp only [Bool.or_eq_true,Bool.and_eq_true,decide_eq_true_eq]
   omega
  rw [hg,hr,←hs]
  cases shortB t<;>simp
 ·have hr:rgetF t=if keyedB (bv (t.take 8)) then (bv (t.take 8),0) else (0,6):=by unfold rgetF;rw [if_pos (by omega),loS_full t (by omega)]
  have hg:getF t=match fromB (bv (t.take 8)) with|some b=>(b,8,0)|none=>(0,0,6):=if_neg h8
  have hk:bv (t.take 8)<18446744073709551616:=by
   have h1:=bv_lt (t.take 8)
   rw [List.length_take,Nat.min_eq_left (by omega)] at h1
   exact Nat.lt_of_lt_of_le h1 (by decide)
  generalize bv (t.take 8)=k at *
  rw [hg,hr]
  have hkf:keyedB k=(fromB k).isSome:=by
   unfold keyedB fromB
   split
   ·simp [*]
   ·split
    ·simp;omega
    ·split
     ·simp;omega
     ·simp;omega
  cases hf:fromB k with
  | none=>rw [hkf,hf];simp
  | some b =>
    have e1:keyedB k=true:=by rw [hkf,hf];rfl
    rw [if_pos e1]
    exact ⟨rfl,fun h=>absurd rfl h,fun _=>⟨rfl,fromB_key k b hk hf,fromB_lt k b hk hf⟩⟩
theorem numB_take2 (u:List UInt8) (n:Nat):numB (u.take n) n=numB u n:=by
 unfold numB
 by_cases h0:n=0
 ·rw [if_pos h0,if_pos h0]
 ·rw [if_neg h0,if_neg h0]
  cases u with
  | nil=>simp
  | cons c u =>
    obtain ⟨k,rfl⟩:∃ k,n=k+1:=⟨n-1,by omega⟩
    have e1:(c::u).take (k+1)=c::u.take k:=rfl
    rw [e1]
    simp only [List.length_cons,List.length_take]
    by_cases hc:c=0
    ·rw [if_pos hc,if_pos hc]
    ·rw [if_neg hc,if_neg hc]
     by_cases hl:u.length+1<k+1
     ·rw [if_pos hl,if_pos (by omega)]
     ·rw [if_neg hl,if_neg (by omega),←e1,List.take_take,Nat.min_self]
def tailI (b:Bool) (d:UInt8) (u:List UInt8):Int×Nat×Nat :=
 if d.toNat=8∧127<(u.headD 0).toNat then (0,0,6) else
 if (getU (d::u)).2.2=0 then (if b then -1-((getU (d::u)).1:Int) else (getU (d::u)).1,(getU (d::u)).2.1,0) else (0,0,(getU (d::u)).2.2)
theorem tailI_of (x d:UInt8) (t u p:List UInt8) (b:Bool) (n:Nat) (hs:sgn x=(n,b)) (hp:prt x t=p) (hd:d.toNat=n) (hu:p=u.take n):getI (x::t)=tailI b d u:=by
 unfold getI tailI
 simp only
 rw [hs,hp,hd,hu]
 simp only
 unfold getU
 simp only
 rw [hd]
 by_cases h8:8<n
 ·rw [if_pos h8,if_neg (by omega),if_pos h8];rfl
 ·rw [if_neg h8,if_neg h8,numB_take2]
  have hh:n=8→(u.take n).headD 0=u.headD 0:=fun e=>by subst e;cases u<;>rfl
  by_cases h9:n=8∧127<(u.headD 0).toNat
  ·rw [if_pos h9,if_pos ⟨h9.1,by rw [hh h9.1];exact h9.2⟩]
  ·rw [if_neg h9,if_neg (fun h=>h9 ⟨h.1,by rw [←hh h.1];exact h.2⟩)]
   by_cases h10:(numB u n).2=0
   ·rw [if_pos h10,if_pos h10]
    cases b
    ·rfl
    ·simp;omega
   ·rw [if_neg h10,if_neg h10]
    simp [h10]
theorem tailI_pos (x:UInt8) (t:List UInt8) (h:¬x.toNat<9):getI (x::t)=tailI false (x-9) t:=by
 have hx:=x.toNat_lt
 refine tailI_of x (x-9) t t (t.take (x.toNat-9)) false (x.toNat-9) (by unfold sgn;rw [if_neg h]) (by unfold prt sgn;rw [if_neg h];rfl) ?_ rfl
 rw [UInt8.toNat_sub_of_le _ _ (by rw [UInt8.le_iff_toNat_le];simp;omega)];rfl
theorem tailI_neg (x:UInt8) (t:List UInt8) (h:x.toNat<9):getI (x::t)=tailI true (8-x) (t.map (255 - ·)):=by
 refine tailI_of x (8-x) t (t.map (255 - ·)) ((t.take (8-x.toNat)).map (255 - ·)) true (8-x.toNat) (by unfold sgn;rw [if_pos h]) (by unfold prt sgn;rw [if_pos h];rfl) ?_ (by rw [List.map_take])
 rw [UInt8.toNat_sub_of_le _ _ (by rw [UInt8.le_iff_toNat_le];simp;omega)];rfl
def GIcut (w wx:World) (x:UInt8) (t:List UInt8) (A:Option Addr) (n c:Nat) (s6:Value):Prop :=
 ∃ (b:Bool) (d:UInt8) (u:List UInt8),s6=.bool b∧wx.ownsRow w.heap.size 5 1 (.slice A n c) n (u8s (d::u))∧getI (x::t)=tailI b d u∧Below w.heap.size w wx
set_option maxRecDepth 20000 in
set_option maxHeartbeats 2000000 in
theorem refGetI_any (A:Option Addr) (m c B:Nat) (t:List UInt8) (w:World) (h:Rd w B 1 A m (u8s t)) (hmc:m≤c) (hc:c≤maxLen) (hB:B≤w.heap.size) (hm:m≤1000000) :
 Calls Tryz.prog 163 #[.slice A m c] w fun e w'=>e=.returned (.tuple #[.int .i64 (getI t).1,.int .i64 ((getI t).2.1:Nat),.int .i64 ((getI t).2.2:Nat)])∧Below w.heap.size w w':=by
 obtain rfl:m=t.length:=h.u8.symm
 cases t with
 | nil =>
   have hl:([]:List UInt8).length=0:=rfl
   rw [hl]
   go_enter Tryz.func163,Tryz.ntmps163
   go_wp2
   go_ret3
   exact ⟨rfl,belR _⟩
 | cons x t =>
   have hl:(x::t).length=t.length+1:=rfl
   rw [hl] at h hmc hm ⊢
   obtain ⟨a,rfl,hb,hx⟩:=h.byte (k:=0) (by simp)
   rw [add_zero'] at hx
   simp only [List.getElem_cons_zero] at hx
   have hx8:=x.toNat_lt
   have t0:(((t.length:Int)+1)==0)=false:=by rw [beq_eq_false_iff_ne];omega
   have lit:=(World.ownsRow_lit (base:=w.heap.size) (e:=5) (size:=1) w #[] 0 (Nat.le_refl _) (by simp [maxLen]) (by simp))
   have hR:=h.alloc hB (.cells #[] 5)
   have LIT:=Lib.hid lit;have HR:=Lib.hid hR;have HL:=Lib.hid hl;clear lit hR hl h
   go_enter Tryz.func163,Tryz.ntmps163
   go_upto_if 21 with (at_builtin;(refine wpList_appS _ rfl (.tmp 14) (.tmp 15) 27 rfl w.heap.size 5 (.int .u8 0) 1 1 info_u8 rfl (by decide) Tryz.underlying27 (.slice (some ⟨w.heap.size,0,none⟩) 0 0) 0 [] LIT.out ?_ _ (some a) (t.length+1) c (u8s (x::t)) HR.out ?_ (u8s_one _) ?_ ?_ ?_ ?_);rfl;rfl;omega;omega;(exact Nat.le_of_lt (LIT.out.lt _ rfl).2);intro v2 w2 ho2 hap2;have hb2:=hap2.below (B:=w.heap.size) (Nat.le_of_lt (LIT.out.lt _ rfl).2) LIT.out;rw [Nat.zero_add,List.nil_append] at ho2;obtain ⟨A2,c2,rfl,hc2,hm2,_⟩:=own_form ho2;have hbw2:Below w.heap.size w w2:=(belA (belR w) _).trans hb2;have hx2:=(hbw2.cell (p:=a) (by omega)).trans hx;have HO2:=Lib.hid ho2;have HB2:=Lib.hid hbw2;clear ho2 hb2 hbw2 hap2)
   go_cut [6,7] (fun s6 s7 wx=>GIcut w wx x t A2 (t.length+1) c2 s6)
   case first =>
    obtain ⟨g,rfl,hg,hgl,hcell,hfr,hset⟩:=own_head HO2.out
    have hne:¬a.block=g:=by omega
    by_cases h9:x.toNat<9
    ·have t9:decide ((x.toNat:Int)<9)=true:=decide_eq_true (by omega)
     have htl:=tailI_neg x t h9
     have e2:((8-x:UInt8).toNat:Int)=8-(x.toNat:Int):=by rw [UInt8.toNat_sub_of_le _ _ (by rw [UInt8.le_iff_toNat_le];simp;omega)];simp;omega
     have hs2:=hset (8-x)
     rw [e2] at hs2
     have HS2:=Lib.hid hs2;have HTL:=Lib.hid htl;have E2:=Lib.hid e2;have HSET:=Lib.hid hset;clear hs2 htl e2 hset
     go_wp2
     go_loopw [7] (fun i wr=>∃ j:Nat,j≤t.length∧i=.int .i64 ((j:Int)+1)∧wr.ownsRow w.heap.size 5 1 (.slice (some ⟨g,0,none⟩) (t.length+1) c2) (t.length+1) (u8s ((8-x)::fl t j))∧Below w.heap.size w wr) (fun i _=>t.length+1-(intOf i).toNat)
     case atStart=>exact ⟨0,by omega,rfl,by rw [fl_zero];exact HS2.out,HB2.out.setCell hg _⟩
     case round =>
      obtain ⟨j,hj,rfl,ho,hbr⟩:=hrel
      by_cases hlt:j<t.length
      ·have hfl:=fl_length t j (by omega)
       obtain ⟨g',eg,_,hgl',hcell',hfr',hset'⟩:=own_at ho (j+1) (by simp only [List.length_cons];omega)
       injection eg with eg
       injection eg with eg
       subst eg
       simp only [List.getElem_cons_succ] at hcell'
       rw [fl_get t j hlt] at hcell'
       have hs:=sub255 t[j]
       have hs2:=hset' (255-t[j])
       rw [List.set_cons_succ,fl_set t j hlt] at hs2
       have hb8:=t[j].toNat_lt
       have q1:(0:Int)≤(j:Int)+1:=by omega
       have q2:(j:Int)+1<(t.length:Int)+1:=by omega
       generalize t[j]=b at *
       have HS:=Lib.hid hs;have HS3:=Lib.hid hs2;have HF:=Lib.hid hfl;have HSET':=Lib.hid hset';have HO:=Lib.hid ho;clear hs hs2 hfl hset' ho
       go_wp2
       go_roundw
       case rel=>exact ⟨j+1,by omega,by go_num,by rw [HS.out];exact HS3.out,hbr.setCell hg _⟩
       case measure=>simp [intOf];omega
      ·obtain rfl:j=t.length:=by omega
       rw [fl_end] at ho
       have HO:=Lib.hid ho;clear ho
       go_wp2
       go_meet
       case rel=>exact ⟨true,_,_,by first|rfl|(rw [t9]),HO.out,HTL.out,hbr⟩
    ·have t9:decide ((x.toNat:Int)<9)=false:=decide_eq_false (by omega)
     have htl:=tailI_pos x t h9
     have e2:((x-9:UInt8).toNat:Int)=(x.toNat:Int)-9:=by rw [UInt8.toNat_sub_of_le _ _ (by rw [UInt8.le_iff_toNat_le];simp;omega)];simp;omega
     have hs2:=hset (x-9)
     rw [e2] at hs2
     have HS2:=Lib.hid hs2;have HTL:=Lib.hid htl;have E2:=Lib.hid e2;have HSET:=Lib.hid hset;clear hs2 htl e2 hset
     go_wp2
     go_meet
     case rel=>exact ⟨false,_,_,by first|rfl|(rw [t9]),HS2.out,HTL.out,HB2.out.setCell hg _⟩
   case rest =>
    obtain ⟨b,d,u,rfl,ho,htl,hbw⟩:=hcut
    obtain ⟨g,rfl,hg,hgl,hc0,hfr,_⟩:=own_head ho
    have hgu:=refGetU_any (some ⟨g,0,none⟩) (t.length+1) c2 _ (d::u) wc (Rd.own ho) (by omega)
    have hul:u.length=t.length:=by have:=ho.1;rw [u8s_length] at this;simp at this;omega
    have hX63:(getU (d::u)).2.2=0→(d.toNat=8→(u.headD 0).toNat≤127)→(getU (d::u)).1<9223372036854775808:=by
     intro h1 h2
     unfold getU at h1 ⊢
     simp only at h1 ⊢
     by_cases h8:8<d.toNat
     ·rw [if_pos h8];simp
     ·rw [if_neg h8] at h1 ⊢
      by_cases h9:(numB u d.toNat).2=0
      ·rw [if_pos h9];exact numB_lt63 u d.toNat (by omega) h2
      ·rw [if_neg h9];simp
    obtain ⟨⟨X,N,E⟩,hr⟩:∃ r,getU (d::u)=r:=⟨_,rfl⟩
    rw [hr] at hgu hX63
    simp only at hgu hX63
    have hd8:=d.toNat_lt
    have HTL:=Lib.hid htl;clear htl
    by_cases hd:d.toNat=8
    ·have td:((d.toNat:Int)==8)=true:=by rw [hd];rfl
     cases u with
     | nil =>
       have hl0:t.length=0:=by simpa using hul.symm
       have tl:decide ((1:Int)<(t.length:Int)+1)=false:=decide_eq_false (by omega)
       have HO:=Lib.hid ho;have HD:=Lib.hid hd;clear ho hd hul hl0
       have hT:getI (x::t)=if E=0 then (if b then -1-(X:Int) else (X:Int),N,0) else (0,0,E):=by rw [HTL.out];unfold tailI;rw [if_neg (by simp),hr]
       have HT:=Lib.hid hT;have HR:=Lib.hid hr;have HGU:=Lib.hid hgu;clear hT hr hgu
       by_cases hE:E=0
       ·have hX:=hX63 hE (fun _=>by simp)
        have ei:=i64_small X hX
        subst hE
        rw [if_pos rfl] at HT
        have e0:((0:Nat):Int)=0:=rfl
        cases b
        all_goals
         go_wp2_with (go_at_call 162;(with_reducible refine HGU.out.mono ?_);rintro y w3 ⟨rfl,j3,rfl⟩)
         go_ret3
         exact ⟨by rw [HT.out];rfl,belD hbw _⟩
       ·rw [if_neg hE] at HT
        have hEz:((E:Int) != 0)=true:=by rw [bne_iff_ne];omega
        go_wp2_with (go_at_call 162;(with_reducible refine HGU.out.mono ?_);rintro y w3 ⟨rfl,j3,rfl⟩)
        go_ret3
        exact ⟨by rw [HT.out];rfl,belD hbw _⟩
     | cons y u =>
       have tl:decide ((1:Int)<(t.length:Int)+1)=true:=decide_eq_true (by simp at hul;omega)
       have q2:(1:Int)<(t.length:Int)+1:=by simp at hul;omega
       obtain ⟨g',eg,_,_,hc1,_,_⟩:=own_at ho 1 (by simp)
       injection eg with eg
       injection eg with eg
       subst eg
       simp only [List.getElem_cons_succ,List.getElem_cons_zero] at hc1
       have hy8:=y.toNat_lt
       have HO:=Lib.hid ho;have HD:=Lib.hid hd;clear ho hd hul
       by_cases hy:127<y.toNat
       ·have ty:decide ((127:Int)<(y.toNat:Int))=true:=decide_eq_true (by omega)
        have hT:getI (x::t)=(0,0,6):=by rw [HTL.out];unfold tailI;rw [if_pos ⟨HD.out,hy⟩]
        have HT:=Lib.hid hT;clear hT
        go_wp2
        go_ret3
        exact ⟨by rw [HT.out];rfl,hbw⟩
       ·have ty:decide ((127:Int)<(y.toNat:Int))=false:=decide_eq_false (by omega)
        have hT:getI (x::t)=if E=0 then (if b then -1-(X:Int) else (X:Int),N,0) else (0,0,E):=by rw [HTL.out];unfold tailI;rw [if_neg (fun h=>hy h.2),hr]
        have HT:=Lib.hid hT;have HR:=Lib.hid hr;have HGU:=Lib.hid hgu;clear hT hr hgu
        by_cases hE:E=0
        ·have hX:=hX63 hE (fun _=>by simp only [List.headD_cons];omega)
         have ei:=i64_small X hX
         subst hE
         rw [if_pos rfl] at HT
         have e0:((0:Nat):Int)=0:=rfl
         cases b
         all_goals
          go_wp2_with (go_at_call 162;(with_reducible refine HGU.out.mono ?_);rintro y w3 ⟨rfl,j3,rfl⟩)
          go_ret3
          exact ⟨by rw [HT.out];rfl,belD hbw _⟩
        ·rw [if_neg hE] at HT
         have hEz:((E:Int) != 0)=true:=by rw [bne_iff_ne];omega
         go_wp2_with (go_at_call 162;(with_reducible refine HGU.out.mono ?_);rintro y w3 ⟨rfl,j3,rfl⟩)
         go_ret3
         exact ⟨by rw [HT.out];rfl,belD hbw _⟩
    ·have td:((d.toNat:Int)==8)=false:=by rw [beq_eq_false_iff_ne];omega
     have HO:=Lib.hid ho;have HU:=Lib.hid hul;clear ho hul
     have hT:getI (x::t)=if E=0 then (if b then -1-(X:Int) else (X:Int),N,0) else (0,0,E):=by rw [HTL.out];unfold tailI;rw [if_neg (fun h=>hd h.1),hr]
     have HT:=Lib.hid hT;have HR:=Lib.hid hr;have HGU:=Lib.hid hgu;clear hT hr hgu
     by_cases hE:E=0
     ·have hX:=hX63 hE (fun h=>absurd h hd)
      have ei:=i64_small X hX
      subst hE
      rw [if_pos rfl] at HT
      have e0:((0:Nat):Int)=0:=rfl
      cases b
      all_goals
       go_wp2_with (go_at_call 162;(with_reducible refine HGU.out.mono ?_);rintro y w3 ⟨rfl,j3,rfl⟩)
       go_ret3
       exact ⟨by rw [HT.out];rfl,belD hbw _⟩
     ·rw [if_neg hE] at HT
      have hEz:((E:Int) != 0)=true:=by rw [bne_iff_ne];omega
      go_wp2_with (go_at_call 162;(with_reducible refine HGU.out.mono ?_);rintro y w3 ⟨rfl,j3,rfl⟩)
      go_ret3
      exact ⟨by rw [HT.out];rfl,belD hbw _⟩
structure GotS where
 u:Nat
 i:Int
 t:List UInt8
 n:Nat
 e:Nat
def GotS.v (g:GotS):Value:=.agg #[.int .u64 (g.u:Int),.int .i64 g.i,.string ⟨g.t.toArray⟩,.int .i64 (g.n:Int),.int .i64 (g.e:Int)]
def got0S (e:Nat):GotS:=⟨0,0,[],0,e⟩
def mx (ms:Int):Nat:=(max ms 0).toNat
def rdU (mu:Nat) (t:List UInt8):GotS:=if (getU t).2.2≠0 then got0S (getU t).2.2 else if mu<(getU t).1 then got0S 2 else ⟨(getU t).1,0,[],(getU t).2.1,0⟩
def rdI (t:List UInt8):GotS:=if (getI t).2.2≠0 then got0S (getI t).2.2 else ⟨0,(getI t).1,[],(getI t).2.1,0⟩
def rdF (t:List UInt8):GotS:=if (rgetF t).2≠0 then got0S (rgetF t).2 else ⟨(rgetF t).1,0,[],8,0⟩
def rdB (ms:Int) (t:List UInt8):GotS :=
 if (getU t).2.2≠0 then got0S (getU t).2.2 else if mx ms<(getU t).1 then got0S 4 else if t.length-(getU t).2.1<(getU t).1 then got0S 5
 else ⟨0,0,(t.drop (getU t).2.1).take (getU t).1,(getU t).2.1+(getU t).1,0⟩
abbrev askV (d:Int) (mu:Nat) (ai:Int) (f:Nat) (s:ByteArray) (ms:Int):Value:=.agg #[.int .i64 d,.int .u64 (mu:Int),.int .i64 ai,.float .f64 f,.string s,.int .i64 ms]
section
variable (mu:Nat) (ai:Int) (f:Nat) (s:ByteArray) (ms:Int) (A:Option Addr) (m c B:Nat) (t:List UInt8) (w:World)
set_option maxHeartbeats 1000000 in
theorem refRead0 (h:Rd w B 1 A m (u8s t)) (hc:m≤maxLen) (hB:B≤w.heap.size) :
 Calls Tryz.prog 112 #[askV 0 mu ai f s ms,.slice A m c] w fun y w'=>y=.returned (rdU mu t).v∧Below w.heap.size w w':=by
 have hg:=fun (W:World) (hb:Below w.heap.size w W)=>refGetU_any A m c B t W (h.keep fun q hq=>hb.cell (by omega)) hc
 unfold rdU
 generalize getU t=r at *
 obtain ⟨x,n,er⟩:=r
 simp only at hg ⊢
 have sd:=sdN;have ad:=adN
 have HG:=Lib.hid hg;have H:=Lib.hid h;clear hg h
 by_cases h1:er=0
 ·subst h1
  rw [if_neg (by omega)]
  by_cases h2:mu<x
  ·rw [if_pos h2]
   go_enter Tryz.func112,Tryz.ntmps112
   go_wp2_with (go_at_call 162;(with_reducible refine (HG.out _ ?_).mono ?_);exact belA (belA (belA (belR w) _) _) _;rintro y w1 ⟨rfl,k1,rfl⟩)
   exact bodyPost_ret (v:=(got0S 2).v) (by simp [results,Tryz.results112,go_sem,GotS.v,got0S]) rfl ⟨rfl,belD (belA (belA (belA (belR w) _) _) _) _⟩
  ·rw [if_neg h2]
   go_enter Tryz.func112,Tryz.ntmps112
   go_wp2_with (go_at_call 162;(with_reducible refine (HG.out _ ?_).mono ?_);exact belA (belA (belA (belR w) _) _) _;rintro y w1 ⟨rfl,k1,rfl⟩)
   exact bodyPost_ret (v:=(GotS.mk x 0 [] n 0).v) (by simp [results,Tryz.results112,go_sem,GotS.v]) rfl ⟨rfl,belD (belA (belA (belA (belR w) _) _) _) _⟩
 ·rw [if_pos h1]
  have t1:((er:Int)==0)=false:=by rw [beq_eq_false_iff_ne];omega
  have t2:((er:Int) != 0)=true:=by rw [bne_iff_ne];omega
  have H1:=Lib.hid h1;clear h1
  go_enter Tryz.func112,Tryz.ntmps112
  go_wp2_with (go_at_call 162;(with_reducible refine (HG.out _ ?_).mono ?_);exact belA (belA (belA (belR w) _) _) _;rintro y w1 ⟨rfl,k1,rfl⟩)
  exact bodyPost_ret (v:=(got0S er).v) (by simp [results,Tryz.results112,go_sem,GotS.v,got0S]) rfl ⟨rfl,belD (belA (belA (belA (belR w) _) _) _) _⟩
set_option maxHeartbeats 1000000 in
theorem refRead2 (h:Rd w B 1 A m (u8s t)) (hc:m≤maxLen) (hB:B≤w.heap.size) :
 Calls Tryz.prog 112 #[askV 2 mu ai f s ms,.slice A m c] w fun y w'=>y=.returned (rdF t).v∧Below w.heap.size w w':=by
 have hg:=fun (W:World) (hb:Below w.heap.size w W)=>refGetF_any A m c B t W (h.keep fun q hq=>hb.cell (by omega)) hc
 unfold rdF
 generalize rgetF t=r at *
 obtain ⟨x,er⟩:=r
 simp only at hg ⊢
 have sd:=sdN;have ad:=adN
 have HG:=Lib.hid hg;have H:=Lib.hid h;clear hg h
 by_cases h1:er=0
 ·subst h1
  rw [if_neg (by omega)]
  go_enter Tryz.func112,Tryz.ntmps112
  go_wp2_with (go_at_call 164;(with_reducible refine (HG.out _ ?_).mono ?_);exact belA (belA (belA (belR w) _) _) _;rintro y w1 ⟨rfl,k1,rfl⟩)
  exact bodyPost_ret (v:=(GotS.mk x 0 [] 8 0).v) (by simp [results,Tryz.results112,go_sem,GotS.v]) rfl ⟨rfl,belD (belA (belA (belA (belR w) _) _) _) _⟩
 ·rw [if_pos h1]
  have t1:((er:Int)==0)=false:=by rw [beq_eq_false_iff_ne];omega
  have t2:((er:Int) != 0)=true:=by rw [bne_iff_ne];omega
  have H1:=Lib.hid h1;clear h1
  go_enter Tryz.func112,Tryz.ntmps112
  go_wp2_with (go_at_call 164;(with_reducible refine (HG.out _ ?_).mono ?_);exact belA (belA (belA (belR w) _) _) _;rintro y w1 ⟨rfl,k1,rfl⟩)
  exact bodyPost_ret (v:=(got0S er).v) (by simp [results,Tryz.results112,go_sem,GotS.v,got0S]) rfl ⟨rfl,belD (belA (belA (belA (belR w) _) _) _) _⟩
end
section
variable (mu:Nat) (ai:Int) (f:Nat) (s:ByteArray) (ms:Int) (A:Option Addr) (m c B:Nat) (t:List UInt8) (w:World)
set_option maxRecDepth 20000 in
set_option maxHeartbeats 1000000 in
theorem refRead1 (h:Rd w B 1 A m (u8s t)) (hm:m≤1000000) (hmc:m≤c) (hc:c≤maxLen) (hB:B≤w.heap.size) :
 Calls Tryz.prog 112 #[askV 1 mu ai f s ms,.slice A m c] w fun y w'=>y=.returned (rdI t).v∧Below w.heap.size w w':=by
 have hg:=fun (W:World) (hb:Below w.heap.size w W)=>refGetI_any A m c B t W (h.keep fun q hq=>hb.cell (by omega)) hmc hc (Nat.le_trans hB hb.size) hm
 unfold rdI
 generalize getI t=r at *
 obtain ⟨x,n,er⟩:=r
 simp only at hg ⊢
 have HG:=Lib.hid hg;have H:=Lib.hid h;clear hg h
 have fin:∀ b:Bool,((er:Int)==0)=b→((er:Int) != 0)=!b→(if er≠0 then got0S er else ⟨0,x,[],n,0⟩:GotS)=(if b then ⟨0,x,[],n,er⟩ else got0S er) →
  Calls Tryz.prog 112 #[askV 1 mu ai f s ms,.slice A m c] w fun y w'=>y=.returned (if er≠0 then got0S er else ⟨0,x,[],n,0⟩:GotS).v∧Below w.heap.size w w':=by
  intro b t1 t2 hres
  rw [hres]
  have HRES:=Lib.hid hres;clear hres
  cases b
  ·simp only [Bool.not_false] at t2
   go_enter Tryz.func112,Tryz.ntmps112
   go_wp2_with fail
   (with_reducible refine (HG.out _ ?_).mono ?_)
   ·exact belA (belA (belA (belR w) _) _) _
   ·rintro y w1 ⟨rfl,hb1⟩
    have k3:=(Blk.new ((w.alloc (.cells #[.int .i64 1,.int .u64 (mu:Int),.int .i64 ai,.float .f64 f,.string s,.int .i64 ms] 103)).alloc (.cells #[.int .u64 0,.int .i64 0,.string ⟨#[]⟩,.int .i64 0,.int .i64 0] 100)) 100 #[.int .u64 0,.int .i64 0,.string ⟨#[]⟩,.int .i64 0,.int .i64 0]).below hb1 (by simp)
    have k2:=((Blk.new (w.alloc (.cells #[.int .i64 1,.int .u64 (mu:Int),.int .i64 ai,.float .f64 f,.string s,.int .i64 ms] 103)) 100 #[.int .u64 0,.int .i64 0,.string ⟨#[]⟩,.int .i64 0,.int .i64 0]).alloc (.cells #[.int .u64 0,.int .i64 0,.string ⟨#[]⟩,.int .i64 0,.int .i64 0] 100)).below hb1 (by simp)
    simp only [World.size_alloc] at k2 k3
    have c0:=k3.cell 0;have c1:=k3.cell 1;have c2:=k3.cell 2;have c3:=k3.cell 3;have c4:=k3.cell 4
    have f0:=k3.frozen 0;have f1:=k3.frozen 1;have f2:=k3.frozen 2;have f3:=k3.frozen 3;have f4:=k3.frozen 4
    have d0:=k2.cell 0;have d1:=k2.cell 1;have d2:=k2.cell 2;have d3:=k2.cell 3;have d4:=k2.cell 4
    have g0:=k2.frozen 0;have g1:=k2.frozen 1;have g2:=k2.frozen 2;have g3:=k2.frozen 3;have g4:=k2.frozen 4
    simp at c0 c1 c2 c3 c4 d0 d1 d2 d3 d4
    have hbel:Below w.heap.size w w1:=(belA (belA (belA (belR w) _) _) _).trans (hb1.mono (by simp;omega))
    have HBEL:=Lib.hid hbel;have K2:=Lib.hid k2;have K3:=Lib.hid k3;clear hb1 hbel k2 k3
    go_wp2
    refine bodyPost_ret (v:=(if false=true then (⟨0,x,[],n,er⟩:GotS) else got0S er).v) ?_ rfl ⟨rfl,?_⟩
    ·simp [results,Tryz.results112,go_sem,GotS.v,got0S, *]
    ·iterate 8 (refine Below.setCell ?_ (by simp only;omega) _)
     exact HBEL.out
  ·simp only [Bool.not_true] at t2
   go_enter Tryz.func112,Tryz.ntmps112
   go_wp2_with fail
   (with_reducible refine (HG.out _ ?_).mono ?_)
   ·exact belA (belA (belA (belR w) _) _) _
   ·rintro y w1 ⟨rfl,hb1⟩
    have k3:=(Blk.new ((w.alloc (.cells #[.int .i64 1,.int .u64 (mu:Int),.int .i64 ai,.float .f64 f,.string s,.int .i64 ms] 103)).alloc (.cells #[.int .u64 0,.int .i64 0,.string ⟨#[]⟩,.int .i64 0,.int .i64 0] 100)) 100 #[.int .u64 0,.int .i64 0,.string ⟨#[]⟩,.int .i64 0,.int .i64 0]).below hb1 (by simp)
    have k2:=((Blk.new (w.alloc (.cells #[.int .i64 1,.int .u64 (mu:Int),.int .i64 ai,.float .f64 f,.string s,.int .i64 ms] 103)) 100 #[.int .u64 0,.int .i64 0,.string ⟨#[]⟩,.int .i64 0,.int .i64 0]).alloc (.cells #[.int .u64 0,.int .i64 0,.string ⟨#[]⟩,.int .i64 0,.int .i64 0] 100)).below hb1 (by simp)
    simp only [World.size_alloc] at k2 k3
    have c0:=k3.cell 0;have c1:=k3.cell 1;have c2:=k3.cell 2;have c3:=k3.cell 3;have c4:=k3.cell 4
    have f0:=k3.frozen 0;have f1:=k3.frozen 1;have f2:=k3.frozen 2;have f3:=k3.frozen 3;have f4:=k3.frozen 4
    have d0:=k2.cell 0;have d1:=k2.cell 1;have d2:=k2.cell 2;have d3:=k2.cell 3;have d4:=k2.cell 4
    have g0:=k2.frozen 0;have g1:=k2.frozen 1;have g2:=k2.frozen 2;have g3:=k2.frozen 3;have g4:=k2.frozen 4
    simp at c0 c1 c2 c3 c4 d0 d1 d2 d3 d4
    have hbel:Below w.heap.size w w1:=(belA (belA (belA (belR w) _) _) _).trans (hb1.mono (by simp;omega))
    have HBEL:=Lib.hid hbel;have K2:=Lib.hid k2;have K3:=Lib.hid k3;clear hb1 hbel k2 k3
    go_wp2
    refine bodyPost_ret (v:=(if true=true then (⟨0,x,[],n,er⟩:GotS) else got0S er).v) ?_ rfl ⟨rfl,?_⟩
    ·simp [results,Tryz.results112,go_sem,GotS.v, *]
    ·iterate 8 (refine Below.setCell ?_ (by simp only;omega) _)
     exact HBEL.out
 by_cases h1:er=0
 ·subst h1
  exact fin true rfl rfl rfl
 ·exact fin false (by rw [beq_eq_false_iff_ne];omega) (by show _=true;rw [bne_iff_ne];omega) (by rw [if_pos h1];rfl)
theorem conv_cut {w:World} {B n k N:Nat} {a:Addr} {t:List UInt8} (h:Rd w B 1 (some a) n (u8s t)) (hk:k<n) (hN:k+N≤n):∀ cc,(convert 27 9 (.slice (some (a.add k)) N cc)).run Tryz.prog w=.ok (.string ⟨((t.drop k).take N).toArray⟩) w:=by
 intro cc
 have h1:=h.cut (k:=k) (c:=n+1) (by omega) (by omega)
 rw [if_neg (by omega),Nat.mul_one,u8s_drop] at h1
 have h2:=h1.take (k:=N) (by omega)
 simp only [Option.map_some] at h2
 exact run_str h2 Tryz.underlying27 Tryz.underlying5 Tryz.underlying9
theorem mx_eq (ms:Int):(if ms<0 then 0 else ms)=(mx ms:Int):=by
 unfold mx
 split<;>omega
theorem conv_nil {w:World} (A:Option Addr) (cc:Nat):(convert 27 9 (.slice A 0 cc)).run Tryz.prog w=.ok (.string ⟨#[]⟩) w:=by
 exact run_str (B:=0) (l:=[]) ⟨rfl,fun h=>absurd h (by omega)⟩ Tryz.underlying27 Tryz.underlying5 Tryz.underlying9
set_option maxRecDepth 20000 in
set_option maxHeartbeats 1000000 in
theorem refRead4 (h:Rd w B 1 A m (u8s t)) (hm:m≤1000000) (hmc:m≤c) (hc:c≤maxLen) (hB:B≤w.heap.size) (hms:ms≤9223372036854775807) :
 Calls Tryz.prog 112 #[askV 4 mu ai f s ms,.slice A m c] w fun y w'=>y=.returned (rdB ms t).v∧Below w.heap.size w w':=by
 have hg:=fun (W:World) (hb:Below w.heap.size w W)=>refGetU_any A m c B t W (h.keep fun q hq=>hb.cell (by omega)) (Nat.le_trans hmc hc)
 have hlt:=getU_lt t
 have hfit:=getU_fits t
 have hlen:=h.u8
 have hne:t=[]→(getU t).2.2=5:=fun e=>by subst e;rfl
 have hcc:=hc
 unfold maxLen at hcc
 unfold rdB
 generalize getU t=r at *
 obtain ⟨x,n,er⟩:=r
 simp only at hg hlt hfit hne ⊢
 have sd:=sdN;have ad:=adN
 have hmx:=mx_eq ms
 have hM:mx ms≤9223372036854775807:=by unfold mx;omega
 generalize mx ms=M at *
 have wM:IntKind.u64.wrap (M:Int)=(M:Int):=by rw [IntKind.wrap_u64];omega
 have HG:=Lib.hid hg;clear hg
 by_cases h1:er=0
 ·subst h1
  rw [if_neg (by omega)]
  have hn:=hfit rfl
  obtain ⟨a,rfl,hab⟩:∃ a,A=some a∧a.block<B:=by
   cases t with
   | nil=>exact absurd (hne rfl) (by decide)
   | cons b t=>obtain ⟨a,e,hb,_⟩:=h.byte (k:=0) (by simp);exact ⟨a,e,hb⟩
  obtain ⟨k,hk⟩:∃ k,n+k=m:=⟨m-n,by omega⟩
  have hkz:(m:Int)-(n:Int)=(k:Int):=by omega
  have wk:IntKind.u64.wrap (k:Int)=(k:Int):=by rw [IntKind.wrap_u64];omega
  have hl:t.length-n=k:=by omega
  rw [hl]
  have hnm:n≤m:=by omega
  have hkm:k≤1000000:=by omega
  have H:=Lib.hid h;have HL:=Lib.hid hlen;have HK:=Lib.hid hk;have HL2:=Lib.hid hl;clear h hlen hk hl hne hfit hn
  by_cases h2:M<x
  ·rw [if_pos h2]
   go_enter Tryz.func112,Tryz.ntmps112
   go_wp2_with (go_at_call 162;(with_reducible refine (HG.out _ ?_).mono ?_);exact belA (belA (belA (belR w) _) _) _;rintro y w1 ⟨rfl,k1,rfl⟩)
   exact bodyPost_ret (v:=(got0S 4).v) (by simp [results,Tryz.results112,go_sem,GotS.v,got0S]) rfl ⟨rfl,belD (belA (belA (belA (belR w) _) _) _) _⟩
  ·rw [if_neg h2]
   by_cases h3:k<x
   ·rw [if_pos h3]
    go_enter Tryz.func112,Tryz.ntmps112
    go_wp2_with (go_at_call 162;(with_reducible refine (HG.out _ ?_).mono ?_);exact belA (belA (belA (belR w) _) _) _;rintro y w1 ⟨rfl,k1,rfl⟩)
    exact bodyPost_ret (v:=(got0S 5).v) (by simp [results,Tryz.results112,go_sem,GotS.v,got0S]) rfl ⟨rfl,belD (belA (belA (belA (belR w) _) _) _) _⟩
   ·rw [if_neg h3]
    have hxk:x≤k:=by omega
    have hnx:(n:Int)+(x:Int)≤(c:Int):=by have:=HK.out;omega
    have hxc:(x:Int)≤1000000:=by omega
    by_cases hnc:n=c
    ·have hx0:x=0:=by have:=HK.out;omega
     subst hx0
     subst hnc
     have hcv:=fun W=>conv_nil (w:=W) (some a) 0
     rw [List.take_zero]
     go_enter Tryz.func112,Tryz.ntmps112
     go_wp2_with (go_at_call 162;(with_reducible refine (HG.out _ ?_).mono ?_);exact belA (belA (belA (belR w) _) _) _;rintro y w1 ⟨rfl,k1,rfl⟩)
     exact bodyPost_ret (v:=(GotS.mk 0 0 [] (n+0) 0).v) (by simp [results,Tryz.results112,go_sem,GotS.v]) rfl ⟨rfl,belD (belA (belA (belA (belR w) _) _) _) _⟩
    ·have hnc2:(n:Int)<(c:Int):=by have:=HK.out;omega
     have hcv:∀ o1 o2 o3 k cc,(convert 27 9 (.slice (some (a.add n)) x cc)).run Tryz.prog ((((w.alloc o1).alloc o2).alloc o3).drewN k)=.ok (.string ⟨((t.drop n).take x).toArray⟩) ((((w.alloc o1).alloc o2).alloc o3).drewN k):=by
      intro o1 o2 o3 k' cc
      have hr:=H.out.below ((bel_lit3 w o1 o2 o3 k').mono hB)
      by_cases hnm2:n<m
      ·exact conv_cut hr hnm2 (by have:=HK.out;omega) cc
      ·have e0:x=0:=by have:=HK.out;omega
       subst e0
       rw [List.take_zero];exact conv_nil _ cc
     generalize (t.drop n).take x=T at *
     go_enter Tryz.func112,Tryz.ntmps112
     go_wp2_with (go_at_call 162;(with_reducible refine (HG.out _ ?_).mono ?_);exact belA (belA (belA (belR w) _) _) _;rintro y w1 ⟨rfl,k1,rfl⟩)
     exact bodyPost_ret (v:=(GotS.mk 0 0 T (n+x) 0).v) (by simp [results,Tryz.results112,go_sem,GotS.v]) rfl ⟨rfl,belD (belA (belA (belA (belR w) _) _) _) _⟩
 ·rw [if_pos h1]
  have t1:((er:Int)==0)=false:=by rw [beq_eq_false_iff_ne];omega
  have t2:((er:Int) != 0)=true:=by rw [bne_iff_ne];omega
  have H1:=Lib.hid h1;clear h1 hne hfit h
  go_enter Tryz.func112,Tryz.ntmps112
  go_wp2_with (go_at_call 162;(with_reducible refine (HG.out _ ?_).mono ?_);exact belA (belA (belA (belR w) _) _) _;rintro y w1 ⟨rfl,k1,rfl⟩)
  exact bodyPost_ret (v:=(got0S er).v) (by simp [results,Tryz.results112,go_sem,GotS.v,got0S]) rfl ⟨rfl,belD (belA (belA (belA (belR w) _) _) _) _⟩
end
end Go.Proofs.YtfhmaincnlaapaaGreat
