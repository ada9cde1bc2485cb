/- bushelref03.Less and Same: they stand to one another as the keys do. -/
import Derived.Laws.FloatArith
import Derived.Test.YtfhmaincnlaapaaGreatAgBufInU
namespace Go.Proofs.YtfhmaincnlaapaaGreat
set_option linter.unusedVariables false
open Ieee
def rg (b:Nat):Nat:=b%9223372036854775808
def ng (b:Nat):Bool:=b/9223372036854775808%2==1
def irg:Nat:=9218868437227405312
def nanB (b:Nat):Bool:=decide (irg<rg b)
def mg (r:Nat):Nat:=if r<4503599627370496 then r else 4503599627370496+r%4503599627370496
def ex (r:Nat):Nat:=if r<4503599627370496 then 0 else r/4503599627370496-1
def vl (r:Nat):Nat:=mg r*2^ex r
def sv (b:Nat):Int:=if ng b then -(vl (rg b):Int) else (vl (rg b):Int)
def keyB (b:Nat):Nat:=if nanB b then 18446744073709551615 else if ng b then 9223372036854775807-rg b else 9223372036854775808+rg b
theorem sw_eq:double.signWeight=9223372036854775808:=by decide
theorem bi_eq:double.binade=4503599627370496:=by decide
theorem ir_eq:double.infRung=9218868437227405312:=by decide
theorem lp_eq:double.leastPlace=-1074:=by decide
theorem read_num (b:Nat) (h:rg b<irg):double.read b=.number (ng b) (mg (rg b)) (-1074+(ex (rg b):Nat)):=by
 unfold Format.read
 simp only [sw_eq,bi_eq,ir_eq,lp_eq]
 unfold rg irg at *
 unfold mg ex ng
 split
 ·simp
 ·rfl
theorem read_inf (b:Nat) (h:rg b=irg):double.read b=.infinity (ng b):=by
 unfold Format.read
 simp only [sw_eq,bi_eq,ir_eq,lp_eq]
 unfold rg irg at *
 unfold ng
 rw [if_neg (by omega),if_neg (by omega),if_pos h]
theorem read_nan (b:Nat) (h:irg<rg b):double.read b=.nan (ng b) (rg b-irg):=by
 unfold Format.read
 simp only [sw_eq,bi_eq,ir_eq,lp_eq]
 unfold rg irg at *
 unfold ng
 rw [if_neg (by omega),if_neg (by omega),if_neg (by omega)]
theorem vl_lt {r s:Nat} (h:r<s):vl r<vl s:=by
 unfold vl mg ex
 by_cases hr:r<4503599627370496
 ·by_cases hs:s<4503599627370496
  ·simp [hr,hs];exact h
  ·rw [if_pos hr,if_pos hr,if_neg hs,if_neg hs]
   have:1≤2^(s/4503599627370496-1):=Nat.one_le_two_pow
   calc r*2^0=r:=by simp
    _<(4503599627370496+s%4503599627370496)*1:=by omega
    _≤_:=Nat.mul_le_mul_left _ this
 ·have hs:¬ s<4503599627370496:=by omega
  rw [if_neg hr,if_neg hr,if_neg hs,if_neg hs]
  obtain ⟨q,hq⟩:∃ q,r/4503599627370496=q+1:=⟨r/4503599627370496-1,by omega⟩
  obtain ⟨p,hp⟩:∃ p,s/4503599627370496=p+1:=⟨s/4503599627370496-1,by omega⟩
  rw [hq,hp,Nat.add_sub_cancel,Nat.add_sub_cancel]
  by_cases e:q=p
  ·subst e
   exact Nat.mul_lt_mul_of_pos_right (by omega) (Nat.two_pow_pos _)
  ·have hlt:q+1≤p:=by omega
   have h2:2^(q+1)≤2^p:=Nat.pow_le_pow_right (by decide) hlt
   calc (4503599627370496+r%4503599627370496)*2^q<(2*4503599627370496)*2^q:=Nat.mul_lt_mul_of_pos_right (by omega) (Nat.two_pow_pos _)
    _=4503599627370496*2^(q+1):=by rw [Nat.pow_succ];omega
    _≤4503599627370496*2^p:=Nat.mul_le_mul_left _ h2
    _≤_:=Nat.mul_le_mul_right _ (by omega)
theorem vl_inj {r s:Nat} (h:vl r=vl s):r=s:=by
 rcases Nat.lt_trichotomy r s with h1|h1|h1
 ·have:=vl_lt h1;omega
 ·exact h1
 ·have:=vl_lt h1;omega
theorem vl_zero:vl 0=0:=rfl
theorem vl_pos {r:Nat} (h:0<r):0<vl r:=by have:=vl_lt h;rw [vl_zero] at this;exact this
theorem icmp_lt {x y:Int} (h:x<y):compare x y=.lt:=by simp [compare,compareOfLessAndEq,h]
theorem icmp_gt {x y:Int} (h:y<x):compare x y=.gt:=by
 have h1:¬ x<y:=by omega
 have h2:x≠y:=by omega
 simp [compare,compareOfLessAndEq,h1,h2]
theorem compare_mul (x y:Int) (c:Nat) (hc:0<c):compare (x*(c:Int)) (y*(c:Int))=compare x y:=by
 have hc':(0:Int)<c:=by omega
 rcases Int.lt_trichotomy x y with h|h|h
 ·rw [icmp_lt h,icmp_lt (Int.mul_lt_mul_of_pos_right h hc')]
 ·subst h;simp
 ·rw [icmp_gt h,icmp_gt (Int.mul_lt_mul_of_pos_right h hc')]
theorem signed_mul (s:Bool) (m k c:Nat):signed s m k*((2^c:Nat):Int)=if s then -((m*2^(k+c):Nat):Int) else ((m*2^(k+c):Nat):Int):=by
 unfold signed
 rw [Nat.shiftLeft_eq,Nat.pow_add,← Nat.mul_assoc]
 split <;> simp [Int.neg_mul]
theorem order_num (a b:Nat) (ha:rg a<irg) (hb:rg b<irg):double.order a b=some (compare (sv a) (sv b)):=by
 unfold Format.order
 rw [read_num a ha,read_num b hb]
 simp only [Datum.order]
 congr 1
 generalize hi:ex (rg a)=i
 generalize hj:ex (rg b)=j
 have e1:((-1074+(i:Int))-min (-1074+(i:Int)) (-1074+(j:Int))).toNat+min i j=i:=by omega
 have e2:((-1074+(j:Int))-min (-1074+(i:Int)) (-1074+(j:Int))).toNat+min i j=j:=by omega
 rw [← compare_mul _ _ (2^min i j) (Nat.two_pow_pos _),signed_mul,signed_mul,e1,e2]
 unfold sv vl
 rw [hi,hj]
theorem vl_irg (r:Nat) (h:r<irg):vl r<vl irg:=vl_lt h
theorem order_any (a b:Nat) (ha:rg a≤irg) (hb:rg b≤irg):double.order a b=some (compare (sv a) (sv b)):=by
 by_cases h1:rg a=irg
 ·by_cases h2:rg b=irg
  ·unfold Format.order
   rw [read_inf a h1,read_inf b h2]
   simp only [Datum.order,sv,h1,h2]
   have hp:=vl_pos (show 0<irg by decide)
   generalize vl irg=x at *
   congr 1
   cases ng a <;> cases ng b <;> simp <;> (first|rfl|(symm;first|(exact icmp_lt (by omega))|(exact icmp_gt (by omega))))
  ·unfold Format.order
   rw [read_inf a h1,read_num b (by omega)]
   simp only [Datum.order,sv,h1]
   have hv:=vl_irg (rg b) (by omega)
   congr 1
   cases ng a <;> cases ng b <;> simp <;> (symm;first|(exact icmp_lt (by omega))|(exact icmp_gt (by omega)))
 ·by_cases h2:rg b=irg
  ·unfold Format.order
   rw [read_num a (by omega),read_inf b h2]
   simp only [Datum.order,sv,h2]
   have hv:=vl_irg (rg a) (by omega)
   congr 1
   cases ng a <;> cases ng b <;> simp <;> (symm;first|(exact icmp_lt (by omega))|(exact icmp_gt (by omega)))
  ·exact order_num a b (by omega) (by omega)
theorem order_nan (a b:Nat) (h:irg<rg a∨irg<rg b):double.order a b=none:=by
 unfold Format.order
 by_cases ha:irg<rg a
 ·rw [read_nan a ha];cases double.read b <;> rfl
 ·rw [read_nan b (by omega)];cases double.read a <;> rfl
theorem order_self (b:Nat):(double.order b b != some .eq)=nanB b:=by
 unfold nanB
 by_cases h:irg<rg b
 ·rw [order_nan b b (.inl h),decide_eq_true h];rfl
 ·rw [order_any b b (by omega) (by omega),decide_eq_false h];simp
theorem rg_lt (b:Nat):rg b<9223372036854775808:=Nat.mod_lt _ (by decide)
theorem keyB_lt (b:Nat):keyB b<18446744073709551616:=by
 unfold keyB;have:=rg_lt b;split;omega;split <;> omega
theorem ng_iff (b:Nat) (hb:b<18446744073709551616):ng b=decide (9223372036854775808≤b):=by
 unfold ng;rw [Bool.eq_iff_iff];simp;omega
theorem key_lt (a b:Nat) (ha:nanB a=false) (hb:nanB b=false):decide (keyB a<keyB b)=(decide (sv a<sv b)||(decide (sv a=sv b)&&(ng a && !ng b))):=by
 have h1:rg a≤irg:=by unfold nanB at ha;simpa using ha
 have h2:rg b≤irg:=by unfold nanB at hb;simpa using hb
 unfold irg at h1 h2
 simp only [keyB,ha,hb]
 unfold sv
 have t:=Nat.lt_trichotomy (rg a) (rg b)
 have hl:rg a<rg b→vl (rg a)<vl (rg b):=vl_lt
 have hg:rg b<rg a→vl (rg b)<vl (rg a):=vl_lt
 have z1:0<rg a→0<vl (rg a):=vl_pos
 have z2:0<rg b→0<vl (rg b):=vl_pos
 have z3:rg a=0→vl (rg a)=0:=fun h=>by rw [h];rfl
 have z4:rg b=0→vl (rg b)=0:=fun h=>by rw [h];rfl
 have e3:rg a=rg b→vl (rg a)=vl (rg b):=fun h=>by rw [h]
 generalize vl (rg a)=x at *
 generalize vl (rg b)=y at *
 generalize rg a=r at *
 generalize rg b=s at *
 rw [Bool.eq_iff_iff]
 cases ng a <;> cases ng b <;> simp <;> omega
end Go.Proofs.YtfhmaincnlaapaaGreat
namespace Go.Proofs.YtfhmaincnlaapaaGreat
open Go.ChangeShapes Go.WideShapes Go.ChangeAt Go.RowKit
set_option linter.unusedVariables false
theorem f64bits (b:Nat) (w:World):(callFunc 188 #[.float .f64 b]).run Tryz.prog w=.ok (.value (.int .u64 (b:Int))) w:=by kernel_rfl
theorem and63 (b:Nat) (h:b<18446744073709551616):bits .and .u64 (b:Int) 9223372036854775807=((rg b:Nat):Int):=by
 have e:(9223372036854775807:Int)=((9223372036854775807:Nat):Int):=rfl
 rw [e,u64_and_nat _ _ h (by omega)]
 congr 1
 exact Nat.and_two_pow_sub_one_eq_mod b 63
theorem order_selfF (b:Nat):(FloatKind.f64.format.order b b != some .eq)=nanB b:=order_self b
theorem key_any (b:Nat) (w:World) (hb:b<18446744073709551616) :
 Calls Tryz.prog 141 #[.float .f64 b] w fun e w'=>e=.returned (.int .u64 (keyB b:Nat))∧w=w':=by
 have hf:=f64bits b
 have hn:=order_selfF b
 have hd:=and63 b hb
 have hr:=rg_lt b
 unfold keyB
 have hni:=ng_iff b hb
 have hrb:rg b=b-if 9223372036854775808≤b then 9223372036854775808 else 0:=by unfold rg;split <;> omega
 cases h:nanB b
 ·rw [h] at hn
  by_cases hg:9223372036854775808≤b
  ·rw [if_pos hg] at hrb
   rw [hni,decide_eq_true hg]
   have t2:(((b:Int)/9223372036854775808)==1)=true:=by rw [beq_iff_eq];omega
   have HR:=Lib.hid hrb;have HN:=Lib.hid hni;clear hrb hni
   go_enter Tryz.func141,Tryz.ntmps141
   go_wp2
   go_ret
   exact ⟨by simp;omega,rfl⟩
  ·rw [if_neg hg] at hrb
   rw [hni,decide_eq_false hg]
   have t2:(((b:Int)/9223372036854775808)==1)=false:=by rw [beq_eq_false_iff_ne];omega
   have HR:=Lib.hid hrb;have HN:=Lib.hid hni;clear hrb hni
   go_enter Tryz.func141,Tryz.ntmps141
   go_wp2
   go_ret
   exact ⟨by have:=HR.out;simp;omega,rfl⟩
 ·rw [h] at hn
  have HR:=Lib.hid hrb;have HN:=Lib.hid hni;clear hrb hni
  go_enter Tryz.func141,Tryz.ntmps141
  go_wp2
  go_ret
  exact ⟨rfl,rfl⟩
theorem run_sub_bad {P:Program} (t:TypeId) (w:World) (x y:Nat) (h:FloatKind.f64.format.sub x y=none):∃ q,nanB q=true∧q<18446744073709551616∧(binOp .sub t (.float .f64 x) (.float .f64 y)).run P w=.ok (.float .f64 q) w.drew:=by
 refine ⟨Question.cut (.nanBits .f64 x y) (w.tape w.drawn (.nanBits .f64 x y)),?_,?_,?_⟩
 ·generalize w.tape w.drawn (.nanBits .f64 x y)=t
  have h1:=Nat.mod_lt (t/2) (show 0<4503599627370495 by decide)
  refine decide_eq_true ?_
  show 9218868437227405312<(t%2*9223372036854775808+9218868437227405312+1+t/2%4503599627370495)%9223372036854775808
  generalize t/2%4503599627370495=y at *
  omega
 ·generalize w.tape w.drawn (.nanBits .f64 x y)=t
  have h1:=Nat.mod_lt (t/2) (show 0<4503599627370495 by decide)
  show (t%2*9223372036854775808+9218868437227405312+1+t/2%4503599627370495)<_
  generalize t/2%4503599627370495=y at *
  omega
 ·simp [binOp,Op.floatArith,h,Question.forced]
theorem order_zero (b:Nat) (h:nanB b=false):(FloatKind.f64.format.order b 0==some .eq)=decide (rg b=0):=by
 have h1:rg b≤irg:=by unfold nanB at h;simpa using h
 have:=order_any b 0 h1 (by decide)
 show (Ieee.double.order b 0==some .eq)=_
 rw [this]
 have e0:sv 0=0:=by decide
 rw [e0]
 by_cases hz:rg b=0
 ·have:sv b=0:=by unfold sv;rw [hz];simp [vl_zero]
  rw [this];simp [hz]
 ·have hp:=vl_pos (show 0<rg b by omega)
  have hne:sv b≠0:=by unfold sv;split <;> omega
  rcases Int.lt_or_gt_of_ne hne with hl|hl
  ·rw [icmp_lt hl];simp [hz]
  ·rw [icmp_gt hl];simp [hz]
theorem sub_self_num (b:Nat) (h:rg b<irg):FloatKind.f64.format.sub b b=some 0:=by
 show Ieee.double.sub b b=some 0
 unfold Ieee.Format.sub
 rw [read_num b h]
 simp only [Ieee.Datum.opposite,Ieee.Datum.sum,Ieee.signed]
 generalize mg (rg b)=m
 have:(-1074+(ex (rg b):Int)-min (-1074+(ex (rg b):Int)) (-1074+(ex (rg b):Int))).toNat=0:=by omega
 rw [this]
 cases ng b <;> simp [Ieee.Format.write,Ieee.Format.nearest,Ieee.Format.word,Int.add_right_neg,Int.add_left_neg]
theorem sub_self_inf (b:Nat) (h:rg b=irg):FloatKind.f64.format.sub b b=none:=by
 show Ieee.double.sub b b=none
 unfold Ieee.Format.sub
 rw [read_inf b h]
 cases ng b <;> rfl
def kindF (b:Nat):Nat:=if nanB b then 3 else if rg b=0 then 0 else if rg b=irg then 2 else 1
theorem refKind_any (b:Nat) (w:World) (hb:b<18446744073709551616) :
 Calls Tryz.prog 65 #[.float .f64 b] w fun e w'=>e=.returned (.int .i64 (kindF b:Nat))∧∃ n,w'=w.drewN n:=by
 have hn:=order_selfF b
 unfold kindF
 cases h:nanB b
 ·rw [h] at hn
  have hz:=order_zero b h
  by_cases h0:rg b=0
  ·rw [decide_eq_true h0] at hz
   rw [if_neg (by simp),if_pos h0]
   have H0:=Lib.hid h0;clear h0
   go_enter Tryz.func65,Tryz.ntmps65
   go_wp2
   go_ret
   exact ⟨rfl,0,rfl⟩
  ·rw [decide_eq_false h0] at hz
   rw [if_neg (by simp),if_neg h0]
   by_cases hi:rg b=irg
   ·rw [if_pos hi]
    have hs:=sub_self_inf b hi
    obtain ⟨q,hq,hql,hrun⟩:=run_sub_bad (P:=Tryz.prog) 57 w b b hs
    have hq0:(FloatKind.f64.format.order q 0 != some .eq)=true:=by
     have:FloatKind.f64.format.order q 0=none:=order_nan q 0 (.inl (by unfold nanB at hq;simpa using hq))
     rw [this];rfl
    have H0:=Lib.hid h0;have HI:=Lib.hid hi;clear h0 hi
    go_enter Tryz.func65,Tryz.ntmps65
    go_wp2
    go_ret
    exact ⟨rfl,1,rfl⟩
   ·rw [if_neg hi]
    have h1:rg b<irg:=by unfold nanB at h;have:=of_decide_eq_false h;omega
    have hrun:=run_float_arith (P:=Tryz.prog) w .sub 57 .f64 b b 0 (sub_self_num b h1)
    have hq0:(FloatKind.f64.format.order 0 0 != some .eq)=false:=by decide
    have H0:=Lib.hid h0;have HI:=Lib.hid hi;clear h0 hi
    go_enter Tryz.func65,Tryz.ntmps65
    go_wp2
    go_ret
    exact ⟨rfl,0,rfl⟩
 ·rw [h] at hn
  go_enter Tryz.func65,Tryz.ntmps65
  go_wp2
  go_ret
  exact ⟨rfl,0,rfl⟩
theorem order_cmp (a b:Nat) (ha:nanB a=false) (hb:nanB b=false):FloatKind.f64.format.order a b=some (compare (sv a) (sv b)):=by
 have h1:rg a≤irg:=by unfold nanB at ha;simpa using ha
 have h2:rg b≤irg:=by unfold nanB at hb;simpa using hb
 exact order_any a b h1 h2
theorem order_lt (a b:Nat) (ha:nanB a=false) (hb:nanB b=false):(FloatKind.f64.format.order a b==some .lt)=decide (sv a<sv b):=by
 rw [order_cmp a b ha hb]
 rcases Int.lt_trichotomy (sv a) (sv b) with h|h|h
 ·rw [icmp_lt h];simp [h]
 ·rw [h];simp
 ·rw [icmp_gt h];simp;omega
theorem order_eq (a b:Nat) (ha:nanB a=false) (hb:nanB b=false):(FloatKind.f64.format.order a b==some .eq)=decide (sv a=sv b):=by
 rw [order_cmp a b ha hb]
 rcases Int.lt_trichotomy (sv a) (sv b) with h|h|h
 ·rw [icmp_lt h];simp;omega
 ·rw [h];simp
 ·rw [icmp_gt h];simp;omega
theorem div_one_zero (b:Nat) (h:rg b=0):FloatKind.f64.format.div 4607182418800017408 b=some (if ng b then 18442240474082181120 else 9218868437227405312):=by
 show Ieee.double.div 4607182418800017408 b=_
 unfold Ieee.Format.div
 rw [read_num b (by rw [h];decide),read_num 4607182418800017408 (by decide),h]
 cases ng b <;> decide
theorem below_any (b:Nat) (w:World) (hb:b<18446744073709551616) (h:nanB b=false) :
 Calls Tryz.prog 66 #[.float .f64 b] w fun e w'=>e=.returned (.bool (ng b))∧w=w':=by
 have hz:=order_zero b h
 have hl:(FloatKind.f64.format.order b 0==some .lt)=(ng b&&decide (rg b≠0)):=by
  rw [order_lt b 0 h (by decide),show sv 0=0 from by decide]
  have hp:0<rg b→0<vl (rg b):=vl_pos
  have hq:rg b=0→vl (rg b)=0:=fun h=>by rw [h];rfl
  unfold sv
  rw [Bool.eq_iff_iff]
  cases ng b <;> simp <;> omega
 by_cases h0:rg b=0
 ·rw [decide_eq_true h0] at hz
  have hd:=div_one_zero b h0
  have hrun:=run_float_arith (P:=Tryz.prog) w .quo 57 .f64 4607182418800017408 b _ hd
  rw [show (ng b&&decide (rg b≠0))=false by simp [h0]] at hl
  cases hg:ng b
  ·rw [hg] at hrun
   simp only [Bool.false_eq_true,if_false] at hrun
   have hlt:(FloatKind.f64.format.order 9218868437227405312 0==some .lt)=false:=by decide
   have H0:=Lib.hid h0;have HD:=Lib.hid hd;have HG:=Lib.hid hg;clear h0 hd hg
   go_enter Tryz.func66,Tryz.ntmps66
   go_wp2
   go_ret
   exact ⟨rfl,rfl⟩
  ·rw [hg] at hrun
   simp only [if_true] at hrun
   have hlt:(FloatKind.f64.format.order 18442240474082181120 0==some .lt)=true:=by decide
   have H0:=Lib.hid h0;have HD:=Lib.hid hd;have HG:=Lib.hid hg;clear h0 hd hg
   go_enter Tryz.func66,Tryz.ntmps66
   go_wp2
   go_ret
   exact ⟨rfl,rfl⟩
 ·rw [decide_eq_false h0] at hz
  rw [show (ng b&&decide (rg b≠0))=ng b by simp [h0]] at hl
  cases hg:ng b
  ·rw [hg] at hl
   have H0:=Lib.hid h0;have HG:=Lib.hid hg;clear h0 hg
   go_enter Tryz.func66,Tryz.ntmps66
   go_wp2
   go_ret
   exact ⟨rfl,rfl⟩
  ·rw [hg] at hl
   have H0:=Lib.hid h0;have HG:=Lib.hid hg;clear h0 hg
   go_enter Tryz.func66,Tryz.ntmps66
   go_wp2
   go_ret
   exact ⟨rfl,rfl⟩
theorem kindF_nan (b:Nat) (h:nanB b=true):kindF b=3:=by unfold kindF;rw [h];rfl
theorem kindF_num (b:Nat) (h:nanB b=false):kindF b≠3:=by unfold kindF;rw [h];split <;> (try split) <;> (try split) <;> simp_all
theorem keyB_nan (b:Nat) (h:nanB b=true):keyB b=18446744073709551615:=by unfold keyB;rw [h];rfl
theorem keyB_num (b:Nat) (h:nanB b=false):keyB b<18446744073709551615:=by
 have hr:rg b≤irg:=by unfold nanB at h;simpa using h
 unfold irg at hr
 unfold keyB;rw [h];simp only [Bool.false_eq_true,if_false];split <;> omega
theorem key_eq (a b:Nat) (ha:nanB a=false) (hb:nanB b=false):decide (keyB a=keyB b)=(decide (sv a=sv b)&&(ng a==ng b)):=by
 have h1:rg a≤irg:=by unfold nanB at ha;simpa using ha
 have h2:rg b≤irg:=by unfold nanB at hb;simpa using hb
 unfold irg at h1 h2
 simp only [keyB,ha,hb]
 unfold sv
 have hl:vl (rg a)=vl (rg b)→rg a=rg b:=vl_inj
 have z1:0<rg a→0<vl (rg a):=vl_pos
 have z2:0<rg b→0<vl (rg b):=vl_pos
 have e3:rg a=rg b→vl (rg a)=vl (rg b):=fun h=>by rw [h]
 generalize vl (rg a)=x at *
 generalize vl (rg b)=y at *
 generalize rg a=r at *
 generalize rg b=s at *
 rw [Bool.eq_iff_iff]
 cases ng a <;> cases ng b <;> simp <;> omega
def Drws (w w':World):Prop:=∃ k,w'=w.drewN k
theorem drws_refl (w:World):Drws w w:=⟨0,rfl⟩
theorem drws_step {w w':World} (h:Drws w w') (n:Nat):Drws w (w'.drewN n):=by
 obtain ⟨k,rfl⟩:=h;exact ⟨k+n,World.drewN_drewN _ _ _⟩
theorem drws_drew {w w':World} (h:Drws w w'):Drws w w'.drew:=by
 obtain ⟨k,rfl⟩:=h;exact ⟨k+1,rfl⟩
theorem refFLess_any (a b:Nat) (w:World) (ha:a<18446744073709551616) (hb:b<18446744073709551616) :
 Calls Tryz.prog 74 #[.float .f64 a,.float .f64 b] w fun e w'=>e=.returned (.bool (decide (keyB a<keyB b)))∧Drws w w':=by
 cases na:nanB a
 ·have t1:((kindF a:Int)==3)=false:=by rw [beq_eq_false_iff_ne];have:=kindF_num a na;omega
  have t1':((kindF a:Int) != 3)=true:=by rw [bne_iff_ne];have:=kindF_num a na;omega
  cases nb:nanB b
  ·have t2:((kindF b:Int)==3)=false:=by rw [beq_eq_false_iff_ne];have:=kindF_num b nb;omega
   have hl:=order_lt a b na nb
   have he:=order_eq a b na nb
   rw [key_lt a b na nb]
   have NA:=Lib.hid na;have NB:=Lib.hid nb;clear na nb
   have A:=Lib.hid hl;have E:=Lib.hid he;clear hl he
   by_cases c1:sv a<sv b
   ·have hl:(FloatKind.f64.format.order a b==some .lt)=true:=by rw [A.out];simp [c1]
    have he:(FloatKind.f64.format.order a b==some .eq)=false:=by rw [E.out];simp;omega
    have C:=Lib.hid c1;clear c1
    go_enter Tryz.func74,Tryz.ntmps74
    go_wp2_with (first|(go_at_call 65;(first|(with_reducible refine (refKind_any a _ ha).mono ?_)|(with_reducible refine (refKind_any b _ hb).mono ?_));rintro e w' ⟨rfl,n,rfl⟩)|(go_at_call 66;(first|(with_reducible refine (below_any a _ ha NA.out).mono ?_)|(with_reducible refine (below_any b _ hb NB.out).mono ?_));rintro e w' ⟨rfl,rfl⟩))
    go_ret
    exact ⟨by simp [C.out],by first|exact drws_refl _|exact drws_step (drws_refl _) _|exact drws_step (drws_step (drws_refl _) _) _|exact drws_step (drws_step (drws_step (drws_refl _) _) _) _|exact drws_step (drws_step (drws_step (drws_step (drws_refl _) _) _) _) _⟩
   ·have hl:(FloatKind.f64.format.order a b==some .lt)=false:=by rw [A.out];simp [c1]
    by_cases c2:sv a=sv b
    ·have he:(FloatKind.f64.format.order a b==some .eq)=true:=by rw [E.out];simp [c2]
     have C:=Lib.hid c1;have D:=Lib.hid c2;clear c1 c2
     cases ga:ng a
     all_goals
      cases gb:ng b
      all_goals
       skip
       go_enter Tryz.func74,Tryz.ntmps74
       go_wp2_with (first|(go_at_call 65;(first|(with_reducible refine (refKind_any a _ ha).mono ?_)|(with_reducible refine (refKind_any b _ hb).mono ?_));rintro e w' ⟨rfl,n,rfl⟩)|(go_at_call 66;(first|(with_reducible refine (below_any a _ ha NA.out).mono ?_)|(with_reducible refine (below_any b _ hb NB.out).mono ?_));rintro e w' ⟨rfl,rfl⟩))
       go_ret
       exact ⟨by simp [D.out],by first|exact drws_refl _|exact drws_step (drws_refl _) _|exact drws_step (drws_step (drws_refl _) _) _|exact drws_step (drws_step (drws_step (drws_refl _) _) _) _|exact drws_step (drws_step (drws_step (drws_step (drws_refl _) _) _) _) _⟩
    ·have he:(FloatKind.f64.format.order a b==some .eq)=false:=by rw [E.out];simp [c2]
     have C:=Lib.hid c1;have D:=Lib.hid c2;clear c1 c2
     go_enter Tryz.func74,Tryz.ntmps74
     go_wp2_with (first|(go_at_call 65;(first|(with_reducible refine (refKind_any a _ ha).mono ?_)|(with_reducible refine (refKind_any b _ hb).mono ?_));rintro e w' ⟨rfl,n,rfl⟩)|(go_at_call 66;(first|(with_reducible refine (below_any a _ ha NA.out).mono ?_)|(with_reducible refine (below_any b _ hb NB.out).mono ?_));rintro e w' ⟨rfl,rfl⟩))
     go_ret
     exact ⟨by simp [C.out,D.out],by first|exact drws_refl _|exact drws_step (drws_refl _) _|exact drws_step (drws_step (drws_refl _) _) _|exact drws_step (drws_step (drws_step (drws_refl _) _) _) _|exact drws_step (drws_step (drws_step (drws_step (drws_refl _) _) _) _) _⟩
  ·have t2:((kindF b:Int)==3)=true:=by rw [kindF_nan b nb];rfl
   have hlt:decide (keyB a<keyB b)=true:=by have:=keyB_num a na;rw [keyB_nan b nb];simpa using this
   rw [hlt]
   have NA:=Lib.hid na;have NB:=Lib.hid nb;have HL:=Lib.hid hlt;clear na nb hlt
   go_enter Tryz.func74,Tryz.ntmps74
   go_wp2_with (go_at_call 65;(first|(with_reducible refine (refKind_any a _ ha).mono ?_)|(with_reducible refine (refKind_any b _ hb).mono ?_));rintro e w' ⟨rfl,n,rfl⟩)
   go_ret
   exact ⟨rfl,by first|exact drws_refl _|exact drws_step (drws_refl _) _|exact drws_step (drws_step (drws_refl _) _) _|exact drws_step (drws_step (drws_step (drws_refl _) _) _) _⟩
 ·have t1:((kindF a:Int)==3)=true:=by rw [kindF_nan a na];rfl
  have t1':((kindF a:Int) != 3)=false:=by rw [kindF_nan a na];rfl
  have hlt:decide (keyB a<keyB b)=false:=by have:=keyB_lt b;rw [keyB_nan a na];simp;omega
  rw [hlt]
  have NA:=Lib.hid na;have HL:=Lib.hid hlt;clear na hlt
  go_enter Tryz.func74,Tryz.ntmps74
  go_wp2_with (go_at_call 65;(first|(with_reducible refine (refKind_any a _ ha).mono ?_)|(with_reducible refine (refKind_any b _ hb).mono ?_));rintro e w' ⟨rfl,n,rfl⟩)
  go_ret
  exact ⟨rfl,by first|exact drws_refl _|exact drws_step (drws_refl _) _|exact drws_step (drws_step (drws_refl _) _) _|exact drws_step (drws_step (drws_step (drws_refl _) _) _) _⟩
theorem refFSame_any (a b:Nat) (w:World) (ha:a<18446744073709551616) (hb:b<18446744073709551616) :
 Calls Tryz.prog 21 #[.float .f64 a,.float .f64 b] w fun e w'=>e=.returned (.bool (decide (keyB a=keyB b)))∧Drws w w':=by
 cases na:nanB a
 ·have t1:((kindF a:Int)==3)=false:=by rw [beq_eq_false_iff_ne];have:=kindF_num a na;omega
  have t1':((kindF a:Int) != 3)=true:=by rw [bne_iff_ne];have:=kindF_num a na;omega
  cases nb:nanB b
  ·have t2:((kindF b:Int)==3)=false:=by rw [beq_eq_false_iff_ne];have:=kindF_num b nb;omega
   have hl:=order_lt a b na nb
   have he:=order_eq a b na nb
   rw [key_eq a b na nb]
   have NA:=Lib.hid na;have NB:=Lib.hid nb;clear na nb
   have A:=Lib.hid hl;have E:=Lib.hid he;clear hl he
   by_cases c1:sv a<sv b
   ·have hl:(FloatKind.f64.format.order a b==some .lt)=true:=by rw [A.out];simp [c1]
    have he:(FloatKind.f64.format.order a b==some .eq)=false:=by rw [E.out];simp;omega
    have C:=Lib.hid c1;clear c1
    go_enter Tryz.func21,Tryz.ntmps21
    go_wp2_with (first|(go_at_call 65;(first|(with_reducible refine (refKind_any a _ ha).mono ?_)|(with_reducible refine (refKind_any b _ hb).mono ?_));rintro e w' ⟨rfl,n,rfl⟩)|(go_at_call 66;(first|(with_reducible refine (below_any a _ ha NA.out).mono ?_)|(with_reducible refine (below_any b _ hb NB.out).mono ?_));rintro e w' ⟨rfl,rfl⟩))
    go_ret
    exact ⟨by have:=C.out;simp;omega,by first|exact drws_refl _|exact drws_step (drws_refl _) _|exact drws_step (drws_step (drws_refl _) _) _|exact drws_step (drws_step (drws_step (drws_refl _) _) _) _|exact drws_step (drws_step (drws_step (drws_step (drws_refl _) _) _) _) _⟩
   ·have hl:(FloatKind.f64.format.order a b==some .lt)=false:=by rw [A.out];simp [c1]
    by_cases c2:sv a=sv b
    ·have he:(FloatKind.f64.format.order a b==some .eq)=true:=by rw [E.out];simp [c2]
     have C:=Lib.hid c1;have D:=Lib.hid c2;clear c1 c2
     cases ga:ng a
     all_goals
      cases gb:ng b
      all_goals
       skip
       go_enter Tryz.func21,Tryz.ntmps21
       go_wp2_with (first|(go_at_call 65;(first|(with_reducible refine (refKind_any a _ ha).mono ?_)|(with_reducible refine (refKind_any b _ hb).mono ?_));rintro e w' ⟨rfl,n,rfl⟩)|(go_at_call 66;(first|(with_reducible refine (below_any a _ ha NA.out).mono ?_)|(with_reducible refine (below_any b _ hb NB.out).mono ?_));rintro e w' ⟨rfl,rfl⟩))
       go_ret
       exact ⟨by simp [D.out],by first|exact drws_refl _|exact drws_step (drws_refl _) _|exact drws_step (drws_step (drws_refl _) _) _|exact drws_step (drws_step (drws_step (drws_refl _) _) _) _|exact drws_step (drws_step (drws_step (drws_step (drws_refl _) _) _) _) _⟩
    ·have he:(FloatKind.f64.format.order a b==some .eq)=false:=by rw [E.out];simp [c2]
     have C:=Lib.hid c1;have D:=Lib.hid c2;clear c1 c2
     go_enter Tryz.func21,Tryz.ntmps21
     go_wp2_with (first|(go_at_call 65;(first|(with_reducible refine (refKind_any a _ ha).mono ?_)|(with_reducible refine (refKind_any b _ hb).mono ?_));rintro e w' ⟨rfl,n,rfl⟩)|(go_at_call 66;(first|(with_reducible refine (below_any a _ ha NA.out).mono ?_)|(with_reducible refine (below_any b _ hb NB.out).mono ?_));rintro e w' ⟨rfl,rfl⟩))
     go_ret
     exact ⟨by simp [D.out],by first|exact drws_refl _|exact drws_step (drws_refl _) _|exact drws_step (drws_step (drws_refl _) _) _|exact drws_step (drws_step (drws_step (drws_refl _) _) _) _|exact drws_step (drws_step (drws_step (drws_step (drws_refl _) _) _) _) _⟩
  ·have t2:((kindF b:Int)==3)=true:=by rw [kindF_nan b nb];rfl
   have t3:((kindF a:Int)==(kindF b:Int))=false:=by rw [beq_eq_false_iff_ne,kindF_nan b nb];have:=kindF_num a na;omega
   have hlt:decide (keyB a=keyB b)=false:=by have:=keyB_num a na;rw [keyB_nan b nb];simp;omega
   rw [hlt]
   have NA:=Lib.hid na;have NB:=Lib.hid nb;have HL:=Lib.hid hlt;clear na nb hlt
   go_enter Tryz.func21,Tryz.ntmps21
   go_wp2_with (go_at_call 65;(first|(with_reducible refine (refKind_any a _ ha).mono ?_)|(with_reducible refine (refKind_any b _ hb).mono ?_));rintro e w' ⟨rfl,n,rfl⟩)
   go_ret
   exact ⟨rfl,by first|exact drws_refl _|exact drws_step (drws_refl _) _|exact drws_step (drws_step (drws_refl _) _) _|exact drws_step (drws_step (drws_step (drws_refl _) _) _) _|exact drws_step (drws_step (drws_step (drws_step (drws_refl _) _) _) _) _⟩
 ·have t1:((kindF a:Int)==3)=true:=by rw [kindF_nan a na];rfl
  have t3:((kindF a:Int)==(kindF b:Int))=decide (keyB a=keyB b):=by
   rw [kindF_nan a na,keyB_nan a na]
   cases nb:nanB b
   ·have h1:=kindF_num b nb;have h2:=keyB_num b nb
    rw [decide_eq_false (by omega),beq_eq_false_iff_ne];omega
   ·rw [kindF_nan b nb,keyB_nan b nb];rfl
  generalize decide (keyB a=keyB b)=r at *
  have NA:=Lib.hid na;clear na
  go_enter Tryz.func21,Tryz.ntmps21
  go_wp2_with (go_at_call 65;(first|(with_reducible refine (refKind_any a _ ha).mono ?_)|(with_reducible refine (refKind_any b _ hb).mono ?_));rintro e w' ⟨rfl,n,rfl⟩)
  go_ret
  exact ⟨rfl,by first|exact drws_refl _|exact drws_step (drws_refl _) _|exact drws_step (drws_step (drws_refl _) _) _|exact drws_step (drws_step (drws_step (drws_refl _) _) _) _|exact drws_step (drws_step (drws_step (drws_step (drws_refl _) _) _) _) _⟩
end Go.Proofs.YtfhmaincnlaapaaGreat
