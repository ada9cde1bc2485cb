/- flo.From, code.key, code.GetF; bushelref07.F. -/
import Derived.Laws.FloatArith
import Derived.Test.YtfhmaincnlaapaaGreatTrGetWalks
import Derived.Test.YtfhmaincnlaapaaGreatTrRefCode
namespace Go.Proofs.YtfhmaincnlaapaaGreat
set_option linter.unusedVariables false
open Ieee
def rg (b:Nat):Nat:=b%9223372036854775808
def ng (b:Nat):Bool:=b/9223372036854775808%2==1
def irg:Nat:=9218868437227405312
def nanB (b:Nat):Bool:=decide (irg<rg b)
def mg (r:Nat):Nat:=if r<4503599627370496 then r else 4503599627370496+r%4503599627370496
def ex (r:Nat):Nat:=if r<4503599627370496 then 0 else r/4503599627370496-1
def vl (r:Nat):Nat:=mg r*2^ex r
def sv (b:Nat):Int:=if ng b then -(vl (rg b):Int) else (vl (rg b):Int)
def keyB (b:Nat):Nat:=if nanB b then 18446744073709551615 else if ng b then 9223372036854775807-rg b else 9223372036854775808+rg b
theorem sw_eq:double.signWeight=9223372036854775808:=by decide
theorem bi_eq:double.binade=4503599627370496:=by decide
theorem ir_eq:double.infRung=9218868437227405312:=by decide
theorem lp_eq:double.leastPlace=-1074:=by decide
theorem read_num (b:Nat) (h:rg b<irg):double.read b=.number (ng b) (mg (rg b)) (-1074+(ex (rg b):Nat)):=by
 unfold Format.read
 simp only [sw_eq,bi_eq,ir_eq,lp_eq]
 unfold rg irg at *
 unfold mg ex ng
 split
 ·simp
 ·rfl
theorem read_inf (b:Nat) (h:rg b=irg):double.read b=.infinity (ng b):=by
 unfold Format.read
 simp only [sw_eq,bi_eq,ir_eq,lp_eq]
 unfold rg irg at *
 unfold ng
 rw [if_neg (by omega),if_neg (by omega),if_pos h]
theorem read_nan (b:Nat) (h:irg<rg b):double.read b=.nan (ng b) (rg b-irg):=by
 unfold Format.read
 simp only [sw_eq,bi_eq,ir_eq,lp_eq]
 unfold rg irg at *
 unfold ng
 rw [if_neg (by omega),if_neg (by omega),if_neg (by omega)]
theorem vl_lt {r s:Nat} (h:r<s):vl r<vl s:=by
 unfold vl mg ex
 by_cases hr:r<4503599627370496
 ·by_cases hs:s<4503599627370496
  ·simp [hr,hs];exact h
  ·rw [if_pos hr,if_pos hr,if_neg hs,if_neg hs]
   have:1≤2^(s/4503599627370496-1):=Nat.one_le_two_pow
   calc r*2^0=r:=by simp
    _<(4503599627370496+s%4503599627370496)*1:=by omega
    _≤_:=Nat.mul_le_mul_left _ this
 ·have hs:¬s<4503599627370496:=by omega
  rw [if_neg hr,if_neg hr,if_neg hs,if_neg hs]
  obtain ⟨q,hq⟩:∃ q,r/4503599627370496=q+1:=⟨r/4503599627370496-1,by omega⟩
  obtain ⟨p,hp⟩:∃ p,s/4503599627370496=p+1:=⟨s/4503599627370496-1,by omega⟩
  rw [hq,hp,Nat.add_sub_cancel,Nat.add_sub_cancel]
  by_cases e:q=p
  ·subst e
   exact Nat.mul_lt_mul_of_pos_right (by omega) (Nat.two_pow_pos _)
  ·have hlt:q+1≤p:=by omega
   have h2:2^(q+1)≤2^p:=Nat.pow_le_pow_right (by decide) hlt
   calc (4503599627370496+r%4503599627370496)*2^q<(2*4503599627370496)*2^q:=Nat.mul_lt_mul_of_pos_right (by omega) (Nat.two_pow_pos _)
    _=4503599627370496*2^(q+1):=by rw [Nat.pow_succ];omega
    _≤4503599627370496*2^p:=Nat.mul_le_mul_left _ h2
    _≤_:=Nat.mul_le_mul_right _ (by omega)
theorem vl_inj {r s:Nat} (h:vl r=vl s):r=s:=by
 rcases Nat.lt_trichotomy r s with h1|h1|h1
 ·have:=vl_lt h1;omega
 ·exact h1
 ·have:=vl_lt h1;omega
theorem vl_zero:vl 0=0:=rfl
theorem vl_pos {r:Nat} (h:0<r):0<vl r:=by have:=vl_lt h;rw [vl_zero] at this;exact this
theorem icmp_lt {x y:Int} (h:x<y):compare x y=.lt:=by simp [compare,compareOfLessAndEq,h]
theorem icmp_gt {x y:Int} (h:y<x):compare x y=.gt:=by
 have h1:¬x<y:=by omega
 have h2:x≠y:=by omega
 simp [compare,compareOfLessAndEq,h1,h2]
theorem compare_mul (x y:Int) (c:Nat) (hc:0<c):compare (x*(c:Int)) (y*(c:Int))=compare x y:=by
 have hc':(0:Int)<c:=by omega
 rcases Int.lt_trichotomy x y with h|h|h
 ·rw [icmp_lt h,icmp_lt (Int.mul_lt_mul_of_pos_right h hc')]
 ·subst h;simp
 ·rw [icmp_gt h,icmp_gt (Int.mul_lt_mul_of_pos_right h hc')]
theorem signed_mul (s:Bool) (m k c:Nat):signed s m k*((2^c:Nat):Int)=if s then -((m*2^(k+c):Nat):Int) else ((m*2^(k+c):Nat):Int):=by
 unfold signed
 rw [Nat.shiftLeft_eq,Nat.pow_add,←Nat.mul_assoc]
 split<;>simp [Int.neg_mul]
theorem order_num (a b:Nat) (ha:rg a<irg) (hb:rg b<irg):double.order a b=some (compare (sv a) (sv b)):=by
 unfold Format.order
 rw [read_num a ha,read_num b hb]
 simp only [Datum.order]
 congr 1
 generalize hi:ex (rg a)=i
 generalize hj:ex (rg b)=j
 have e1:((-1074+(i:Int))-min (-1074+(i:Int)) (-1074+(j:Int))).toNat+min i j=i:=by omega
 have e2:((-1074+(j:Int))-min (-1074+(i:Int)) (-1074+(j:Int))).toNat+min i j=j:=by omega
 rw [←compare_mul _ _ (2^min i j) (Nat.two_pow_pos _),signed_mul,signed_mul,e1,e2]
 unfold sv vl
 rw [hi,hj]
theorem vl_irg (r:Nat) (h:r<irg):vl r<vl irg:=vl_lt h
theorem order_any (a b:Nat) (ha:rg a≤irg) (hb:rg b≤irg):double.order a b=some (compare (sv a) (sv b)):=by
 by_cases h1:rg a=irg
 ·by_cases h2:rg b=irg
  ·unfold Format.order
   rw [read_inf a h1,read_inf b h2]
   simp only [Datum.order,sv,h1,h2]
   have hp:=vl_pos (show 0<irg by decide)
   generalize vl irg=x at *
   congr 1
   cases ng a<;>cases ng b<;>simp<;>(first|rfl|(symm;first|(exact icmp_lt (by omega))|(exact icmp_gt (by omega))))
  ·unfold Format.order
   rw [read_inf a h1,read_num b (by omega)]
   simp only [Datum.order,sv,h1]
   have hv:=vl_irg (rg b) (by omega)
   congr 1
   cases ng a<;>cases ng b<;>simp<;>(symm;first|(exact icmp_lt (by omega))|(exact icmp_gt (by omega)))
 ·by_cases h2:rg b=irg
  ·unfold Format.order
   rw [read_num a (by omega),read_inf b h2]
   simp only [Datum.order,sv,h2]
   have hv:=vl_irg (rg a) (by omega)
   congr 1
   cases ng a<;>cases ng b<;>simp<;>(symm;first|(exact icmp_lt (by omega))|(exact icmp_gt (by omega)))
  ·exact order_num a b (by omega) (by omega)
theorem order_nan (a b:Nat) (h:irg<rg a∨irg<rg b):double.order a b=none:=by
 unfold Format.order
 by_cases ha:irg<rg a
 ·rw [read_nan a ha];cases double.read b<;>rfl
 ·rw [read_nan b (by omega)];cases double.read a<;>rfl
theorem order_self (b:Nat):(double.order b b != some .eq)=nanB b:=by
 unfold nanB
 by_cases h:irg<rg b
 ·rw [order_nan b b (.inl h),decide_eq_true h];rfl
 ·rw [order_any b b (by omega) (by omega),decide_eq_false h];simp
theorem rg_lt (b:Nat):rg b<9223372036854775808:=Nat.mod_lt _ (by decide)
theorem keyB_lt (b:Nat):keyB b<18446744073709551616:=by
 unfold keyB;have:=rg_lt b;split;omega;split<;>omega
theorem ng_iff (b:Nat) (hb:b<18446744073709551616):ng b=decide (9223372036854775808≤b):=by
 unfold ng;rw [Bool.eq_iff_iff];simp;omega
theorem key_lt (a b:Nat) (ha:nanB a=false) (hb:nanB b=false):decide (keyB a<keyB b)=(decide (sv a<sv b)||(decide (sv a=sv b)&&(ng a && !ng b))):=by
 have h1:rg a≤irg:=by unfold nanB at ha;simpa using ha
 have h2:rg b≤irg:=by unfold nanB at hb;simpa using hb
 unfold irg at h1 h2
 simp only [keyB,ha,hb]
 unfold sv
 have t:=Nat.lt_trichotomy (rg a) (rg b)
 have hl:rg a<rg b→vl (rg a)<vl (rg b):=vl_lt
 have hg:rg b<rg a→vl (rg b)<vl (rg a):=vl_lt
 have z1:0<rg a→0<vl (rg a):=vl_pos
 have z2:0<rg b→0<vl (rg b):=vl_pos
 have z3:rg a=0→vl (rg a)=0:=fun h=>by rw [h];rfl
 have z4:rg b=0→vl (rg b)=0:=fun h=>by rw [h];rfl
 have e3:rg a=rg b→vl (rg a)=vl (rg b):=fun h=>by rw [h]
 generalize vl (rg a)=x at *
 generalize vl (rg b)=y at *
 generalize rg a=r at *
 generalize rg b=s at *
 rw [Bool.eq_iff_iff]
 cases ng a<;>cases ng b<;>simp<;>omega
end Go.Proofs.YtfhmaincnlaapaaGreat
namespace Go.Proofs.YtfhmaincnlaapaaGreat
open Go.ChangeShapes Go.WideShapes Go.ChangeAt Go.RowKit
set_option linter.unusedVariables false
theorem f64bits (b:Nat) (w:World):(callFunc 188 #[.float .f64 b]).run Tryz.prog w=.ok (.value (.int .u64 (b:Int))) w:=by kernel_rfl
theorem and63 (b:Nat) (h:b<18446744073709551616):bits .and .u64 (b:Int) 9223372036854775807=((rg b:Nat):Int):=by
 have e:(9223372036854775807:Int)=((9223372036854775807:Nat):Int):=rfl
 rw [e,u64_and_nat _ _ h (by omega)]
 congr 1
 exact Nat.and_two_pow_sub_one_eq_mod b 63
theorem order_selfF (b:Nat):(FloatKind.f64.format.order b b != some .eq)=nanB b:=order_self b
theorem key_any (b:Nat) (w:World) (hb:b<18446744073709551616) :
 Calls Tryz.prog 141 #[.float .f64 b] w fun e w'=>e=.returned (.int .u64 (keyB b:Nat))∧w=w':=by
 have hf:=f64bits b
 have hn:=order_selfF b
 have hd:=and63 b hb
 have hr:=rg_lt b
 unfold keyB
 have hni:=ng_iff b hb
 have hrb:rg b=b-if 9223372036854775808≤b then 9223372036854775808 else 0:=by unfold rg;split<;>omega
 cases h:nanB b
 ·rw [h] at hn
  by_cases hg:9223372036854775808≤b
  ·rw [if_pos hg] at hrb
   rw [hni,decide_eq_true hg]
   have t2:(((b:Int)/9223372036854775808)==1)=true:=by rw [beq_iff_eq];omega
   have HR:=Lib.hid hrb;have HN:=Lib.hid hni;clear hrb hni
   go_enter Tryz.func141,Tryz.ntmps141
   go_wp2
   go_ret
   exact ⟨by simp;omega,rfl⟩
  ·rw [if_neg hg] at hrb
   rw [hni,decide_eq_false hg]
   have t2:(((b:Int)/9223372036854775808)==1)=false:=by rw [beq_eq_false_iff_ne];omega
   have HR:=Lib.hid hrb;have HN:=Lib.hid hni;clear hrb hni
   go_enter Tryz.func141,Tryz.ntmps141
   go_wp2
   go_ret
   exact ⟨by have:=HR.out;simp;omega,rfl⟩
 ·rw [h] at hn
  have HR:=Lib.hid hrb;have HN:=Lib.hid hni;clear hrb hni
  go_enter Tryz.func141,Tryz.ntmps141
  go_wp2
  go_ret
  exact ⟨rfl,rfl⟩
theorem run_sub_bad {P:Program} (t:TypeId) (w:World) (x y:Nat) (h:FloatKind.f64.format.sub x y=none):∃ q,nanB q=true∧q<18446744073709551616∧(binOp .sub t (.float .f64 x) (.float .f64 y)).run P w=.ok (.float .f64 q) w.drew:=by
 refine ⟨Question.cut (.nanBits .f64 x y) (w.tape w.drawn (.nanBits .f64 x y)),?_,?_,?_⟩
 ·generalize w.tape w.drawn (.nanBits .f64 x y)=t
  have h1:=Nat.mod_lt (t/2) (show 0<4503599627370495 by decide)
  refine decide_eq_true ?_
  show 9218868437227405312<(t%2*9223372036854775808+9218868437227405312+1+t/2%4503599627370495)%9223372036854775808
  generalize t/2%4503599627370495=y at *
  omega
 ·generalize w.tape w.drawn (.nanBits .f64 x y)=t
  have h1:=Nat.mod_lt (t/2) (show 0<4503599627370495 by decide)
  show (t%2*9223372036854775808+9218868437227405312+1+t/2%4503599627370495)<_
  generalize t/2%4503599627370495=y at *
  omega
 ·simp [binOp,Op.floatArith,h,Question.forced]
theorem order_zero (b:Nat) (h:nanB b=false):(FloatKind.f64.format.order b 0==some .eq)=decide (rg b=0):=by
 have h1:rg b≤irg:=by unfold nanB at h;simpa using h
 have:=order_any b 0 h1 (by decide)
 show (Ieee.double.order b 0==some .eq)=_
 rw [this]
 have e0:sv 0=0:=by decide
 rw [e0]
 by_cases hz:rg b=0
 ·have:sv b=0:=by unfold sv;rw [hz];simp [vl_zero]
  rw [this];simp [hz]
 ·have hp:=vl_pos (show 0<rg b by omega)
  have hne:sv b≠0:=by unfold sv;split<;>omega
  rcases Int.lt_or_gt_of_ne hne with hl|hl
  ·rw [icmp_lt hl];simp [hz]
  ·rw [icmp_gt hl];simp [hz]
theorem sub_self_num (b:Nat) (h:rg b<irg):FloatKind.f64.format.sub b b=some 0:=by
 show Ieee.double.sub b b=some 0
 unfold Ieee.Format.sub
 rw [read_num b h]
 simp only [Ieee.Datum.opposite,Ieee.Datum.sum,Ieee.signed]
 generalize mg (rg b)=m
 have:(-1074+(ex (rg b):Int)-min (-1074+(ex (rg b):Int)) (-1074+(ex (rg b):Int))).toNat=0:=by omega
 rw [this]
 cases ng b<;>simp [Ieee.Format.write,Ieee.Format.nearest,Ieee.Format.word,Int.add_right_neg,Int.add_left_neg]
theorem sub_self_inf (b:Nat) (h:rg b=irg):FloatKind.f64.format.sub b b=none:=by
 show Ieee.double.sub b b=none
 unfold Ieee.Format.sub
 rw [read_inf b h]
 cases ng b<;>rfl
def kindF (b:Nat):Nat:=if nanB b then 3 else if rg b=0 then 0 else if rg b=irg then 2 else 1
theorem refKind_any (b:Nat) (w:World) (hb:b<18446744073709551616) :
 Calls Tryz.prog 65 #[.float .f64 b] w fun e w'=>e=.returned (.int .i64 (kindF b:Nat))∧∃ n,w'=w.drewN n:=by
 have hn:=order_selfF b
 unfold kindF
 cases h:nanB b
 ·rw [h] at hn
  have hz:=order_zero b h
  by_cases h0:rg b=0
  ·rw [decide_eq_true h0] at hz
   rw [if_neg (by simp),if_pos h0]
   have H0:=Lib.hid h0;clear h0
   go_enter Tryz.func65,Tryz.ntmps65
   go_wp2
   go_ret
   exact ⟨rfl,0,rfl⟩
  ·rw [decide_eq_false h0] at hz
   rw [if_neg (by simp),if_neg h0]
   by_cases hi:rg b=irg
   ·rw [if_pos hi]
    have hs:=sub_self_inf b hi
    obtain ⟨q,hq,hql,hrun⟩:=run_sub_bad (P:=Tryz.prog) 57 w b b hs
    have hq0:(FloatKind.f64.format.order q 0 != some .eq)=true:=by
     have:FloatKind.f64.format.order q 0=none:=order_nan q 0 (.inl (by unfold nanB at hq;simpa using hq))
     rw [this];rfl
    have H0:=Lib.hid h0;have HI:=Lib.hid hi;clear h0 hi
    go_enter Tryz.func65,Tryz.ntmps65
    go_wp2
    go_ret
    exact ⟨rfl,1,rfl⟩
   ·rw [if_neg hi]
    have h1:rg b<irg:=by unfold nanB at h;have:=of_decide_eq_false h;omega
    have hrun:=run_float_arith (P:=Tryz.prog) w .sub 57 .f64 b b 0 (sub_self_num b h1)
    have hq0:(FloatKind.f64.format.order 0 0 != some .eq)=false:=by decide
    have H0:=Lib.hid h0;have HI:=Lib.hid hi;clear h0 hi
    go_enter Tryz.func65,Tryz.ntmps65
    go_wp2
    go_ret
    exact ⟨rfl,0,rfl⟩
 ·rw [h] at hn
  go_enter Tryz.func65,Tryz.ntmps65
  go_wp2
  go_ret
  exact ⟨rfl,0,rfl⟩
theorem order_cmp (a b:Nat) (ha:nanB a=false) (hb:nanB b=false):FloatKind.f64.format.order a b=some (compare (sv a) (sv b)):=by
 have h1:rg a≤irg:=by unfold nanB at ha;simpa using ha
 have h2:rg b≤irg:=by unfold nanB at hb;simpa using hb
 exact order_any a b h1 h2
theorem order_lt (a b:Nat) (ha:nanB a=false) (hb:nanB b=false):(FloatKind.f64.format.order a b==some .lt)=decide (sv a<sv b):=by
 rw [order_cmp a b ha hb]
 rcases Int.lt_trichotomy (sv a) (sv b) with h|h|h
 ·rw [icmp_lt h];simp [h]
 ·rw [h];simp
 ·rw [icmp_gt h];simp;omega
theorem order_eq (a b:Nat) (ha:nanB a=false) (hb:nanB b=false):(FloatKind.f64.format.order a b==some .eq)=decide (sv a=sv b):=by
 rw [order_cmp a b ha hb]
 rcases Int.lt_trichotomy (sv a) (sv b) with h|h|h
 ·rw [icmp_lt h];simp;omega
 ·rw [h];simp
 ·rw [icmp_gt h];simp;omega
theorem div_one_zero (b:Nat) (h:rg b=0):FloatKind.f64.format.div 4607182418800017408 b=some (if ng b then 18442240474082181120 else 9218868437227405312):=by
 show Ieee.double.div 4607182418800017408 b=_
 unfold Ieee.Format.div
 rw [read_num b (by rw [h];decide),read_num 4607182418800017408 (by decide),h]
 cases ng b<;>decide
theorem below_any (b:Nat) (w:World) (hb:b<18446744073709551616) (h:nanB b=false) :
 Calls Tryz.prog 66 #[.float .f64 b] w fun e w'=>e=.returned (.bool (ng b))∧w=w':=by
 have hz:=order_zero b h
 have hl:(FloatKind.f64.format.order b 0==some .lt)=(ng b&&decide (rg b≠0)):=by
  rw [order_lt b 0 h (by decide),show sv 0=0 from by decide]
  have hp:0<rg b→0<vl (rg b):=vl_pos
  have hq:rg b=0→vl (rg b)=0:=fun h=>by rw [h];rfl
  unfold sv
  rw [Bool.eq_iff_iff]
  cases ng b<;>simp<;>omega
 by_cases h0:rg b=0
 ·rw [decide_eq_true h0] at hz
  have hd:=div_one_zero b h0
  have hrun:=run_float_arith (P:=Tryz.prog) w .quo 57 .f64 4607182418800017408 b _ hd
  rw [show (ng b&&decide (rg b≠0))=false by simp [h0]] at hl
  cases hg:ng b
  ·rw [hg] at hrun
   simp only [Bool.false_eq_true,if_false] at hrun
   have hlt:(FloatKind.f64.format.order 9218868437227405312 0==some .lt)=false:=by decide
   have H0:=Lib.hid h0;have HD:=Lib.hid hd;have HG:=Lib.hid hg;clear h0 hd hg
   go_enter Tryz.func66,Tryz.ntmps66
   go_wp2
   go_ret
   exact ⟨rfl,rfl⟩
  ·rw [hg] at hrun
   simp only [if_true] at hrun
   have hlt:(FloatKind.f64.format.order 18442240474082181120 0==some .lt)=true:=by decide
   have H0:=Lib.hid h0;have HD:=Lib.hid hd;have HG:=Lib.hid hg;clear h0 hd hg
   go_enter Tryz.func66,Tryz.ntmps66
   go_wp2
   go_ret
   exact ⟨rfl,rfl⟩
 ·rw [decide_eq_false h0] at hz
  rw [show (ng b&&decide (rg b≠0))=ng b by simp [h0]] at hl
  cases hg:ng b
  ·rw [hg] at hl
   have H0:=Lib.hid h0;have HG:=Lib.hid hg;clear h0 hg
   go_enter Tryz.func66,Tryz.ntmps66
   go_wp2
   go_ret
   exact ⟨rfl,rfl⟩
  ·rw [hg] at hl
   have H0:=Lib.hid h0;have HG:=Lib.hid hg;clear h0 hg
   go_enter Tryz.func66,Tryz.ntmps66
   go_wp2
   go_ret
   exact ⟨rfl,rfl⟩
theorem kindF_nan (b:Nat) (h:nanB b=true):kindF b=3:=by unfold kindF;rw [h];rfl
theorem kindF_num (b:Nat) (h:nanB b=false):kindF b≠3:=by unfold kindF;rw [h];split<;>(try split)<;>(try split)<;>simp_all
theorem keyB_nan (b:Nat) (h:nanB b=true):keyB b=18446744073709551615:=by unfold keyB;rw [h];rfl
theorem keyB_num (b:Nat) (h:nanB b=false):keyB b<18446744073709551615:=by
 have hr:rg b≤irg:=by unfold nanB at h;simpa using h
 unfold irg at hr
 unfold keyB;rw [h];simp only [Bool.false_eq_true,if_false];split<;>omega
theorem key_eq (a b:Nat) (ha:nanB a=false) (hb:nanB b=false):decide (keyB a=keyB b)=(decide (sv a=sv b)&&(ng a==ng b)):=by
 have h1:rg a≤irg:=by unfold nanB at ha;simpa using ha
 have h2:rg b≤irg:=by unfold nanB at hb;simpa using hb
 unfold irg at h1 h2
 simp only [keyB,ha,hb]
 unfold sv
 have hl:vl (rg a)=vl (rg b)→rg a=rg b:=vl_inj
 have z1:0<rg a→0<vl (rg a):=vl_pos
 have z2:0<rg b→0<vl (rg b):=vl_pos
 have e3:rg a=rg b→vl (rg a)=vl (rg b):=fun h=>by rw [h]
 generalize vl (rg a)=x at *
 generalize vl (rg b)=y at *
 generalize rg a=r at *
 generalize rg b=s at *
 rw [Bool.eq_iff_iff]
 cases ng a<;>cases ng b<;>simp<;>omega
def Drws (w w':World):Prop:=∃ k,w'=w.drewN k
theorem drws_refl (w:World):Drws w w:=⟨0,rfl⟩
theorem drws_step {w w':World} (h:Drws w w') (n:Nat):Drws w (w'.drewN n):=by
 obtain ⟨k,rfl⟩:=h;exact ⟨k+n,World.drewN_drewN _ _ _⟩
theorem drws_drew {w w':World} (h:Drws w w'):Drws w w'.drew:=by
 obtain ⟨k,rfl⟩:=h;exact ⟨k+1,rfl⟩
theorem refFLess_any (a b:Nat) (w:World) (ha:a<18446744073709551616) (hb:b<18446744073709551616) :
 Calls Tryz.prog 74 #[.float .f64 a,.float .f64 b] w fun e w'=>e=.returned (.bool (decide (keyB a<keyB b)))∧Drws w w':=by
 cases na:nanB a
 ·have t1:((kindF a:Int)==3)=false:=by rw [beq_eq_false_iff_ne];have:=kindF_num a na;omega
  have t1':((kindF a:Int) != 3)=true:=by rw [bne_iff_ne];have:=kindF_num a na;omega
  cases nb:nanB b
  ·have t2:((kindF b:Int)==3)=false:=by rw [beq_eq_false_iff_ne];have:=kindF_num b nb;omega
   have hl:=order_lt a b na nb
   have he:=order_eq a b na nb
   rw [key_lt a b na nb]
   have NA:=Lib.hid na;have NB:=Lib.hid nb;clear na nb
   have A:=Lib.hid hl;have E:=Lib.hid he;clear hl he
   by_cases c1:sv a<sv b
   ·have hl:(FloatKind.f64.format.order a b==some .lt)=true:=by rw [A.out];simp [c1]
    have he:(FloatKind.f64.format.order a b==some .eq)=false:=by rw [E.out];simp;omega
    have C:=Lib.hid c1;clear c1
    go_enter Tryz.func74,Tryz.ntmps74
    go_wp2_with (first|(go_at_call 65;(first|(with_reducible refine (refKind_any a _ ha).mono ?_)|(with_reducible refine (refKind_any b _ hb).mono ?_));rintro e w' ⟨rfl,n,rfl⟩)|(go_at_call 66;(first|(with_reducible refine (below_any a _ ha NA.out).mono ?_)|(with_reducible refine (below_any b _ hb NB.out).mono ?_));rintro e w' ⟨rfl,rfl⟩))
    go_ret
    exact ⟨by simp [C.out],by first|exact drws_refl _|exact drws_step (drws_refl _) _|exact drws_step (drws_step (drws_refl _) _) _|exact drws_step (drws_step (drws_step (drws_refl _) _) _) _|exact drws_step (drws_step (drws_step (drws_step (drws_refl _) _) _) _) _⟩
   ·have hl:(FloatKind.f64.format.order a b==some .lt)=false:=by rw [A.out];simp [c1]
    by_cases c2:sv a=sv b
    ·have he:(FloatKind.f64.format.order a b==some .eq)=true:=by rw [E.out];simp [c2]
     have C:=Lib.hid c1;have D:=Lib.hid c2;clear c1 c2
     cases ga:ng a
     all_goals
      cases gb:ng b
      all_goals
       skip
       go_enter Tryz.func74,Tryz.ntmps74
       go_wp2_with (first|(go_at_call 65;(first|(with_reducible refine (refKind_any a _ ha).mono ?_)|(with_reducible refine (refKind_any b _ hb).mono ?_));rintro e w' ⟨rfl,n,rfl⟩)|(go_at_call 66;(first|(with_reducible refine (below_any a _ ha NA.out).mono ?_)|(with_reducible refine (below_any b _ hb NB.out).mono ?_));rintro e w' ⟨rfl,rfl⟩))
       go_ret
       exact ⟨by simp [D.out],by first|exact drws_refl _|exact drws_step (drws_refl _) _|exact drws_step (drws_step (drws_refl _) _) _|exact drws_step (drws_step (drws_step (drws_refl _) _) _) _|exact drws_step (drws_step (drws_step (drws_step (drws_refl _) _) _) _) _⟩
    ·have he:(FloatKind.f64.format.order a b==some .eq)=false:=by rw [E.out];simp [c2]
     have C:=Lib.hid c1;have D:=Lib.hid c2;clear c1 c2
     go_enter Tryz.func74,Tryz.ntmps74
     go_wp2_with (first|(go_at_call 65;(first|(with_reducible refine (refKind_any a _ ha).mono ?_)|(with_reducible refine (refKind_any b _ hb).mono ?_));rintro e w' ⟨rfl,n,rfl⟩)|(go_at_call 66;(first|(with_reducible refine (below_any a _ ha NA.out).mono ?_)|(with_reducible refine (below_any b _ hb NB.out).mono ?_));rintro e w' ⟨rfl,rfl⟩))
     go_ret
     exact ⟨by simp [C.out,D.out],by first|exact drws_refl _|exact drws_step (drws_refl _) _|exact drws_step (drws_step (drws_refl _) _) _|exact drws_step (drws_step (drws_step (drws_refl _) _) _) _|exact drws_step (drws_step (drws_step (drws_step (drws_refl _) _) _) _) _⟩
  ·have t2:((kindF b:Int)==3)=true:=by rw [kindF_nan b nb];rfl
   have hlt:decide (keyB a<keyB b)=true:=by have:=keyB_num a na;rw [keyB_nan b nb];simpa using this
   rw [hlt]
   have NA:=Lib.hid na;have NB:=Lib.hid nb;have HL:=Lib.hid hlt;clear na nb hlt
   go_enter Tryz.func74,Tryz.ntmps74
   go_wp2_with (go_at_call 65;(first|(with_reducible refine (refKind_any a _ ha).mono ?_)|(with_reducible refine (refKind_any b _ hb).mono ?_));rintro e w' ⟨rfl,n,rfl⟩)
   go_ret
   exact ⟨rfl,by first|exact drws_refl _|exact drws_step (drws_refl _) _|exact drws_step (drws_step (drws_refl _) _) _|exact drws_step (drws_step (drws_step (drws_refl _) _) _) _⟩
 ·have t1:((kindF a:Int)==3)=true:=by rw [kindF_nan a na];rfl
  have t1':((kindF a:Int) != 3)=false:=by rw [kindF_nan a na];rfl
  have hlt:decide (keyB a<keyB b)=false:=by have:=keyB_lt b;rw [keyB_nan a na];simp;omega
  rw [hlt]
  have NA:=Lib.hid na;have HL:=Lib.hid hlt;clear na hlt
  go_enter Tryz.func74,Tryz.ntmps74
  go_wp2_with (go_at_call 65;(first|(with_reducible refine (refKind_any a _ ha).mono ?_)|(with_reducible refine (refKind_any b _ hb).mono ?_));rintro e w' ⟨rfl,n,rfl⟩)
  go_ret
  exact ⟨rfl,by first|exact drws_refl _|exact drws_step (drws_refl _) _|exact drws_step (drws_step (drws_refl _) _) _|exact drws_step (drws_step (drws_step (drws_refl _) _) _) _⟩
theorem refFSame_any (a b:Nat) (w:World) (ha:a<18446744073709551616) (hb:b<18446744073709551616) :
 Calls Tryz.prog 21 #[.float .f64 a,.float .f64 b] w fun e w'=>e=.returned (.bool (decide (keyB a=keyB b)))∧Drws w w':=by
 cases na:nanB a
 ·have t1:((kindF a:Int)==3)=false:=by rw [beq_eq_false_iff_ne];have:=kindF_num a na;omega
  have t1':((kindF a:Int) != 3)=true:=by rw [bne_iff_ne];have:=kindF_num a na;omega
  cases nb:nanB b
  ·have t2:((kindF b:Int)==3)=false:=by rw [beq_eq_false_iff_ne];have:=kindF_num b nb;omega
   have hl:=order_lt a b na nb
   have he:=order_eq a b na nb
   rw [key_eq a b na nb]
   have NA:=Lib.hid na;have NB:=Lib.hid nb;clear na nb
   have A:=Lib.hid hl;have E:=Lib.hid he;clear hl he
   by_cases c1:sv a<sv b
   ·have hl:(FloatKind.f64.format.order a b==some .lt)=true:=by rw [A.out];simp [c1]
    have he:(FloatKind.f64.format.order a b==some .eq)=false:=by rw [E.out];simp;omega
    have C:=Lib.hid c1;clear c1
    go_enter Tryz.func21,Tryz.ntmps21
    go_wp2_with (first|(go_at_call 65;(first|(with_reducible refine (refKind_any a _ ha).mono ?_)|(with_reducible refine (refKind_any b _ hb).mono ?_));rintro e w' ⟨rfl,n,rfl⟩)|(go_at_call 66;(first|(with_reducible refine (below_any a _ ha NA.out).mono ?_)|(with_reducible refine (below_any b _ hb NB.out).mono ?_));rintro e w' ⟨rfl,rfl⟩))
    go_ret
    exact ⟨by have:=C.out;simp;omega,by first|exact drws_refl _|exact drws_step (drws_refl _) _|exact drws_step (drws_step (drws_refl _) _) _|exact drws_step (drws_step (drws_step (drws_refl _) _) _) _|exact drws_step (drws_step (drws_step (drws_step (drws_refl _) _) _) _) _⟩
   ·have hl:(FloatKind.f64.format.order a b==some .lt)=false:=by rw [A.out];simp [c1]
    by_cases c2:sv a=sv b
    ·have he:(FloatKind.f64.format.order a b==some .eq)=true:=by rw [E.out];simp [c2]
     have C:=Lib.hid c1;have D:=Lib.hid c2;clear c1 c2
     cases ga:ng a
     all_goals
      cases gb:ng b
      all_goals
       skip
       go_enter Tryz.func21,Tryz.ntmps21
       go_wp2_with (first|(go_at_call 65;(first|(with_reducible refine (refKind_any a _ ha).mono ?_)|(with_reducible refine (refKind_any b _ hb).mono ?_));rintro e w' ⟨rfl,n,rfl⟩)|(go_at_call 66;(first|(with_reducible refine (below_any a _ ha NA.out).mono ?_)|(with_reducible refine (below_any b _ hb NB.out).mono ?_));rintro e w' ⟨rfl,rfl⟩))
       go_ret
       exact ⟨by simp [D.out],by first|exact drws_refl _|exact drws_step (drws_refl _) _|exact drws_step (drws_step (drws_refl _) _) _|exact drws_step (drws_step (drws_step (drws_refl _) _) _) _|exact drws_step (drws_step (drws_step (drws_step (drws_refl _) _) _) _) _⟩
    ·have he:(FloatKind.f64.format.order a b==some .eq)=false:=by rw [E.out];simp [c2]
     have C:=Lib.hid c1;have D:=Lib.hid c2;clear c1 c2
     go_enter Tryz.func21,Tryz.ntmps21
     go_wp2_with (first|(go_at_call 65;(first|(with_reducible refine (refKind_any a _ ha).mono ?_)|(with_reducible refine (refKind_any b _ hb).mono ?_));rintro e w' ⟨rfl,n,rfl⟩)|(go_at_call 66;(first|(with_reducible refine (below_any a _ ha NA.out).mono ?_)|(with_reducible refine (below_any b _ hb NB.out).mono ?_));rintro e w' ⟨rfl,rfl⟩))
     go_ret
     exact ⟨by simp [D.out],by first|exact drws_refl _|exact drws_step (drws_refl _) _|exact drws_step (drws_step (drws_refl _) _) _|exact drws_step (drws_step (drws_step (drws_refl _) _) _) _|exact drws_step (drws_step (drws_step (drws_step (drws_refl _) _) _) _) _⟩
  ·have t2:((kindF b:Int)==3)=true:=by rw [kindF_nan b nb];rfl
   have t3:((kindF a:Int)==(kindF b:Int))=false:=by rw [beq_eq_false_iff_ne,kindF_nan b nb];have:=kindF_num a na;omega
   have hlt:decide (keyB a=keyB b)=false:=by have:=keyB_num a na;rw [keyB_nan b nb];simp;omega
   rw [hlt]
   have NA:=Lib.hid na;have NB:=Lib.hid nb;have HL:=Lib.hid hlt;clear na nb hlt
   go_enter Tryz.func21,Tryz.ntmps21
   go_wp2_with (go_at_call 65;(first|(with_reducible refine (refKind_any a _ ha).mono ?_)|(with_reducible refine (refKind_any b _ hb).mono ?_));rintro e w' ⟨rfl,n,rfl⟩)
   go_ret
   exact ⟨rfl,by first|exact drws_refl _|exact drws_step (drws_refl _) _|exact drws_step (drws_step (drws_refl _) _) _|exact drws_step (drws_step (drws_step (drws_refl _) _) _) _|exact drws_step (drws_step (drws_step (drws_step (drws_refl _) _) _) _) _⟩
 ·have t1:((kindF a:Int)==3)=true:=by rw [kindF_nan a na];rfl
  have t3:((kindF a:Int)==(kindF b:Int))=decide (keyB a=keyB b):=by
   rw [kindF_nan a na,keyB_nan a na]
   cases nb:nanB b
   ·have h1:=kindF_num b nb;have h2:=keyB_num b nb
    rw [decide_eq_false (by omega),beq_eq_false_iff_ne];omega
   ·rw [kindF_nan b nb,keyB_nan b nb];rfl
  generalize decide (keyB a=keyB b)=r at *
  have NA:=Lib.hid na;clear na
  go_enter Tryz.func21,Tryz.ntmps21
  go_wp2_with (go_at_call 65;(first|(with_reducible refine (refKind_any a _ ha).mono ?_)|(with_reducible refine (refKind_any b _ hb).mono ?_));rintro e w' ⟨rfl,n,rfl⟩)
  go_ret
  exact ⟨rfl,by first|exact drws_refl _|exact drws_step (drws_refl _) _|exact drws_step (drws_step (drws_refl _) _) _|exact drws_step (drws_step (drws_step (drws_refl _) _) _) _|exact drws_step (drws_step (drws_step (drws_step (drws_refl _) _) _) _) _⟩
end Go.Proofs.YtfhmaincnlaapaaGreat
namespace Go.Proofs.YtfhmaincnlaapaaGreat
set_option linter.unusedVariables false
open Ieee
theorem log2_eq {n k:Nat} (h1:2^k≤n) (h2:n<2^(k+1)):n.log2=k:=by
 have h0:n≠0:=by have:=Nat.two_pow_pos k;omega
 have a:=Nat.log2_self_le h0
 have b:=@Nat.lt_log2_self n
 have c:2^n.log2<2^(k+1):=by omega
 have d:2^k<2^(n.log2+1):=by omega
 have c':=(Nat.pow_lt_pow_iff_right (by decide:1<2)).1 c
 have d':=(Nat.pow_lt_pow_iff_right (by decide:1<2)).1 d
 omega
theorem cut_exact (neg:Bool) (m d:Nat) (hm:0<m):Toward.even.cut neg (m*2^d) d=m:=by
 have hp:=Nat.two_pow_pos d
 have hl:d≤(m*2^d).log2+2:=by
  have h1:2^d≤m*2^d:=Nat.le_mul_of_pos_left _ hm
  have b:=@Nat.lt_log2_self (m*2^d)
  have:=(Nat.pow_lt_pow_iff_right (by decide:1<2)).1 (Nat.lt_of_le_of_lt h1 b)
  omega
 unfold Toward.cut
 simp only [Nat.one_shiftLeft]
 rw [Nat.min_eq_left hl,Nat.mul_div_cancel _ hp,Nat.mul_mod_left]
 simp
theorem mg_bound (r:Nat) (h:r<irg):mg r<9007199254740992∧(ex r=0∨4503599627370496≤mg r)∧ex r*4503599627370496+mg r=r∧ex r≤2045:=by
 unfold irg at h
 unfold mg ex
 by_cases hr:r<4503599627370496
 ·rw [if_pos hr,if_pos hr];omega
 ·rw [if_neg hr,if_neg hr];omega
theorem nearest_exact (neg:Bool) (mag:Nat) (place:Int) (r p q:Nat) (hr0:0<r) (hr:r<irg) (hpq:(p:Int)-q=place+1074) (hv:mag*2^p=vl r*2^q) :
 double.nearest neg mag place=double.word neg r:=by
 obtain ⟨hm1,hm2,hm3,hm4⟩:=mg_bound r hr
 have hv0:=vl_pos hr0
 have hmag:mag≠0:=by
  rintro rfl
  have:0<vl r*2^q:=Nat.mul_pos hv0 (Nat.two_pow_pos q)
  omega
 have hmg:0<mg r:=by
  rcases Nat.eq_zero_or_pos (mg r) with h|h
  ·unfold vl at hv0;rw [h] at hv0;simp at hv0
  ·exact h
 have hv':mag*2^p=mg r*2^(ex r+q):=by rw [hv,vl,Nat.mul_assoc,←Nat.pow_add]
 have hL1:=Nat.log2_self_le hmag
 have hL2:=@Nat.lt_log2_self mag
 have hup:mag.log2+p≤52+ex r+q:=by
  have h1:2^(mag.log2+p)≤mag*2^p:=by rw [Nat.pow_add];exact Nat.mul_le_mul_right _ hL1
  have h2:mg r*2^(ex r+q)<2^53*2^(ex r+q):=Nat.mul_lt_mul_of_pos_right (by simpa using hm1) (Nat.two_pow_pos _)
  rw [←Nat.pow_add] at h2
  have:=(Nat.pow_lt_pow_iff_right (by decide:1<2)).1 (Nat.lt_of_le_of_lt (hv'▸h1) h2)
  omega
 have hlo:4503599627370496≤mg r→52+ex r+q≤mag.log2+p:=by
  intro h
  have h1:mag*2^p<2^(mag.log2+1+p):=by rw [Nat.pow_add];exact Nat.mul_lt_mul_of_pos_right hL2 (Nat.two_pow_pos _)
  have h2:2^52*2^(ex r+q)≤mg r*2^(ex r+q):=Nat.mul_le_mul_right _ (by simpa using h)
  rw [←Nat.pow_add] at h2
  have:=(Nat.pow_lt_pow_iff_right (by decide:1<2)).1 (Nat.lt_of_le_of_lt h2 (hv'▸h1))
  omega
 unfold Format.nearest
 rw [if_neg hmag]
 simp only [lp_eq,bi_eq,ir_eq]
 have hf:(double.fractionBits:Int)=52:=rfl
 have hlast:max (place+(mag.log2:Int)-(double.fractionBits:Int)) (-1074)=(ex r:Int)-1074:=by
  rw [hf]
  rcases hm2 with h|h
  ·by_cases h2:4503599627370496≤mg r
   ·have:=hlo h2;omega
   ·omega
  ·have:=hlo h;omega
 rw [hlast]
 have hkept:Toward.even.cut neg (mag <<< (place-((ex r:Int)-1074)).toNat) ((ex r:Int)-1074-place).toNat=mg r:=by
  rcases Nat.le_total (ex r+q) p with h|h
  ·have e1:(place-((ex r:Int)-1074)).toNat=p-(ex r+q):=by omega
   have e2:((ex r:Int)-1074-place).toNat=0:=by omega
   rw [e1,e2,Nat.shiftLeft_eq]
   have e3:mag*2^(p-(ex r+q))=mg r:=by
    have:mag*2^(p-(ex r+q))*2^(ex r+q)=mg r*2^(ex r+q):=by
     rw [Nat.mul_assoc,←Nat.pow_add,Nat.sub_add_cancel h,hv']
    exact Nat.eq_of_mul_eq_mul_right (Nat.two_pow_pos _) this
   rw [e3]
   have:=cut_exact neg (mg r) 0 hmg
   simpa using this
  ·have e1:(place-((ex r:Int)-1074)).toNat=0:=by omega
   have e2:((ex r:Int)-1074-place).toNat=ex r+q-p:=by omega
   rw [e1,e2,Nat.shiftLeft_zero]
   have e3:mag=mg r*2^(ex r+q-p):=by
    have:mag*2^p=mg r*2^(ex r+q-p)*2^p:=by
     rw [Nat.mul_assoc,←Nat.pow_add,Nat.sub_add_cancel h,hv']
    exact Nat.eq_of_mul_eq_mul_right (Nat.two_pow_pos _) this
   rw [e3]
   exact cut_exact neg (mg r) _ hmg
 rw [hkept]
 have e4:((ex r:Int)-1074 - -1074).toNat=ex r:=by omega
 rw [e4,hm3]
 congr 1
 unfold irg at hr
 omega
theorem read_pos (r:Nat) (h:r<irg):double.read r=.number false (mg r) (-1074+(ex r:Nat)):=by
 have h1:rg r=r:=by unfold rg irg at *;omega
 have h2:ng r=false:=by unfold ng irg at *;rw [beq_eq_false_iff_ne];omega
 have:=read_num r (by rw [h1];exact h)
 rw [h1,h2] at this
 exact this
theorem read_two:double.read 4611686018427387904=.number false 4503599627370496 (-51):=by decide
theorem log2_52:(4503599627370496:Nat).log2=52:=by decide
theorem quot_two (m:Nat) (i:Int) (hlog:m.log2=52):(Datum.number false m i).quotient 54 (.number false 4503599627370496 (-51))=some (.number false (8*m) (i-4)):=by
 have hne:¬((4503599627370496:Nat)=0):=by omega
 simp only [Datum.quotient]
 rw [if_neg hne]
 have e0:54+Nat.log2 4503599627370496-m.log2=54:=by rw [log2_52,hlog]
 have e1:m <<< 54/4503599627370496=m*4:=by rw [Nat.shiftLeft_eq];omega
 have e2:m <<< 54%4503599627370496=0:=by rw [Nat.shiftLeft_eq];omega
 simp only [e0,e1,e2]
 have e3:i - -51-((54:Nat):Int)-1=i-4:=by omega
 have e4:2*(m*4)+((0:Nat) != 0).toNat=8*m:=by simp;omega
 rw [e3,e4]
 rfl
theorem div_two (r:Nat) (h1:9007199254740992≤r) (h:r<irg):∃ s,FloatKind.f64.format.div r 4611686018427387904=some s∧s+4503599627370496=r∧0<s∧2*vl s=vl r:=by
 obtain ⟨hm1,hm2,hm3,hm4⟩:=mg_bound r h
 have hx:1≤ex r:=by omega
 have hm:4503599627370496≤mg r:=by omega
 have hlog:(mg r).log2=52:=log2_eq (by simpa using hm) (by simpa using hm1)
 obtain ⟨s,hs⟩:∃ s,s+4503599627370496=r:=⟨r-4503599627370496,by omega⟩
 have hmg:mg s=mg r∧ex s+1=ex r:=by
  unfold mg ex at *
  rw [if_neg (by omega),if_neg (by omega),if_neg (by omega),if_neg (by omega)]
  omega
 have hsl:s<irg:=by omega
 have hv:2*vl s=vl r:=by
  rw [vl,vl,hmg.1,←hmg.2,Nat.pow_succ]
  generalize 2^ex s=t
  generalize mg r=u
  ac_rfl
 refine ⟨s,?_,hs,by omega,hv⟩
 have e:FloatKind.f64.format.div r 4611686018427387904=some (double.nearest false (8*mg r) (-1074+(ex r:Nat)-4)):=by
  show ((double.read r).quotient 54 (double.read 4611686018427387904)).map double.write=_
  rw [read_pos r h,read_two,quot_two _ _ hlog]
  rfl
 rw [e]
 refine congrArg some ?_
 rw [nearest_exact false (8*mg r) (-1074+(ex r:Nat)-4) s (ex r) 4 (by omega) hsl (by omega) ?_]
 ·rfl
 ·rw [vl,hmg.1,←hmg.2,Nat.pow_succ]
  generalize 2^ex s=t
  generalize mg r=u
  rw [show (2:Nat)^4=16 from rfl,Nat.mul_comm t 2,←Nat.mul_assoc,Nat.mul_assoc u t 16,Nat.mul_comm t 16,←Nat.mul_assoc,Nat.mul_comm 8 u,Nat.mul_assoc u 8 2]
theorem mul_two (r:Nat) (h0:0<r) (h:r<irg-4503599627370496):∃ s,FloatKind.f64.format.mul r 4611686018427387904=some s∧r<s∧s<irg∧vl s=2*vl r:=by
 have h':r<irg:=by omega
 obtain ⟨hm1,hm2,hm3,hm4⟩:=mg_bound r h'
 have hx:∃ s,r<s∧s<irg∧vl s=2*vl r:=by
  by_cases hr:r<4503599627370496
  ·refine ⟨2*r,by omega,by unfold irg;omega,?_⟩
   unfold vl mg ex
   rw [if_pos hr,if_pos hr]
   split
   ·simp
   ·have:2*r/4503599627370496=1:=by omega
    rw [this];simp;omega
  ·refine ⟨r+4503599627370496,by omega,by omega,?_⟩
   have hs:mg (r+4503599627370496)=mg r∧ex (r+4503599627370496)=ex r+1:=by
    unfold mg ex
    rw [if_neg (by omega),if_neg (by omega),if_neg (by omega),if_neg (by omega)]
    omega
   rw [vl,vl,hs.1,hs.2,Nat.pow_succ]
   generalize 2^ex r=t
   rw [←Nat.mul_assoc,Nat.mul_comm]
 obtain ⟨s,hs1,hs2,hs3⟩:=hx
 refine ⟨s,?_,hs1,hs2,hs3⟩
 show double.mul r 4611686018427387904=_
 unfold Format.mul
 rw [read_pos r h',read_two]
 simp only [Datum.product,Option.map_some,Format.write]
 refine congrArg some ?_
 have key:mg r*4503599627370496*2^ex r=vl s*2^51:=by
  rw [hs3,vl]
  have e51:(2:Nat)^51=2251799813685248:=by decide
  rw [e51]
  generalize 2^ex r=t
  have e:(4503599627370496:Nat)=2*2251799813685248:=by decide
  rw [e]
  generalize (2251799813685248:Nat)=c
  generalize mg r=u
  ac_rfl
 exact nearest_exact false (mg r*4503599627370496) (-1074+(ex r:Int) + -51) s (ex r) 51 (by omega) hs2 (by omega) key
def EE:Nat:=1074
theorem EE_eq:EE=1074:=rfl
def FF:Nat:=2098
theorem FF_eq:FF=2098:=rfl
def UU:Nat:=2^EE
theorem UU_pos:0<UU:=Nat.two_pow_pos _
theorem UU_eq:UU=2^EE:=rfl
theorem irg_pos:0<irg:=by unfold irg;omega
def ir:Nat→Nat
 | 0=>0
 | n+1=>(1022+(n+1).log2)*4503599627370496+(n+1)*2^(52-(n+1).log2)
theorem ir_zero:ir 0=0:=rfl
theorem ir_pos (n:Nat) (h:n≠0):ir n=(1022+n.log2)*4503599627370496+n*2^(52-n.log2):=by
 cases n with
 | zero=>exact absurd rfl h
 | succ n=>rfl
theorem ir_vl0:ir 0<irg∧vl (ir 0)=0*UU:=by
 rw [ir_zero,Nat.zero_mul,vl_zero]
 exact ⟨irg_pos,rfl⟩
theorem ir_vl (n':Nat) (h:n'<9007199254740992):ir n'<irg∧vl (ir n')=n'*UU:=by
 rcases Nat.eq_zero_or_pos n' with h0|h0
 ·rw [h0];exact ir_vl0
 ·have h0:n'≠0:=by omega
  rw [ir_pos n' h0]
  have a:=Nat.log2_self_le h0
  have b:=@Nat.lt_log2_self n'
  have hl:n'.log2≤52:=by
   have c:2^n'.log2<2^53:=by
    have:(2:Nat)^53=9007199254740992:=by decide
    omega
   have:=(Nat.pow_lt_pow_iff_right (by decide:1<2)).1 c
   omega
  obtain ⟨j,hj⟩:∃ j,52=n'.log2+j:=⟨52-n'.log2,by omega⟩
  have ej:52-n'.log2=j:=by omega
  rw [ej]
  have m1:4503599627370496≤n'*2^j:=by
   have:2^n'.log2*2^j=4503599627370496:=by rw [←Nat.pow_add,←hj]
   rw [←this];exact Nat.mul_le_mul_right _ a
  have m2:n'*2^j<9007199254740992:=by
   have:2^(n'.log2+1)*2^j=9007199254740992:=by rw [←Nat.pow_add,show n'.log2+1+j=53 by omega]
   rw [←this];exact Nat.mul_lt_mul_of_pos_right b (Nat.two_pow_pos _)
  generalize hM:n'*2^j=M at *
  generalize hk:n'.log2=k at *
  refine ⟨by unfold irg;omega,?_⟩
  have e1:mg ((1022+k)*4503599627370496+M)=M:=by unfold mg;rw [if_neg (by omega)];omega
  have e2:ex ((1022+k)*4503599627370496+M)=1022+k:=by unfold ex;rw [if_neg (by omega)];omega
  rw [vl,e1,e2,←hM,UU_eq,Nat.mul_assoc,←Nat.pow_add]
  have hE:=EE_eq
  congr 2
  omega
theorem ofInt_exact (n:Nat) (h:n<9007199254740992):floatOfInt .f64 (n:Int)=ir n:=by
 show double.write (.number (decide ((n:Int)<0)) (n:Int).natAbs 0)=_
 have e:decide ((n:Int)<0)=false:=by rw [decide_eq_false_iff_not];omega
 rw [e,Int.natAbs_natCast]
 simp only [Format.write]
 by_cases h0:n=0
 ·subst h0;rfl
 ·obtain ⟨h1,h2⟩:=ir_vl n h
  have hp:0<ir n:=by
   rcases Nat.eq_zero_or_pos (ir n) with h3|h3
   ·rw [h3,vl_zero] at h2
    have:=Nat.mul_pos (show 0<n by omega) UU_pos
    omega
   ·exact h3
  rw [nearest_exact false n 0 (ir n) EE 0 hp h1 (by have:=EE_eq;omega) (by rw [h2];simp [UU_eq])]
  rfl
theorem sv_pos (r:Nat) (h:r≤irg):sv r=(vl r:Int)∧nanB r=false∧rg r=r:=by
 have h1:rg r=r:=by unfold rg irg at *;omega
 have h2:ng r=false:=by unfold ng irg at *;rw [beq_eq_false_iff_ne];omega
 refine ⟨by unfold sv;rw [h1,h2];rfl,?_,h1⟩
 unfold nanB
 rw [h1]
 exact decide_eq_false (by omega)
theorem ord_pos (r s:Nat) (hr:r≤irg) (hs:s≤irg):FloatKind.f64.format.order r s=some (compare (r:Int) (s:Int)):=by
 obtain ⟨h1,h2,h3⟩:=sv_pos r hr
 obtain ⟨k1,k2,k3⟩:=sv_pos s hs
 have:FloatKind.f64.format.order r s=some (compare (sv r) (sv s)):=order_any r s (by rw [h3];exact hr) (by rw [k3];exact hs)
 rw [this,h1,k1]
 congr 1
 rcases Nat.lt_trichotomy r s with h|h|h
 ·have:=vl_lt h;rw [icmp_lt (by omega),icmp_lt (by omega)]
 ·subst h;simp
 ·have:=vl_lt h;rw [icmp_gt (by omega),icmp_gt (by omega)]
theorem ord_eq (r s:Nat) (hr:r≤irg) (hs:s≤irg):(FloatKind.f64.format.order r s==some .eq)=decide (r=s):=by
 rw [ord_pos r s hr hs]
 rcases Nat.lt_trichotomy r s with h|h|h
 ·rw [icmp_lt (by omega)];simp;omega
 ·subst h;simp
 ·rw [icmp_gt (by omega)];simp;omega
def c53:Nat:=4845873199050653696
theorem c53_lt:c53<irg:=by unfold c53 irg;omega
theorem c53_vl:vl c53=9007199254740992*UU:=by
 have e1:mg c53=4503599627370496:=by unfold mg c53;rw [if_neg (by omega)]
 have e2:ex c53=EE+1:=by have hE:=EE_eq;unfold ex c53;rw [if_neg (by omega)];omega
 rw [vl,e1,e2,UU_eq,Nat.pow_succ,←Nat.mul_assoc,Nat.mul_right_comm]
theorem vl_pow (r:Nat) (h:r<irg):vl r<2^FF:=by
 have hF:=FF_eq
 obtain ⟨h1,_,_,h4⟩:=mg_bound r h
 have h5:vl r<2^53*2^ex r:=Nat.mul_lt_mul_of_pos_right (by simpa using h1) (Nat.two_pow_pos _)
 rw [←Nat.pow_add] at h5
 exact Nat.lt_of_lt_of_le h5 (Nat.pow_le_pow_right (by decide) (by omega))
end Go.Proofs.YtfhmaincnlaapaaGreat
namespace Go.Proofs.YtfhmaincnlaapaaGreat
open Go.ChangeShapes Go.WideShapes Go.ChangeAt Go.RowKit
set_option linter.unusedVariables false
def fromB (k:Nat):Option Nat :=
 if k=18446744073709551615 then some 9221120237041090561
 else if 9223372036854775808≤k∧k-9223372036854775808≤9218868437227405312 then some (k-9223372036854775808)
 else if k<9223372036854775808∧9223372036854775807-k≤9218868437227405312 then some (9223372036854775808+(9223372036854775807-k))
 else none
theorem fromB_lt (k b:Nat) (hk:k<18446744073709551616) (h:fromB k=some b):b<18446744073709551616:=by
 unfold fromB at h
 split at h
 ·injection h with h;omega
 ·split at h
  ·injection h with h;omega
  ·split at h
   ·injection h with h;omega
   ·cases h
theorem keyB_nanlit:keyB 9221120237041090561=18446744073709551615:=keyB_nan _ (decide_eq_true (by unfold rg irg;omega))
theorem fromB_cases (k b:Nat) (h:fromB k=some b):(k=18446744073709551615∧b=9221120237041090561)∨(9223372036854775808≤k∧k-9223372036854775808≤9218868437227405312∧b=k-9223372036854775808) ∨
 (k<9223372036854775808∧9223372036854775807-k≤9218868437227405312∧b=9223372036854775808+(9223372036854775807-k)):=by
 unfold fromB at h
 split at h
 ·rename_i e;exact .inl ⟨e,(Option.some.inj h).symm⟩
 ·split at h
  ·rename_i e;exact .inr (.inl ⟨e.1,e.2,(Option.some.inj h).symm⟩)
  ·split at h
   ·rename_i e;exact .inr (.inr ⟨e.1,e.2,(Option.some.inj h).symm⟩)
   ·cases h
theorem fromB_key (k b:Nat) (hk:k<18446744073709551616) (h:fromB k=some b):keyB b=k:=by
 rcases fromB_cases k b h with ⟨h1,h2⟩|⟨h1,h2,h3⟩|⟨h1,h2,h3⟩
 ·have e1:keyB b=keyB 9221120237041090561:=congrArg keyB h2
  exact e1.trans (keyB_nanlit.trans h1.symm)
 ·have e1:rg b=b:=by unfold rg;omega
  have e2:ng b=false:=by unfold ng;rw [beq_eq_false_iff_ne];omega
  have e3:nanB b=false:=by unfold nanB;rw [e1];exact decide_eq_false (by unfold irg;omega)
  unfold keyB;rw [e3,e2,e1];simp only [Bool.false_eq_true,if_false];omega
 ·have e1:rg b=9223372036854775807-k:=by unfold rg;omega
  have e2:ng b=true:=by unfold ng;rw [beq_iff_eq];omega
  have e3:nanB b=false:=by unfold nanB;rw [e1];exact decide_eq_false (by unfold irg;omega)
  unfold keyB;rw [e3,e2,e1];simp only [Bool.false_eq_true,if_false,if_true];omega
theorem fromB_of_key (b:Nat):∃ c,fromB (keyB b)=some c∧c<18446744073709551616∧keyB c=keyB b:=by
 have hl:=keyB_lt b
 have h:∃ c,fromB (keyB b)=some c:=by
  cases hn:nanB b
  ·have h1:=keyB_num b hn
   have hr:rg b≤irg:=by unfold nanB at hn;simpa using hn
   unfold irg at hr
   unfold fromB
   rw [if_neg (by omega)]
   cases hg:ng b
   ·have hk:keyB b=9223372036854775808+rg b:=by unfold keyB;rw [hn,hg];rfl
    rw [if_pos (by omega)];exact ⟨_,rfl⟩
   ·have hk:keyB b=9223372036854775807-rg b:=by unfold keyB;rw [hn,hg];rfl
    rw [if_neg (by omega),if_pos (by omega)];exact ⟨_,rfl⟩
  ·rw [keyB_nan b hn];exact ⟨_,rfl⟩
 obtain ⟨c,hc⟩:=h
 exact ⟨c,hc,fromB_lt _ _ hl hc,fromB_key _ _ hl hc⟩
theorem f64from (n:Nat) (w:World):(callFunc 178 #[.int .u64 (n:Int)]).run Tryz.prog w=.ok (.value (.float .f64 n)) w:=by kernel_rfl
theorem f64from_nan (w:World):(callFunc 178 #[.int .u64 9221120237041090561]).run Tryz.prog w=.ok (.value (.float .f64 9221120237041090561)) w:=f64from 9221120237041090561 w
theorem nan_any (w:World):Calls Tryz.prog 134 #[] w fun e w'=>e=.returned (.float .f64 9221120237041090561)∧w=w':=by
 have hf:=f64from_nan
 go_enter Tryz.func134,Tryz.ntmps134
 go_wp2
 go_ret
 exact ⟨rfl,rfl⟩
theorem or_top (x:Nat) (h:x<9223372036854775808):bits .or .u64 9223372036854775808 (x:Int)=((9223372036854775808+x:Nat):Int):=by
 have e:(9223372036854775808:Int)=((9223372036854775808:Nat):Int):=rfl
 rw [e,u64_or_nat _ _ (by omega) (by omega)]
 congr 1
 have:=Nat.two_pow_add_eq_or_of_lt (show x<2^63 from h) 1
 simpa using this.symm
def fromV (k:Nat):Value:=match fromB k with|some b=>.tuple #[.float .f64 b,.bool true]|none=>.tuple #[.float .f64 0,.bool false]
set_option maxRecDepth 20000 in
theorem from_any (k:Nat) (w:World) (hk:k<18446744073709551616) :
 Calls Tryz.prog 190 #[.int .u64 (k:Int)] w fun e w'=>e=.returned (fromV k)∧w=w':=by
 by_cases h1:k=18446744073709551615
 ·subst h1
  have hv:fromV 18446744073709551615=.tuple #[.float .f64 9221120237041090561,.bool true]:=rfl
  rw [hv]
  have e:((18446744073709551615:Nat):Int)=18446744073709551615:=rfl
  rw [e]
  have E:=Lib.hid e;have HV:=Lib.hid hv;clear e hv hk
  go_enter Tryz.func190,Tryz.ntmps190
  go_wp2_with (go_at_call 134;(with_reducible refine (nan_any _).mono ?_);rintro e w' ⟨rfl,rfl⟩)
  go_ret2
  exact ⟨rfl,rfl⟩
 ·have t1:((k:Int)==18446744073709551615)=false:=by rw [beq_eq_false_iff_ne];omega
  by_cases h2:9223372036854775808≤k
  ·have t2:decide ((9223372036854775808:Int)≤(k:Int))=true:=decide_eq_true (by omega)
   have t2':decide ((k:Int)<9223372036854775808)=false:=decide_eq_false (by omega)
   obtain ⟨j,hj⟩:∃ j:Nat,(k:Int)-9223372036854775808=(j:Int):=⟨k-9223372036854775808,by omega⟩
   have hf:=f64from j
   by_cases h3:j≤9218868437227405312
   ·have t3:decide ((j:Int)≤9218868437227405312)=true:=decide_eq_true (by omega)
    have hv:fromV k=.tuple #[.float .f64 j,.bool true]:=by
     have:k-9223372036854775808=j:=by omega
     unfold fromV fromB;rw [if_neg h1,if_pos ⟨h2,by omega⟩,this]
    have HV:=Lib.hid hv;have H1:=Lib.hid h1;have H2:=Lib.hid h2;have H3:=Lib.hid h3;clear hv h1 h2 h3
    go_enter Tryz.func190,Tryz.ntmps190
    go_wp2
    go_ret2
    exact ⟨by rw [HV.out];rfl,rfl⟩
   ·have t3:decide ((j:Int)≤9218868437227405312)=false:=decide_eq_false (by omega)
    have hv:fromV k=.tuple #[.float .f64 0,.bool false]:=by
     unfold fromV fromB;rw [if_neg h1,if_neg (by omega),if_neg (by omega)]
    have HV:=Lib.hid hv;have H1:=Lib.hid h1;have H2:=Lib.hid h2;have H3:=Lib.hid h3;clear hv h1 h2 h3 hf
    go_enter Tryz.func190,Tryz.ntmps190
    go_wp2
    go_ret2
    exact ⟨by rw [HV.out];rfl,rfl⟩
  ·have t2:decide ((9223372036854775808:Int)≤(k:Int))=false:=decide_eq_false (by omega)
   have t2':decide ((k:Int)<9223372036854775808)=true:=decide_eq_true (by omega)
   obtain ⟨j,hj⟩:∃ j:Nat,(9223372036854775807:Int)-(k:Int)=(j:Int):=⟨9223372036854775807-k,by omega⟩
   have hor:=or_top j (by omega)
   have hf:=f64from (9223372036854775808+j)
   by_cases h3:j≤9218868437227405312
   ·have t3:decide ((j:Int)≤9218868437227405312)=true:=decide_eq_true (by omega)
    have hv:fromV k=.tuple #[.float .f64 (9223372036854775808+j),.bool true]:=by
     have:9223372036854775807-k=j:=by omega
     unfold fromV fromB;rw [if_neg h1,if_neg (by omega),if_pos ⟨by omega,by omega⟩,this]
    generalize 9223372036854775808+j=q at *
    have HV:=Lib.hid hv;have H1:=Lib.hid h1;have H2:=Lib.hid h2;have H3:=Lib.hid h3;clear hv h1 h2 h3
    go_enter Tryz.func190,Tryz.ntmps190
    go_wp2
    go_ret2
    exact ⟨by rw [HV.out];rfl,rfl⟩
   ·have t3:decide ((j:Int)≤9218868437227405312)=false:=decide_eq_false (by omega)
    have hv:fromV k=.tuple #[.float .f64 0,.bool false]:=by
     unfold fromV fromB;rw [if_neg h1,if_neg (by omega),if_neg (by omega)]
    have HV:=Lib.hid hv;have H1:=Lib.hid h1;have H2:=Lib.hid h2;have H3:=Lib.hid h3;clear hv h1 h2 h3 hf hor
    go_enter Tryz.func190,Tryz.ntmps190
    go_wp2
    go_ret2
    exact ⟨by rw [HV.out];rfl,rfl⟩
def getF8 (t:List UInt8):Value:=match fromB (bv (t.take 8)) with|some b=>.tuple #[.float .f64 b,.int .i64 8,.int .i64 0]|none=>.tuple #[.float .f64 0,.int .i64 0,.int .i64 6]
set_option maxRecDepth 20000 in
set_option maxHeartbeats 1000000 in
theorem getF8_any (A:Option Addr) (m c B:Nat) (t:List UInt8) (w:World) (h:Rd w B 1 A m (u8s t)) (h8:8≤m) (hmc:m≤c) (hc:c≤maxLen) :
 Calls Tryz.prog 149 #[.slice A m c] w fun e w'=>e=.returned (getF8 t)∧Drws w w':=by
 obtain rfl:m=t.length:=h.u8.symm
 have hcc:=hc
 unfold maxLen at hcc
 have hR:=h.take (k:=8) h8
 have hl8:=hR.u8
 have H:=Lib.hid h;have HR:=Lib.hid hR;have HL8:=Lib.hid hl8;clear h hR hl8
 generalize hp:t.take 8=p at *
 have HP:=Lib.hid hp;clear hp
 go_enter Tryz.func149,Tryz.ntmps149
 go_wp2
 go_loop [5,18] (fun x i=>∃ k:Nat,k≤8∧i=.int .i64 (k:Int)∧x=.int .u64 (bv (p.take k):Nat)) (fun _ i=>8-(intOf i).toNat)
 case atStart=>exact ⟨0,by omega,rfl,rfl⟩
 case round =>
  obtain ⟨k,hk,rfl,rfl⟩:=hrel
  by_cases h1:k<8
  ·have h2:k<p.length:=by rw [HL8.out];exact h1
   obtain ⟨a,rfl,hb,hcell⟩:=HR.out.byte h2
   have hbt:=bv_take p k h2
   have hlt:=bv_lt (p.take k)
   have hlt2:256^(p.take k).length≤256^7:=Nat.pow_le_pow_right (by decide) (by rw [List.length_take];omega)
   have hbb:bv (p.take k)<72057594037927936:=by simpa using Nat.lt_of_lt_of_le hlt hlt2
   have hc8:=p[k].toNat_lt
   have hor:=or_byte (bv (p.take k)) p[k].toNat hbb hc8
   have HT:=Lib.hid hbt;clear hbt hlt hlt2
   go_wp2
   go_round
   case rel=>exact ⟨k+1,by omega,by go_num,by rw [HT.out];go_num⟩
   case measure=>simp [intOf];omega
  ·obtain rfl:k=8:=by omega
   have hpt:p.take 8=p:=List.take_of_length_le (by rw [HL8.out];exact Nat.le_refl _)
   rw [hpt]
   have hlt:=bv_lt p
   rw [HL8.out] at hlt
   have hbl:bv p<18446744073709551616:=by simpa using hlt
   have hfr:=fun W=>from_any (bv p) W hbl
   have hg8:getF8 t=match fromB (bv p) with|some b=>.tuple #[.float .f64 b,.int .i64 8,.int .i64 0]|none=>.tuple #[.float .f64 0,.int .i64 0,.int .i64 6]:=by unfold getF8;rw [HP.out]
   generalize bv p=q at *
   unfold fromV at hfr
   have HPT:=Lib.hid hpt;have HBL:=Lib.hid hbl;have HLT:=Lib.hid hlt;clear hpt hbl hlt
   rw [show ((8:Nat):Int)=8 from rfl]
   cases hfb:fromB q with
   | none =>
     rw [hfb] at hfr hg8
     have HF:=Lib.hid hfr;have HFB:=Lib.hid hfb;have HG:=Lib.hid hg8;clear hfr hfb hg8
     go_wp2_with (go_at_call 190;(with_reducible refine (HF.out _).mono ?_);rintro e w' ⟨rfl,rfl⟩)
     go_ret3
     exact ⟨by rw [HG.out];rfl,drws_refl _⟩
   | some b =>
     rw [hfb] at hfr hg8
     have HF:=Lib.hid hfr;have HFB:=Lib.hid hfb;have HG:=Lib.hid hg8;clear hfr hfb hg8
     go_wp2_with (go_at_call 190;(with_reducible refine (HF.out _).mono ?_);rintro e w' ⟨rfl,rfl⟩)
     go_ret3
     exact ⟨by rw [HG.out];rfl,drws_refl _⟩
end Go.Proofs.YtfhmaincnlaapaaGreat
