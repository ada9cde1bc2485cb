/- flo.From, code.key, code.GetF; bushelref07.F. -/
import Derived.Test.YtfhmaincnlaapaaGreatAgBufInU
import Derived.Test.YtfhmaincnlaapaaGreatAgRefRead
import Derived.Test.YtfhmaincnlaapaaGreatAgFloLess
namespace Go.Proofs.YtfhmaincnlaapaaGreat
set_option linter.unusedVariables false
open Ieee
theorem log2_eq {n k:Nat} (h1:2^k≤n) (h2:n<2^(k+1)):n.log2=k:=by
 have h0:n≠0:=by have:=Nat.two_pow_pos k;omega
 have a:=Nat.log2_self_le h0
 have b:=@Nat.lt_log2_self n
 have c:2^n.log2<2^(k+1):=by omega
 have d:2^k<2^(n.log2+1):=by omega
 have c':=(Nat.pow_lt_pow_iff_right (by decide:1<2)).1 c
 have d':=(Nat.pow_lt_pow_iff_right (by decide:1<2)).1 d
 omega
theorem cut_zero (neg:Bool) (n d:Nat):Toward.zero.cut neg n d=n/2^d:=by
 unfold Toward.cut
 simp only [Nat.one_shiftLeft,Bool.toNat_false,Nat.add_zero]
 rcases Nat.le_total d (n.log2+2) with h|h
 ·rw [Nat.min_eq_left h]
 ·rw [Nat.min_eq_right h]
  have b:=@Nat.lt_log2_self n
  have h1:n<2^(n.log2+2):=Nat.lt_of_lt_of_le b (Nat.pow_le_pow_right (by decide) (by omega))
  have h2:n<2^d:=Nat.lt_of_lt_of_le h1 (Nat.pow_le_pow_right (by decide) h)
  rw [Nat.div_eq_of_lt h1,Nat.div_eq_of_lt h2]
theorem cut_exact (neg:Bool) (m d:Nat) (hm:0<m):Toward.even.cut neg (m*2^d) d=m:=by
 have hp:=Nat.two_pow_pos d
 have hl:d≤(m*2^d).log2+2:=by
  have h1:2^d≤m*2^d:=Nat.le_mul_of_pos_left _ hm
  have b:=@Nat.lt_log2_self (m*2^d)
  have:=(Nat.pow_lt_pow_iff_right (by decide:1<2)).1 (Nat.lt_of_le_of_lt h1 b)
  omega
 unfold Toward.cut
 simp only [Nat.one_shiftLeft]
 rw [Nat.min_eq_left hl,Nat.mul_div_cancel _ hp,Nat.mul_mod_left]
 simp
theorem mg_bound (r:Nat) (h:r<irg):mg r<9007199254740992∧(ex r=0∨4503599627370496≤mg r)∧ex r*4503599627370496+mg r=r∧ex r≤2045:=by
 unfold irg at h
 unfold mg ex
 by_cases hr:r<4503599627370496
 ·rw [if_pos hr,if_pos hr];omega
 ·rw [if_neg hr,if_neg hr];omega
theorem nearest_exact (neg:Bool) (mag:Nat) (place:Int) (r p q:Nat) (hr0:0<r) (hr:r<irg) (hpq:(p:Int)-q=place+1074) (hv:mag*2^p=vl r*2^q) :
 double.nearest neg mag place=double.word neg r:=by
 obtain ⟨hm1,hm2,hm3,hm4⟩:=mg_bound r hr
 have hv0:=vl_pos hr0
 have hmag:mag≠0:=by
  rintro rfl
  have:0<vl r*2^q:=Nat.mul_pos hv0 (Nat.two_pow_pos q)
  omega
 have hmg:0<mg r:=by
  rcases Nat.eq_zero_or_pos (mg r) with h|h
  ·unfold vl at hv0;rw [h] at hv0;simp at hv0
  ·exact h
 have hv':mag*2^p=mg r*2^(ex r+q):=by rw [hv,vl,Nat.mul_assoc,← Nat.pow_add]
 have hL1:=Nat.log2_self_le hmag
 have hL2:=@Nat.lt_log2_self mag
 have hup:mag.log2+p≤52+ex r+q:=by
  have h1:2^(mag.log2+p)≤mag*2^p:=by rw [Nat.pow_add];exact Nat.mul_le_mul_right _ hL1
  have h2:mg r*2^(ex r+q)<2^53*2^(ex r+q):=Nat.mul_lt_mul_of_pos_right (by simpa using hm1) (Nat.two_pow_pos _)
  rw [← Nat.pow_add] at h2
  have:=(Nat.pow_lt_pow_iff_right (by decide:1<2)).1 (Nat.lt_of_le_of_lt (hv' ▸ h1) h2)
  omega
 have hlo:4503599627370496≤mg r→52+ex r+q≤mag.log2+p:=by
  intro h
  have h1:mag*2^p<2^(mag.log2+1+p):=by rw [Nat.pow_add];exact Nat.mul_lt_mul_of_pos_right hL2 (Nat.two_pow_pos _)
  have h2:2^52*2^(ex r+q)≤mg r*2^(ex r+q):=Nat.mul_le_mul_right _ (by simpa using h)
  rw [← Nat.pow_add] at h2
  have:=(Nat.pow_lt_pow_iff_right (by decide:1<2)).1 (Nat.lt_of_le_of_lt h2 (hv' ▸ h1))
  omega
 unfold Format.nearest
 rw [if_neg hmag]
 simp only [lp_eq,bi_eq,ir_eq]
 have hf:(double.fractionBits:Int)=52:=rfl
 have hlast:max (place+(mag.log2:Int)-(double.fractionBits:Int)) (-1074)=(ex r:Int)-1074:=by
  rw [hf]
  rcases hm2 with h|h
  ·by_cases h2:4503599627370496≤mg r
   ·have:=hlo h2;omega
   ·omega
  ·have:=hlo h;omega
 rw [hlast]
 have hkept:Toward.even.cut neg (mag <<< (place-((ex r:Int)-1074)).toNat) ((ex r:Int)-1074-place).toNat=mg r:=by
  rcases Nat.le_total (ex r+q) p with h|h
  ·have e1:(place-((ex r:Int)-1074)).toNat=p-(ex r+q):=by omega
   have e2:((ex r:Int)-1074-place).toNat=0:=by omega
   rw [e1,e2,Nat.shiftLeft_eq]
   have e3:mag*2^(p-(ex r+q))=mg r:=by
    have:mag*2^(p-(ex r+q))*2^(ex r+q)=mg r*2^(ex r+q):=by
     rw [Nat.mul_assoc,← Nat.pow_add,Nat.sub_add_cancel h,hv']
    exact Nat.eq_of_mul_eq_mul_right (Nat.two_pow_pos _) this
   rw [e3]
   have:=cut_exact neg (mg r) 0 hmg
   simpa using this
  ·have e1:(place-((ex r:Int)-1074)).toNat=0:=by omega
   have e2:((ex r:Int)-1074-place).toNat=ex r+q-p:=by omega
   rw [e1,e2,Nat.shiftLeft_zero]
   have e3:mag=mg r*2^(ex r+q-p):=by
    have:mag*2^p=mg r*2^(ex r+q-p)*2^p:=by
     rw [Nat.mul_assoc,← Nat.pow_add,Nat.sub_add_cancel h,hv']
    exact Nat.eq_of_mul_eq_mul_right (Nat.two_pow_pos _) this
   rw [e3]
   exact cut_exact neg (mg r) _ hmg
 rw [hkept]
 have e4:((ex r:Int)-1074 - -1074).toNat=ex r:=by omega
 rw [e4,hm3]
 congr 1
 unfold irg at hr
 omega
theorem read_pos (r:Nat) (h:r<irg):double.read r=.number false (mg r) (-1074+(ex r:Nat)):=by
 have h1:rg r=r:=by unfold rg irg at *;omega
 have h2:ng r=false:=by unfold ng irg at *;rw [beq_eq_false_iff_ne];omega
 have:=read_num r (by rw [h1];exact h)
 rw [h1,h2] at this
 exact this
theorem read_two:double.read 4611686018427387904=.number false 4503599627370496 (-51):=by decide
theorem log2_52:(4503599627370496:Nat).log2=52:=by decide
theorem quot_two (m:Nat) (i:Int) (hlog:m.log2=52):(Datum.number false m i).quotient 54 (.number false 4503599627370496 (-51))=some (.number false (8*m) (i-4)):=by
 have hne:¬ ((4503599627370496:Nat)=0):=by omega
 simp only [Datum.quotient]
 rw [if_neg hne]
 have e0:54+Nat.log2 4503599627370496-m.log2=54:=by rw [log2_52,hlog]
 have e1:m <<< 54/4503599627370496=m*4:=by rw [Nat.shiftLeft_eq];omega
 have e2:m <<< 54%4503599627370496=0:=by rw [Nat.shiftLeft_eq];omega
 simp only [e0,e1,e2]
 have e3:i - -51-((54:Nat):Int)-1=i-4:=by omega
 have e4:2*(m*4)+((0:Nat) != 0).toNat=8*m:=by simp;omega
 rw [e3,e4]
 rfl
theorem div_two (r:Nat) (h1:9007199254740992≤r) (h:r<irg):∃ s,FloatKind.f64.format.div r 4611686018427387904=some s∧s+4503599627370496=r∧0<s∧2*vl s=vl r:=by
 obtain ⟨hm1,hm2,hm3,hm4⟩:=mg_bound r h
 have hx:1≤ex r:=by omega
 have hm:4503599627370496≤mg r:=by omega
 have hlog:(mg r).log2=52:=log2_eq (by simpa using hm) (by simpa using hm1)
 obtain ⟨s,hs⟩:∃ s,s+4503599627370496=r:=⟨r-4503599627370496,by omega⟩
 have hmg:mg s=mg r∧ex s+1=ex r:=by
  unfold mg ex at *
  rw [if_neg (by omega),if_neg (by omega),if_neg (by omega),if_neg (by omega)]
  omega
 have hsl:s<irg:=by omega
 have hv:2*vl s=vl r:=by
  rw [vl,vl,hmg.1,← hmg.2,Nat.pow_succ]
  generalize 2^ex s=t
  generalize mg r=u
  ac_rfl
 refine ⟨s,?_,hs,by omega,hv⟩
 have e:FloatKind.f64.format.div r 4611686018427387904=some (double.nearest false (8*mg r) (-1074+(ex r:Nat)-4)):=by
  show ((double.read r).quotient 54 (double.read 4611686018427387904)).map double.write=_
  rw [read_pos r h,read_two,quot_two _ _ hlog]
  rfl
 rw [e]
 refine congrArg some ?_
 rw [nearest_exact false (8*mg r) (-1074+(ex r:Nat)-4) s (ex r) 4 (by omega) hsl (by omega) ?_]
 ·rfl
 ·rw [vl,hmg.1,← hmg.2,Nat.pow_succ]
  generalize 2^ex s=t
  generalize mg r=u
  rw [show (2:Nat)^4=16 from rfl,Nat.mul_comm t 2,← Nat.mul_assoc,Nat.mul_assoc u t 16,Nat.mul_comm t 16,← Nat.mul_assoc,Nat.mul_comm 8 u,Nat.mul_assoc u 8 2]
theorem mul_two (r:Nat) (h0:0<r) (h:r<irg-4503599627370496):∃ s,FloatKind.f64.format.mul r 4611686018427387904=some s∧r<s∧s<irg∧vl s=2*vl r:=by
 have h':r<irg:=by omega
 obtain ⟨hm1,hm2,hm3,hm4⟩:=mg_bound r h'
 have hx:∃ s,r<s∧s<irg∧vl s=2*vl r:=by
  by_cases hr:r<4503599627370496
  ·refine ⟨2*r,by omega,by unfold irg;omega,?_⟩
   unfold vl mg ex
   rw [if_pos hr,if_pos hr]
   split
   ·simp
   ·have:2*r/4503599627370496=1:=by omega
    rw [this];simp;omega
  ·refine ⟨r+4503599627370496,by omega,by omega,?_⟩
   have hs:mg (r+4503599627370496)=mg r∧ex (r+4503599627370496)=ex r+1:=by
    unfold mg ex
    rw [if_neg (by omega),if_neg (by omega),if_neg (by omega),if_neg (by omega)]
    omega
   rw [vl,vl,hs.1,hs.2,Nat.pow_succ]
   generalize 2^ex r=t
   rw [← Nat.mul_assoc,Nat.mul_comm]
 obtain ⟨s,hs1,hs2,hs3⟩:=hx
 refine ⟨s,?_,hs1,hs2,hs3⟩
 show double.mul r 4611686018427387904=_
 unfold Format.mul
 rw [read_pos r h',read_two]
 simp only [Datum.product,Option.map_some,Format.write]
 refine congrArg some ?_
 have key:mg r*4503599627370496*2^ex r=vl s*2^51:=by
  rw [hs3,vl]
  have e51:(2:Nat)^51=2251799813685248:=by decide
  rw [e51]
  generalize 2^ex r=t
  have e:(4503599627370496:Nat)=2*2251799813685248:=by decide
  rw [e]
  generalize (2251799813685248:Nat)=c
  generalize mg r=u
  ac_rfl
 exact nearest_exact false (mg r*4503599627370496) (-1074+(ex r:Int) + -51) s (ex r) 51 (by omega) hs2 (by omega) key
def EE:Nat:=1074
theorem EE_eq:EE=1074:=rfl
def FF:Nat:=2098
theorem FF_eq:FF=2098:=rfl
def UU:Nat:=2^EE
theorem UU_pos:0<UU:=Nat.two_pow_pos _
theorem UU_eq:UU=2^EE:=rfl
theorem irg_pos:0<irg:=by unfold irg;omega
def ir:Nat→Nat
 | 0=>0
 | n+1=>(1022+(n+1).log2)*4503599627370496+(n+1)*2^(52-(n+1).log2)
theorem ir_zero:ir 0=0:=rfl
theorem ir_pos (n:Nat) (h:n≠0):ir n=(1022+n.log2)*4503599627370496+n*2^(52-n.log2):=by
 cases n with
 | zero=>exact absurd rfl h
 | succ n=>rfl
theorem ir_vl0:ir 0<irg∧vl (ir 0)=0*UU:=by
 rw [ir_zero,Nat.zero_mul,vl_zero]
 exact ⟨irg_pos,rfl⟩
theorem ir_vl (n':Nat) (h:n'<9007199254740992):ir n'<irg∧vl (ir n')=n'*UU:=by
 rcases Nat.eq_zero_or_pos n' with h0|h0
 ·rw [h0];exact ir_vl0
 ·have h0:n'≠0:=by omega
  rw [ir_pos n' h0]
  have a:=Nat.log2_self_le h0
  have b:=@Nat.lt_log2_self n'
  have hl:n'.log2≤52:=by
   have c:2^n'.log2<2^53:=by
    have:(2:Nat)^53=9007199254740992:=by decide
    omega
   have:=(Nat.pow_lt_pow_iff_right (by decide:1<2)).1 c
   omega
  obtain ⟨j,hj⟩:∃ j,52=n'.log2+j:=⟨52-n'.log2,by omega⟩
  have ej:52-n'.log2=j:=by omega
  rw [ej]
  have m1:4503599627370496≤n'*2^j:=by
   have:2^n'.log2*2^j=4503599627370496:=by rw [← Nat.pow_add,← hj]
   rw [← this];exact Nat.mul_le_mul_right _ a
  have m2:n'*2^j<9007199254740992:=by
   have:2^(n'.log2+1)*2^j=9007199254740992:=by rw [← Nat.pow_add,show n'.log2+1+j=53 by omega]
   rw [← this];exact Nat.mul_lt_mul_of_pos_right b (Nat.two_pow_pos _)
  generalize hM:n'*2^j=M at *
  generalize hk:n'.log2=k at *
  refine ⟨by unfold irg;omega,?_⟩
  have e1:mg ((1022+k)*4503599627370496+M)=M:=by unfold mg;rw [if_neg (by omega)];omega
  have e2:ex ((1022+k)*4503599627370496+M)=1022+k:=by unfold ex;rw [if_neg (by omega)];omega
  rw [vl,e1,e2,← hM,UU_eq,Nat.mul_assoc,← Nat.pow_add]
  have hE:=EE_eq
  congr 2
  omega
theorem ofInt_exact (n:Nat) (h:n<9007199254740992):floatOfInt .f64 (n:Int)=ir n:=by
 show double.write (.number (decide ((n:Int)<0)) (n:Int).natAbs 0)=_
 have e:decide ((n:Int)<0)=false:=by rw [decide_eq_false_iff_not];omega
 rw [e,Int.natAbs_natCast]
 simp only [Format.write]
 by_cases h0:n=0
 ·subst h0;rfl
 ·obtain ⟨h1,h2⟩:=ir_vl n h
  have hp:0<ir n:=by
   rcases Nat.eq_zero_or_pos (ir n) with h3|h3
   ·rw [h3,vl_zero] at h2
    have:=Nat.mul_pos (show 0<n by omega) UU_pos
    omega
   ·exact h3
  rw [nearest_exact false n 0 (ir n) EE 0 hp h1 (by have:=EE_eq;omega) (by rw [h2];simp [UU_eq])]
  rfl
theorem toInt_exact (r:Nat) (h:r<irg) (hb:vl r/UU<18446744073709551616):floatToIntVal .f64 r .u64=some ((vl r/UU:Nat):Int):=by
 have hd:(FloatKind.f64.decode r).toInt .zero=some ((vl r/UU:Nat):Int):=by
  show (double.read r).toInt .zero=_
  rw [read_pos r h]
  simp only [Datum.toInt,Datum.integral,signed]
  rw [cut_zero]
  simp only [Nat.shiftLeft_zero,Bool.false_eq_true,if_false]
  congr 2
  rw [vl,UU_eq,Nat.shiftLeft_eq]
  have hE:=EE_eq
  rcases Nat.le_total EE (ex r) with hx|hx
  ·have e1:(-1074+(ex r:Int)).toNat=ex r-EE:=by omega
   have e2:(-(-1074+(ex r:Int))).toNat=0:=by omega
   rw [e1,e2]
   have:2^ex r=2^(ex r-EE)*2^EE:=by rw [← Nat.pow_add];congr 1;omega
   rw [this,← Nat.mul_assoc,Nat.mul_div_cancel _ (Nat.two_pow_pos _)]
   simp
  ·have e1:(-1074+(ex r:Int)).toNat=0:=by omega
   have e2:(-(-1074+(ex r:Int))).toNat=EE-ex r:=by omega
   rw [e1,e2]
   have:2^EE=2^(EE-ex r)*2^ex r:=by rw [← Nat.pow_add];congr 1;omega
   rw [this,Nat.mul_div_mul_right _ _ (Nat.two_pow_pos _)]
   simp
 unfold floatToIntVal
 rw [hd]
 simp only
 rw [if_pos]
 have e1:IntKind.u64.min=0:=by decide
 have e2:IntKind.u64.max=18446744073709551615:=by decide
 rw [e1,e2]
 generalize vl r/UU=z at *
 omega
theorem whole_of_ge (r:Nat) (h:r<irg) (hv:4503599627370496*UU≤vl r):vl r%UU=0:=by
 obtain ⟨hm1,hm2,hm3,hm4⟩:=mg_bound r h
 have hE:=EE_eq
 have hx:EE≤ex r:=by
  rcases Nat.lt_or_ge (ex r) EE with h1|h1
  ·exfalso
   have h2:2^ex r*2≤UU:=by rw [← Nat.pow_succ,UU_eq];exact Nat.pow_le_pow_right (by decide) (by omega)
   have h3:vl r<9007199254740992*2^ex r:=Nat.mul_lt_mul_of_pos_right hm1 (Nat.two_pow_pos _)
   generalize 2^ex r=t at *
   omega
  ·exact h1
 rw [vl,UU_eq]
 have:2^ex r=2^(ex r-EE)*2^EE:=by rw [← Nat.pow_add];congr 1;omega
 rw [this,← Nat.mul_assoc,Nat.mul_mod_left]
theorem rank_sub (m r:Nat) (hr:r<irg) (hm:m<4503599627370496) (h:m=vl r):m=r:=by
 apply vl_inj
 rw [← h]
 unfold vl mg ex
 rw [if_pos hm,if_pos hm];simp
theorem rank_norm (m a r:Nat) (h1:4503599627370496≤m) (h2:m<9007199254740992) (h:m*2^a=vl r):a*4503599627370496+m=r:=by
 apply vl_inj
 rw [← h]
 have e1:mg (a*4503599627370496+m)=m:=by unfold mg;rw [if_neg (by omega)];omega
 have e2:ex (a*4503599627370496+m)=a:=by unfold ex;rw [if_neg (by omega)];omega
 rw [vl,e1,e2]
theorem sv_pos (r:Nat) (h:r≤irg):sv r=(vl r:Int)∧nanB r=false∧rg r=r:=by
 have h1:rg r=r:=by unfold rg irg at *;omega
 have h2:ng r=false:=by unfold ng irg at *;rw [beq_eq_false_iff_ne];omega
 refine ⟨by unfold sv;rw [h1,h2];rfl,?_,h1⟩
 unfold nanB
 rw [h1]
 exact decide_eq_false (by omega)
theorem ord_pos (r s:Nat) (hr:r≤irg) (hs:s≤irg):FloatKind.f64.format.order r s=some (compare (r:Int) (s:Int)):=by
 obtain ⟨h1,h2,h3⟩:=sv_pos r hr
 obtain ⟨k1,k2,k3⟩:=sv_pos s hs
 have:FloatKind.f64.format.order r s=some (compare (sv r) (sv s)):=order_any r s (by rw [h3];exact hr) (by rw [k3];exact hs)
 rw [this,h1,k1]
 congr 1
 rcases Nat.lt_trichotomy r s with h|h|h
 ·have:=vl_lt h;rw [icmp_lt (by omega),icmp_lt (by omega)]
 ·subst h;simp
 ·have:=vl_lt h;rw [icmp_gt (by omega),icmp_gt (by omega)]
theorem ord_gt (r s:Nat) (hr:r≤irg) (hs:s≤irg):(FloatKind.f64.format.order r s==some .gt)=decide (s<r):=by
 rw [ord_pos r s hr hs]
 rcases Nat.lt_trichotomy r s with h|h|h
 ·rw [icmp_lt (by omega)];simp;omega
 ·subst h;simp
 ·rw [icmp_gt (by omega)];simp [h]
theorem ord_lt (r s:Nat) (hr:r≤irg) (hs:s≤irg):(FloatKind.f64.format.order r s==some .lt)=decide (r<s):=by
 rw [ord_pos r s hr hs]
 rcases Nat.lt_trichotomy r s with h|h|h
 ·rw [icmp_lt (by omega)];simp [h]
 ·subst h;simp
 ·rw [icmp_gt (by omega)];simp;omega
theorem ord_eq (r s:Nat) (hr:r≤irg) (hs:s≤irg):(FloatKind.f64.format.order r s==some .eq)=decide (r=s):=by
 rw [ord_pos r s hr hs]
 rcases Nat.lt_trichotomy r s with h|h|h
 ·rw [icmp_lt (by omega)];simp;omega
 ·subst h;simp
 ·rw [icmp_gt (by omega)];simp;omega
def c53:Nat:=4845873199050653696
theorem c53_lt:c53<irg:=by unfold c53 irg;omega
theorem c53_vl:vl c53=9007199254740992*UU:=by
 have e1:mg c53=4503599627370496:=by unfold mg c53;rw [if_neg (by omega)]
 have e2:ex c53=EE+1:=by have hE:=EE_eq;unfold ex c53;rw [if_neg (by omega)];omega
 rw [vl,e1,e2,UU_eq,Nat.pow_succ,← Nat.mul_assoc,Nat.mul_right_comm]
theorem vl_le_iff {r s:Nat}:vl r<vl s↔r<s:=by
 constructor
 ·intro h
  rcases Nat.lt_or_ge r s with h1|h1
  ·exact h1
  ·rcases Nat.eq_or_lt_of_le h1 with h2|h2
   ·subst h2;omega
   ·have:=vl_lt h2;omega
 ·exact vl_lt
theorem vl_pow (r:Nat) (h:r<irg):vl r<2^FF:=by
 have hF:=FF_eq
 obtain ⟨h1,_,_,h4⟩:=mg_bound r h
 have h5:vl r<2^53*2^ex r:=Nat.mul_lt_mul_of_pos_right (by simpa using h1) (Nat.two_pow_pos _)
 rw [← Nat.pow_add] at h5
 exact Nat.lt_of_lt_of_le h5 (Nat.pow_le_pow_right (by decide) (by omega))
theorem ir_iff (r:Nat) (h:r<irg) (hb:vl r/UU<9007199254740992):(r=ir (vl r/UU))↔vl r%UU=0:=by
 obtain ⟨h1,h2⟩:=ir_vl (vl r/UU) hb
 have hd:=Nat.div_add_mod (vl r) UU
 have hp:=UU_pos
 constructor
 ·intro e
  rw [← e,Nat.mul_comm] at h2
  omega
 ·intro e
  apply vl_inj
  rw [h2,Nat.mul_comm]
  omega
end Go.Proofs.YtfhmaincnlaapaaGreat
namespace Go.Proofs.YtfhmaincnlaapaaGreat
open Go.ChangeShapes Go.WideShapes Go.ChangeAt Go.RowKit
set_option linter.unusedVariables false
def Splits (r:Nat) (w:World) (e:Ending) (w':World):Prop :=
 ∃ m a:Nat,0<m∧m<9007199254740992∧a<2098∧m*2^a=vl r∧e=.returned (.tuple #[.bool false,.int .u64 (m:Int),.int .i64 ((a:Int)-1074)])∧Drws w w'
theorem kind_one (r:Nat) (h0:0<r) (h:r<irg):kindF r=1:=by
 obtain ⟨_,h2,h3⟩:=sv_pos r (by omega)
 unfold kindF
 rw [h2,h3,if_neg (by simp),if_neg (by omega),if_neg (by omega)]
theorem pow_le_vl (m a r:Nat) (hm:0<m) (h:m*2^a=vl r) (hr:r<irg):a<2098:=by
 have h1:=vl_pow r hr
 have h2:2^a≤m*2^a:=Nat.le_mul_of_pos_left _ hm
 have:=(Nat.pow_lt_pow_iff_right (by decide:1<2)).1 (show 2^a<2^FF by omega)
 have hF:=FF_eq
 omega
theorem whole_lt (r:Nat) (hr:r<c53):vl r/UU<9007199254740992:=by
 rw [Nat.div_lt_iff_lt_mul UU_pos,← c53_vl]
 exact vl_lt hr
theorem double_ok (r:Nat) (hr:r<c53) (hne:vl r%UU≠0):r<irg-4503599627370496∧2*vl r<vl c53:=by
 have h1:vl r<4503599627370496*UU:=by
  rcases Nat.lt_or_ge (vl r) (4503599627370496*UU) with h|h
  ·exact h
  ·exact absurd (whole_of_ge r (by unfold c53 irg at *;omega) h) hne
 refine ⟨by unfold c53 irg at *;omega,?_⟩
 rw [c53_vl]
 generalize UU=u at *
 omega
set_option maxRecDepth 20000 in
set_option maxHeartbeats 4000000 in
theorem split_pos (r:Nat) (w:World) (h0:0<r) (h:r<irg) :
 Calls Tryz.prog 201 #[.float .f64 r] w (Splits r w):=by
 have hr64:r<18446744073709551616:=by unfold irg at h;omega
 have hk:=refKind_any r w hr64
 rw [kind_one r h0 h] at hk
 have hlt0:=ord_lt r 0 (by omega) (by omega)
 rw [decide_eq_false (by omega)] at hlt0
 have HK:=Lib.hid hk;clear hk
 have H:=Lib.hid h;have HR:=Lib.hid hr64;clear h hr64
 go_enter Tryz.func201,Tryz.ntmps201
 go_wp2_with (go_at_call 65;(with_reducible refine HK.out.mono ?_);rintro e w' ⟨rfl,n,rfl⟩)
 go_loop [5,6] (fun y e=>∃ r1 e1:Nat,0<r1∧r1<irg∧y=.float .f64 r1∧e=.int .i64 (e1:Int)∧r1+e1*4503599627370496≤9218868437227405312∧Hid (vl r1*2^e1=vl r)) (fun y _=>bitsOf y)
 case atStart=>exact ⟨r,0,h0,H.out,rfl,rfl,by have:=H.out;unfold irg at this;omega,by show _=_;simp⟩
 case round =>
  obtain ⟨r1,e1,hr0,hr1,rfl,rfl,hbd,E1⟩:=hrel
  have hgt:=ord_gt r1 c53 (by omega) (Nat.le_of_lt c53_lt)
  have heq:=ord_eq r1 c53 (by omega) (Nat.le_of_lt c53_lt)
  have he1:e1≤2047:=by omega
  have C1:=Lib.hid hr1;have BD:=Lib.hid hbd;clear hr1 hbd
  by_cases hc:c53≤r1
  ·obtain ⟨s,hdiv,hs1,hs2,hs3⟩:=div_two r1 (by unfold c53 at hc;omega) C1.out
   have hrun:=run_float_arith (P:=Tryz.prog) (w.drewN n) .quo 57 .f64 r1 4611686018427387904 s hdiv
   have hge:(FloatKind.f64.format.order r1 4845873199050653696==some .gt||FloatKind.f64.format.order r1 4845873199050653696==some .eq)=true:=by
    show (FloatKind.f64.format.order r1 c53==some .gt||FloatKind.f64.format.order r1 c53==some .eq)=true
    rw [hgt,heq];simp;omega
   have D:=Lib.hid hdiv;have S1:=Lib.hid hs1;have S3:=Lib.hid hs3;have G:=Lib.hid hgt;have Q:=Lib.hid heq;clear hdiv hs1 hs3 hgt heq
   go_wp2
   go_round
   case rel=>exact ⟨s,e1+1,hs2,by have:=S1.out;have:=C1.out;omega,rfl,by go_num,by have:=S1.out;have:=BD.out;omega,by show _=_;rw [Nat.pow_succ,Nat.mul_comm _ 2,← Nat.mul_assoc,Nat.mul_comm _ 2,S3.out,E1.out]⟩
   case measure=>have:=S1.out;simp [bitsOf];omega
  ·have hgt':(FloatKind.f64.format.order r1 4845873199050653696==some .gt)=false:=by
    show (FloatKind.f64.format.order r1 c53==some .gt)=false
    rw [hgt];simp;omega
   have heq':(FloatKind.f64.format.order r1 4845873199050653696==some .eq)=false:=by
    show (FloatKind.f64.format.order r1 c53==some .eq)=false
    rw [heq];simp;omega
   have G:=Lib.hid hgt;have Q:=Lib.hid heq;clear hgt heq
   have hc':r1<c53:=by omega
   clear hc
   go_wp2
   go_loop [5,6] (fun y e=>∃ r2 t:Nat,0<r2∧r2<c53∧t≤EE∧y=.float .f64 r2∧e=.int .i64 ((e1:Int)-(t:Int))∧Hid (vl r2=vl r1*2^t)) (fun _ e=>(intOf e+4000).toNat)
   case atStart=>exact ⟨r1,0,hr0,hc',by omega,rfl,by go_num,by show _=_;simp⟩
   case round =>
    obtain ⟨r2,t,hr20,hr2c,htE,rfl,rfl,E2⟩:=hrel
    have hEE:=EE_eq
    have ht:t≤1074:=by omega
    have hr2i:r2<irg:=by have:=c53_lt;omega
    have hwl:=whole_lt r2 hr2c
    have hcv:=run_convert_float_int (P:=Tryz.prog) (w:=w.drewN n) 57 40 .f64 .u64 r2 _ (by kernel_rfl) Tryz.underlying40 (toInt_exact r2 hr2i (by omega))
    have hback:=ofInt_exact (vl r2/UU) hwl
    have hird:=ir_vl (vl r2/UU) hwl
    have hiff:=ir_iff r2 hr2i hwl
    have hoe:=ord_eq r2 (ir (vl r2/UU)) (by omega) (Nat.le_of_lt hird.1)
    have IRD:=Lib.hid hird;have IFF:=Lib.hid hiff;have OE:=Lib.hid hoe;have R2I:=Lib.hid hr2i;have R2C:=Lib.hid hr2c;have HEE:=Lib.hid hEE;have HTE:=Lib.hid htE
    clear hird hiff hoe hr2i hr2c hEE htE
    generalize hz:vl r2/UU=z at *
    have HZ:=Lib.hid hz;clear hz
    by_cases hw:vl r2%UU=0
    ·have hne:(FloatKind.f64.format.order r2 (ir z) != some .eq)=false:=by
      have:=OE.out;rw [← IFF.out.2 hw] at this ⊢;simp only [bne,this];simp
     have HW:=Lib.hid hw;clear hw
     have hzz:z*UU=vl r2:=by
      have:=Nat.div_add_mod (vl r2) UU
      rw [HZ.out,HW.out,Nat.add_zero,Nat.mul_comm] at this
      exact this
     have hz0:0<z:=by
      rcases Nat.eq_zero_or_pos z with h|h
      ·rw [h,Nat.zero_mul] at hzz;have:=vl_pos hr20;omega
      ·exact h
     have hza:z*2^(EE+e1-t)=vl r:=by
      have h1:z*2^EE=vl r1*2^t:=by rw [← UU_eq,hzz,E2.out]
      have h2:z*2^(EE+e1-t)*2^t=vl r*2^t:=by
       have ht':=HTE.out
       rw [Nat.mul_assoc,← Nat.pow_add,Nat.sub_add_cancel (by omega),Nat.pow_add,← Nat.mul_assoc,h1,Nat.mul_right_comm,E1.out]
      exact Nat.eq_of_mul_eq_mul_right (Nat.two_pow_pos t) h2
     have hae:((e1:Int)-(t:Int))=((EE+e1-t:Nat):Int)-1074:=by have:=HTE.out;have:=HEE.out;omega
     have HZZ:=Lib.hid hzz;have HZA:=Lib.hid hza;have HAE:=Lib.hid hae;clear hzz hza hae
     go_wp2
     go_loop [7,6] (fun v e=>∃ m a:Nat,0<m∧m<9007199254740992∧a<2098∧v=.int .u64 (m:Int)∧e=.int .i64 ((a:Int)-1074)∧Hid (m*2^a=vl r)) (fun v _=>(intOf v).toNat)
     case atStart=>exact ⟨z,EE+e1-t,hz0,hwl,pow_le_vl z _ r hz0 HZA.out H.out,rfl,by rw [← HAE.out],HZA.out⟩
     case round =>
      obtain ⟨m,a,hm0,hm1,ha,rfl,rfl,E3⟩:=hrel
      by_cases hm2:m%2=0
      ·have ht1:((m:Int)%2==0)=true:=by rw [beq_iff_eq];omega
       have hnew:m/2*2^(a+1)=vl r:=by rw [← E3.out,Nat.pow_succ,Nat.mul_comm _ 2,← Nat.mul_assoc];congr 1;omega
       have ha2:=pow_le_vl (m/2) (a+1) r (by omega) hnew H.out
       have HN:=Lib.hid hnew;have HM:=Lib.hid hm2;clear hnew hm2
       go_wp2
       go_round
       case rel=>exact ⟨m/2,a+1,by have:=HM.out;omega,by omega,ha2,by go_num,by go_num,HN.out⟩
       case measure=>simp [intOf];omega
      ·have ht1:((m:Int)%2==0)=false:=by rw [beq_eq_false_iff_ne];omega
       have HM:=Lib.hid hm2;clear hm2
       go_wp2
       go_ret3
       exact ⟨m,a,hm0,hm1,ha,E3.out,rfl,drws_step (drws_refl _) _⟩
    ·have hne:(FloatKind.f64.format.order r2 (ir z) != some .eq)=true:=by
      have h1:=OE.out
      rw [decide_eq_false (fun h=>hw (IFF.out.1 h))] at h1
      simp only [bne,h1];rfl
     obtain ⟨hd1,hd2⟩:=double_ok r2 R2C.out hw
     obtain ⟨s,hmul,hs1,hs2,hs3⟩:=mul_two r2 hr20 hd1
     have hrun:=run_float_arith (P:=Tryz.prog) (w.drewN n) .mul 57 .f64 r2 4611686018427387904 s hmul
     have ht2:t+1≤EE:=by
      rcases Nat.lt_or_ge t EE with h|h
      ·omega
      ·exfalso
       have:t=EE:=by have:=HTE.out;omega
       apply hw
       rw [E2.out,this,← UU_eq,Nat.mul_mod_left]
     have hsc:s<c53:=vl_le_iff.1 (by omega)
     have M:=Lib.hid hmul;have S1:=Lib.hid hs1;have S2:=Lib.hid hs2;have S3:=Lib.hid hs3;have D1:=Lib.hid hd1;have D2:=Lib.hid hd2;have HW:=Lib.hid hw;have SC:=Lib.hid hsc;have T2:=Lib.hid ht2
     clear hmul hs1 hs2 hs3 hd1 hd2 hw hsc ht2
     go_wp2
     go_round
     case rel=>exact ⟨s,t+1,by have:=S1.out;omega,SC.out,T2.out,rfl,by go_num,by show _=_;rw [S3.out,E2.out,Nat.pow_succ,Nat.mul_comm 2,Nat.mul_assoc]⟩
     case measure=>simp [intOf];omega
set_option maxRecDepth 20000 in
set_option maxHeartbeats 1000000 in
theorem rank_pos (r:Nat) (w:World) (h0:0<r) (h:r<irg) :
 Calls Tryz.prog 167 #[.float .f64 r] w fun e w'=>e=.returned (.int .u64 (r:Int))∧Drws w w':=by
 have hr64:r<18446744073709551616:=by unfold irg at h;omega
 have hk:=refKind_any r w hr64
 rw [kind_one r h0 h] at hk
 have heq0:=ord_eq r 0 (by omega) (by omega)
 rw [decide_eq_false (by omega)] at heq0
 have HK:=Lib.hid hk;clear hk
 have hsp:=fun W=>split_pos r W h0 h
 have H:=Lib.hid h;have HR:=Lib.hid hr64;have HS:=Lib.hid hsp;clear h hr64 hsp
 go_enter Tryz.func167,Tryz.ntmps167
 go_wp2_with (first|(go_at_call 65;(with_reducible refine HK.out.mono ?_);rintro e w' ⟨rfl,n,rfl⟩)|(go_at_call 201;(with_reducible refine (HS.out _).mono ?_);rintro e w1 ⟨m1,a1,hm0,hm1,ha,e3,rfl,hdr⟩;have E3:=Lib.hid e3;have HDR:=Lib.hid hdr;clear e3 hdr))
 go_loop [4,5] (fun v e=>∃ (m a:Nat) (z:Int),0<m∧m<9007199254740992∧v=.int .u64 (m:Int)∧e=.int .i64 z∧-1074≤z∧z<1024∧Hid (z=(a:Int)-1074∧m*2^a=vl r)) (fun _ e=>(intOf e+1074).toNat)
 case atStart=>exact ⟨m1,a1,_,hm0,hm1,rfl,rfl,by omega,by omega,⟨rfl,E3.out⟩⟩
 case round =>
  obtain ⟨m,a,z,hm0',hm1',rfl,rfl,hz1,hz2,E⟩:=hrel
  have hD:Drws w w1:=by
   obtain ⟨k,hk⟩:=HDR.out
   exact ⟨_,by rw [hk,World.drewN_drewN]⟩
  have HD:=Lib.hid hD;clear hD ha
  by_cases h1:m<4503599627370496
  ·have t4:decide ((m:Int)<4503599627370496)=true:=decide_eq_true (by omega)
   by_cases h2:-1074<z
   ·have hnew:z-1=((a-1:Nat):Int)-1074∧m*2*2^(a-1)=vl r:=by
     obtain ⟨e1,e2⟩:=E.out
     obtain ⟨b,rfl⟩:∃ b,a=b+1:=⟨a-1,by omega⟩
     refine ⟨by omega,?_⟩
     rw [← e2,Nat.add_sub_cancel,Nat.pow_succ,Nat.mul_assoc,Nat.mul_comm 2]
    have HN:=Lib.hid hnew;have H1:=Lib.hid h1;have HM1:=Lib.hid hm1';clear hnew h1 hm1'
    have hm2:(m:Int)*2≤18014398509481984:=by have:=HM1.out;omega
    go_wp2
    go_round
    case rel=>exact ⟨m*2,a-1,z-1,by omega,by have:=H1.out;omega,by go_num,by go_num,by omega,by omega,HN.out⟩
    case measure=>simp [intOf];omega
   ·have hmr:m=r:=by
     obtain ⟨e1,e2⟩:=E.out
     have ha0:a=0:=by omega
     rw [ha0,Nat.pow_zero,Nat.mul_one] at e2
     exact rank_sub m r H.out h1 e2
    have HMR:=Lib.hid hmr;have H1:=Lib.hid h1;have HM1:=Lib.hid hm1';clear hmr h1 hm1'
    go_wp2
    go_ret
    exact ⟨by rw [← HMR.out];rfl,HD.out⟩
  ·have t4:decide ((m:Int)<4503599627370496)=false:=decide_eq_false (by omega)
   have hmr:=rank_norm m a r (by omega) hm1' E.out.2
   have hbig:(z+1074)*4503599627370496+(m:Int)<9218868437227405312:=by
    obtain ⟨e1,_⟩:=E.out
    have h3:=H.out
    unfold irg at h3
    have e4:(z+1074)=(a:Int):=by omega
    rw [e4]
    omega
   have hfin:(z+1074)*4503599627370496+(m:Int)=(r:Int):=by
    obtain ⟨e1,_⟩:=E.out
    have e4:(z+1074)=(a:Int):=by omega
    rw [e4]
    omega
   have HMR:=Lib.hid hmr;have HF:=Lib.hid hfin;have H1:=Lib.hid h1;have HM1:=Lib.hid hm1';clear hmr hfin h1 hm1'
   go_wp2
   go_ret
   exact ⟨by rw [← HF.out];rfl,HD.out⟩
set_option maxRecDepth 20000 in
theorem rank_any (r:Nat) (w:World) (h:r≤irg) :
 Calls Tryz.prog 167 #[.float .f64 r] w fun e w'=>e=.returned (.int .u64 (r:Int))∧Drws w w':=by
 by_cases h1:r=irg
 ·subst h1
  have hk:=refKind_any irg w (by unfold irg;omega)
  have hki:kindF irg=2:=by decide
  rw [hki] at hk
  have HK:=Lib.hid hk;clear hk hki
  generalize hi:(irg:Nat)=i at *
  have HI:=Lib.hid hi;clear hi
  go_enter Tryz.func167,Tryz.ntmps167
  go_wp2_with (go_at_call 65;(with_reducible refine HK.out.mono ?_);rintro e w' ⟨rfl,n,rfl⟩)
  go_ret
  exact ⟨by rw [← HI.out];rfl,drws_step (drws_refl _) _⟩
 ·by_cases h0:r=0
  ·subst h0
   have hk:=refKind_any 0 w (by omega)
   have hki:kindF 0=0:=by decide
   rw [hki] at hk
   have heq0:(FloatKind.f64.format.order 0 0==some .eq)=true:=by decide
   have HK:=Lib.hid hk;clear hk hki
   go_enter Tryz.func167,Tryz.ntmps167
   go_wp2_with (go_at_call 65;(with_reducible refine HK.out.mono ?_);rintro e w' ⟨rfl,n,rfl⟩)
   go_ret
   exact ⟨rfl,drws_step (drws_refl _) _⟩
  ·exact rank_pos r w (by omega) (by omega)
theorem xor_top (b:Nat) (h1:9223372036854775808≤b) (h2:b<18446744073709551616):b ^^^ 2^63=b%2^63:=by
 apply Nat.eq_of_testBit_eq
 intro i
 rw [Nat.testBit_xor,Nat.testBit_two_pow,Nat.testBit_mod_two_pow]
 rcases Nat.lt_trichotomy i 63 with h|h|h
 ·have e:¬ 63=i:=by omega
  simp [h,e]
 ·subst h
  rw [Nat.testBit_eq_decide_div_mod_eq]
  have:b/2^63%2=1:=by omega
  simp [this]
 ·have e:¬ 63=i:=by omega
  have e2:b.testBit i=false:=by
   apply Nat.testBit_lt_two_pow
   exact Nat.lt_of_lt_of_le h2 (show 2^64≤2^i from Nat.pow_le_pow_right (by decide) (by omega))
  have e3:¬ i<63:=by omega
  simp [e,e2,e3]
theorem neg_float {P:Program} (b:Nat) (hb:b<18446744073709551616) (hg:ng b=true):∀ W:World,(Op.unary .neg (.float .f64 b)).run P W=.ok (.float .f64 (rg b)) W:=by
 intro W
 have h1:=ng_iff b hb
 rw [hg] at h1
 have h2:9223372036854775808≤b:=of_decide_eq_true h1.symm
 have e:Op.negFloat .f64 b=rg b:=xor_top b h2 hb
 show Result.ok (Value.float .f64 (Op.negFloat .f64 b)) W=_
 rw [e]
set_option maxRecDepth 20000 in
theorem refKey_any (b:Nat) (w:World) (hb:b<18446744073709551616) :
 Calls Tryz.prog 116 #[.float .f64 b] w fun e w'=>e=.returned (.int .u64 (keyB b:Nat))∧Drws w w':=by
 have hk:=refKind_any b w hb
 cases hn:nanB b
 ·have t1:((kindF b:Int)==3)=false:=by rw [beq_eq_false_iff_ne];have:=kindF_num b hn;omega
  have hri:rg b≤irg:=by unfold nanB at hn;simpa using hn
  have hrl:(rg b:Int)≤9218868437227405312:=by unfold irg at hri;omega
  have hbel:=fun W=>below_any b W hb hn
  have hrank:=fun W=>rank_any (rg b) W hri
  cases hg:ng b
  ·have hkey:keyB b=9223372036854775808+rg b:=by unfold keyB;rw [hn,hg];rfl
   have hbr:b=rg b:=by have:=ng_iff b hb;rw [hg] at this;have:=of_decide_eq_false this.symm;unfold rg;omega
   rw [hg] at hbel
   rw [← hbr] at hrank hrl
   have HK:=Lib.hid hk;have HB:=Lib.hid hbel;have HR:=Lib.hid hrank;have HKEY:=Lib.hid hkey;have HBR:=Lib.hid hbr;have HN:=Lib.hid hn;have HG:=Lib.hid hg;have HRI:=Lib.hid hri;clear hk hbel hrank hkey hbr hn hg hri
   go_enter Tryz.func116,Tryz.ntmps116
   go_wp2_with (first|(go_at_call 65;(with_reducible refine HK.out.mono ?_);rintro e w' ⟨rfl,n,rfl⟩)|(go_at_call 66;(with_reducible refine (HB.out _).mono ?_);rintro e w' ⟨rfl,rfl⟩)|(go_at_call 167;(with_reducible refine (HR.out _).mono ?_);rintro e w1 ⟨rfl,k1,rfl⟩))
   go_ret
   exact ⟨by rw [HKEY.out,← HBR.out];go_num,by first|exact drws_step (drws_refl _) _|exact drws_step (drws_step (drws_refl _) _) _⟩
  ·have hkey:keyB b=9223372036854775807-rg b:=by unfold keyB;rw [hn,hg];rfl
   have hneg:=neg_float (P:=Tryz.prog) b hb hg
   rw [hg] at hbel
   have HK:=Lib.hid hk;have HB:=Lib.hid hbel;have HR:=Lib.hid hrank;have HKEY:=Lib.hid hkey;have HN:=Lib.hid hn;have HG:=Lib.hid hg;have HRI:=Lib.hid hri;clear hk hbel hrank hkey hn hg hri
   go_enter Tryz.func116,Tryz.ntmps116
   go_wp2_with (first|(go_at_call 65;(with_reducible refine HK.out.mono ?_);rintro e w' ⟨rfl,n,rfl⟩)|(go_at_call 66;(with_reducible refine (HB.out _).mono ?_);rintro e w' ⟨rfl,rfl⟩)|(go_at_call 167;(with_reducible refine (HR.out _).mono ?_);rintro e w1 ⟨rfl,k1,rfl⟩))
   go_ret
   exact ⟨by rw [HKEY.out];go_num,by first|exact drws_step (drws_refl _) _|exact drws_step (drws_step (drws_refl _) _) _⟩
 ·have t1:((kindF b:Int)==3)=true:=by rw [kindF_nan b hn];rfl
  rw [keyB_nan b hn]
  have HK:=Lib.hid hk;have HN:=Lib.hid hn;clear hk hn
  go_enter Tryz.func116,Tryz.ntmps116
  go_wp2_with (go_at_call 65;(with_reducible refine HK.out.mono ?_);rintro e w' ⟨rfl,n,rfl⟩)
  go_ret
  exact ⟨rfl,drws_step (drws_refl _) _⟩
theorem refF_any (b:Nat) (w:World) (hb:b<18446744073709551616) :
 Calls Tryz.prog 53 #[.float .f64 b] w fun e w'=>∃ v',e=.returned v'∧w'.ownsRow w.heap.size 5 1 v' 8 (u8s (be 8 (keyB b)))∧Below w.heap.size w w':=by
 have hk:=refKey_any b w hb
 have hh:=fun W:World=>high_any (keyB b) 8 W (keyB_lt b) (by omega)
 have hm:max (wd (keyB b)) 8=8:=by have:=wd_le (keyB b);omega
 rw [hm] at hh
 have hh':∀ W:World,Calls Tryz.prog 115 #[.int .u64 (keyB b:Int),.int .i64 8] W fun e w'=>∃ v,e=.returned v∧w'.ownsRow W.heap.size 5 1 v 8 (u8s (be 8 (keyB b)))∧Below W.heap.size W w':=hh
 have HK:=Lib.hid hk;have HH:=Lib.hid hh';clear hk hh hh' hm
 go_enter Tryz.func53,Tryz.ntmps53
 go_wp2_with (first|(go_at_call 116;(with_reducible refine HK.out.mono ?_);rintro e w1 ⟨rfl,k1,rfl⟩)|(go_at_call 115;(with_reducible refine (HH.out _).mono ?_);rintro e w2 ⟨v2,rfl,ho2,hb2⟩))
 go_ret
 exact ⟨_,rfl,ho2,belT (belD (belR w) _) hb2⟩
def fromB (k:Nat):Option Nat :=
 if k=18446744073709551615 then some 9221120237041090561
 else if 9223372036854775808≤k∧k-9223372036854775808≤9218868437227405312 then some (k-9223372036854775808)
 else if k<9223372036854775808∧9223372036854775807-k≤9218868437227405312 then some (9223372036854775808+(9223372036854775807-k))
 else none
theorem fromB_lt (k b:Nat) (hk:k<18446744073709551616) (h:fromB k=some b):b<18446744073709551616:=by
 unfold fromB at h
 split at h
 ·injection h with h;omega
 ·split at h
  ·injection h with h;omega
  ·split at h
   ·injection h with h;omega
   ·cases h
theorem keyB_nanlit:keyB 9221120237041090561=18446744073709551615:=keyB_nan _ (decide_eq_true (by unfold rg irg;omega))
theorem fromB_cases (k b:Nat) (h:fromB k=some b):(k=18446744073709551615∧b=9221120237041090561)∨(9223372036854775808≤k∧k-9223372036854775808≤9218868437227405312∧b=k-9223372036854775808) ∨
 (k<9223372036854775808∧9223372036854775807-k≤9218868437227405312∧b=9223372036854775808+(9223372036854775807-k)):=by
 unfold fromB at h
 split at h
 ·rename_i e;exact .inl ⟨e,(Option.some.inj h).symm⟩
 ·split at h
  ·rename_i e;exact .inr (.inl ⟨e.1,e.2,(Option.some.inj h).symm⟩)
  ·split at h
   ·rename_i e;exact .inr (.inr ⟨e.1,e.2,(Option.some.inj h).symm⟩)
   ·cases h
theorem fromB_key (k b:Nat) (hk:k<18446744073709551616) (h:fromB k=some b):keyB b=k:=by
 rcases fromB_cases k b h with ⟨h1,h2⟩|⟨h1,h2,h3⟩|⟨h1,h2,h3⟩
 ·have e1:keyB b=keyB 9221120237041090561:=congrArg keyB h2
  exact e1.trans (keyB_nanlit.trans h1.symm)
 ·have e1:rg b=b:=by unfold rg;omega
  have e2:ng b=false:=by unfold ng;rw [beq_eq_false_iff_ne];omega
  have e3:nanB b=false:=by unfold nanB;rw [e1];exact decide_eq_false (by unfold irg;omega)
  unfold keyB;rw [e3,e2,e1];simp only [Bool.false_eq_true,if_false];omega
 ·have e1:rg b=9223372036854775807-k:=by unfold rg;omega
  have e2:ng b=true:=by unfold ng;rw [beq_iff_eq];omega
  have e3:nanB b=false:=by unfold nanB;rw [e1];exact decide_eq_false (by unfold irg;omega)
  unfold keyB;rw [e3,e2,e1];simp only [Bool.false_eq_true,if_false,if_true];omega
theorem fromB_of_key (b:Nat):∃ c,fromB (keyB b)=some c∧c<18446744073709551616∧keyB c=keyB b:=by
 have hl:=keyB_lt b
 have h:∃ c,fromB (keyB b)=some c:=by
  cases hn:nanB b
  ·have h1:=keyB_num b hn
   have hr:rg b≤irg:=by unfold nanB at hn;simpa using hn
   unfold irg at hr
   unfold fromB
   rw [if_neg (by omega)]
   cases hg:ng b
   ·have hk:keyB b=9223372036854775808+rg b:=by unfold keyB;rw [hn,hg];rfl
    rw [if_pos (by omega)];exact ⟨_,rfl⟩
   ·have hk:keyB b=9223372036854775807-rg b:=by unfold keyB;rw [hn,hg];rfl
    rw [if_neg (by omega),if_pos (by omega)];exact ⟨_,rfl⟩
  ·rw [keyB_nan b hn];exact ⟨_,rfl⟩
 obtain ⟨c,hc⟩:=h
 exact ⟨c,hc,fromB_lt _ _ hl hc,fromB_key _ _ hl hc⟩
theorem f64from (n:Nat) (w:World):(callFunc 178 #[.int .u64 (n:Int)]).run Tryz.prog w=.ok (.value (.float .f64 n)) w:=by kernel_rfl
theorem f64from_nan (w:World):(callFunc 178 #[.int .u64 9221120237041090561]).run Tryz.prog w=.ok (.value (.float .f64 9221120237041090561)) w:=f64from 9221120237041090561 w
theorem nan_any (w:World):Calls Tryz.prog 134 #[] w fun e w'=>e=.returned (.float .f64 9221120237041090561)∧w=w':=by
 have hf:=f64from_nan
 go_enter Tryz.func134,Tryz.ntmps134
 go_wp2
 go_ret
 exact ⟨rfl,rfl⟩
theorem or_top (x:Nat) (h:x<9223372036854775808):bits .or .u64 9223372036854775808 (x:Int)=((9223372036854775808+x:Nat):Int):=by
 have e:(9223372036854775808:Int)=((9223372036854775808:Nat):Int):=rfl
 rw [e,u64_or_nat _ _ (by omega) (by omega)]
 congr 1
 have:=Nat.two_pow_add_eq_or_of_lt (show x<2^63 from h) 1
 simpa using this.symm
def fromV (k:Nat):Value:=match fromB k with|some b=>.tuple #[.float .f64 b,.bool true]|none=>.tuple #[.float .f64 0,.bool false]
set_option maxRecDepth 20000 in
theorem from_any (k:Nat) (w:World) (hk:k<18446744073709551616) :
 Calls Tryz.prog 190 #[.int .u64 (k:Int)] w fun e w'=>e=.returned (fromV k)∧w=w':=by
 by_cases h1:k=18446744073709551615
 ·subst h1
  have hv:fromV 18446744073709551615=.tuple #[.float .f64 9221120237041090561,.bool true]:=rfl
  rw [hv]
  have e:((18446744073709551615:Nat):Int)=18446744073709551615:=rfl
  rw [e]
  have E:=Lib.hid e;have HV:=Lib.hid hv;clear e hv hk
  go_enter Tryz.func190,Tryz.ntmps190
  go_wp2_with (go_at_call 134;(with_reducible refine (nan_any _).mono ?_);rintro e w' ⟨rfl,rfl⟩)
  go_ret2
  exact ⟨rfl,rfl⟩
 ·have t1:((k:Int)==18446744073709551615)=false:=by rw [beq_eq_false_iff_ne];omega
  by_cases h2:9223372036854775808≤k
  ·have t2:decide ((9223372036854775808:Int)≤(k:Int))=true:=decide_eq_true (by omega)
   have t2':decide ((k:Int)<9223372036854775808)=false:=decide_eq_false (by omega)
   obtain ⟨j,hj⟩:∃ j:Nat,(k:Int)-9223372036854775808=(j:Int):=⟨k-9223372036854775808,by omega⟩
   have hf:=f64from j
   by_cases h3:j≤9218868437227405312
   ·have t3:decide ((j:Int)≤9218868437227405312)=true:=decide_eq_true (by omega)
    have hv:fromV k=.tuple #[.float .f64 j,.bool true]:=by
     have:k-9223372036854775808=j:=by omega
     unfold fromV fromB;rw [if_neg h1,if_pos ⟨h2,by omega⟩,this]
    have HV:=Lib.hid hv;have H1:=Lib.hid h1;have H2:=Lib.hid h2;have H3:=Lib.hid h3;clear hv h1 h2 h3
    go_enter Tryz.func190,Tryz.ntmps190
    go_wp2
    go_ret2
    exact ⟨by rw [HV.out];rfl,rfl⟩
   ·have t3:decide ((j:Int)≤9218868437227405312)=false:=decide_eq_false (by omega)
    have hv:fromV k=.tuple #[.float .f64 0,.bool false]:=by
     unfold fromV fromB;rw [if_neg h1,if_neg (by omega),if_neg (by omega)]
    have HV:=Lib.hid hv;have H1:=Lib.hid h1;have H2:=Lib.hid h2;have H3:=Lib.hid h3;clear hv h1 h2 h3 hf
    go_enter Tryz.func190,Tryz.ntmps190
    go_wp2
    go_ret2
    exact ⟨by rw [HV.out];rfl,rfl⟩
  ·have t2:decide ((9223372036854775808:Int)≤(k:Int))=false:=decide_eq_false (by omega)
   have t2':decide ((k:Int)<9223372036854775808)=true:=decide_eq_true (by omega)
   obtain ⟨j,hj⟩:∃ j:Nat,(9223372036854775807:Int)-(k:Int)=(j:Int):=⟨9223372036854775807-k,by omega⟩
   have hor:=or_top j (by omega)
   have hf:=f64from (9223372036854775808+j)
   by_cases h3:j≤9218868437227405312
   ·have t3:decide ((j:Int)≤9218868437227405312)=true:=decide_eq_true (by omega)
    have hv:fromV k=.tuple #[.float .f64 (9223372036854775808+j),.bool true]:=by
     have:9223372036854775807-k=j:=by omega
     unfold fromV fromB;rw [if_neg h1,if_neg (by omega),if_pos ⟨by omega,by omega⟩,this]
    generalize 9223372036854775808+j=q at *
    have HV:=Lib.hid hv;have H1:=Lib.hid h1;have H2:=Lib.hid h2;have H3:=Lib.hid h3;clear hv h1 h2 h3
    go_enter Tryz.func190,Tryz.ntmps190
    go_wp2
    go_ret2
    exact ⟨by rw [HV.out];rfl,rfl⟩
   ·have t3:decide ((j:Int)≤9218868437227405312)=false:=decide_eq_false (by omega)
    have hv:fromV k=.tuple #[.float .f64 0,.bool false]:=by
     unfold fromV fromB;rw [if_neg h1,if_neg (by omega),if_neg (by omega)]
    have HV:=Lib.hid hv;have H1:=Lib.hid h1;have H2:=Lib.hid h2;have H3:=Lib.hid h3;clear hv h1 h2 h3 hf hor
    go_enter Tryz.func190,Tryz.ntmps190
    go_wp2
    go_ret2
    exact ⟨by rw [HV.out];rfl,rfl⟩
def getF8 (t:List UInt8):Value:=match fromB (bv (t.take 8)) with|some b=>.tuple #[.float .f64 b,.int .i64 8,.int .i64 0]|none=>.tuple #[.float .f64 0,.int .i64 0,.int .i64 6]
set_option maxRecDepth 20000 in
set_option maxHeartbeats 1000000 in
theorem getF8_any (A:Option Addr) (m c B:Nat) (t:List UInt8) (w:World) (h:Rd w B 1 A m (u8s t)) (h8:8≤m) (hmc:m≤c) (hc:c≤maxLen) :
 Calls Tryz.prog 149 #[.slice A m c] w fun e w'=>e=.returned (getF8 t)∧Drws w w':=by
 obtain rfl:m=t.length:=h.u8.symm
 have hcc:=hc
 unfold maxLen at hcc
 have hR:=h.take (k:=8) h8
 have hl8:=hR.u8
 have H:=Lib.hid h;have HR:=Lib.hid hR;have HL8:=Lib.hid hl8;clear h hR hl8
 generalize hp:t.take 8=p at *
 have HP:=Lib.hid hp;clear hp
 go_enter Tryz.func149,Tryz.ntmps149
 go_wp2
 go_loop [5,18] (fun x i=>∃ k:Nat,k≤8∧i=.int .i64 (k:Int)∧x=.int .u64 (bv (p.take k):Nat)) (fun _ i=>8-(intOf i).toNat)
 case atStart=>exact ⟨0,by omega,rfl,rfl⟩
 case round =>
  obtain ⟨k,hk,rfl,rfl⟩:=hrel
  by_cases h1:k<8
  ·have h2:k<p.length:=by rw [HL8.out];exact h1
   obtain ⟨a,rfl,hb,hcell⟩:=HR.out.byte h2
   have hbt:=bv_take p k h2
   have hlt:=bv_lt (p.take k)
   have hlt2:256^(p.take k).length≤256^7:=Nat.pow_le_pow_right (by decide) (by rw [List.length_take];omega)
   have hbb:bv (p.take k)<72057594037927936:=by simpa using Nat.lt_of_lt_of_le hlt hlt2
   have hc8:=p[k].toNat_lt
   have hor:=or_byte (bv (p.take k)) p[k].toNat hbb hc8
   have HT:=Lib.hid hbt;clear hbt hlt hlt2
   go_wp2
   go_round
   case rel=>exact ⟨k+1,by omega,by go_num,by rw [HT.out];go_num⟩
   case measure=>simp [intOf];omega
  ·obtain rfl:k=8:=by omega
   have hpt:p.take 8=p:=List.take_of_length_le (by rw [HL8.out];exact Nat.le_refl _)
   rw [hpt]
   have hlt:=bv_lt p
   rw [HL8.out] at hlt
   have hbl:bv p<18446744073709551616:=by simpa using hlt
   have hfr:=fun W=>from_any (bv p) W hbl
   have hg8:getF8 t=match fromB (bv p) with|some b=>.tuple #[.float .f64 b,.int .i64 8,.int .i64 0]|none=>.tuple #[.float .f64 0,.int .i64 0,.int .i64 6]:=by unfold getF8;rw [HP.out]
   generalize bv p=q at *
   unfold fromV at hfr
   have HPT:=Lib.hid hpt;have HBL:=Lib.hid hbl;have HLT:=Lib.hid hlt;clear hpt hbl hlt
   rw [show ((8:Nat):Int)=8 from rfl]
   cases hfb:fromB q with
   | none =>
     rw [hfb] at hfr hg8
     have HF:=Lib.hid hfr;have HFB:=Lib.hid hfb;have HG:=Lib.hid hg8;clear hfr hfb hg8
     go_wp2_with (go_at_call 190;(with_reducible refine (HF.out _).mono ?_);rintro e w' ⟨rfl,rfl⟩)
     go_ret3
     exact ⟨by rw [HG.out];rfl,drws_refl _⟩
   | some b =>
     rw [hfb] at hfr hg8
     have HF:=Lib.hid hfr;have HFB:=Lib.hid hfb;have HG:=Lib.hid hg8;clear hfr hfb hg8
     go_wp2_with (go_at_call 190;(with_reducible refine (HF.out _).mono ?_);rintro e w' ⟨rfl,rfl⟩)
     go_ret3
     exact ⟨by rw [HG.out];rfl,drws_refl _⟩
end Go.Proofs.YtfhmaincnlaapaaGreat
