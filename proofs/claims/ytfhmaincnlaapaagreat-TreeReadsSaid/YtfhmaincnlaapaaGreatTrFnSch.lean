/- What is known of schemas, as contracts on trees: Check, Full, Sub. -/
import Derived.Test.YtfhmaincnlaapaaGreatTrVcs
import Derived.Test.YtfhmaincnlaapaaGreatTrRefCheck
import Derived.Test.YtfhmaincnlaapaaGreatTrFactGet
import Derived.Test.YtfhmaincnlaapaaGreatTrSpaceViews
import Derived.Test.YtfhmaincnlaapaaGreatTrNumSums
import Derived.Test.YtfhmaincnlaapaaGreatTrFloat12
namespace Go.Proofs.YtfhmaincnlaapaaGreat
open Go.ChangeShapes Go.WideShapes Go.ChangeAt Go.RowKit Ieee
set_option linter.unusedVariables false
theorem negF_add (r:Nat) (h:r<9223372036854775808):Op.negFloat .f64 r=9223372036854775808+r:=by
 show r ^^^ 2^63=_
 have e:(9223372036854775808:Nat)=2^63:=by decide
 rw [e] at h ⊢
 refine Nat.eq_of_testBit_eq fun i=>?_
 rw [Nat.testBit_xor,Nat.testBit_two_pow]
 rcases Nat.lt_trichotomy i 63 with hi|hi|hi
 ·rw [Nat.testBit_two_pow_add_gt hi,decide_eq_false (by omega),Bool.xor_false]
 ·subst hi
  rw [Nat.testBit_two_pow_add_eq,decide_eq_true rfl,Bool.xor_true]
 ·have h1:(2:Nat)^64≤2^i:=Nat.pow_le_pow_right (by decide) (by omega)
  have h2:(2:Nat)^64=2^63+2^63:=by decide
  rw [Nat.testBit_lt_two_pow (Nat.lt_of_lt_of_le (by omega) h1),Nat.testBit_lt_two_pow (Nat.lt_of_lt_of_le (by omega) h1),decide_eq_false (by omega)]
  rfl
theorem sgnF_ff (b:Nat):sgnF false b=b:=rfl
theorem sgnF_tt (b:Nat):sgnF true b=Op.negFloat .f64 b:=rfl
theorem flo12_hi {k:Nat} (h1:9223372036854775808≤k) (h2:k-9223372036854775808≤irg):flo12 k=k-9223372036854775808:=by
 have e:rk12 k=k-9223372036854775808:=by unfold rk12;exact if_neg (by omega)
 rw [flo12,e,decide_eq_false (by omega),Nat.min_eq_left h2,sgnF_ff]
theorem flo12_lo {k:Nat} (h1:k<9223372036854775808) (h2:9223372036854775807-k≤irg):flo12 k=9223372036854775808+(9223372036854775807-k):=by
 have e:rk12 k=9223372036854775807-k:=by unfold rk12;exact if_pos h1
 rw [flo12,e,decide_eq_true h1,Nat.min_eq_left h2,sgnF_tt]
 exact negF_add _ (by omega)
theorem flo12_from {k b:Nat} (h:fromB k=some b) (hk:k≠18446744073709551615):flo12 k=b:=by
 rcases fromB_cases k b h with ⟨h1,_⟩|⟨h1,h2,h3⟩|⟨h1,h2,h3⟩
 ·exact absurd h1 hk
 ·rw [flo12_hi h1 h2,h3]
 ·rw [flo12_lo h1 h2,h3]
theorem run_quo_bad {P:Program} (t:TypeId) (w:World) (x y:Nat) (h:FloatKind.f64.format.div x y=none):∃ q,nanB q=true∧q<18446744073709551616∧(binOp .quo t (.float .f64 x) (.float .f64 y)).run P w=.ok (.float .f64 q) w.drew:=by
 refine ⟨Question.cut (.nanBits .f64 x y) (w.tape w.drawn (.nanBits .f64 x y)),?_,?_,?_⟩
 ·generalize w.tape w.drawn (.nanBits .f64 x y)=t
  have h1:=Nat.mod_lt (t/2) (show 0<4503599627370495 by decide)
  refine decide_eq_true ?_
  show 9218868437227405312<(t%2*9223372036854775808+9218868437227405312+1+t/2%4503599627370495)%9223372036854775808
  generalize t/2%4503599627370495=y at *
  omega
 ·generalize w.tape w.drawn (.nanBits .f64 x y)=t
  have h1:=Nat.mod_lt (t/2) (show 0<4503599627370495 by decide)
  show (t%2*9223372036854775808+9218868437227405312+1+t/2%4503599627370495)<_
  generalize t/2%4503599627370495=y at *
  omega
 ·simp [binOp,Op.floatArith,h,Question.forced]
theorem div_zero0:FloatKind.f64.format.div 0 0=none:=by decide +kernel
set_option maxRecDepth 20000 in
set_option maxHeartbeats 4000000 in
theorem float12_nan (w:World) :
 Calls Tryz.prog 48 #[.int .u64 18446744073709551615] w fun y w'=>RetFlo w (fun s=>nanB s=true∧s<18446744073709551616) y w':=by
 obtain ⟨q,hq,hl,hrun⟩:=run_quo_bad (P:=Tryz.prog) 57 w 0 0 div_zero0
 have HQ:=Lib.hid hq;have HL:=Lib.hid hl
 clear hq hl
 go_enter Tryz.func48,Tryz.ntmps48
 go_wp2
 go_ret
 exact ⟨q,rfl,⟨HQ.out,HL.out⟩,belD (belR w) 1⟩
theorem floatK_any (w:World) (b:Nat):Calls Tryz.prog 48 #[.int .u64 (keyB b:Int)] w fun y w'=>RetFlo w (fun s=>keyB s=keyB b∧s<18446744073709551616) y w':=by
 obtain ⟨c,h1,h2,h3⟩:=fromB_of_key b
 have hl:=keyB_lt b
 rw [←h3]
 rw [←h3] at h1 hl
 generalize hk:keyB c=k at *
 by_cases hm:k=18446744073709551615
 ·have e:((k:Nat):Int)=18446744073709551615:=by omega
  rw [e]
  refine (float12_nan w).mono ?_
  rintro y w' ⟨s,rfl,⟨hs,hs2⟩,hb⟩
  exact ⟨s,rfl,⟨by rw [keyB_nan s hs,hm],hs2⟩,hb⟩
 ·refine (float12_any w k (by omega)).mono ?_
  rintro y w' ⟨s,rfl,rfl,hb⟩
  rw [flo12_from h1 hm]
  exact ⟨c,rfl,⟨hk,h2⟩,hb⟩
end Go.Proofs.YtfhmaincnlaapaaGreat
namespace Go.Proofs.YtfhmaincnlaapaaGreat.Sy
open Go.ChangeShapes Go.WideShapes Go.ChangeAt Go.RowKit
set_option linter.unusedVariables false
set_option linter.unusedSimpArgs false
theorem float12_fn (b:Nat):FnOk Tryz.prog 48 ⟨[uz (keyB b:Nat)],[],.fk (keyB b),[]⟩ :=
 FnOk.of_new fun E vs hF hl hs=>by
  obtain ⟨u,rfl⟩:∃ u,vs=[u]:=List.length_eq_one_iff.1 hl
  obtain ⟨rfl,_⟩:u=.int .u64 (keyB b:Int)∧_:=hs 0 _ u rfl rfl
  refine (floatK_any E.w b).mono ?_
  rintro y w' ⟨s,rfl,⟨h1,h2⟩,hb⟩
  exact ⟨_,rfl,hb,s,rfl,by rw [←fkey_eq];exact h1,h2⟩
section
variable {t:List UInt8} {p e:Nat} (hp:p≤t.length) (ht:t.length≤1000000)
include hp ht
theorem readF_fn:FnOk Tryz.prog 152 ⟨[.ptr 1000 0],[rdrO 1000 t p e],.fk (keyB (inF_ t p e).1),[rdrO 1000 t (inF_ t p e).2.1 (inF_ t p e).2.2]⟩:=by
 have hl:(t.drop p).length=t.length-p:=List.length_drop
 have h:=ask_ok (d:=2) (mu:=0) (ms:=0) (e:=e) hp ht (G:=rdF (t.drop p)) (by have:=rdF_in (t.drop p);omega) fun _=>read08_2
 obtain ⟨g1,g2,g3⟩:=inF_got t p e (askR (rdF (t.drop p)) e) rfl
 have e1:inF_ t p e=((inF_ t p e).1,nextP e p (askR (rdF (t.drop p)) e),nextE e (askR (rdF (t.drop p)) e)):=by unfold inF_;rw [g1,g2]
 have g4:((askR (rdF (t.drop p)) e).n=0∧(inF_ t p e).1=0)∨((askR (rdF (t.drop p)) e).n=8∧keyB (inF_ t p e).1=(askR (rdF (t.drop p)) e).u∧(inF_ t p e).1<18446744073709551616):=g3
 generalize (inF_ t p e).1=x at e1 g4
 rw [e1]
 clear g1 g2 g3 e1
 generalize askR (rdF (t.drop p)) e=G at h g4
 simp only
 rcases g4 with ⟨h0,rfl⟩|⟨h8,hx,hb⟩
 ·refine FnOk.weak (r:=.v (.float .f64 0)) ?_ fun E v hv=>⟨0,hv.1,by decide,by decide⟩
  refine fn_go hmo Tryz.func152 (by kernel_rfl) [(6,.call (Inst.mk [AV.ptr (1000:Nat) (0:Nat),askA (2:Int) (0:Nat) (0:Int)] [rdrO (1000:Nat) t p e] (gotA G) [rdrO (1000:Nat) t (nextP e p G) (nextE e G)])),(9,.val (bz true))] [] [AV.v (Value.float FloatKind.f64 (0:Nat))=AV.v (Value.float FloatKind.f64 (0:Nat)),[AV.lst t.length (byL t),iz (↑(nextP e p G):Int),iz (↑(nextE e G):Int)]=[AV.lst t.length (byL t),iz (↑(nextP e p G):Int),iz (↑(nextE e G):Int)],((1000:Nat)=(1000:Nat)∧(0:Nat)=(0:Nat))∧[iz (2:Int),uz (0:Int),iz (0:Int),AV.v (Value.float FloatKind.f64 (0:Nat)),AV.v (Value.string (ByteArray.mk #[])),iz (0:Int)]=[iz (2:Int),uz (↑(0:Nat):Int),iz (0:Int),AV.v (Value.float FloatKind.f64 (0:Nat)),AV.v (Value.string (ByteArray.mk #[])),iz (0:Int)]∧True,FnOk Tryz.prog (47:Nat) (Inst.mk [AV.ptr (1000:Nat) (0:Nat),AV.agg [iz (2:Int),uz (↑(0:Nat):Int),iz (0:Int),AV.v (Value.float FloatKind.f64 (0:Nat)),AV.v (Value.string (ByteArray.mk #[])),iz (0:Int)]] [((1000:Nat),AObj.cells (98:TypeId) [AV.lst t.length (byL t),iz p,iz e])] (AV.agg [uz (↑G.u:Int),iz G.i,AV.v (Value.string (ByteArray.mk G.t.toArray)),iz (↑G.n:Int),iz (↑G.e:Int)]) [((1000:Nat),AObj.cells (98:TypeId) [AV.lst t.length (byL t),iz (↑(nextP e p G):Int),iz (↑(nextE e G):Int)])]),[AV.lst t.length (byL t),iz p,iz e]=[AV.lst t.length (byL t),iz p,iz e],((↑G.n:Int)==(0:Int))=true] (by kernel_rfl) ?_
  ((repeat' refine And.intro ?_ ?_);(iterate 4 (with_reducible rfl));(exact rfl);(exact True.intro);((show FnOk _ _ _;assumption));(with_reducible rfl);((with_reducible refine Be ?_;omega));(exact True.intro))
 ·have hk:=float12_fn x
  rw [hx] at hk ⊢
  refine fn_go hmo Tryz.func152 (by kernel_rfl) [(6,.call (Inst.mk [AV.ptr (1000:Nat) (0:Nat),askA (2:Int) (0:Nat) (0:Int)] [rdrO (1000:Nat) t p e] (gotA G) [rdrO (1000:Nat) t (nextP e p G) (nextE e G)])),(9,.val (bz false)),(12,.call (Inst.mk [uz (↑G.u:Int)] [] (AV.fk G.u) []))] [] [AV.fk G.u=AV.fk G.u,[AV.lst t.length (byL t),iz (↑(nextP e p G):Int),iz (↑(nextE e G):Int)]=[AV.lst t.length (byL t),iz (↑(nextP e p G):Int),iz (↑(nextE e G):Int)],((1000:Nat)=(1000:Nat)∧(0:Nat)=(0:Nat))∧[iz (2:Int),uz (0:Int),iz (0:Int),AV.v (Value.float FloatKind.f64 (0:Nat)),AV.v (Value.string (ByteArray.mk #[])),iz (0:Int)]=[iz (2:Int),uz (↑(0:Nat):Int),iz (0:Int),AV.v (Value.float FloatKind.f64 (0:Nat)),AV.v (Value.string (ByteArray.mk #[])),iz (0:Int)]∧True,FnOk Tryz.prog (47:Nat) (Inst.mk [AV.ptr (1000:Nat) (0:Nat),AV.agg [iz (2:Int),uz (↑(0:Nat):Int),iz (0:Int),AV.v (Value.float FloatKind.f64 (0:Nat)),AV.v (Value.string (ByteArray.mk #[])),iz (0:Int)]] [((1000:Nat),AObj.cells (98:TypeId) [AV.lst t.length (byL t),iz p,iz e])] (AV.agg [uz (↑G.u:Int),iz G.i,AV.v (Value.string (ByteArray.mk G.t.toArray)),iz (↑G.n:Int),iz (↑G.e:Int)]) [((1000:Nat),AObj.cells (98:TypeId) [AV.lst t.length (byL t),iz (↑(nextP e p G):Int),iz (↑(nextE e G):Int)])]),[AV.lst t.length (byL t),iz p,iz e]=[AV.lst t.length (byL t),iz p,iz e],((↑G.n:Int)==(0:Int))=false,(↑G.u:Int)=(↑G.u:Int)∧True,FnOk Tryz.prog (48:Nat) (Inst.mk [uz (↑G.u:Int)] [] (AV.fk G.u) [])] (by kernel_rfl) ?_
  ((repeat' refine And.intro ?_ ?_);(iterate 4 (with_reducible rfl));(exact rfl);(exact True.intro);((show FnOk _ _ _;assumption));(with_reducible rfl);((with_reducible refine Bn ?_;omega));(with_reducible rfl);(exact True.intro);((show FnOk _ _ _;assumption));(exact True.intro))
end
theorem check_fn {S:Sch} (hs:SchOk S):FnOk Tryz.prog 45 ⟨[.agg (encSch S)],[],.v (.int .i64 (checkN S:Int)),[]⟩ :=
 FnOk.of_calls rfl fun E vs hF hl hz=>by
  obtain ⟨u,rfl⟩:∃ u,vs=[u]:=List.length_eq_one_iff.1 hl
  exact refCheck_any E.w E.w.heap.size u S (sch_open hF (okSch_of hs) (hz 0 _ u rfl rfl)) hs (Nat.le_refl _)
theorem full_fn {S:Sch} (hs:SchOk S) (hc:checkN S=0):FnOk Tryz.prog 60 ⟨[.agg (encSch S)],[],.v (.int .u32 (fullN S:Int)),[]⟩ :=
 FnOk.of_calls rfl fun E vs hF hl hz=>by
  obtain ⟨u,rfl⟩:∃ u,vs=[u]:=List.length_eq_one_iff.1 hl
  obtain ⟨hm,_⟩:=checkN_zero hc
  exact refFull_any E.w E.w.heap.size u S (sch_open hF (okSch_of hs) (hz 0 _ u rfl rfl)) (Nat.le_refl _) hm.1 hm.2.1
theorem sub_fn {a b:Nat} (ha:a<4294967296) (hb:b<4294967296):FnOk Tryz.prog 59 ⟨[.v (.int .u32 (a:Int)),.v (.int .u32 (b:Int))],[],.v (.bool (subB a b)),[]⟩ :=
 FnOk.of_calls rfl fun E vs hF hl hz=>by
  obtain ⟨u,v,rfl⟩:=len2 hl
  obtain ⟨rfl,_⟩:u=.int .u32 (a:Int)∧_:=hz 0 _ u rfl rfl
  obtain ⟨rfl,_⟩:v=.int .u32 (b:Int)∧_:=hz 1 _ v rfl rfl
  refine (sub_any E.w a b ha hb).mono ?_
  rintro y w' ⟨rfl,rfl⟩
  exact ⟨rfl,belR _⟩
theorem sub_keys {S:Sch} {mask:Nat} (hc:checkN S=0) (hm:mask<4294967296):subB mask (fullN S)=(keysOf S mask).isSome:=by
 obtain ⟨hmo,_⟩:=checkN_zero hc
 have h6:=hmo.2.1
 have e:subB mask (fullN S)=decide (mask<p2 S.dims.length):=sub_full mask S.dims.length (by omega) hm
 rw [e]
 unfold keysOf
 by_cases h:mask<p2 S.dims.length
 ·rw [if_pos ⟨hc,h⟩,decide_eq_true h];rfl
 ·rw [if_neg (fun hh=>h hh.2),decide_eq_false h];rfl
end Go.Proofs.YtfhmaincnlaapaaGreat.Sy
