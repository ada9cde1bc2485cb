/- exact.Read: what it answers. -/
import Derived.Laws.BitsAllLaws
import Derived.StillTailTactics
import Derived.Deep.DeepCutAuto
import Derived.Laws.OwnMore
import Derived.Test.YtfhmaincnlaapaaGreatTrGetFWalks
import Derived.Test.YtfhmaincnlaapaaGreatTrRefCheck
import Derived.Test.YtfhmaincnlaapaaGreatTrCellGet
namespace Go.Proofs.YtfhmaincnlaapaaGreat
open Go.ChangeShapes Go.WideShapes Go.ChangeAt Go.RowKit
set_option linter.unusedVariables false
def headN (n x0 x1 x2:Nat):Nat :=
 if 0<n∧(63<x0∨(x0/32%2=1∧x0/16%2=0)) then 6
 else if 1<n∧(69<x1∨(0<x1∧x0/16%2=0)) then 6
 else if 2<n∧(70<x1+x2∨(0<x2∧x0/16%2=0)∨(x2=0∧(0<x1∨x0/32%2=1))) then 6
 else 0
theorem headE_eq (b:List UInt8):headE b=headN b.length (hd b 0) (hd b 1) (hd b 2):=rfl
theorem hd_get (b:List UInt8) (i:Nat) (h:i<b.length):hd b i=(b[i]).toNat:=by
 unfold hd;rw [List.getD_eq_getElem?_getD,List.getElem?_eq_getElem h];rfl
set_option maxRecDepth 20000 in
theorem head_nil (w:World) (A:Option Addr) (c:Nat):Calls Tryz.prog 132 #[.slice A 0 c] w fun y w'=>y=.returned (.int .i64 0)∧Drw w w':=by
 go_enter Tryz.func132,Tryz.ntmps132
 go_wp2
 go_quiet (fail)
 go_wp2
 go_ret
 exact ⟨rfl,⟨_,rfl⟩⟩
set_option maxRecDepth 20000 in
set_option maxHeartbeats 8000000 in
theorem head_some (w:World) (a:Addr) (n c x0 x1 x2:Nat) (h1:1≤n) (hx0:x0<256) (hx1:x1<256) (hx2:x2<256) (k0:w.cell? a=some (.int .u8 (x0:Int)))
 (k1:2≤n→w.cell? (a.add 1)=some (.int .u8 (x1:Int))∧w.cell? ⟨a.block,a.off+1,none⟩=some (.int .u8 (x1:Int)))
 (k2:3≤n→w.cell? (a.add 2)=some (.int .u8 (x2:Int))∧w.cell? ⟨a.block,a.off+2,none⟩=some (.int .u8 (x2:Int))) :
 Calls Tryz.prog 132 #[.slice (some a) n c] w fun y w'=>y=.returned (.int .i64 (headN n x0 x1 x2:Int))∧Drw w w':=by
 have a32:bits .and .u8 (x0:Int) 32=((x0/32%2*32:Nat):Int):=by
  have:=u8_and_nat x0 32 hx0 (by decide)
  rw [show x0 &&& 32=x0/32%2*32 from and32 ⟨x0,hx0⟩] at this
  exact this
 have a16:bits .and .u8 (x0:Int) 16=((x0/16%2*16:Nat):Int):=by
  have:=u8_and_nat x0 16 hx0 (by decide)
  rw [show x0 &&& 16=x0/16%2*16 from and16 ⟨x0,hx0⟩] at this
  exact this
 have p0:x0/32%2=0∨x0/32%2=1:=by omega
 have q0:x0/16%2=0∨x0/16%2=1:=by omega
 have g0:decide ((0:Int)<(n:Int))=true:=decide_eq_true (by omega)
 by_cases c0:63<x0
 ·have t0:decide ((63:Int)<(x0:Int))=true:=decide_eq_true (by omega)
  have e:headN n x0 x1 x2=6:=by unfold headN;(repeat' split)<;>omega
  rw [e]
  clear e
  go_enter Tryz.func132,Tryz.ntmps132
  go_wp2
  go_ret
  exact ⟨rfl,Drw.refl _⟩
 have t0:decide ((63:Int)<(x0:Int))=false:=decide_eq_false (by omega)
 rcases p0 with hp|hp
 ·rcases q0 with hq|hq
  ·have b32:bits .and .u8 (x0:Int) 32=0:=by rw [a32,hp];rfl
   have b16:bits .and .u8 (x0:Int) 16=0:=by rw [a16,hq];rfl
   clear a32 a16
   by_cases n2:2≤n
   case neg =>
    obtain rfl:n=1:=by omega
    have e:headN 1 x0 x1 x2=0:=by unfold headN;(repeat' split)<;>omega
    rw [e]
    clear e
    go_enter Tryz.func132,Tryz.ntmps132
    go_wp2
    go_quiet (fail)
    go_wp2
    go_ret
    exact ⟨rfl,⟨_,rfl⟩⟩
   obtain ⟨k1a,k1b⟩:=k1 n2
   have g1:decide ((1:Int)<(n:Int))=true:=decide_eq_true (by omega)
   by_cases c1:69<x1
   ·have t1:decide ((69:Int)<(x1:Int))=true:=decide_eq_true (by omega)
    have e:headN n x0 x1 x2=6:=by unfold headN;(repeat' split)<;>omega
    rw [e]
    clear e
    go_enter Tryz.func132,Tryz.ntmps132
    go_wp2
    go_ret
    exact ⟨rfl,Drw.refl _⟩
   have t1:decide ((69:Int)<(x1:Int))=false:=decide_eq_false (by omega)
   have d1:x1=0∨0<x1:=by omega
   rcases d1 with rfl|d1
   ·simp only [show ((0:Nat):Int)=0 from rfl] at *
    by_cases n3:3≤n
    case neg =>
     obtain rfl:n=2:=by omega
     have e:headN 2 x0 0 x2=0:=by unfold headN;(repeat' split)<;>omega
     rw [e]
     clear e
     go_enter Tryz.func132,Tryz.ntmps132
     go_wp2
     go_quiet (fail)
     go_wp2
     go_ret
     exact ⟨rfl,⟨_,rfl⟩⟩
    obtain ⟨k2a,k2b⟩:=k2 n3
    have g2:decide ((2:Int)<(n:Int))=true:=decide_eq_true (by omega)
    by_cases c2:70<x2
    ·have t2:decide ((70:Int)<(x2:Int))=true:=decide_eq_true (by omega)
     have e:headN n x0 0 x2=6:=by unfold headN;(repeat' split)<;>omega
     rw [e]
     clear e
     go_enter Tryz.func132,Tryz.ntmps132
     go_wp2
     go_quiet (fail)
     go_wp2
     go_ret
     exact ⟨rfl,⟨_,rfl⟩⟩
    have t2:decide ((70:Int)<(x2:Int))=false:=decide_eq_false (by omega)
    have d2:x2=0∨0<x2:=by omega
    rcases d2 with rfl|d2
    ·simp only [show ((0:Nat):Int)=0 from rfl] at *
     have e:headN n x0 0 0=0:=by unfold headN;(repeat' split)<;>omega
     rw [e]
     clear e
     go_enter Tryz.func132,Tryz.ntmps132
     go_wp2
     go_quiet (fail)
     go_wp2
     go_ret
     exact ⟨rfl,⟨_,rfl⟩⟩
    ·have s2:decide ((0:Int)<(x2:Int))=true:=decide_eq_true (by omega)
     have s3:((x2:Int)==0)=false:=by rw [beq_eq_false_iff_ne];omega
     have e:headN n x0 0 x2=6:=by unfold headN;(repeat' split)<;>omega
     rw [e]
     clear e
     go_enter Tryz.func132,Tryz.ntmps132
     go_wp2
     go_quiet (fail)
     go_wp2
     go_ret
     exact ⟨rfl,⟨_,rfl⟩⟩
   ·have s1:decide ((0:Int)<(x1:Int))=true:=decide_eq_true (by omega)
    have e:headN n x0 x1 x2=6:=by unfold headN;(repeat' split)<;>omega
    rw [e]
    clear e
    go_enter Tryz.func132,Tryz.ntmps132
    go_wp2
    go_ret
    exact ⟨rfl,Drw.refl _⟩
  ·have b32:bits .and .u8 (x0:Int) 32=0:=by rw [a32,hp];rfl
   have b16:bits .and .u8 (x0:Int) 16=16:=by rw [a16,hq];rfl
   clear a32 a16
   by_cases n2:2≤n
   case neg =>
    obtain rfl:n=1:=by omega
    have e:headN 1 x0 x1 x2=0:=by unfold headN;(repeat' split)<;>omega
    rw [e]
    clear e
    go_enter Tryz.func132,Tryz.ntmps132
    go_wp2
    go_quiet (fail)
    go_wp2
    go_ret
    exact ⟨rfl,⟨_,rfl⟩⟩
   obtain ⟨k1a,k1b⟩:=k1 n2
   have g1:decide ((1:Int)<(n:Int))=true:=decide_eq_true (by omega)
   by_cases c1:69<x1
   ·have t1:decide ((69:Int)<(x1:Int))=true:=decide_eq_true (by omega)
    have e:headN n x0 x1 x2=6:=by unfold headN;(repeat' split)<;>omega
    rw [e]
    clear e
    go_enter Tryz.func132,Tryz.ntmps132
    go_wp2
    go_ret
    exact ⟨rfl,Drw.refl _⟩
   have t1:decide ((69:Int)<(x1:Int))=false:=decide_eq_false (by omega)
   have d1:x1=0∨0<x1:=by omega
   rcases d1 with rfl|d1
   ·simp only [show ((0:Nat):Int)=0 from rfl] at *
    by_cases n3:3≤n
    case neg =>
     obtain rfl:n=2:=by omega
     have e:headN 2 x0 0 x2=0:=by unfold headN;(repeat' split)<;>omega
     rw [e]
     clear e
     go_enter Tryz.func132,Tryz.ntmps132
     go_wp2
     go_quiet (fail)
     go_wp2
     go_ret
     exact ⟨rfl,⟨_,rfl⟩⟩
    obtain ⟨k2a,k2b⟩:=k2 n3
    have g2:decide ((2:Int)<(n:Int))=true:=decide_eq_true (by omega)
    by_cases c2:70<x2
    ·have t2:decide ((70:Int)<(x2:Int))=true:=decide_eq_true (by omega)
     have e:headN n x0 0 x2=6:=by unfold headN;(repeat' split)<;>omega
     rw [e]
     clear e
     go_enter Tryz.func132,Tryz.ntmps132
     go_wp2
     go_quiet (fail)
     go_wp2
     go_ret
     exact ⟨rfl,⟨_,rfl⟩⟩
    have t2:decide ((70:Int)<(x2:Int))=false:=decide_eq_false (by omega)
    have d2:x2=0∨0<x2:=by omega
    rcases d2 with rfl|d2
    ·simp only [show ((0:Nat):Int)=0 from rfl] at *
     have e:headN n x0 0 0=0:=by unfold headN;(repeat' split)<;>omega
     rw [e]
     clear e
     go_enter Tryz.func132,Tryz.ntmps132
     go_wp2
     go_quiet (fail)
     go_wp2
     go_ret
     exact ⟨rfl,⟨_,rfl⟩⟩
    ·have s2:decide ((0:Int)<(x2:Int))=true:=decide_eq_true (by omega)
     have s3:((x2:Int)==0)=false:=by rw [beq_eq_false_iff_ne];omega
     have e:headN n x0 0 x2=0:=by unfold headN;(repeat' split)<;>omega
     rw [e]
     clear e
     go_enter Tryz.func132,Tryz.ntmps132
     go_wp2
     go_quiet (fail)
     go_wp2
     go_ret
     exact ⟨rfl,⟨_,rfl⟩⟩
   ·have s1:decide ((0:Int)<(x1:Int))=true:=decide_eq_true (by omega)
    by_cases n3:3≤n
    case neg =>
     obtain rfl:n=2:=by omega
     have e:headN 2 x0 x1 x2=0:=by unfold headN;(repeat' split)<;>omega
     rw [e]
     clear e
     go_enter Tryz.func132,Tryz.ntmps132
     go_wp2
     go_quiet (fail)
     go_wp2
     go_ret
     exact ⟨rfl,⟨_,rfl⟩⟩
    obtain ⟨k2a,k2b⟩:=k2 n3
    have g2:decide ((2:Int)<(n:Int))=true:=decide_eq_true (by omega)
    by_cases c2:70<x1+x2
    ·have t2:decide ((70:Int)<(x1:Int)+(x2:Int))=true:=decide_eq_true (by omega)
     have e:headN n x0 x1 x2=6:=by unfold headN;(repeat' split)<;>omega
     rw [e]
     clear e
     go_enter Tryz.func132,Tryz.ntmps132
     go_wp2
     go_quiet (fail)
     go_wp2
     go_ret
     exact ⟨rfl,⟨_,rfl⟩⟩
    have t2:decide ((70:Int)<(x1:Int)+(x2:Int))=false:=decide_eq_false (by omega)
    have d2:x2=0∨0<x2:=by omega
    rcases d2 with rfl|d2
    ·simp only [show ((0:Nat):Int)=0 from rfl] at *
     have t3:decide ((70:Int)<(x1:Int))=false:=decide_eq_false (by omega)
     have e:headN n x0 x1 0=6:=by unfold headN;(repeat' split)<;>omega
     rw [e]
     clear e
     go_enter Tryz.func132,Tryz.ntmps132
     go_wp2
     go_quiet (fail)
     go_wp2
     go_ret
     exact ⟨rfl,⟨_,rfl⟩⟩
    ·have s2:decide ((0:Int)<(x2:Int))=true:=decide_eq_true (by omega)
     have s3:((x2:Int)==0)=false:=by rw [beq_eq_false_iff_ne];omega
     have e:headN n x0 x1 x2=0:=by unfold headN;(repeat' split)<;>omega
     rw [e]
     clear e
     go_enter Tryz.func132,Tryz.ntmps132
     go_wp2
     go_quiet (fail)
     go_wp2
     go_ret
     exact ⟨rfl,⟨_,rfl⟩⟩
 ·rcases q0 with hq|hq
  ·have b32:bits .and .u8 (x0:Int) 32=32:=by rw [a32,hp];rfl
   have b16:bits .and .u8 (x0:Int) 16=0:=by rw [a16,hq];rfl
   clear a32 a16
   have e:headN n x0 x1 x2=6:=by unfold headN;(repeat' split)<;>omega
   rw [e]
   clear e
   go_enter Tryz.func132,Tryz.ntmps132
   go_wp2
   go_ret
   exact ⟨rfl,Drw.refl _⟩
  ·have b32:bits .and .u8 (x0:Int) 32=32:=by rw [a32,hp];rfl
   have b16:bits .and .u8 (x0:Int) 16=16:=by rw [a16,hq];rfl
   clear a32 a16
   by_cases n2:2≤n
   case neg =>
    obtain rfl:n=1:=by omega
    have e:headN 1 x0 x1 x2=0:=by unfold headN;(repeat' split)<;>omega
    rw [e]
    clear e
    go_enter Tryz.func132,Tryz.ntmps132
    go_wp2
    go_quiet (fail)
    go_wp2
    go_ret
    exact ⟨rfl,⟨_,rfl⟩⟩
   obtain ⟨k1a,k1b⟩:=k1 n2
   have g1:decide ((1:Int)<(n:Int))=true:=decide_eq_true (by omega)
   by_cases c1:69<x1
   ·have t1:decide ((69:Int)<(x1:Int))=true:=decide_eq_true (by omega)
    have e:headN n x0 x1 x2=6:=by unfold headN;(repeat' split)<;>omega
    rw [e]
    clear e
    go_enter Tryz.func132,Tryz.ntmps132
    go_wp2
    go_ret
    exact ⟨rfl,Drw.refl _⟩
   have t1:decide ((69:Int)<(x1:Int))=false:=decide_eq_false (by omega)
   have d1:x1=0∨0<x1:=by omega
   rcases d1 with rfl|d1
   ·simp only [show ((0:Nat):Int)=0 from rfl] at *
    by_cases n3:3≤n
    case neg =>
     obtain rfl:n=2:=by omega
     have e:headN 2 x0 0 x2=0:=by unfold headN;(repeat' split)<;>omega
     rw [e]
     clear e
     go_enter Tryz.func132,Tryz.ntmps132
     go_wp2
     go_quiet (fail)
     go_wp2
     go_ret
     exact ⟨rfl,⟨_,rfl⟩⟩
    obtain ⟨k2a,k2b⟩:=k2 n3
    have g2:decide ((2:Int)<(n:Int))=true:=decide_eq_true (by omega)
    by_cases c2:70<x2
    ·have t2:decide ((70:Int)<(x2:Int))=true:=decide_eq_true (by omega)
     have e:headN n x0 0 x2=6:=by unfold headN;(repeat' split)<;>omega
     rw [e]
     clear e
     go_enter Tryz.func132,Tryz.ntmps132
     go_wp2
     go_quiet (fail)
     go_wp2
     go_ret
     exact ⟨rfl,⟨_,rfl⟩⟩
    have t2:decide ((70:Int)<(x2:Int))=false:=decide_eq_false (by omega)
    have d2:x2=0∨0<x2:=by omega
    rcases d2 with rfl|d2
    ·simp only [show ((0:Nat):Int)=0 from rfl] at *
     have e:headN n x0 0 0=6:=by unfold headN;(repeat' split)<;>omega
     rw [e]
     clear e
     go_enter Tryz.func132,Tryz.ntmps132
     go_wp2
     go_quiet (fail)
     go_wp2
     go_ret
     exact ⟨rfl,⟨_,rfl⟩⟩
    ·have s2:decide ((0:Int)<(x2:Int))=true:=decide_eq_true (by omega)
     have s3:((x2:Int)==0)=false:=by rw [beq_eq_false_iff_ne];omega
     have e:headN n x0 0 x2=0:=by unfold headN;(repeat' split)<;>omega
     rw [e]
     clear e
     go_enter Tryz.func132,Tryz.ntmps132
     go_wp2
     go_quiet (fail)
     go_wp2
     go_ret
     exact ⟨rfl,⟨_,rfl⟩⟩
   ·have s1:decide ((0:Int)<(x1:Int))=true:=decide_eq_true (by omega)
    by_cases n3:3≤n
    case neg =>
     obtain rfl:n=2:=by omega
     have e:headN 2 x0 x1 x2=0:=by unfold headN;(repeat' split)<;>omega
     rw [e]
     clear e
     go_enter Tryz.func132,Tryz.ntmps132
     go_wp2
     go_quiet (fail)
     go_wp2
     go_ret
     exact ⟨rfl,⟨_,rfl⟩⟩
    obtain ⟨k2a,k2b⟩:=k2 n3
    have g2:decide ((2:Int)<(n:Int))=true:=decide_eq_true (by omega)
    by_cases c2:70<x1+x2
    ·have t2:decide ((70:Int)<(x1:Int)+(x2:Int))=true:=decide_eq_true (by omega)
     have e:headN n x0 x1 x2=6:=by unfold headN;(repeat' split)<;>omega
     rw [e]
     clear e
     go_enter Tryz.func132,Tryz.ntmps132
     go_wp2
     go_quiet (fail)
     go_wp2
     go_ret
     exact ⟨rfl,⟨_,rfl⟩⟩
    have t2:decide ((70:Int)<(x1:Int)+(x2:Int))=false:=decide_eq_false (by omega)
    have d2:x2=0∨0<x2:=by omega
    rcases d2 with rfl|d2
    ·simp only [show ((0:Nat):Int)=0 from rfl] at *
     have t3:decide ((70:Int)<(x1:Int))=false:=decide_eq_false (by omega)
     have e:headN n x0 x1 0=6:=by unfold headN;(repeat' split)<;>omega
     rw [e]
     clear e
     go_enter Tryz.func132,Tryz.ntmps132
     go_wp2
     go_quiet (fail)
     go_wp2
     go_ret
     exact ⟨rfl,⟨_,rfl⟩⟩
    ·have s2:decide ((0:Int)<(x2:Int))=true:=decide_eq_true (by omega)
     have s3:((x2:Int)==0)=false:=by rw [beq_eq_false_iff_ne];omega
     have e:headN n x0 x1 x2=0:=by unfold headN;(repeat' split)<;>omega
     rw [e]
     clear e
     go_enter Tryz.func132,Tryz.ntmps132
     go_wp2
     go_quiet (fail)
     go_wp2
     go_ret
     exact ⟨rfl,⟨_,rfl⟩⟩
theorem head_any (w:World) (B:Nat) (A:Option Addr) (c:Nat) (b:List UInt8) (hR:Rd w B 1 A b.length (u8s b)) :
 Calls Tryz.prog 132 #[.slice A b.length c] w fun y w'=>y=.returned (.int .i64 (headE b:Int))∧Drw w w':=by
 rw [headE_eq]
 cases b with
 | nil=>exact head_nil w A c
 | cons x t =>
   obtain ⟨a,rfl,hab,k0⟩:=hR.byte (k:=0) (by simp)
   rw [add_zero'] at k0
   have hl:∀ i,hd (x::t) i<256:=fun i=>UInt8.toNat_lt _
   have hc:∀ i (h:i<(x::t).length),w.cell? (a.add i)=some (.int .u8 ((hd (x::t) i:Nat):Int)):=fun i h=>by
    obtain ⟨a',e,_,hx⟩:=hR.byte h
    injection e with e;subst e
    rw [hd_get _ _ h];exact hx
   exact head_some w a _ c _ _ _ (by simp) (hl 0) (hl 1) (hl 2) (by have:=hc 0 (by simp);rwa [add_zero'] at this)
    (fun h=>⟨hc 1 (by omega),by have:=hc 1 (by omega);rw [show (1:Nat)=0+1 from rfl,add_succ] at this;exact this⟩)
    (fun h=>⟨hc 2 (by omega),by have:=hc 2 (by omega);rw [show (2:Nat)=1+1 from rfl,add_succ] at this;exact this⟩)
theorem fullP_le (S:Sch):fullP S<4294967296:=by
 unfold fullP
 split
 ·rename_i h
  obtain ⟨hm,_⟩:=checkN_zero h
  unfold manyOk at hm
  unfold fullN
  have:=p2_le _ 31 (show S.dims.length≤31 by omega)
  rw [p2_31] at this
  omega
 ·decide
set_option maxRecDepth 20000 in
set_option maxHeartbeats 1000000 in
theorem full_any (w:World) (B:Nat) (v:Value) (S:Sch) (h:SchAt w B v S) (ho:SchOk S) (hB:B≤w.heap.size) :
 Calls Tryz.prog 119 #[v] w fun y w'=>y=.returned (.int .u32 (fullP S:Int))∧Below w.heap.size w w':=by
 have hh:=h
 obtain ⟨A0,c0,A1,c1,A2,c2,A3,c3,rfl,r0,r1,r2,r3,b0,b1,b2,b3⟩:=hh
 clear r0 r1 r2 r3 b0 b1 b2 b3
 have hw0:=belA (belR w) (.cells #[.slice A0 S.dims.length c0,.slice A1 S.ints.length c1,.slice A2 S.nums.length c2,.slice A3 S.views.length c3] 26)
 have hc:=schemaCheck_any (w.alloc (.cells #[.slice A0 S.dims.length c0,.slice A1 S.ints.length c1,.slice A2 S.nums.length c2,.slice A3 S.views.length c3] 26)) B _ S (h.keep (hw0.mono hB) (Nat.le_refl _)) ho (by simp;omega)
 have K0:=Lib.hid (Blk.new w 26 #[.slice A0 S.dims.length c0,.slice A1 S.ints.length c1,.slice A2 S.nums.length c2,.slice A3 S.views.length c3])
 have HW0:=Lib.hid hw0
 clear hw0 h
 by_cases h0:checkN S=0
 ·have e:fullP S=p2 S.dims.length-1:=if_pos h0
  obtain ⟨hm,_⟩:=checkN_zero h0
  unfold manyOk at hm
  obtain ⟨m1,m2,_⟩:=hm
  rw [h0] at hc
  have hsh:=shl_one S.dims.length m1 m2
  have hlt:=fullP_le S
  rw [e] at hlt ⊢
  have hw:IntKind.u32.wrap ((p2 S.dims.length-1:Nat):Int)=((p2 S.dims.length-1:Nat):Int):=by rw [IntKind.wrap_u32];omega
  have HC:=Lib.hid hc
  clear hc h0 e
  generalize p2 S.dims.length-1=q at *
  go_enter Tryz.func119,Tryz.ntmps119
  go_wp2_with (go_at_call 39;(with_reducible refine HC.out.mono ?_);rintro y w1 ⟨rfl,hb1⟩;have HB1:=Lib.hid (HW0.out.trans (hb1.mono (show w.heap.size≤_ by simp)));have hk:=K0.out.below hb1 (by simp);have k0:=hk.cell 0;simp at k0;clear hb1 hk)
  go_ret
  exact ⟨rfl,HB1.out⟩
 ·have e:fullP S=0:=if_neg h0
  rw [e]
  have t0:=i64_ne0 h0
  have HC:=Lib.hid hc
  clear hc h0 e
  go_enter Tryz.func119,Tryz.ntmps119
  go_wp2_with (go_at_call 39;(with_reducible refine HC.out.mono ?_);rintro y w1 ⟨rfl,hb1⟩;have HB1:=Lib.hid (HW0.out.trans (hb1.mono (show w.heap.size≤_ by simp)));clear hb1)
  go_ret
  exact ⟨rfl,HB1.out⟩
theorem keysP_le (S:Sch) (mask:Nat):∀ k p,keysTo S k=some p→keysP S mask k≤p:=by
 intro k
 induction k with
 | zero=>intro p h;have:=(keysTo_le S 0 p h).1;exact this
 | succ k ih =>
   intro q h
   cases hk:keysTo S k with
   | none=>rw [keysTo_none S k hk (k+1) (by omega)] at h;cases h
   | some p =>
     have hp:=ih p hk
     rw [keysTo_succ S k p hk] at h
     unfold keyStep at h
     split at h
     ·rename_i hd
      injection h with h
      subst h
      unfold keysP
      have h1:1≤(szAt S k).toNat:=by omega
      split
      ·exact Nat.mul_le_mul_right _ hp
      ·have:=Nat.mul_le_mul_left p h1
       omega
     ·cases h
theorem keysTo_part (S:Sch) (m p:Nat) (h:keysTo S m=some p) (k:Nat) (hk:k≤m):∃ q,keysTo S k=some q:=by
 cases hq:keysTo S k with
 | none=>rw [keysTo_none S k hq m hk] at h;cases h
 | some q=>exact ⟨q,rfl⟩
theorem andNot_full (mask n:Nat) (hn:n≤31) (hm:mask<4294967296):bits .andNot .u32 (mask:Int) ((p2 n-1:Nat):Int)=((mask/p2 n*p2 n:Nat):Int):=by
 have h1:=p2_le n 31 hn
 rw [p2_31] at h1
 rw [u32_andNot_nat mask _ hm (by omega),and_hi mask n hn hm]
theorem keysP_succ (S:Sch) (mask k:Nat):keysP S mask (k+1)=if mask.testBit k then keysP S mask k*(szAt S k).toNat else keysP S mask k:=rfl
set_option maxRecDepth 20000 in
set_option maxHeartbeats 4000000 in
theorem keys_any (w:World) (B:Nat) (v:Value) (S:Sch) (mask:Nat) (h:SchAt w B v S) (ho:SchOk S) (hB:B≤w.heap.size) (hm:mask<4294967296) :
 Calls Tryz.prog 57 #[v,.int .u32 (mask:Int)] w fun y w'=>y=.returned (.tuple #[.int .u64 (((keysOf S mask).getD 0:Nat):Int),.bool (keysOf S mask).isSome])∧Below w.heap.size w w':=by
 have hh:=h
 obtain ⟨A0,c0,A1,c1,A2,c2,A3,c3,rfl,r0,r1,r2,r3,b0,b1,b2,b3⟩:=hh
 clear r1 r2 r3 b0 b1 b2 b3
 have hw0:=belA (belR w) (.cells #[.slice A0 S.dims.length c0,.slice A1 S.ints.length c1,.slice A2 S.nums.length c2,.slice A3 S.views.length c3] 26)
 have hc:=full_any (w.alloc (.cells #[.slice A0 S.dims.length c0,.slice A1 S.ints.length c1,.slice A2 S.nums.length c2,.slice A3 S.views.length c3] 26)) B _ S (h.keep (hw0.mono hB) (Nat.le_refl _)) ho (by simp;omega)
 have K0:=Lib.hid (Blk.new w 26 #[.slice A0 S.dims.length c0,.slice A1 S.ints.length c1,.slice A2 S.nums.length c2,.slice A3 S.views.length c3])
 have HW0:=Lib.hid hw0;have R0:=Lib.hid r0
 clear hw0 h r0
 by_cases h0:checkN S=0
 case neg =>
  have e:keysOf S mask=none:=if_neg fun hh=>h0 hh.1
  have ef:fullP S=0:=if_neg h0
  rw [ef] at hc
  rw [e]
  have HC:=Lib.hid hc
  clear hc h0 e ef
  go_enter Tryz.func57,Tryz.ntmps57
  go_wp2_with (go_at_call 119;(with_reducible refine HC.out.mono ?_);rintro y w1 ⟨rfl,hb1⟩;have HB1:=Lib.hid (HW0.out.trans (hb1.mono (show w.heap.size≤_ by simp)));clear hb1)
  go_ret2
  exact ⟨rfl,HB1.out⟩
 case pos =>
  obtain ⟨hmo,p,hp⟩:=checkN_zero h0
  unfold manyOk at hmo
  obtain ⟨m1,m2,_⟩:=hmo
  have ef:fullP S=p2 S.dims.length-1:=if_pos h0
  have hlt:=fullP_le S
  have han:=andNot_full mask S.dims.length (by omega) hm
  have hp2:=p2_le 1 _ m1
  have hp1:p2 1=2:=rfl
  rw [hp1] at hp2
  rw [ef] at hc hlt
  have hf0:(((p2 S.dims.length-1:Nat):Int)==0)=false:=by rw [beq_eq_false_iff_ne];omega
  by_cases hlm:mask<p2 S.dims.length
  case neg =>
   have e:keysOf S mask=none:=if_neg fun hh=>hlm hh.2
   have hnz:(((mask/p2 S.dims.length*p2 S.dims.length:Nat):Int) != 0)=true:=by
    have:0<mask/p2 S.dims.length:=Nat.div_pos (by omega) (by omega)
    have:=Nat.mul_pos this (show 0<p2 S.dims.length by omega)
    rw [bne_iff_ne];omega
   rw [e]
   have HC:=Lib.hid hc
   clear hc h0 e ef hp2 hp hlt hlm
   generalize p2 S.dims.length-1=q at *
   generalize mask/p2 S.dims.length*p2 S.dims.length=r at *
   go_enter Tryz.func57,Tryz.ntmps57
   go_wp2_with (go_at_call 119;(with_reducible refine HC.out.mono ?_);rintro y w1 ⟨rfl,hb1⟩;have HB1:=Lib.hid (HW0.out.trans (hb1.mono (show w.heap.size≤_ by simp)));clear hb1)
   go_ret2
   exact ⟨rfl,HB1.out⟩
  case pos =>
   have e:keysOf S mask=some (keysP S mask S.dims.length):=if_pos ⟨h0,hlm⟩
   have hz:mask/p2 S.dims.length*p2 S.dims.length=0:=by rw [Nat.div_eq_of_lt hlm,Nat.zero_mul]
   rw [hz] at han
   have han0:bits .andNot .u32 (mask:Int) ((p2 S.dims.length-1:Nat):Int)=0:=han
   rw [e]
   simp only [Option.getD_some,Option.isSome_some]
   have HC:=Lib.hid hc;have HSZ:=Lib.hid (keysTo_some S _ p hp)
   have HKP:Hid (∀ k,k≤S.dims.length→keysP S mask k≤1099511627776):=Lib.hid fun k hk=>by
    obtain ⟨q,hq⟩:=keysTo_part S _ p hp k hk
    exact Nat.le_trans (keysP_le S mask k q hq) (keysTo_le S k q hq).2
   clear hc h0 e ef hp2 hp hlt hlm han hz
   generalize p2 S.dims.length-1=q at *
   go_enter Tryz.func57,Tryz.ntmps57
   go_wp2_with (go_at_call 119;(with_reducible refine HC.out.mono ?_);rintro y w1 ⟨rfl,hb1⟩;have HB1:=Lib.hid (HW0.out.trans (hb1.mono (show w.heap.size≤_ by simp)));have hk:=K0.out.below hb1 (by simp);have k0:=hk.cell 0;simp at k0;clear hb1 hk)
   clear k0
   go_loopw [7,23] (fun kv i wr=>∃ k:Nat,k≤S.dims.length∧i=.int .i64 (k:Int)∧kv=.int .u64 (keysP S mask k:Int)∧Hid (Below w.heap.size w wr)) (fun _ i _=>S.dims.length-(intOf i).toNat)
   case atStart=>exact ⟨0,by omega,rfl,rfl,HB1.out⟩
   case round =>
    obtain ⟨k,hk,rfl,rfl,HB⟩:=hrel
    by_cases hlt:k<S.dims.length
    ·obtain ⟨a,rfl,hab,x0,x1⟩:=(R0.out.below (HB.out.mono hB)).dim hlt
     have q1:(0:Int)≤(k:Int):=by omega
     have q2:(k:Int)<(S.dims.length:Int):=by omega
     have hzk:=HSZ.out k hlt
     have hsz:szAt S k=S.dims[k].2:=by unfold szAt;simp [List.getD,hlt]
     have hs:=keysP_succ S mask k
     have hkp:=HKP.out (k+1) (by omega)
     have hkq:=HKP.out k (by omega)
     have hsh:(mask:Int)/2^k=((mask/p2 k:Nat):Int):=by unfold p2;simp
     have hlq:mask/p2 k<4294967296:=Nat.lt_of_le_of_lt (Nat.div_le_self _ _) hm
     have hbit:=bit_of mask k
     have han2:bits .and .u32 ((mask/p2 k:Nat):Int) 1=((mask/p2 k%2:Nat):Int):=by
      have:=u32_and_nat (mask/p2 k) 1 hlq (by decide)
      rw [Nat.and_one_is_mod] at this
      exact this
     rw [hbit] at han2
     generalize mask/p2 k=MK at *
     have hbz:=(belA (HB.out.mono (Nat.le_refl _)) (.cells #[.string S.dims[k].1,.int .i64 S.dims[k].2] 79))
     generalize S.dims[k]=d at *
     obtain ⟨nm,sz⟩:=d
     simp only at x0 x1 hsz hbz
     subst hsz
     obtain ⟨z,hz⟩:∃ z:Nat,szAt S k=(z:Int):=⟨(szAt S k).toNat,by omega⟩
     rw [hz] at x1 hs hzk hbz
     rw [Int.toNat_natCast] at hs
     generalize keysP S mask k=K at *
     have wz:IntKind.u64.wrap (z:Int)=(z:Int):=by rw [IntKind.wrap_u64];omega
     cases hb:mask.testBit k with
     | true =>
       rw [hb] at hs han2
       simp only [if_true] at hs han2
       rw [hs] at hkp
       have wm:IntKind.u64.wrap ((K:Int)*(z:Int))=((K*z:Nat):Int):=by rw [←Int.natCast_mul,IntKind.wrap_u64];omega
       have HS:=Lib.hid hs;have HBZ:=Lib.hid hbz
       clear hs hbz hb hbit hz
       go_wp2
       go_roundw
       case rel=>exact ⟨k+1,by omega,by go_num,by rw [HS.out,Int.natCast_mul],HBZ.out⟩
       case measure=>simp [intOf];omega
     | false =>
       rw [hb] at hs han2
       simp only [Bool.false_eq_true,if_false] at hs han2
       have HS:=Lib.hid hs;have HBZ:=Lib.hid hbz
       clear hs hbz hb hbit hz
       go_wp2
       go_roundw
       case rel=>exact ⟨k+1,by omega,by go_num,by rw [HS.out],HBZ.out⟩
       case measure=>simp [intOf];omega
    ·obtain rfl:k=S.dims.length:=by omega
     go_wp2
     go_ret2
     exact ⟨rfl,HB.out⟩
theorem Rd.u32n {w:World} {B:Nat} {A:Option Addr} {l:List Nat} (h:Rd w B 1 A l.length (u32n l)) {k:Nat} (hk:k<l.length):∃ a,A=some a∧a.block<B∧w.cell? (a.add k)=some (.int .u32 ((l.getD k 0:Nat):Int)):=by
 obtain ⟨a,u,e,hb,hx,hc⟩:=h.at1 hk
 refine ⟨a,e,hb,?_⟩
 rw [hc]
 simp [hk] at hx
 simp [List.getD,hk,←hx]
theorem tsz_take (l:List Nat) (m:Nat) (h:m<l.length):tsz (l.take (m+1))=if l.getD m 0=0 then tsz (l.take m) else m+1:=by
 rw [List.take_succ_eq_append_getElem h,tsz_last,List.length_take,Nat.min_eq_left (by omega)]
 simp [List.getD,h]
set_option maxRecDepth 20000 in
theorem size_any (w:World) (B:Nat) (A:Option Addr) (c:Nat) (l:List Nat) (hR:Rd w B 1 A l.length (u32n l)) (hl:l.length≤1000000) :
 Calls Tryz.prog 140 #[.slice A l.length c] w fun y w'=>y=.returned (.int .i64 (tsz l:Int))∧w=w':=by
 have HR:=Lib.hid hR
 clear hR
 go_enter Tryz.func140,Tryz.ntmps140
 go_wp2
 go_loop [3] (fun i=>∃ m:Nat,m≤l.length∧i=.int .i64 (m:Int)∧Hid (tsz (l.take m)=tsz l)) (fun i=>(intOf i).toNat)
 case atStart=>exact ⟨l.length,Nat.le_refl _,rfl,by rw [List.take_length];exact Lib.hid rfl⟩
 case round =>
  obtain ⟨m,hm,rfl,HT⟩:=hrel
  cases m with
  | zero =>
    have ht:=HT.out
    rw [List.take_zero] at ht
    have hz:tsz l=0:=by rw [←ht];rfl
    have HZ:=Lib.hid hz
    simp only [show ((0:Nat):Int)=0 from rfl]
    clear ht HT hz
    go_wp2
    go_ret
    exact ⟨by rw [HZ.out];rfl,rfl⟩
  | succ m =>
    obtain ⟨a,rfl,hab,x0⟩:=HR.out.u32n (k:=m) (by omega)
    have ht:=tsz_take l m (by omega)
    rw [HT.out] at ht
    have q1:(0:Int)≤(m:Int):=by omega
    have q2:(m:Int)<(l.length:Int):=by omega
    have e1:((m+1:Nat):Int)-1=(m:Int):=by omega
    have g1:decide ((0:Int)<((m+1:Nat):Int))=true:=decide_eq_true (by omega)
    have w1:IntKind.i64.wrap (m:Int)=(m:Int):=IntWalk.i64_in _ (by omega)
    generalize l.getD m 0=x at *
    by_cases hx:x=0
    ·subst hx
     rw [if_pos rfl] at ht
     have HT2:=Lib.hid ht
     simp only [show ((0:Nat):Int)=0 from rfl] at x0
     clear ht
     go_wp2
     go_round
     case rel=>exact ⟨m,by omega,(by first|rfl|rw [w1]|go_num),HT2.out.symm⟩
     case measure=>first|(simp [intOf];done)|simp [intOf,w1]
    ·rw [if_neg hx] at ht
     have HZ:=Lib.hid ht
     have t0:((x:Int)==0)=false:=by rw [beq_eq_false_iff_ne];omega
     clear ht hx
     go_wp2
     go_ret
     exact ⟨by rw [HZ.out];rfl,rfl⟩
theorem info_u32:(Tryz.prog.info? 39).map (fun i=>(i.zero,i.size,i.bytes))=some (some (.int .u32 0),1,4):=by kernel_rfl
theorem u32n_one (l:List Nat):∀ u∈u32n l,u.oneCell'=true:=by intro u hu;obtain ⟨x,_,rfl⟩:=List.mem_map.1 hu;rfl
theorem rd_take1 {w:World} {B n k:Nat} {A:Option Addr} {xs:List Value} (h:Rd w B 1 A n xs) (hk:k≤n):Rd w B 1 A k (xs.take k):=by
 have hl:=h.1
 refine ⟨by rw [List.length_take];omega,fun hn=>?_⟩
 obtain ⟨a,rfl,hb,hcell⟩:=h.2 (by omega)
 refine ⟨a,rfl,hb,fun j u hu=>hcell j u ?_⟩
 rw [List.getElem?_take] at hu
 split at hu
 ·exact hu
 ·cases hu
set_option maxRecDepth 20000 in
theorem trim_any (w:World) (B:Nat) (A:Option Addr) (c:Nat) (l:List Nat) (hR:Rd w B 1 A l.length (u32n l)) (hl:l.length≤1000000) (hlc:l.length≤c) (hc:c≤maxLen) :
 Calls Tryz.prog 71 #[.slice A l.length c] w fun y w'=>∃ v,y=.returned v∧w'.ownsRow w.heap.size 39 1 v (tsz l) (u32n (l.take (tsz l)))∧Below w.heap.size w w':=by
 have ht:=tsz_le l
 have hs:=size_any w B A c l hR hl
 have hr:=rd_take1 hR ht
 rw [show (u32n l).take (tsz l)=u32n (l.take (tsz l)) from by simp [u32n,List.map_take]] at hr
 have hone:=u32n_one (l.take (tsz l))
 have q1:(0:Int)≤(tsz l:Int):=by omega
 have q2:(tsz l:Int)≤(c:Int):=by omega
 have hcc:=hc
 unfold maxLen at hcc
 have HS:=Lib.hid hs;have HR:=Lib.hid hr;have HO:=Lib.hid hone;have HN:=Lib.hid (World.ownsRow_nil w w.heap.size 39 1)
 clear hs hr hone hR
 generalize tsz l=m at *
 generalize l.take m=l' at *
 go_enter Tryz.func71,Tryz.ntmps71
 go_wp2_with (first
  | (go_at_call 140;(with_reducible refine HS.out.mono ?_);rintro y w1 ⟨rfl,rfl⟩)
  | (at_builtin;refine wpList_appS w rfl _ _ 24 rfl w.heap.size 39 _ 1 4 info_u32 rfl (by decide) Tryz.underlying24 (.slice none 0 0) 0 [] HN.out rfl _ _ m _ (u32n l') HR.out rfl HO.out ?_ ?_ ?_ ?_;omega;omega;exact Nat.le_refl _;intro v2 w2 ho2 hap2;have HO2:=Lib.hid ho2;have HB2:=Lib.hid (hap2.below (Nat.le_refl _) HN.out);clear ho2 hap2))
 go_ret
 have h2:=HO2.out
 rw [Nat.zero_add,List.nil_append] at h2
 exact ⟨_,rfl,h2,HB2.out⟩
theorem less_flo (a b:Nat) (w:World) (ha:a<18446744073709551616) (hb:b<18446744073709551616):Calls Tryz.prog 72 #[.float .f64 a,.float .f64 b] w fun y w'=>y=.returned (.bool (decide (keyB a<keyB b)))∧w=w':=by
 have HA:=Lib.hid (fun W=>key_any a W ha);have HB:=Lib.hid (fun W=>key_any b W hb)
 go_enter Tryz.func72,Tryz.ntmps72
 go_wp2_with fail
 (with_reducible refine (HA.out _).mono ?_);rintro y w1 ⟨rfl,rfl⟩
 go_wp2_with fail
 (with_reducible refine (HB.out _).mono ?_);rintro y w1 ⟨rfl,rfl⟩
 go_wp2
 go_ret
 first
 | exact ⟨rfl,rfl⟩
 | (refine ⟨?_,rfl⟩;congr 2;rw [Bool.eq_iff_iff];simp)
theorem made_u32 (n:Nat):madeCells #[.int .u32 0] n=(u32n (List.replicate n 0)).toArray:=by
 apply Array.ext'
 rw [toList_madeCells_one]
 simp [u32n]
theorem u32n_set (L:List Nat) (j x:Nat):(u32n L).toArray.setIfInBounds j (.int .u32 (x:Int))=(u32n (L.set j x)).toArray:=by
 simp [u32n,List.map_set]
theorem words_end (b:List UInt8) (n:Nat):wordsE b n 0=if 3+4*n<b.length then 7 else 0:=rfl
theorem words_step (b:List UInt8) (n i:Nat) (h:i<n):wordsE b n (n-i)=if b.length<3+4*i+4 then 5 else if (i=0∨i+1=n)∧wordB b i=0 then 6 else wordsE b n (n-(i+1)):=by
 obtain ⟨k,rfl⟩:∃ k,n=i+1+k:=⟨n-(i+1),by omega⟩
 have e1:i+1+k-i=k+1:=by omega
 have e2:i+1+k-(i+1)=k:=by omega
 rw [e1,e2]
 show (if b.length<3+4*(i+1+k-(k+1))+4 then 5 else if (i+1+k-(k+1)=0∨k=0)∧wordB b (i+1+k-(k+1))=0 then 6 else wordsE b (i+1+k) k)=_
 have e3:i+1+k-(k+1)=i:=by omega
 have e4:(k=0)↔(i+1=i+1+k):=by omega
 rw [e3]
 simp only [e4]
def partB (b:List UInt8) (i j:Nat):Nat:=bv ((b.drop (3+4*i)).take j)
theorem partB_zero (b:List UInt8) (i:Nat):partB b i 0=0:=rfl
theorem partB_four (b:List UInt8) (i:Nat):partB b i 4=wordB b i:=rfl
theorem partB_succ (b:List UInt8) (i j:Nat) (h:3+4*i+j<b.length):partB b i (j+1)=partB b i j*256+hd b (3+4*i+j):=by
 unfold partB
 rw [bv_take _ _ (by rw [List.length_drop];omega)]
 congr 1
 rw [List.getElem_drop,hd_get b _ h]
theorem partB_lt (b:List UInt8) (i j:Nat) (h:j≤4):partB b i j<256^j:=by
 unfold partB
 have h1:=bv_lt ((b.drop (3+4*i)).take j)
 exact Nat.lt_of_lt_of_le h1 (Nat.pow_le_pow_right (by decide) (by rw [List.length_take];omega))
theorem wordB_lt (b:List UInt8) (i:Nat):wordB b i<4294967296:=partB_lt b i 4 (Nat.le_refl _)
theorem or_next (x y:Nat) (hx:x<16777216) (hy:y<256):bits .or .u32 (IntKind.u32.wrap ((x:Int)*256)) (y:Int)=((x*256+y:Nat):Int):=by
 have e:IntKind.u32.wrap ((x:Int)*256)=((x*256:Nat):Int):=by rw [IntKind.wrap_u32];omega
 rw [e,u32_or_nat _ _ (by omega) (by omega),or_byte32 x y hy]
def midP (b:List UInt8) (m i j:Nat):List Nat:=(magP (wordB b) m i).set (m-1-i) (partB b i j)
theorem midP_zero (b:List UInt8) (m i:Nat) (h:i<m):midP b m i 0=magP (wordB b) m i:=by
 unfold midP
 rw [partB_zero]
 have:=magP_cur (wordB b) m i h
 apply List.ext_getElem?
 intro k
 rw [List.getElem?_set]
 split
 ·rename_i e;subst e
  have:=(List.getElem?_eq_some_iff.1 this).1
  rw [if_pos this,magP_cur _ _ _ h]
 ·rfl
theorem midP_four (b:List UInt8) (m i:Nat) (h:i<m):midP b m i 4=magP (wordB b) m (i+1):=by
 unfold midP;rw [partB_four];exact magP_succ _ _ _ h
theorem midP_set (b:List UInt8) (m i j x:Nat):(midP b m i j).set (m-1-i) x=(magP (wordB b) m i).set (m-1-i) x:=by unfold midP;rw [List.set_set]
theorem midP_next (b:List UInt8) (m i j:Nat):(midP b m i j).set (m-1-i) (partB b i (j+1))=midP b m i (j+1):=by rw [midP_set];rfl
theorem midP_at (b:List UInt8) (m i j:Nat) (h:i<m):(midP b m i j)[m-1-i]?=some (partB b i j):=magP_get _ _ _ _ h
def MagW (w wr:World) (g:Nat) (L:List Nat):Prop:=Blk wr g 39 (u32n L).toArray∧Below w.heap.size w wr
theorem MagW.put {w wr:World} {g:Nat} {L:List Nat} (h:MagW w wr g L) (hg:w.heap.size≤g) (j x:Nat):MagW w (wr.setCell ⟨g,j,none⟩ (.int .u32 (x:Int))) g (L.set j x):=by
 obtain ⟨h3,h4⟩:=h
 refine ⟨?_,h4.setCell hg _⟩
 have:=h3.set_ j (.int .u32 (x:Int))
 rw [u32n_set] at this
 exact this
theorem MagW.at {w wr:World} {g:Nat} {L:List Nat} (h:MagW w wr g L) {j x:Nat} (hj:L[j]?=some x):wr.cell? ⟨g,j,none⟩=some (.int .u32 (x:Int)):=by
 rw [h.1.cell]
 simp [u32n,hj]
theorem MagW.drew {w wr:World} {g:Nat} {L:List Nat} (h:MagW w wr g L):MagW w wr.drew g L:=⟨h.1.drew,h.2.drew⟩
def SumAt (w:World) (base:Nat) (p:Value) (b:List UInt8):Prop :=
 ∃ g gm:Nat,p=.pointer (some ⟨g,0,none⟩)∧base≤g∧base≤gm∧g≠gm ∧
  Blk w g 198 #[.bool true,.int .u8 ((hd b 0-hd b 0/32%2*32:Nat):Int),.bool (decide (hd b 0/32%2=1)),.slice (some ⟨gm,0,none⟩) (hd b 1+hd b 2) (hd b 1+hd b 2)] ∧
  Blk w gm 39 (u32n (magP (wordB b) (hd b 1+hd b 2) (hd b 2))).toArray
def PtrAt (w:World) (B:Nat) (p:Value) (b:List UInt8) (e:Nat):Prop:=(e=0→SumAt w B p b)∧(e≠0→p=.pointer none)
set_option maxRecDepth 20000 in
set_option maxHeartbeats 16000000 in
theorem read_any (w:World) (B:Nat) (A:Option Addr) (c:Nat) (b:List UInt8) (hR:Rd w B 1 A b.length (u8s b)) (hB:B≤w.heap.size) (hl:b.length≤9223372036854775807) :
 Calls Tryz.prog 67 #[.slice A b.length c] w fun y w'=>∃ p:Value,y=.returned (.tuple #[p,.int .i64 (readE b:Int)])∧PtrAt w' w.heap.size p b (readE b)∧Below w.heap.size w w':=by
 have hh:=head_any w B A c b hR
 by_cases h0:headE b=0
 case neg =>
  have er:=readE_head h0
  rw [er]
  have t0:=i64_ne0 h0
  have HH:=Lib.hid hh;have H0:=Lib.hid h0
  clear h0 hh er
  generalize headE b=e at *
  go_enter Tryz.func67,Tryz.ntmps67
  go_wp2_with (go_at_call 132;(with_reducible refine HH.out.mono ?_);rintro y w1 ⟨rfl,hd1⟩)
  go_ret2
  exact ⟨_,rfl,⟨fun h=>absurd h H0.out,fun _=>rfl⟩,hd1.below (belR w)⟩
 rw [h0] at hh
 have HH:=Lib.hid hh;have HH0:=Lib.hid h0
 clear hh h0
 by_cases h3:3≤b.length
 case neg =>
  have er:=readE_short HH0.out h3
  rw [er]
  have t1:decide ((b.length:Int)<3)=true:=decide_eq_true (by omega)
  clear er
  go_enter Tryz.func67,Tryz.ntmps67
  go_wp2_with (go_at_call 132;(with_reducible refine HH.out.mono ?_);rintro y w1 ⟨rfl,hd1⟩)
  go_ret2
  exact ⟨_,rfl,⟨fun h=>absurd h (by decide),fun _=>rfl⟩,hd1.below (belR w)⟩
 have t1:decide ((b.length:Int)<3)=false:=decide_eq_false (by omega)
 have er:=readE_words HH0.out h3
 obtain ⟨o1,o2,o3⟩:=headE_ok HH0.out h3
 have HR:=Lib.hid hR
 obtain ⟨a,rfl,hab,k0⟩:=hR.byte (k:=0) (by omega)
 have hc:∀ W,Below w.heap.size w W→∀ i (h:i<b.length),W.cell? (a.add i)=some (.int .u8 ((hd b i:Nat):Int)):=fun W hb i h=>by
  obtain ⟨a',e,_,hx⟩:=(HR.out.below (hb.mono hB)).byte h
  injection e with e;subst e
  rw [hd_get _ _ h];exact hx
 clear k0
 have hlt:∀ i,hd b i<256:=fun i=>UInt8.toNat_lt _
 have HC:=Lib.hid hc;have HLT:=Lib.hid hlt
 have x0:=hlt 0;have x1:=hlt 1;have x2:=hlt 2
 have HWS:Hid (∀ i,i<hd b 2→wordsE b (hd b 2) (hd b 2-i)=if b.length<3+4*i+4 then 5 else if (i=0∨i+1=hd b 2)∧wordB b i=0 then 6 else wordsE b (hd b 2) (hd b 2-(i+1))):=Lib.hid fun i hi=>words_step b (hd b 2) i hi
 have HWE:=Lib.hid (words_end b (hd b 2))
 have d1:=hc w (belR w) 1 (by omega)
 have d2:=hc w (belR w) 2 (by omega)
 have d1b:=d1;have d2b:=d2
 rw [show (1:Nat)=0+1 from rfl,add_succ] at d1b
 rw [show (2:Nat)=1+1 from rfl,add_succ] at d2b
 simp only [show (0:Nat)+1=1 from rfl,show (1:Nat)+1=2 from rfl] at d1b d2b
 have q1:(1:Int)<(b.length:Int):=by omega
 have q2:(2:Int)<(b.length:Int):=by omega
 unfold PtrAt SumAt
 generalize hy1:hd b 1=y1 at *
 generalize hy2:hd b 2=n at *
 generalize hm:y1+n=m at *
 have wadd:IntKind.i64.wrap ((y1:Int)+(n:Int))=(m:Int):=by rw [IntWalk.i64_in _ (by omega)];omega
 have wy1:IntKind.i64.wrap (y1:Int)=(y1:Int):=IntWalk.i64_in _ (by omega)
 have wn:IntKind.i64.wrap (n:Int)=(n:Int):=IntWalk.i64_in _ (by omega)
 have hmk:=fun w=>run_make_row' (P:=Tryz.prog) 24 39 (.int .u32 0) 4 Tryz.underlying24 info_u32 rfl .i64 .i64 m (by omega) (by omega) w
 have HER:=Lib.hid er;have HHY:=Lib.hid (And.intro hy1 hy2)
 clear hc hlt hR er hy1 hy2
 go_enter Tryz.func67,Tryz.ntmps67
 go_wp2_with (go_at_call 132;(with_reducible refine HH.out.mono ?_);rintro y w1 ⟨rfl,j1,rfl⟩)
 go_quiet (fail)
 go_wp2
 clear d1 d2 d1b d2b
 have hM0:∀ q,MagW w ((w.drewN q).alloc (.cells (madeCells #[.int .u32 0] m) 39)) w.heap.size (magP (wordB b) m 0):=fun q=>by
  refine ⟨?_,(belA (belD (belR w) q) _)⟩
  have e:(u32n (magP (wordB b) m 0)).toArray=madeCells #[.int .u32 0] m:=by rw [made_u32];simp [magP]
  rw [e]
  exact Blk.new (w.drewN q) _ _
 have HM0:=Lib.hid hM0
 clear hM0 hmk
 go_loopw [32] (fun i wr=>∃ k:Nat,k≤n∧i=.int .i64 (k:Int)∧Hid (MagW w wr w.heap.size (magP (wordB b) m k))∧Hid (wordsE b n (n-k)=readE b)) (fun i _=>n-(intOf i).toNat)
 case atStart=>exact ⟨0,by omega,rfl,HM0.out _,by rw [Nat.sub_zero];exact HER.out.symm⟩
 case round =>
  obtain ⟨i,hi,rfl,HM,HE⟩:=hrel
  by_cases hlt:i<n
  ·have hws:=HWS.out i hlt
   rw [HE.out] at hws
   have q3:(i:Int)<(n:Int):=by omega
   obtain ⟨m1,hm1⟩:∃ m1,m1+1=m:=⟨m-1,by omega⟩
   obtain ⟨p,hp⟩:∃ p,p+i=m1:=⟨m1-i,by omega⟩
   obtain ⟨n1,hn1⟩:∃ n1,n1+1=n:=⟨n-1,by omega⟩
   obtain ⟨i4,hi4⟩:∃ i4,4*i=i4:=⟨_,rfl⟩
   obtain ⟨i43,hi43⟩:∃ i43,3+i4=i43:=⟨_,rfl⟩
   have w51:IntKind.i64.wrap ((m:Int)-1)=(m1:Int):=by rw [IntWalk.i64_in _ (by omega)];omega
   have w53:IntKind.i64.wrap ((m1:Int)-(i:Int))=(p:Int):=by rw [IntWalk.i64_in _ (by omega)];omega
   have w39:IntKind.i64.wrap (4*(i:Int))=(i4:Int):=by rw [IntWalk.i64_in _ (by omega)];omega
   have w40:IntKind.i64.wrap (3+(i4:Int))=(i43:Int):=by rw [IntWalk.i64_in _ (by omega)];omega
   have w87:IntKind.i64.wrap ((n:Int)-1)=(n1:Int):=by rw [IntWalk.i64_in _ (by omega)];omega
   have hpi:m-1-i=p:=by omega
   have c1:(0:Int)≤(p:Int):=by omega
   have c2:(p:Int)<(m:Int):=by omega
   have hM1:MagW w wr w.heap.size (midP b m i 0):=by rw [midP_zero b m i (by omega)];exact HM.out
   have HM1:=Lib.hid hM1;have HWS1:=Lib.hid hws
   clear hM1 hws HM HM0
   go_wp2
   go_loopw [35] (fun kv ws=>∃ k:Nat,k≤4∧kv=.int .i64 (k:Int)∧Hid (MagW w ws w.heap.size (midP b m i k))∧(k=0∨3+4*i+k≤b.length)) (fun kv _=>4-(intOf kv).toNat)
   case atStart=>exact ⟨0,by omega,rfl,HM1.out,.inl rfl⟩
   case round =>
    obtain ⟨k,hk,rfl,HM,hkl⟩:=hrel
    obtain ⟨at',hat⟩:∃ at',i43+k=at':=⟨_,rfl⟩
    have w42:IntKind.i64.wrap ((i43:Int)+(k:Int))=(at':Int):=by rw [IntWalk.i64_in _ (by omega)];omega
    by_cases hk4:k<4
    ·have g1:decide ((k:Int)<4)=true:=decide_eq_true (by omega)
     by_cases hal:at'<b.length
     ·have g2:decide ((b.length:Int)≤(at':Int))=false:=decide_eq_false (by omega)
      have c3:(0:Int)≤(at':Int):=by omega
      have c4:(at':Int)<(b.length:Int):=by omega
      have y0:=HM.out.at (midP_at b m i k (by omega))
      rw [hpi] at y0
      have z0:=HC.out wr HM.out.2 at' hal
      have hpx:=partB_lt b i k (by omega)
      have hpy:=HLT.out at'
      have hps:=partB_succ b i k (by omega)
      rw [show 3+4*i+k=at' from by omega] at hps
      have hpz:partB b i k<16777216:=Nat.lt_of_lt_of_le hpx (by have:=Nat.pow_le_pow_right (show 0<256 by decide) (show k≤3 by omega);simpa using this)
      have hor:=or_next (partB b i k) (hd b at') hpz hpy
      rw [←hps] at hor
      have wy:IntKind.u32.wrap ((hd b at':Nat):Int)=((hd b at':Nat):Int):=by rw [IntKind.wrap_u32];omega
      have hfz:=HM.out.drew.1.frozen p
      have hcz:wr.drew.cell? ⟨w.heap.size,p,none⟩=some (.int .u32 (partB b i k:Int)):=y0
      have HMN:Hid (MagW w (wr.drew.setCell ⟨w.heap.size,p,none⟩ (.int .u32 (partB b i (k+1):Int))) w.heap.size (midP b m i (k+1))):=Lib.hid (by
       have:=HM.out.drew.put (by omega) p (partB b i (k+1))
       rw [←hpi,midP_next,hpi] at this
       exact this)
      clear hpx hps hpz hpy
      generalize partB b i (k+1)=pz at *
      generalize partB b i k=px at *
      generalize hd b at'=py at *
      go_upto_region 17 with (fail)
      go_still_tail 24,(by kernel_rfl)
      go_wp2
      go_roundw
      case rel=>exact ⟨k+1,by omega,by go_num,HMN.out,.inr (by omega)⟩
      case measure=>simp [intOf];omega
     ·have g2:decide ((b.length:Int)≤(at':Int))=true:=decide_eq_true (by omega)
      have hws:=HWS1.out
      rw [if_pos (by omega)] at hws
      have HB5:=Lib.hid HM.out.2
      have HW5:=Lib.hid hws
      clear hws HM
      go_wp2
      go_ret2
      exact ⟨_,by rw [HW5.out];rfl,⟨fun h=>absurd (HW5.out.symm.trans h) (by decide),fun _=>rfl⟩,HB5.out⟩
    ·obtain rfl:k=4:=by omega
     have hk5:3+4*i+4≤b.length:=by omega
     have hws:=HWS1.out
     rw [if_neg (by omega)] at hws
     rw [midP_four b m i (by omega)] at HM
     have z0:=HM.out.at (magP_at (wordB b) m (i+1) i (by omega) (by omega))
     rw [hpi] at z0
     have HMF:=HM
     have hwl:=wordB_lt b i
     have g1:decide (((4:Nat):Int)<4)=false:=by decide
     have HB5:=Lib.hid HM.out.2
     by_cases hi0:i=0
     ·have g3:((i:Int)==0)=true:=by rw [beq_iff_eq];omega
      obtain rfl:p=m1:=by omega
      by_cases hw0:wordB b i=0
      ·have g4:((wordB b i:Int)==0)=true:=by rw [beq_iff_eq];omega
       rw [if_pos ⟨.inl hi0,hw0⟩] at hws
       have HW5:=Lib.hid hws
       clear hws HM hw0 HMF
       generalize wordB b i=wd at *
       go_wp2
       go_ret2
       exact ⟨_,by rw [HW5.out];rfl,⟨fun h=>absurd (HW5.out.symm.trans h) (by decide),fun _=>rfl⟩,HB5.out⟩
      ·have g4:((wordB b i:Int)==0)=false:=by rw [beq_eq_false_iff_ne];omega
       rw [if_neg fun hh=>hw0 hh.2] at hws
       have HW5:=Lib.hid hws
       by_cases hin:i=n1
       ·have g5:((i:Int)==(n1:Int))=true:=by rw [beq_iff_eq];omega
        have hyp:y1=p:=by omega
        have c5:(0:Int)≤(y1:Int):=by omega
        have c6:(y1:Int)<(m:Int):=by omega
        have z1:=z0
        rw [←hyp] at z1
        clear hws HM hw0 hyp hi0 hin
        generalize wordB b i=wd at *
        go_wp2
        go_roundw
        case rel=>exact ⟨i+1,by omega,by go_num,HMF.out,HW5.out.symm⟩
        case measure=>simp [intOf];omega
       ·have g5:((i:Int)==(n1:Int))=false:=by rw [beq_eq_false_iff_ne];omega
        clear hws HM hw0
        generalize wordB b i=wd at *
        go_wp2
        go_roundw
        case rel=>exact ⟨i+1,by omega,by go_num,HMF.out,HW5.out.symm⟩
        case measure=>simp [intOf];omega
     ·have g3:((i:Int)==0)=false:=by rw [beq_eq_false_iff_ne];omega
      by_cases hin:i=n1
      ·have g5:((i:Int)==(n1:Int))=true:=by rw [beq_iff_eq];omega
       have hyp:y1=p:=by omega
       have c5:(0:Int)≤(y1:Int):=by omega
       have c6:(y1:Int)<(m:Int):=by omega
       rw [←hyp] at z0
       clear hyp
       by_cases hw0:wordB b i=0
       ·have g4:((wordB b i:Int)==0)=true:=by rw [beq_iff_eq];omega
        rw [if_pos ⟨.inr (by omega),hw0⟩] at hws
        have HW5:=Lib.hid hws
        clear hws HM hw0 HMF
        generalize wordB b i=wd at *
        go_wp2
        go_ret2
        exact ⟨_,by rw [HW5.out];rfl,⟨fun h=>absurd (HW5.out.symm.trans h) (by decide),fun _=>rfl⟩,HB5.out⟩
       ·have g4:((wordB b i:Int)==0)=false:=by rw [beq_eq_false_iff_ne];omega
        rw [if_neg fun hh=>hw0 hh.2] at hws
        have HW5:=Lib.hid hws
        clear hws HM hw0
        generalize wordB b i=wd at *
        go_wp2
        go_roundw
        case rel=>exact ⟨i+1,by omega,by go_num,HMF.out,HW5.out.symm⟩
        case measure=>simp [intOf];omega
      ·have g5:((i:Int)==(n1:Int))=false:=by rw [beq_eq_false_iff_ne];omega
       rw [if_neg fun hh=>by omega] at hws
       have HW5:=Lib.hid hws
       clear hws HM
       generalize wordB b i=wd at *
       go_wp2
       go_roundw
       case rel=>exact ⟨i+1,by omega,by go_num,HMF.out,HW5.out.symm⟩
       case measure=>simp [intOf];omega
  ·obtain rfl:i=n:=by omega
   have he:=HE.out
   rw [Nat.sub_self,HWE.out] at he
   obtain ⟨n4,hn4⟩:∃ n4,4*i=n4:=⟨_,rfl⟩
   obtain ⟨n43,hn43⟩:∃ n43,3+n4=n43:=⟨_,rfl⟩
   have w101:IntKind.i64.wrap (4*(i:Int))=(n4:Int):=by rw [IntWalk.i64_in _ (by omega)];omega
   have w102:IntKind.i64.wrap (3+(n4:Int))=(n43:Int):=by rw [IntWalk.i64_in _ (by omega)];omega
   by_cases hmo:3+4*i<b.length
   ·have g1:decide ((n43:Int)<(b.length:Int))=true:=decide_eq_true (by omega)
    rw [if_pos hmo] at he
    have HW5:=Lib.hid he;have HB5:=Lib.hid HM.out.2
    clear he HM HM0 HE
    go_wp2
    go_ret2
    exact ⟨_,by rw [←HW5.out];rfl,⟨fun h=>absurd (HW5.out.trans h) (by decide),fun _=>rfl⟩,HB5.out⟩
   ·have g1:decide ((n43:Int)<(b.length:Int))=false:=decide_eq_false (by omega)
    rw [if_neg hmo] at he
    have HW5:=Lib.hid he
    have z0:=HC.out wr HM.out.2 0 (by omega)
    rw [add_zero'] at z0
    have hn32:bits .andNot .u8 ((hd b 0:Nat):Int) 32=((hd b 0-hd b 0/32%2*32:Nat):Int):=by
     have:=u8_andNot_nat (hd b 0) 32 x0 (by decide)
     rw [show hd b 0 &&& (255-32)=hd b 0-hd b 0/32%2*32 from not32 ⟨hd b 0,x0⟩] at this
     exact this
    have c3:(0:Int)<(b.length:Int):=by omega
    have p0:hd b 0/32%2=0∨hd b 0/32%2=1:=by omega
    have a32:bits .and .u8 ((hd b 0:Nat):Int) 32=((hd b 0/32%2*32:Nat):Int):=by
     have:=u8_and_nat (hd b 0) 32 x0 (by decide)
     rw [show hd b 0 &&& 32=hd b 0/32%2*32 from and32 ⟨hd b 0,x0⟩] at this
     exact this
    obtain ⟨ct,hct⟩:∃ ct,hd b 0-hd b 0/32%2*32=ct:=⟨_,rfl⟩
    rw [hct] at hn32
    have HCT:=Lib.hid hct
    clear he HM0 HE hct
    rcases p0 with hp|hp
    ·rw [hp] at a32
     have a32':bits .and .u8 ((hd b 0:Nat):Int) 32=0:=a32
     have HP:=Lib.hid hp
     clear a32 hp
     go_upto_region 24 with (fail)
     go_region_with (fail)
     all_goals go_wp2
     all_goals go_ret2
     all_goals exact ⟨_,by rw [←HW5.out];rfl,⟨fun _=>⟨_,w.heap.size,rfl,HM.out.2.size,Nat.le_refl _,(by have:=HM.out.1.lt;omega),by rw [HCT.out,HP.out];exact (Blk.new _ _ _).drew,(HM.out.1.alloc _).drew⟩,fun h=>absurd HW5.out.symm h⟩,(belA HM.out.2 _).drew⟩
    ·rw [hp] at a32
     have a32':bits .and .u8 ((hd b 0:Nat):Int) 32=32:=a32
     have HP:=Lib.hid hp
     clear a32 hp
     go_upto_region 24 with (fail)
     go_region_with (fail)
     all_goals go_wp2
     all_goals go_ret2
     all_goals exact ⟨_,by rw [←HW5.out];rfl,⟨fun _=>⟨_,w.heap.size,rfl,HM.out.2.size,Nat.le_refl _,(by have:=HM.out.1.lt;omega),by rw [HCT.out,HP.out];exact (Blk.new _ _ _).drew,(HM.out.1.alloc _).drew⟩,fun h=>absurd HW5.out.symm h⟩,(belA HM.out.2 _).drew⟩
end Go.Proofs.YtfhmaincnlaapaaGreat
