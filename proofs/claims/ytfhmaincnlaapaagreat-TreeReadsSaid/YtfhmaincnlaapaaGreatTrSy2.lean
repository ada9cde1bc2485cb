/- STATES OF A FRAME TOLD BY TREES, AND WHAT EACH OPERATION MAKES OF THEM. -/
import Derived.Test.YtfhmaincnlaapaaGreatRows
import Derived.WalkKit
import Derived.ProofKit
import Derived.OpenShut
import Derived.WalkLawsBesides
import Derived.WalkSpells
import Derived.Handy
import Derived.Lib.Hide
import Derived.Deep.QuietTactic
import Derived.BigQuiet
import Derived.Deep.AppendLies
import Derived.Deep.Draws
import Derived.Deep.OwnRows
import Derived.Maps.AppendAt
import Derived.Maps.Range
import Derived.Deep.RegionWith
import Derived.Deep.RegionHeld3
import Derived.Deep.DeepFit
import Derived.ChangeOld
import Derived.ShutString
import Derived.Lib.SmallJoins
import Derived.Deep.Slices
import Derived.Deep.Fields
import Derived.Laws.Cover2
namespace Go.Proofs.YtfhmaincnlaapaaGreat
open Go.ChangeShapes Go.WideShapes Go.ChangeAt Go.RowKit
theorem belT {a b c:World} (h:Below a.heap.size a b) (k:Below b.heap.size b c):Below a.heap.size a c:=h.trans (k.mono h.size)
theorem belD {a b:World} (h:Below a.heap.size a b) (n:Nat):Below a.heap.size a (b.drewN n):=⟨h.os,h.tape,h.output,h.size,h.block⟩
theorem belR (a:World):Below a.heap.size a a:=Below.refl _ _
def lenOf:Value→Nat
 | .slice _ n _=>n
 | _=>0
def u8s (l:List UInt8):List Value:=l.map fun b=>.int .u8 (b.toNat:Int)
theorem u8s_length (l:List UInt8):(u8s l).length=l.length:=by simp [u8s]
theorem u8s_append (l m:List UInt8):u8s (l++m)=u8s l++u8s m:=by simp [u8s]
theorem u8s_get (l:List UInt8) (j:Nat) (h:j<l.length):(u8s l)[j]?=some (.int .u8 ((l[j]'h).toNat:Int)):=by
 simp [u8s,h]
theorem u8s_one (l:List UInt8):∀ u∈u8s l,u.oneCell'=true:=by
 intro u hu
 simp only [u8s,List.mem_map] at hu
 obtain ⟨b,_,rfl⟩:=hu
 rfl
theorem block_add (a:Addr) (n:Nat):(a.add n).block=a.block:=by unfold Addr.add;split<;>rfl
theorem add_succ (a:Addr) (k:Nat):a.add (k+1)=⟨a.block,a.off+(k+1),none⟩:=by simp [Addr.add]
theorem add_zero' (a:Addr):a.add 0=a:=by simp [Addr.add]
theorem add_add' (a:Addr) (i j:Nat):(a.add i).add j=a.add (i+j):=by
 unfold Addr.add
 by_cases hi:i=0<;>by_cases hj:j=0<;>simp [hi,hj,Nat.add_assoc]
def Rd (w:World) (B size:Nat) (A:Option Addr) (n:Nat) (xs:List Value):Prop :=
 xs.length=n*size∧(0<n→∃ a,A=some a∧a.block<B∧∀ j u,xs[j]?=some u→w.cell? (a.add j)=some u)
section
variable {w w':World} {B B' size n:Nat} {A:Option Addr} {xs:List Value}
theorem Rd.nil:Rd w B size A 0 []:=⟨by simp,fun h=>absurd h (by omega)⟩
theorem Rd.keep (h:Rd w B size A n xs) (hk:∀ p:Addr,p.block<B→w'.cell? p=w.cell? p):Rd w' B size A n xs :=
 ⟨h.1,fun hn=>by
  obtain ⟨a,e,hb,hc⟩:=h.2 hn
  exact ⟨a,e,hb,fun j u hu=>(hk _ (by rw [block_add];exact hb)).trans (hc j u hu)⟩⟩
theorem Rd.more (h:Rd w B size A n xs) (hB:B≤B'):Rd w B' size A n xs :=
 ⟨h.1,fun hn=>by
  obtain ⟨a,e,hb,hc⟩:=h.2 hn
  exact ⟨a,e,by omega,hc⟩⟩
theorem Rd.below (h:Rd w B size A n xs) (hb:Below B w w'):Rd w' B size A n xs:=h.keep fun _ hp=>hb.cell hp
theorem Rd.drewN (h:Rd w B size A n xs) (k:Nat):Rd (w.drewN k) B size A n xs:=h
theorem Rd.drew (h:Rd w B size A n xs):Rd w.drew B size A n xs:=h
theorem Rd.alloc (h:Rd w B size A n xs) (hB:B≤w.heap.size) (o:Obj):Rd (w.alloc o) B size A n xs:=h.keep fun p hp=>World.cell?_alloc_lt w o p (by omega)
theorem Rd.at1 {k:Nat} (h:Rd w B 1 A n xs) (hk:k<n):∃ a u,A=some a∧a.block<B∧xs[k]?=some u∧w.cell? (a.add k)=some u:=by
 obtain ⟨a,e,hb,hc⟩:=h.2 (by omega)
 have hl:k<xs.length:=by have:=h.1;omega
 exact ⟨a,xs[k],e,hb,List.getElem?_eq_getElem hl,hc k _ (List.getElem?_eq_getElem hl)⟩
theorem Rd.u8 {l:List UInt8} (h:Rd w B 1 A n (u8s l)):l.length=n:=by have:=h.1;rw [u8s_length] at this;omega
theorem Rd.byte {l:List UInt8} {k:Nat} (h:Rd w B 1 A n (u8s l)) (hk:k<l.length):∃ a,A=some a∧a.block<B∧w.cell? (a.add k)=some (.int .u8 ((l[k]'hk).toNat:Int)):=by
 obtain ⟨a,u,e,hb,hx,hc⟩:=h.at1 (k:=k) (by have:=h.u8;omega)
 rw [u8s_get l k hk] at hx
 injection hx with hx
 exact ⟨a,e,hb,by rw [hc,hx]⟩
theorem Rd.own {base:Nat} {e:TypeId} {c:Nat} (h:w.ownsRow base e size (.slice A n c) n xs):Rd w w.heap.size size A n xs:=by
 refine ⟨h.1,fun hn=>?_⟩
 obtain ⟨g,cap,hv,_,hlt⟩:=h.form hn
 have hA:A=some ⟨g,0,none⟩:=by injection hv
 subst hA
 exact ⟨_,rfl,hlt,h.cells (g:=g) rfl⟩
end
theorem Rd.cut {w:World} {B size n:Nat} {A:Option Addr} {xs:List Value} (h:Rd w B size A n xs) {k c:Nat} (hk:k≤n) (hc:n≤c) :
 Rd w B size (if c=k then A else A.map (·.add (k*size))) (n-k) (xs.drop (k*size)):=by
 refine ⟨by rw [List.length_drop,h.1,Nat.sub_mul],fun hn=>?_⟩
 obtain ⟨a,rfl,hb,hcell⟩:=h.2 (by omega)
 rw [if_neg (by omega)]
 refine ⟨a.add (k*size),rfl,by rw [block_add];exact hb,fun j u hu=>?_⟩
 rw [add_add']
 exact hcell _ u (by rw [←hu,List.getElem?_drop])
theorem Rd.take {w:World} {B n k:Nat} {A:Option Addr} {l:List UInt8} (h:Rd w B 1 A n (u8s l)) (hk:k≤n):Rd w B 1 A k (u8s (l.take k)):=by
 have hl:=h.u8
 refine ⟨by rw [u8s_length,List.length_take];omega,fun hn=>?_⟩
 obtain ⟨a,rfl,hb,hcell⟩:=h.2 (by omega)
 refine ⟨a,rfl,hb,fun j u hu=>hcell j u ?_⟩
 unfold u8s at *
 rw [List.getElem?_map,List.getElem?_take] at hu
 split at hu
 ·rw [List.getElem?_map];exact hu
 ·cases hu
theorem u8s_drop (l:List UInt8) (k:Nat):(u8s l).drop k=u8s (l.drop k):=by simp [u8s,List.map_drop]
theorem Rd.rest {w:World} {B n:Nat} {a:Addr} {x:UInt8} {t:List UInt8} (h:Rd w B 1 (some a) (n+1) (u8s (x::t))):Rd w B 1 (some ⟨a.block,a.off+1,none⟩) n (u8s t):=by
 have:=h.cut (k:=1) (c:=n+2) (by omega) (by omega)
 rw [if_neg (by omega),u8s_drop] at this
 simpa [Addr.add] using this
theorem Rd.rest0 {w:World} {B n:Nat} {a:Addr} {x:UInt8} {t:List UInt8} (h:Rd w B 1 (some a) (n+1) (u8s (x::t))) (h0:n=0):Rd w B 1 (some a) n (u8s t):=by
 subst h0
 have hl:=h.u8
 have:t=[]:=List.eq_nil_of_length_eq_zero (by simpa using hl)
 subst this
 exact ⟨by simp [u8s],fun h=>by omega⟩
theorem below_drewN {B:Nat} {a w:World} (h:Below B a w) (n:Nat):Below B a (w.drewN n):=⟨h.os,h.tape,h.output,h.size,h.block⟩
def Appd (w w':World) (v v':Value):Prop:=w.grownBy w' v.ownBlock∧(v'.ownBlock=v.ownBlock∨∃ k,v'.ownBlock=some k∧w.heap.size≤k)
theorem Appd.refl (w:World) (v:Value):Appd w w v v:=⟨World.grownBy.refl w _,.inl rfl⟩
theorem Appd.trans {a b c:World} {u v x:Value} (h:Appd a b u v) (k:Appd b c v x):Appd a c u x:=by
 refine ⟨h.1.andThen k.1 fun j hj=>?_,?_⟩
 ·rcases h.2 with e|⟨i,e,hi⟩
  ·exact .inr (by rw [←e];exact hj)
  ·rw [e] at hj;injection hj with hj;exact .inl (by omega)
 ·rcases k.2 with e|⟨i,e,hi⟩
  ·rcases h.2 with e'|⟨i',e',hi'⟩
   ·exact .inl (e.trans e')
   ·exact .inr ⟨i',e.trans e',hi'⟩
  ·exact .inr ⟨i,e,Nat.le_trans h.1.size hi⟩
theorem Appd.drewN {a b:World} {u v:Value} (h:Appd a b u v) (n:Nat):Appd a (b.drewN n) u v:=⟨⟨h.1.os,h.1.tape,h.1.output,h.1.size,h.1.block⟩,h.2⟩
theorem Appd.drew {a b:World} {u v:Value} (h:Appd a b u v):Appd a b.drew u v:=⟨⟨h.1.os,h.1.tape,h.1.output,h.1.size,h.1.block⟩,h.2⟩
theorem Appd.alloc {a b:World} {u v:Value} (h:Appd a b u v) (o:Obj):Appd a (b.alloc o) u v :=
 ⟨h.1.andThen (World.grownBy_alloc b o none) (fun j hj=>by cases hj),h.2⟩
theorem Appd.of_alloc {a b:World} {u v:Value} {o:Obj} (h:Appd (a.alloc o) b u v):Appd a b u v:=by
 refine ⟨(World.grownBy_alloc a o u.ownBlock).trans h.1,h.2.imp id ?_⟩
 rintro ⟨k,e,hk⟩
 have:(a.alloc o).heap.size=a.heap.size+1:=by simp
 exact ⟨k,e,by omega⟩
theorem u8s_snoc (l:List UInt8) (b:UInt8) (u:Value) (h:u=.int .u8 (b.toNat:Int)):u8s l ++ [u]=u8s (l ++ [b]):=by rw [h];simp [u8s]
theorem Appd.below {a b:World} {u v:Value} {B n:Nat} {e:TypeId} {size:Nat} {xs:List Value} (h:Appd a b u v) (hB:B≤a.heap.size) (ho:a.ownsRow B e size u n xs):Below B a b :=
 (Below.refl _ _).grown h.1 hB fun k hk=>(ho.lt k hk).1
theorem Appd.below_nil {a b:World} {v:Value} {B:Nat} (h:Appd a b (.slice none 0 0) v) (hB:B≤a.heap.size):Below B a b :=
 (Below.refl _ _).grown h.1 hB fun k hk=>by cases hk
theorem Appd.kept {a b:World} {u v x:Value} {B n:Nat} {e:TypeId} {size:Nat} {xs:List Value} (h:Appd a b u v) (ho:a.ownsRow B e size x n xs) (hne:x.ownBlock=none∨x.ownBlock≠u.ownBlock):b.ownsRow B e size x n xs :=
 ho.kept h.1 hne
theorem own_base {w:World} {base base' n:Nat} {e:TypeId} {size:Nat} {v:Value} {xs:List Value} (h:w.ownsRow base e size v n xs) (hb:∀ k,v.ownBlock=some k→base'≤k):w.ownsRow base' e size v n xs:=by
 refine ⟨h.1,?_⟩
 rcases h.2 with h2|⟨g,cap,cur,rfl,hg,r⟩
 ·exact .inl h2
 ·exact .inr ⟨g,cap,cur,rfl,hb g rfl,r⟩
theorem own_mono {w:World} {base base' n:Nat} {e:TypeId} {size:Nat} {v:Value} {xs:List Value} (h:w.ownsRow base e size v n xs) (hb:base'≤base):w.ownsRow base' e size v n xs :=
 own_base h fun k hk=>Nat.le_trans hb (h.lt k hk).1
theorem own_below {w w':World} {base n:Nat} {e:TypeId} {size:Nat} {v:Value} {xs:List Value} (h:w.ownsRow base e size v n xs) {B:Nat} (hb:Below B w w') (hB:w.heap.size≤B):w'.ownsRow base e size v n xs:=by
 refine ⟨h.1,?_⟩
 rcases h.2 with h2|⟨g,cap,cur,rfl,hg,hh,r⟩
 ·exact .inl h2
 ·exact .inr ⟨g,cap,cur,rfl,hg,by rw [hb.block g (by have:=(Array.getElem?_eq_some_iff.1 hh).1;omega)];exact hh,r⟩
theorem own_drewN {w:World} {base n:Nat} {e:TypeId} {size:Nat} {v:Value} {xs:List Value} (h:w.ownsRow base e size v n xs) (k:Nat):(w.drewN k).ownsRow base e size v n xs:=h
section
variable {P:Program}
theorem wpList_app1 {ops:Array Oper} {rest:List Oper} {o:Oper} {a:Act} {Q:Exit→Act→World→Prop} (w0:World) (u:Value) (hu:u.oneCell'=true) (hgd:o.guard=none) (s x:Operand) (t:TypeId)
 (ho:o.op=.call { callee:=.builtin .append,args:=#[s,x],argTypes:=#[t,t] })
 (base:Nat) (e:TypeId) (z:Value) (bytes:Nat) (hinf:(P.info? e).map (fun i=>(i.zero,i.size,i.bytes))=some (some z,1,bytes)) (hzs:z.cells.size=1) (ht:P.underlying t=some (.slice e))
 (v:Value) (n:Nat) (xs:List Value) (hown:w0.ownsRow base e 1 v n xs) (hs:a.eval s=v) (hx:a.eval x=.slice (some ⟨w0.heap.size,0,none⟩) 1 1)
 (hbytes:(n+1)*bytes≤140737488355328) (h63:n+1≤140737488355328) (hbase:base≤w0.heap.size)
 (h:∀ v' w',w'.ownsRow base e 1 v' (n+1) (xs ++ [u])→Appd w0 w' v v'→wpList P ops Q rest (a.put o.dst v') w') :
 wpList P ops Q (o::rest) a (w0.alloc (.cells #[u] e)):=by
 obtain ⟨i,hi,hz,hs1,hby⟩:=info_parts hinf
 have hsz:(w0.alloc (.cells #[u] e)).heap.size=w0.heap.size+1:=by simp
 refine wpList_append_own_at _ hgd s x t ho base e i z 1 bytes ht hi hz hs1 hby hzs (by decide) v n xs hs (hown.alloc _) ⟨w0.heap.size,0,none⟩ 1 1 [u] hx rfl
  (cell_one_new _ _ _) (by simpa using hu) (by simp only [maxLen];omega) hbytes (by omega) ?_
 intro v' w' h1 h2 _ h4
 exact h v' w' h1 (Appd.of_alloc ⟨h2,h4.imp id fun e=>⟨_,e,Nat.le_refl _⟩⟩)
theorem wpList_appS {ops:Array Oper} {rest:List Oper} {o:Oper} {a:Act} {Q:Exit→Act→World→Prop} (w:World) (hgd:o.guard=none) (s x:Operand) (t:TypeId)
 (ho:o.op=.call { callee:=.builtin .append,args:=#[s,x],argTypes:=#[t,t] })
 (base:Nat) (e:TypeId) (z:Value) (size bytes:Nat) (hinf:(P.info? e).map (fun i=>(i.zero,i.size,i.bytes))=some (some z,size,bytes)) (hzs:z.cells.size=size) (hsz:0<size) (ht:P.underlying t=some (.slice e))
 (v:Value) (n:Nat) (xs:List Value) (hown:w.ownsRow base e size v n xs) (hs:a.eval s=v)
 (B:Nat) (A:Option Addr) (m c:Nat) (news:List Value) (hr:Rd w B size A m news) (hx:a.eval x=.slice A m c) (h1:∀ u∈news,u.oneCell'=true)
 (hbytes:(n+m)*bytes≤140737488355328) (h63:n+m≤140737488355328) (hbase:base≤w.heap.size)
 (h:∀ v' w',w'.ownsRow base e size v' (n+m) (xs++news)→Appd w w' v v'→wpList P ops Q rest (a.put o.dst v') w') :
 wpList P ops Q (o::rest) a w:=by
 obtain ⟨i,hi,hz,hs1,hby⟩:=info_parts hinf
 rcases A with _|ad
 ·have hm:m=0:=by
   rcases Nat.eq_zero_or_pos m with h0|h0
   ·exact h0
   ·obtain ⟨_,h,_⟩:=hr.2 h0
    cases h
  subst hm
  have hn:news=[]:=List.eq_nil_of_length_eq_zero (by simpa using hr.1)
  subst hn
  have hrun:(Builtin.append_ #[t,t] o.type #[v,.slice none 0 c]).run P w=.ok v w:=by
   rcases hown.2 with ⟨rfl,rfl⟩|⟨g,cap,cur,rfl,_,_,hnc,_⟩
   ·simp [Builtin.append_,run_underlying ht,sizeOf,typeInfo,hi,Builtin.lenOf,Builtin.firstCells]
   ·simp [Builtin.append_,run_underlying ht,sizeOf,typeInfo,hi,Builtin.lenOf,Builtin.firstCells,hnc,storeCells]
  refine wpList_plain hgd fun K hK=>?_
  unfold Oper.wp execOp
  simp only [ho,resolve,invoke,builtin,Sem.run_bind,Sem.run_pure,Result.andThen_ok,List.map_toArray,List.map_cons,List.map_nil,hs,hx,hrun]
  exact hK _ _ (h v w (by simpa using hown) (Appd.refl _ _))
 ·have hcells:∀ j u,news[j]?=some u→w.cell? (ad.add j)=some u:=by
   intro j u hu
   rcases Nat.eq_zero_or_pos m with h0|h0
   ·subst h0
    have hn:news=[]:=List.eq_nil_of_length_eq_zero (by simpa using hr.1)
    subst hn
    simp at hu
   ·obtain ⟨ad',h,_,hc⟩:=hr.2 h0
    injection h with h
    subst h
    exact hc j u hu
  refine wpList_append_own_at _ hgd s x t ho base e i z size bytes ht hi hz hs1 hby hzs hsz v n xs hs hown ad m c news hx hr.1 hcells h1 (by simp only [maxLen];omega) hbytes hbase ?_
  intro v' w' h1 h2 _ h4
  exact h v' w' h1 ⟨h2,h4.imp id fun e=>⟨_,e,Nat.le_refl _⟩⟩
end
theorem own_form {w:World} {base n:Nat} {e:TypeId} {size:Nat} {v:Value} {xs:List Value} (h:w.ownsRow base e size v n xs):∃ A c,v=.slice A n c∧n≤c∧c≤maxLen∧n≤maxLen:=by
 rcases h.2 with ⟨rfl,rfl⟩|⟨g,cap,cur,rfl,_,_,hnc,hcm,_⟩
 ·exact ⟨none,0,rfl,Nat.le_refl _,by simp [maxLen],by simp [maxLen]⟩
 ·exact ⟨_,cap,rfl,hnc,hcm,Nat.le_trans hnc hcm⟩
theorem run_str {P:Program} {w:World} {src dst e:TypeId} {B n c:Nat} {A:Option Addr} {l:List UInt8} (h:Rd w B 1 A n (u8s l)) (hs:P.underlying src=some (.slice e)) (he:P.underlying e=some (.int .u8)) (hd:P.underlying dst=some .string) :
 (convert src dst (.slice A n c)).run P w=.ok (.string ⟨l.toArray⟩) w:=by
 obtain rfl:n=l.length:=h.u8.symm
 cases A with
 | none =>
   have h0:l=[]:=by
    apply List.eq_nil_of_length_eq_zero
    rcases Nat.eq_zero_or_pos l.length with h0|h0
    ·exact h0
    ·obtain ⟨_,h,_⟩:=h.2 h0;cases h
   subst h0
   exact run_convert_bytes_nil w src e hs he _ _ dst hd
 | some a =>
   refine run_convert_bytes_back w src dst e a c l hs he hd fun j hj=>?_
   obtain ⟨a',e',_,hc⟩:=h.byte hj
   injection e' with e'
   subst e'
   exact hc
set_option linter.unusedVariables false
def Blk (w:World) (g:Nat) (t:TypeId) (cs:Array Value):Prop:=w.heap[g]?=some (.cells cs t (0,0))
def Drw (w w':World):Prop:=∃ k,w'=w.drewN k
theorem Drw.refl (w:World):Drw w w:=⟨0,rfl⟩
theorem Drw.trans {a b c:World} (h:Drw a b) (k:Drw b c):Drw a c:=by
 obtain ⟨i,rfl⟩:=h;obtain ⟨j,rfl⟩:=k;exact ⟨_,World.drewN_drewN _ _ _⟩
theorem Drw.drew {a b:World} (h:Drw a b):Drw a b.drew:=h.trans ⟨1,rfl⟩
theorem Drw.drewN {a b:World} (h:Drw a b) (k:Nat):Drw a (b.drewN k):=h.trans ⟨k,rfl⟩
theorem Drw.below {B:Nat} {a b c:World} (h:Drw b c) (k:Below B a b):Below B a c:=by obtain ⟨i,rfl⟩:=h;exact below_drewN k i
section
variable {w w':World} {g:Nat} {t:TypeId} {cs:Array Value}
theorem Blk.lt (h:Blk w g t cs):g<w.heap.size:=by
 rcases Nat.lt_or_ge g w.heap.size with hlt|hge
 ·exact hlt
 ·unfold Blk at h;rw [Array.getElem?_eq_none hge] at h;cases h
theorem Blk.cell (h:Blk w g t cs) (i:Nat):w.cell? ⟨g,i,none⟩=cs[i]?:=cell_of_row w g i cs t (0,0) h
theorem Blk.frozen (h:Blk w g t cs) (i:Nat):w.frozen? ⟨g,i,none⟩=false:=by
 unfold Blk at h
 simp [World.frozen?,h]
theorem Blk.new (w:World) (t:TypeId) (cs:Array Value):Blk (w.alloc (.cells cs t)) w.heap.size t cs:=heap_alloc_new w _
theorem Blk.drew (h:Blk w g t cs):Blk w.drew g t cs:=h
theorem Blk.drewN (h:Blk w g t cs) (n:Nat):Blk (w.drewN n) g t cs:=h
theorem Blk.drw (h:Blk w g t cs) (k:Drw w w'):Blk w' g t cs:=by obtain ⟨n,rfl⟩:=k;exact h
theorem Blk.alloc (h:Blk w g t cs) (o:Obj):Blk (w.alloc o) g t cs:=(Below.heap_alloc w o g h.lt).trans h
theorem Blk.set_ (h:Blk w g t cs) (i:Nat) (u:Value):Blk (w.setCell ⟨g,i,none⟩ u) g t (cs.setIfInBounds i u):=by
 unfold Blk at h ⊢
 simp [World.setCell,Array.getElem?_modify,h]
theorem Blk.far (h:Blk w g t cs) {p:Addr} (hp:g≠p.block) (u:Value):Blk (w.setCell p u) g t cs:=(Below.heap_setCell w p u g hp).trans h
theorem Blk.below {B:Nat} (h:Blk w g t cs) (hb:Below B w w') (hg:g<B):Blk w' g t cs:=(hb.block g hg).trans h
theorem Blk.grown {row:Option Nat} (h:Blk w g t cs) (hb:w.grownBy w' row) (hg:some g≠row):Blk w' g t cs:=(hb.block g h.lt hg).trans h
theorem Blk.ne_ {g':Nat} {t':TypeId} {cs':Array Value} (h:Blk w g t cs) (h':Blk w g' t' cs') (hne:t≠t'):g≠g':=by
 rintro rfl
 unfold Blk at h h'
 rw [h] at h'
 injection h' with h'
 injection h' with _ ht
 exact hne ht
theorem own_blk_ne {base:Nat} {e:TypeId} {size n:Nat} {v:Value} {xs:List Value} (h:w.ownsRow base e size v n xs) (hg:Blk w g t cs) (hne:e≠t):v.ownBlock≠some g:=by
 rcases h.2 with ⟨rfl,_⟩|⟨g',cap,cur,rfl,_,hh,_⟩
 ·simp [Value.ownBlock]
 ·intro he
  have:g'=g:=by simpa [Value.ownBlock] using he
  subst this
  exact Blk.ne_ (t:=e) hh hg hne rfl
theorem Appd.blk {v v':Value} (h:Appd w w' v v') (hg:Blk w g t cs) (hne:v.ownBlock≠some g):Blk w' g t cs:=hg.grown h.1 (fun e=>hne e.symm)
end
def Only (g:Nat) (a w:World):Prop:=a.grownBy w (some g)
section
variable {a b c w:World} {g:Nat}
theorem Only.refl (g:Nat) (a:World):Only g a a:=World.grownBy.refl a _
theorem Only.trans (h:Only g a b) (k:Only g b c):Only g a c :=
 ⟨k.os.trans h.os,k.tape.trans h.tape,k.output.trans h.output,Nat.le_trans h.size k.size,fun i hi hne=>(k.block i (Nat.lt_of_lt_of_le hi h.size) hne).trans (h.block i hi hne)⟩
theorem Only.drewN (h:Only g a w) (n:Nat):Only g a (w.drewN n):=⟨h.os,h.tape,h.output,h.size,h.block⟩
theorem Only.drew (h:Only g a w):Only g a w.drew:=⟨h.os,h.tape,h.output,h.size,h.block⟩
theorem Only.drw (h:Only g a b) (k:Drw b c):Only g a c:=by obtain ⟨n,rfl⟩:=k;exact h.drewN n
theorem Only.alloc (h:Only g a w) (o:Obj):Only g a (w.alloc o) :=
 ⟨h.os,h.tape,h.output,Nat.le_trans h.size (by simp),fun i hi hne=>(Below.heap_alloc w o i (Nat.lt_of_lt_of_le hi h.size)).trans (h.block i hi hne)⟩
theorem Only.set_ (h:Only g a w) {p:Addr} (hp:p.block=g∨a.heap.size≤p.block) (u:Value):Only g a (w.setCell p u) :=
 ⟨h.os,h.tape,h.output,by simpa [World.setCell] using h.size,fun i hi hne=>(Below.heap_setCell w p u i (by
  rintro rfl
  rcases hp with hp|hp
  ·exact hne (by rw [hp])
  ·omega)).trans (h.block i hi hne)⟩
theorem Only.of_below (h:Below a.heap.size a w) (g:Nat):Only g a w:=⟨h.os,h.tape,h.output,h.size,fun i hi _=>h.block i hi⟩
theorem Only.belowT (h:Only g a b) (k:Below b.heap.size b c):Only g a c:=h.trans (Only.of_below k g)
theorem Only.appd {v v':Value} (h:Only g a b) (k:Appd b c v v') (hv:∀ j,v.ownBlock=some j→j=g∨a.heap.size≤j):Only g a c :=
 ⟨k.1.os.trans h.os,k.1.tape.trans h.tape,k.1.output.trans h.output,Nat.le_trans h.size k.1.size,fun i hi hne=>(k.1.block i (Nat.lt_of_lt_of_le hi h.size) (by
  intro e
  rcases hv i e.symm with e'|e'
  ·exact hne (by rw [e'])
  ·omega)).trans (h.block i hi hne)⟩
theorem Only.below {B:Nat} (h:Only g a b) (hB:B≤g) (hs:B≤a.heap.size):Below B a b :=
 ⟨h.os,h.tape,h.output,h.size,fun i hi=>h.block i (by omega) (by intro e;injection e with e;omega)⟩
theorem Only.blk {t:TypeId} {g':Nat} {cs:Array Value} (h:Only g a b) (hb:Blk a g' t cs) (hne:g'≠g):Blk b g' t cs:=hb.grown h (by intro e;injection e with e;exact hne e)
theorem Only.rd {B size n:Nat} {A:Option Addr} {xs:List Value} (h:Only g a b) (hr:Rd a B size A n xs) (hB:B≤g) (hs:B≤a.heap.size):Rd b B size A n xs:=hr.below (h.below hB hs)
theorem Only.own {base n:Nat} {e:TypeId} {size:Nat} {v:Value} {xs:List Value} (h:Only g a b) (ho:a.ownsRow base e size v n xs) (hne:v.ownBlock≠some g):b.ownsRow base e size v n xs:=by
 refine ⟨ho.1,?_⟩
 rcases ho.2 with h2|⟨g',cap,cur,rfl,hg,hh,r⟩
 ·exact .inl h2
 ·refine .inr ⟨g',cap,cur,rfl,hg,?_,r⟩
  rw [h.block g' (by have:=(Array.getElem?_eq_some_iff.1 hh).1;omega) (by intro e;exact hne e)];exact hh
end
theorem belA {a b:World} (h:Below a.heap.size a b) (o:Obj):Below a.heap.size a (b.alloc o):=h.alloc h.size o
theorem belW {a b c:World} (h:Below a.heap.size a b) (k:Drw b c):Below a.heap.size a c:=k.below h
theorem sdN:∀ (w:World) (n:Nat) (a:Addr) (v:Value),(w.drewN n).setCell a v=(w.setCell a v).drewN n:=fun _ _ _ _=>rfl
theorem adN:∀ (w:World) (n:Nat) (o:Obj),(w.drewN n).alloc o=(w.alloc o).drewN n:=fun _ _ _=>rfl
theorem qcallS {P:Program} {f:FuncId} {args:Array Value} {w:World} {n:Nat} {v:Value}
 (h:Calls P f args (w.drewN n) fun e w'=>e=.returned v∧w.drewN n=w'):Calls P f args (w.drewN n) fun e w''=>e=.returned v∧∃ m,w''=w.drewN m :=
 h.mono fun _ _ ⟨he,hm⟩=>⟨he,n,hm.symm⟩
end Go.Proofs.YtfhmaincnlaapaaGreat
namespace Go.Proofs.YtfhmaincnlaapaaGreat
open Go.ChangeShapes Go.WideShapes Go.ChangeAt Go.RowKit Go.Deep Go.Joins
open Go.ChangeMaps (open_string shut_string)
set_option linter.unusedVariables false
theorem laidOut:laidOutB Tryz.prog=true:=by kernel_rfl
theorem own:ownKnob Tryz.prog.godebug=none:=by kernel_rfl
section
variable {H:Type} {enc:TypeId×Value→H} {P:Program} {w:World} {base:Nat} {spare:Nat→Bool} {held:Bool}
theorem block_of_cell {w:World} {a:Addr} {u:Value} (h:w.cell? a=some u):a.block<w.heap.size:=World.block_lt_of_cell? w a h
theorem nat_of_u64 {z:Int} (h:(Lit.int .u64 z).wf=true):∃ x:Nat,z=(x:Int)∧x<18446744073709551616:=by
 have:=bounds_u64 h
 exact ⟨z.toNat,by omega,by omega⟩
theorem bytes_of_wf (zs:List Int) (h:∀ n∈zs,(Lit.int .u8 n).wf=true):u8s (zs.map fun n=>UInt8.ofNat n.toNat)=zs.map (Value.int .u8):=by
 simp only [u8s,List.map_map]
 apply List.map_congr_left
 intro n hn
 have:=bounds_u8 (h n hn)
 simp only [Function.comp,UInt8.toNat_ofNat']
 congr 1
 omega
theorem open_bytes1 {t e:TypeId} {fuel:Nat} {cs:List Value} {x:DataW H×List MemPlace} (ht:P.underlying t=some (.slice e)) (he:P.underlying e=some (.int .u8)) (hC:P.cellsOf e=1)
 (hf:DataW.trod enc P w base spare held fuel t cs=some x) :
 ∃ A n c l,cs=[.slice A n c]∧n≤c∧c≤maxLen∧Rd w w.heap.size 1 A n (u8s l):=by
 rcases open_ints ht he hC hf with ⟨hcs,_⟩|⟨x,len,cap,zs,hcs,_,hl,hm,hz,_,hcell,hwz⟩
 ·exact ⟨none,0,0,[],hcs,Nat.le_refl _,by simp [maxLen],Rd.nil⟩
 ·have hz':len≤zs.length:=by rw [hz];split<;>omega
  refine ⟨some x,len,cap,(zs.take len).map fun n=>UInt8.ofNat n.toNat,hcs,hl,hm,?_⟩
  rw [bytes_of_wf _ (fun n hn=>hwz n (List.mem_of_mem_take hn))]
  refine ⟨by simp;omega,fun hn=>⟨x,rfl,?_,fun j u hu=>?_⟩⟩
  ·have:=hcell 0 (by omega)
   rw [show x.add 0=x by simp [Addr.add]] at this
   exact block_of_cell this
  ·rw [List.getElem?_map,List.getElem?_take] at hu
   split at hu
   ·rename_i hj
    rw [hcell j (by omega)]
    have:zs[j]?=some (zs.getD j 0):=by rw [List.getD_eq_getElem?_getD,List.getElem?_eq_getElem (by omega)];rfl
    rw [this] at hu
    exact hu
   ·cases hu
end
end Go.Proofs.YtfhmaincnlaapaaGreat
namespace Go.Proofs.YtfhmaincnlaapaaGreat.Sy
open Go.ChangeShapes Go.WideShapes Go.ChangeAt Go.RowKit
set_option linter.unusedVariables false
inductive AV
 | v (x:Value)
 | lst (n:Nat) (cs:List AV)
 | agg (cs:List AV)
 | tup (l:List AV)
 | row (o ver:Nat)
 | ptr (o off:Nat)
 | fptr (cs:List AV) (off:Nat)
 | rptr (o ver off:Nat)
 | junk
 | opt (b:Bool) (x:AV)
 | fk (k:Nat)
inductive AObj
 | cells (t:TypeId) (cs:List AV)
 | row (e:TypeId) (size n ver:Nat) (cs:List AV)
 | gone
def fkey (b:Nat):Nat:=if 9218868437227405312<b%9223372036854775808 then 18446744073709551615 else if b/9223372036854775808%2=1 then 9223372036854775807-b%9223372036854775808 else 9223372036854775808+b%9223372036854775808
inductive Rep (w:World) (F:Nat→Prop):AV→Value→Prop
 | v (x:Value) (h:x.oneCell'=true):Rep w F (.v x) x
 | fk (k b:Nat) (h:fkey b=k) (hb:b<18446744073709551616):Rep w F (.fk k) (.float .f64 b)
 | nil (A:Option Addr) (c:Nat) (h:c≤maxLen):Rep w F (.lst 0 []) (.slice A 0 c)
 | lst (n c:Nat) (cs:List AV) (a:Addr) (us:List Value) (hn:0<n) (hc:n≤c) (hm:c≤maxLen) (hF:F a.block) (hl:us.length=cs.length) (h1:∀ u∈us,u.oneCell'=true)
  (hu:∀ (j:Nat) (u:Value),us[j]?=some u→w.cell? (a.add j)=some u) (hr:∀ (j:Nat) (x:AV) (u:Value),cs[j]?=some x→us[j]?=some u→Rep w F x u):Rep w F (.lst n cs) (.slice (some a) n c)
theorem Rep.one {w:World} {F:Nat→Prop} {x:AV} {u:Value} (h:Rep w F x u):u.oneCell'=true:=by
 cases h with
 | v _ h=>exact h
 | fk _ _ _ _=>rfl
 | nil _ _ _=>rfl
 | lst=>rfl
theorem Rep.mono {w w':World} {F F':Nat→Prop} (hF:∀ b,F b→F' b) (hw:∀ b,F b→w'.heap[b]?=w.heap[b]?) {x:AV} {u:Value} (h:Rep w F x u):Rep w' F' x u:=by
 induction h with
 | v x h=>exact .v x h
 | fk k b h hb=>exact .fk k b h hb
 | nil A c h=>exact .nil A c h
 | lst n c cs a us hn hc hm hFa hl h1 hu hr ih =>
   refine .lst n c cs a us hn hc hm (hF _ hFa) hl h1 (fun j u h=>?_) ih
   rw [World.cell?_of_block (w:=w) (by rw [block_add];exact hw _ hFa)];exact hu j u h
structure Env where
 w:World
 F:Nat→Prop
 β:Nat→Nat
 ν:Nat→Value
 ob:Nat→Option AObj
def Leaf (E:Env):AV→Value→Prop
 | .row o ver,u=>E.ob o≠none∧∀ e s n k cs,E.ob o=some (.row e s n k cs)→ver≤k∧(ver=k→u=E.ν o)
 | .ptr o off,u=>E.ob o≠none∧∀ t cs,E.ob o=some (.cells t cs)→u=.pointer (some ⟨E.β o,off,none⟩)
 | .rptr o ver off,u=>E.ob o≠none∧∀ e s n k cs,E.ob o=some (.row e s n k cs)→ver≤k∧(ver=k→∃ g c,E.ν o=.slice (some ⟨g,0,none⟩) n c∧u=.pointer (some ⟨g,off,none⟩))
 | .fptr cs off,u=>∃ (a:Addr) (us:List Value),u=.pointer (some (a.add off))∧E.F a.block∧us.length=cs.length∧(∀ u∈us,u.oneCell'=true)∧(∀ (j:Nat) (u:Value),us[j]?=some u→E.w.cell? (a.add j)=some u) ∧
  ∀ (j:Nat) (x:AV) (u:Value),cs[j]?=some x→us[j]?=some u→Rep E.w E.F x u
 | .junk,_=>True
 | .fk k,u=>∃ b,u=.float .f64 b∧fkey b=k∧b<18446744073709551616
 | .v x,u=>u=x∧x.oneCell'=true
 | .lst n cs,u=>Rep E.w E.F (.lst n cs) u
 | .agg _,_=>False
 | .tup _,_=>False
 | .opt _ _,_=>False
def Leafs (E:Env) (cs:List AV) (us:List Value):Prop:=us.length=cs.length∧∀ (j:Nat) (x:AV) (u:Value),cs[j]?=some x→us[j]?=some u→Leaf E x u∧u.oneCell'=true
def Sees1 (E:Env):AV→Value→Prop
 | .agg cs,u=>∃ us:List Value,u=.agg us.toArray∧Leafs E cs us
 | x,u=>Leaf E x u
def Sees (E:Env):AV→Value→Prop
 | .tup l,u=>∃ us:List Value,u=.tuple us.toArray∧us.length=l.length∧∀ (j:Nat) (x:AV) (u:Value),l[j]?=some x→us[j]?=some u→Sees1 E x u
 | .opt b x,u=>if b=true then Sees1 E x u else u=.tuple #[]
 | x,u=>Sees1 E x u
theorem Leaf.rep {E:Env} {x:AV} {u:Value} (h:Rep E.w E.F x u):Leaf E x u:=by
 cases h with
 | v x h=>exact ⟨rfl,h⟩
 | fk k b h hb=>exact ⟨b,rfl,h,hb⟩
 | nil A c h=>exact .nil A c h
 | lst n c cs a us hn hc hm hF hl h1 hu hr=>exact .lst n c cs a us hn hc hm hF hl h1 hu hr
def Later (E E':Env) (o:Nat):Prop:=E.ob o≠none→E'.ob o≠none∧(∀ t cs,E'.ob o=some (.cells t cs)→(∃ t0 cs0,E.ob o=some (.cells t0 cs0))∧E'.β o=E.β o) ∧
 (∀ e s n k cs,E'.ob o=some (.row e s n k cs)→∃ e0 s0 n0 k0 cs0,E.ob o=some (.row e0 s0 n0 k0 cs0)∧k0≤k∧(k0=k→E'.ν o=E.ν o∧n0=n))
structure After (E E':Env):Prop where
 sub:∀ b,E.F b→E'.F b
 old:∀ b,E.F b→E'.w.heap[b]?=E.w.heap[b]?
 obj:∀ o,Later E E' o
theorem After.refl (E:Env):After E E:=⟨fun _ h=>h,fun _ _=>rfl,fun o h=>⟨h,fun t cs e=>⟨⟨t,cs,e⟩,rfl⟩,fun e s n k cs h=>⟨e,s,n,k,cs,h,Nat.le_refl _,fun _=>⟨rfl,rfl⟩⟩⟩⟩
theorem After.trans {A B C:Env} (h:After A B) (k:After B C):After A C :=
 ⟨fun b x=>k.sub b (h.sub b x),fun b x=>(k.old b (h.sub b x)).trans (h.old b x),fun o ho=>by
  obtain ⟨h1,h2,h3⟩:=h.obj o ho
  obtain ⟨k1,k2,k3⟩:=k.obj o h1
  refine ⟨k1,fun t cs e=>?_,fun e s n q cs x=>?_⟩
  ·obtain ⟨⟨t1,c1,e1⟩,b1⟩:=k2 t cs e
   obtain ⟨x2,b2⟩:=h2 t1 c1 e1
   exact ⟨x2,b1.trans b2⟩
  ·obtain ⟨e1,s1,n1,q1,c1,x1,l1,f1⟩:=k3 e s n q cs x
   obtain ⟨e2,s2,n2,q2,c2,x2,l2,f2⟩:=h3 e1 s1 n1 q1 c1 x1
   refine ⟨e2,s2,n2,q2,c2,x2,Nat.le_trans l2 l1,fun hq=>?_⟩
   obtain ⟨a1,a2⟩:=f1 (by omega)
   obtain ⟨a3,a4⟩:=f2 (by omega)
   exact ⟨a1.trans a3,a4.trans a2⟩⟩
theorem Leaf.after {E E':Env} (h:After E E') {x:AV} {u:Value} (hx:Leaf E x u):Leaf E' x u:=by
 cases x with
 | v x=>exact hx
 | lst n cs=>exact Rep.mono h.sub h.old hx
 | agg=>exact hx
 | tup=>exact hx
 | opt=>exact hx
 | fk=>exact hx
 | junk=>trivial
 | row o ver =>
   obtain ⟨h0,h1⟩:=hx
   obtain ⟨k1,_,k3⟩:=h.obj o h0
   refine ⟨k1,fun e s n k cs x=>?_⟩
   obtain ⟨e0,s0,n0,k0,c0,x0,l0,f0⟩:=k3 e s n k cs x
   obtain ⟨g1,g2⟩:=h1 _ _ _ _ _ x0
   refine ⟨Nat.le_trans g1 l0,fun hv=>?_⟩
   obtain ⟨f1,_⟩:=f0 (by omega)
   rw [f1];exact g2 (by omega)
 | ptr o off =>
   obtain ⟨h0,h1⟩:=hx
   obtain ⟨k1,k2,_⟩:=h.obj o h0
   refine ⟨k1,fun t cs x=>?_⟩
   obtain ⟨⟨t0,c0,x0⟩,b0⟩:=k2 t cs x
   rw [b0];exact h1 _ _ x0
 | rptr o ver off =>
   obtain ⟨h0,h1⟩:=hx
   obtain ⟨k1,_,k3⟩:=h.obj o h0
   refine ⟨k1,fun e s n k cs x=>?_⟩
   obtain ⟨e0,s0,n0,k0,c0,x0,l0,f0⟩:=k3 e s n k cs x
   obtain ⟨g1,g2⟩:=h1 _ _ _ _ _ x0
   refine ⟨Nat.le_trans g1 l0,fun hv=>?_⟩
   obtain ⟨f1,f2⟩:=f0 (by omega)
   obtain ⟨g,c,e1,e2⟩:=g2 (by omega)
   exact ⟨g,c,by rw [f1,e1,f2],e2⟩
 | fptr cs off =>
   obtain ⟨a,us,rfl,hF,hl,h1,hu,hr⟩:=hx
   refine ⟨a,us,rfl,h.sub _ hF,hl,h1,fun j u hj=>?_,fun j x u hx hu=>(hr j x u hx hu).mono h.sub h.old⟩
   rw [World.cell?_of_block (w:=E.w) (by rw [block_add];exact h.old _ hF)];exact hu j u hj
theorem Leafs.after {E E':Env} (h:After E E') {cs:List AV} {us:List Value} (hx:Leafs E cs us):Leafs E' cs us :=
 ⟨hx.1,fun j x u h1 h2=>⟨(hx.2 j x u h1 h2).1.after h,(hx.2 j x u h1 h2).2⟩⟩
theorem Sees1.after {E E':Env} (h:After E E') {x:AV} {u:Value} (hx:Sees1 E x u):Sees1 E' x u:=by
 cases x with
 | agg cs=>obtain ⟨us,rfl,hl⟩:=hx;exact ⟨us,rfl,hl.after h⟩
 | _=>simp only [Sees1] at hx ⊢;exact Leaf.after h hx
theorem Sees.after {E E':Env} (h:After E E') {x:AV} {u:Value} (hx:Sees E x u):Sees E' x u:=by
 cases x with
 | tup l=>obtain ⟨us,rfl,hl,hs⟩:=hx;exact ⟨us,rfl,hl,fun j x u h1 h2=>(hs j x u h1 h2).after h⟩
 | opt b x =>
   simp only [Sees] at hx ⊢
   split
   ·rename_i hb;rw [if_pos hb] at hx;exact hx.after h
   ·rename_i hb;rw [if_neg hb] at hx;exact hx
 | _=>simp only [Sees] at hx ⊢;exact Sees1.after h hx
theorem Sees1.leaf {E:Env} {x:AV} {u:Value} (h:Leaf E x u):Sees1 E x u:=by
 cases x with
 | agg=>exact h.elim
 | _=>simp only [Sees1];exact h
theorem Sees.sees1 {E:Env} {x:AV} {u:Value} (h:Sees1 E x u):Sees E x u:=by
 cases x with
 | tup l=>exact (show Leaf E (.tup l) u from h).elim
 | opt b x=>exact (show Leaf E (.opt b x) u from h).elim
 | _=>simp only [Sees];exact h
theorem Sees.leaf {E:Env} {x:AV} {u:Value} (h:Leaf E x u):Sees E x u:=Sees.sees1 (Sees1.leaf h)
def ObjOk (E:Env) (base:Nat) (o:Nat):AObj→Prop
 | .cells t cs=>∃ us:List Value,Blk E.w (E.β o) t us.toArray∧Leafs E cs us
 | .row e s n k cs=>∃ us:List Value,E.w.ownsRow base e s (E.ν o) n us∧0<s∧us.length=cs.length∧∀ (j:Nat) (x:AV) (u:Value),cs[j]?=some x→us[j]?=some u→Rep E.w E.F x u
 | .gone=>True
def bk (E:Env) (o:Nat):Option Nat :=
 match E.ob o with
 | some (.cells _ _)=>some (E.β o)
 | some (.row _ _ _ _ _)=>(E.ν o).ownBlock
 | _=>none
structure Chg (M:Nat→Prop) (w0 w:World):Prop where
 os:w.os=w0.os
 tape:w.tape=w0.tape
 output:w.output=w0.output
 size:w0.heap.size≤w.heap.size
 block:∀ b,b<w0.heap.size→¬M b→w.heap[b]?=w0.heap[b]?
theorem Chg.refl (M:Nat→Prop) (w:World):Chg M w w:=⟨rfl,rfl,rfl,Nat.le_refl _,fun _ _ _=>rfl⟩
theorem Chg.below {w w':World} (h:Chg (fun _=>False) w w'):Below w.heap.size w w':=⟨h.os,h.tape,h.output,h.size,fun b hb=>h.block b hb id⟩
theorem Chg.of_below {M:Nat→Prop} {w w':World} (h:Below w.heap.size w w'):Chg M w w':=⟨h.os,h.tape,h.output,h.size,fun b hb _=>h.block b hb⟩
structure Cx where
 m:Nat→Prop
 f:Nat→Prop
 E0:Env
structure Mem (M:Cx) (w0:World) (E:Env):Prop where
 chg:Chg M.m w0 E.w
 org:∀ b,E.F b→M.f b∨w0.heap.size≤b∨M.m b
 fz:∀ b,E.F b→b<E.w.heap.size
 ok:∀ o x,E.ob o=some x→ObjOk E 0 o x
 live:∀ o b,bk E o=some b→¬E.F b∧b<E.w.heap.size∧(w0.heap.size≤b∨M.m b)
 inj:∀ o o' b,bk E o=some b→bk E o'=some b→o=o'
theorem Mem.step {M:Cx} {w0:World} {E E':Env} (h:Mem M w0 E) (X:Nat→Prop)
 (hos:E'.w.os=E.w.os) (htp:E'.w.tape=E.w.tape) (hot:E'.w.output=E.w.output) (hsz:E.w.heap.size≤E'.w.heap.size)
 (hblk:∀ b,b<E.w.heap.size→(∀ o,X o→bk E o≠some b)→E'.w.heap[b]?=E.w.heap[b]?)
 (hsub:∀ b,E.F b→E'.F b)
 (hnew:∀ b,E'.F b→E.F b∨(b<E'.w.heap.size∧((E.w.heap.size≤b)∨∃ o,X o∧bk E o=some b)))
 (hob:∀ o,¬X o→E'.ob o=E.ob o∧E'.β o=E.β o∧E'.ν o=E.ν o)
 (hlater:∀ o,X o→Later E E' o)
 (hok:After E E'→∀ o x,X o→E'.ob o=some x→ObjOk E' 0 o x)
 (hlive:∀ o b,X o→bk E' o=some b→¬E'.F b∧b<E'.w.heap.size∧(E.w.heap.size≤b∨∃ p,X p∧bk E p=some b))
 (hinj:∀ o o' b,X o→X o'→bk E' o=some b→bk E' o'=some b→o=o'):Mem M w0 E'∧After E E':=by
 have hold:∀ b,E.F b→E'.w.heap[b]?=E.w.heap[b]?:=fun b hb=>hblk b (h.fz b hb) fun o _ he=>(h.live o b he).1 hb
 have haft:After E E':=⟨hsub,hold,fun o=>by
  by_cases hX:X o
  ·exact hlater o hX
  ·intro h0
   obtain ⟨e1,e2,e3⟩:=hob o hX
   exact ⟨by rw [e1];exact h0,fun t cs x=>⟨⟨t,cs,by rw [←e1];exact x⟩,e2⟩,fun e s n k cs x=>⟨e,s,n,k,cs,by rw [←e1];exact x,Nat.le_refl _,fun _=>⟨e3,rfl⟩⟩⟩⟩
 have hbk:∀ o,¬X o→bk E' o=bk E o:=fun o hX=>by
  obtain ⟨e1,e2,e3⟩:=hob o hX
  unfold bk;rw [e1,e2,e3]
 have hF':∀ b,E'.F b→b<E'.w.heap.size:=fun b hb=>by
  rcases hnew b hb with h1|⟨h1,_⟩
  ·exact Nat.lt_of_lt_of_le (h.fz b h1) hsz
  ·exact h1
 refine ⟨⟨⟨hos.trans h.chg.os,htp.trans h.chg.tape,hot.trans h.chg.output,Nat.le_trans h.chg.size hsz,fun b hb hM=>?_⟩,fun b hb=>?_,hF',fun o x hx=>?_,fun o b hb=>?_,fun o o' b h1 h2=>?_⟩,haft⟩
 ·rw [hblk b (Nat.lt_of_lt_of_le hb h.chg.size) fun o _ he=>?_]
  ·exact h.chg.block b hb hM
  ·rcases (h.live o b he).2.2 with h3|h3
   ·omega
   ·exact hM h3
 ·rcases hnew b hb with h1|⟨_,h1|⟨o,_,ho⟩⟩
  ·exact h.org b h1
  ·exact .inr (.inl (Nat.le_trans h.chg.size h1))
  ·exact .inr (h.live o b ho).2.2
 ·by_cases hX:X o
  ·exact hok haft o x hX hx
  ·obtain ⟨e1,e2,e3⟩:=hob o hX
   rw [e1] at hx
   have h0:=h.ok o x hx
   cases x with
   | gone=>trivial
   | cells t cs =>
     obtain ⟨us,hb,hl⟩:=h0
     refine ⟨us,?_,hl.after haft⟩
     have hbo:bk E o=some (E.β o):=by unfold bk;rw [hx]
     unfold Blk at hb ⊢
     rw [e2,hblk _ (h.live o _ hbo).2.1 (fun o' hX' he=>hX (by rw [h.inj o o' _ hbo he];exact hX'))];exact hb
   | row e s n k cs =>
     obtain ⟨us,hb,hs,hl,hr⟩:=h0
     refine ⟨us,?_,hs,hl,fun j x u h1 h2=>(hr j x u h1 h2).mono hsub hold⟩
     rw [e3]
     have hbo:bk E o=(E.ν o).ownBlock:=by unfold bk;rw [hx]
     refine ⟨hb.1,?_⟩
     rcases hb.2 with h2|⟨g,cap,cur,hv,hg,hh,r⟩
     ·exact .inl h2
     ·have hbg:bk E o=some g:=by rw [hbo,hv];rfl
      exact .inr ⟨g,cap,cur,hv,hg,by rw [hblk g (h.live o g hbg).2.1 (fun o' hX' he=>hX (by rw [h.inj o o' _ hbg he];exact hX'))];exact hh,r⟩
 ·by_cases hX:X o
  ·obtain ⟨h1,h2,h3⟩:=hlive o b hX hb
   refine ⟨h1,h2,?_⟩
   rcases h3 with h3|⟨p,_,h3⟩
   ·exact .inl (Nat.le_trans h.chg.size h3)
   ·exact (h.live p b h3).2.2
  ·rw [hbk o hX] at hb
   obtain ⟨h1,h2,h3⟩:=h.live o b hb
   refine ⟨fun hf=>?_,Nat.lt_of_lt_of_le h2 hsz,h3⟩
   rcases hnew b hf with h4|⟨_,h4|⟨o',hX',he⟩⟩
   ·exact h1 h4
   ·omega
   ·exact hX (by rw [h.inj o o' b hb he];exact hX')
 ·by_cases hX:X o<;>by_cases hX':X o'
  ·exact hinj o o' b hX hX' h1 h2
  ·rw [hbk o' hX'] at h2
   rcases (hlive o b hX h1).2.2 with h3|⟨p,hp,h3⟩
   ·have:=(h.live o' b h2).2.1;omega
   ·have:=h.inj p o' b h3 h2;subst this;exact absurd hp hX'
  ·rw [hbk o hX] at h1
   rcases (hlive o' b hX' h2).2.2 with h3|⟨p,hp,h3⟩
   ·have:=(h.live o b h1).2.1;omega
   ·have:=h.inj o p b h1 h3;subst this;exact absurd hp hX
  ·rw [hbk o hX] at h1;rw [hbk o' hX'] at h2;exact h.inj o o' b h1 h2
structure AS where
 S:List (Nat×AV)
 O:List (Nat×AObj)
 nt:Nat
 pk:List Nat
def lk:List (Nat×AV)→Nat→AV
 | [],_=>.junk
 | (k,x)::r,t=>if k=t then x else lk r t
def lo:List (Nat×AObj)→Nat→Option AObj
 | [],_=>none
 | (k,x)::r,t=>if k=t then some x else lo r t
structure Res where
 val:AV
 wo:List (Nat×AObj)
 vc:List Prop
def AS.app (σ:AS) (d:Option Nat) (r:Res):AS:=⟨match d with|some d=>(d,r.val)::σ.S|none=>σ.S,r.wo++σ.O,σ.nt,σ.pk⟩
structure Now (M:Cx) (w0:World) (σ:AS) (a:Act) (E:Env):Prop where
 df:a.defers=[]
 sz:a.tmps.size=σ.nt
 ob:E.ob=lo σ.O
 mem:Mem M w0 E
 aft:After M.E0 E
 pkk:∀ o,M.E0.ob o≠none→o∈σ.pk
 sl:∀ t,Sees E (lk σ.S t) (a.tmps.getD t undef)
def St (M:Cx) (w0:World) (σ:AS) (a:Act) (w:World):Prop:=∃ E,E.w=w∧Now M w0 σ a E
def cv:Value→AV
 | .agg cs=>if cs.toList.all (·.oneCell') then .agg (cs.toList.map .v) else .junk
 | .tuple _=>.junk
 | x=>.v x
def opv (σ:AS):Operand→AV
 | .tmp t=>lk σ.S t
 | .const c=>cv c
 | .func f=>.v (.func (.func f) #[] #[])
 | .global _=>.junk
theorem leafs_v (E:Env) (cs:List Value) (h:cs.all (·.oneCell')=true):Leafs E (cs.map .v) cs:=by
 refine ⟨by simp,fun j x u hx hu=>?_⟩
 rw [List.getElem?_map,hu] at hx
 injection hx with hx
 subst hx
 have:=List.all_eq_true.1 h u (List.mem_of_getElem? hu)
 exact ⟨⟨rfl,this⟩,this⟩
theorem sees_cv (E:Env) (c:Value):Sees E (cv c) c:=by
 cases c with
 | agg cs =>
   unfold cv;simp only
   split
   ·rename_i h;exact ⟨cs.toList,by simp,leafs_v E _ h⟩
   ·trivial
 | tuple vs=>trivial
 | _=>exact ⟨rfl,rfl⟩
theorem Now.op {M:Cx} {w0:World} {σ:AS} {a:Act} {E:Env} (h:Now M w0 σ a E) (x:Operand):Sees E (opv σ x) (a.eval x):=by
 cases x with
 | tmp t=>exact h.sl t
 | const c=>exact sees_cv E c
 | global g=>trivial
 | func f=>exact ⟨rfl,rfl⟩
theorem put_slot {E':Env} {S:List (Nat×AV)} {a:Act} {d:Nat} {u:Value} {x:AV} (hd:d<a.tmps.size) (h:∀ t,Sees E' (lk S t) (a.tmps.getD t undef)) (hx:Sees E' x u) (t:Nat) :
 Sees E' (lk ((d,x)::S) t) ((a.put (some d) u).tmps.getD t undef):=by
 unfold lk
 split
 ·rename_i e;subst e
  have:(a.put (some d) u).tmps.getD d undef=u:=by simp [Act.put,Array.getD,hd]
  rw [this];exact hx
 ·rename_i e
  have:(a.put (some d) u).tmps.getD t undef=a.tmps.getD t undef:=by
   simp only [Act.put,Array.getD_eq_getD_getElem?,Array.getElem?_setIfInBounds_ne e]
  rw [this];exact h t
theorem Now.fin {M:Cx} {w0:World} {σ:AS} {a:Act} {E E':Env} (h:Now M w0 σ a E) (d:Option Nat) (r:Res) (hd:∀ x,d=some x→x<σ.nt) (ho:E'.ob=lo (r.wo++σ.O)) (hm:Mem M w0 E') (ha:After E E') {u:Value} (hv:Sees E' r.val u):Now M w0 (σ.app d r) (a.put d u) E':=by
 have hs:∀ t,Sees E' (lk σ.S t) (a.tmps.getD t undef):=fun t=>(h.sl t).after ha
 cases d with
 | none=>exact ⟨h.df,h.sz,ho,hm,h.aft.trans ha,h.pkk,hs⟩
 | some d=>exact ⟨h.df,by have:=h.sz;simpa [Act.put,AS.app] using this,ho,hm,h.aft.trans ha,h.pkk,fun t=>put_slot (by rw [h.sz];exact hd d rfl) hs hv t⟩
def OpOk (P:Program) (o:Oper) (σ:AS) (r:Res):Prop:=∀ (M:Cx) (w0:World) (a:Act) (E:Env),Now M w0 σ a E→∀ (K:Act→World→Prop) (Q:Exit→Act→World→Prop),
 (∀ u E',E'.ob=lo (r.wo++σ.O)→Mem M w0 E'→After E E'→Sees E' r.val u→K (a.put o.dst u) E'.w)→o.wp P a E.w K Q
theorem OpOk.step {P:Program} {o:Oper} {σ:AS} {r:Res} (h:OpOk P o σ r) (hd:∀ x,o.dst=some x→x<σ.nt) {M:Cx} {w0:World} {a:Act} {w:World} (hs:St M w0 σ a w) {K:Act→World→Prop} {Q:Exit→Act→World→Prop}
 (hK:∀ a' w',St M w0 (σ.app o.dst r) a' w'→K a' w'):o.wp P a w K Q:=by
 obtain ⟨E,rfl,hn⟩:=hs
 exact h M w0 a E hn K Q fun u E' ho hm ha hv=>hK _ _ ⟨E',rfl,hn.fin o.dst r hd ho hm ha hv⟩
theorem OpOk.pure {P:Program} {o:Oper} {σ:AS} {x:AV} {vc:List Prop} (h:∀ (a:Act) (E:Env),(∀ y,Sees E (opv σ y) (a.eval y))→E.ob=lo σ.O→(∃ M w0,Mem M w0 E)→∃ u,(execOp a.eval o).run P E.w=.ok (.value u) E.w∧Sees E x u):OpOk P o σ ⟨x,[],vc⟩:=by
 intro M w0 a E hn K Q hK
 obtain ⟨u,hr,hx⟩:=h a E hn.op hn.ob ⟨M,w0,hn.mem⟩
 unfold Oper.wp
 rw [hr]
 exact hK u E hn.ob hn.mem (After.refl E) hx
def tyB (P:Program) (t:TypeId):Option (Bool×Nat) :=
 match P.underlying t,P.info? t with
 | some (.struct _),some i=>some (true,i.size)
 | some (.array _ _),some i=>some (true,i.size)
 | some _,some i=>some (false,i.size)
 | _,_=>none
theorem run_isAggB {P:Program} {t:TypeId} {b:Bool} {k:Nat} (h:tyB P t=some (b,k)) (w:World):(isAgg t).run P w=.ok b w∧(sizeOf t).run P w=.ok k w:=by
 unfold tyB at h
 split at h
 ·rename_i fs i h1 h2;simp only [Option.some.injEq,Prod.mk.injEq] at h;obtain ⟨rfl,rfl⟩:=h
  simp [isAgg,sizeOf,typeInfo,run_underlying h1,h2]
 ·rename_i n e i h1 h2;simp only [Option.some.injEq,Prod.mk.injEq] at h;obtain ⟨rfl,rfl⟩:=h
  simp [isAgg,sizeOf,typeInfo,run_underlying h1,h2]
 ·rename_i d i h3 h4 h1 h2;simp only [Option.some.injEq,Prod.mk.injEq] at h;obtain ⟨rfl,rfl⟩:=h
  refine ⟨?_,by simp [sizeOf,typeInfo,h2]⟩
  simp only [isAgg,Sem.run_bind,run_underlying h1,Result.andThen_ok]
  cases d<;>simp_all
 ·cases h
def rd1 (agg:Bool) (k:Nat) (cs:List AV) (off:Nat):Option AV :=
 bif agg then (if off+k≤cs.length then some (.agg ((cs.drop off).take k)) else none) else cs[off]?
theorem Leafs.cut {E:Env} {cs:List AV} {us:List Value} (h:Leafs E cs us) (i n:Nat):Leafs E ((cs.drop i).take n) ((us.drop i).take n):=by
 refine ⟨by simp [h.1],fun j x u hx hu=>?_⟩
 rw [List.getElem?_take] at hx hu
 split at hx
 ·rename_i hj
  rw [if_pos hj] at hu
  rw [List.getElem?_drop] at hx hu
  exact h.2 _ x u hx hu
 ·cases hx
theorem getElem?_of {α:Type} {l:List α} {j:Nat} (h:j<l.length):∃ x,l[j]?=some x:=⟨_,List.getElem?_eq_getElem h⟩
theorem lt_of_some {α:Type} {l:List α} {j:Nat} {x:α} (h:l[j]?=some x):j<l.length:=(List.getElem?_eq_some_iff.1 h).1
theorem rd1_sees {E:Env} {cs:List AV} {us:List Value} (h:Leafs E cs us) {b:Bool} {k off:Nat} {x:AV} (hx:rd1 b k cs off=some x) :
 Sees E x (if b then .agg ((us.drop off).take k).toArray else us.getD off undef)∧(b=true→off+k≤us.length)∧(b=false→off<us.length):=by
 unfold rd1 at hx
 cases b with
 | true =>
   simp only [cond_true] at hx
   split at hx
   ·rename_i hl
    injection hx with hx;subst hx
    refine ⟨⟨_,rfl,h.cut off k⟩,fun _=>by rw [h.1];exact hl,fun hb=>?_⟩
    cases hb
   ·cases hx
 | false =>
   simp only [cond_false] at hx
   have hlt:=lt_of_some hx
   rw [←h.1] at hlt
   refine ⟨?_,fun hb=>(by cases hb),fun _=>hlt⟩
   simp only [Bool.false_eq_true,if_false]
   rw [List.getD_eq_getElem?_getD,List.getElem?_eq_getElem hlt]
   exact Sees.leaf (h.2 off x _ hx (List.getElem?_eq_getElem hlt)).1
theorem run_loadVar_at {P:Program} {t:TypeId} {b:Bool} {k:Nat} (ht:tyB P t=some (b,k)) {w:World} {A:Addr} {off:Nat} {us:List Value} (hu:∀ (j:Nat) (u:Value),us[j]?=some u→w.cell? (A.add j)=some u)
 (h1:b=true→off+k≤us.length) (h2:b=false→off<us.length):(loadVar t (A.add off)).run P w=.ok (if b then .agg ((us.drop off).take k).toArray else us.getD off undef) w:=by
 obtain ⟨e1,e2⟩:=run_isAggB ht w
 cases b with
 | true =>
   have hl:=h1 rfl
   simp only [loadVar,Sem.run_bind,e1,e2,Result.andThen_ok,if_true,loadCells]
   rw [run_loadCellsFrom (w:=w) (A.add off) (fun j=>us.getD (off+j) undef) k 0 #[] (fun j hj=>by
    rw [add_add',Nat.zero_add,List.getD_eq_getElem?_getD,List.getElem?_eq_getElem (by omega)]
    exact hu _ _ (List.getElem?_eq_getElem (by omega)))]
   simp only [Result.andThen_ok,Sem.run_pure]
   congr 2
   apply Array.toList_inj.1
   simp only [List.nil_append,Nat.zero_add,Array.toList_append]
   apply List.ext_getElem?
   intro i
   rw [List.getElem?_take]
   by_cases hi:i<k
   ·simp [hi,List.getElem?_drop,List.getD_eq_getElem?_getD,List.getElem?_eq_getElem (show off+i<us.length by omega)]
   ·simp [hi]
 | false =>
   have hl:=h2 rfl
   simp only [loadVar,Sem.run_bind,e1,Result.andThen_ok,Bool.false_eq_true,if_false]
   rw [List.getD_eq_getElem?_getD,List.getElem?_eq_getElem hl]
   simp [run_load,hu off _ (List.getElem?_eq_getElem hl)]
def viewOf (ob:Nat→Option AObj):AV→Option (List AV×Nat)
 | .ptr o off=>match ob o with|some (.cells _ cs)=>some (cs,off)|_=>none
 | .fptr cs off=>some (cs,off)
 | .rptr o ver off=>match ob o with|some (.row _ _ _ k cs)=>if k=ver then some (cs,off) else none|_=>none
 | _=>none
theorem add_at (g off:Nat):(⟨g,0,none⟩:Addr).add off=⟨g,off,none⟩:=by unfold Addr.add;split<;>simp_all
theorem Mem.row {M:Cx} {w0:World} {E:Env} (h:Mem M w0 E) {o:Nat} {e:TypeId} {s n k:Nat} {cs:List AV} (ho:E.ob o=some (.row e s n k cs)) :
 ∃ us:List Value,E.w.ownsRow 0 e s (E.ν o) n us∧0<s∧us.length=cs.length∧∀ (j:Nat) (x:AV) (u:Value),cs[j]?=some x→us[j]?=some u→Rep E.w E.F x u:=h.ok o _ ho
theorem viewOf_at {M:Cx} {w0:World} {E:Env} (h:Mem M w0 E) {x:AV} {u:Value} {cs:List AV} {off:Nat} (hv:viewOf E.ob x=some (cs,off)) (hs:Leaf E x u) :
 ∃ (A:Addr) (us:List Value),u=.pointer (some (A.add off))∧Leafs E cs us∧∀ (j:Nat) (u:Value),us[j]?=some u→E.w.cell? (A.add j)=some u:=by
 cases x with
 | ptr o off' =>
   simp only [viewOf] at hv
   split at hv
   ·rename_i q t cs' ho
    injection hv with hv;injection hv with h1 h2;subst h1;subst h2
    obtain ⟨us,hb,hl⟩:=h.ok o _ ho
    refine ⟨⟨E.β o,0,none⟩,us,by rw [add_at];exact hs.2 _ _ ho,hl,fun j u hj=>?_⟩
    rw [add_at,hb.cell];simpa using hj
   ·cases hv
 | fptr cs' off' =>
   injection hv with hv;injection hv with h1 h2;subst h1;subst h2
   obtain ⟨a,us,rfl,hF,hl,h1,hu,hr⟩:=hs
   exact ⟨a,us,rfl,⟨hl,fun j x u hx hj=>⟨Leaf.rep (hr j x u hx hj),h1 u (List.mem_of_getElem? hj)⟩⟩,hu⟩
 | rptr o ver off' =>
   simp only [viewOf] at hv
   split at hv
   ·rename_i q e s n k cs' ho
    split at hv
    ·rename_i hk
     injection hv with hv;injection hv with h1 h2;subst h1;subst h2;subst hk
     obtain ⟨us,hb,_,hl,hr⟩:=h.row ho
     obtain ⟨g,c,e1,e2⟩:=(hs.2 _ _ _ _ _ ho).2 rfl
     refine ⟨⟨g,0,none⟩,us,by rw [add_at];exact e2,⟨hl,fun j x u hx hj=>⟨Leaf.rep (hr j x u hx hj),(hr j x u hx hj).one⟩⟩,fun j u hj=>hb.cells (g:=g) (by rw [e1];rfl) j u hj⟩
    ·cases hv
   ·cases hv
 | _=>cases hv
theorem Sees.leaf_of {E:Env} {x:AV} {u:Value} {cs:List AV} {off:Nat} {ob:Nat→Option AObj} (hv:viewOf ob x=some (cs,off)) (hs:Sees E x u):Leaf E x u:=by
 cases x<;>first|(cases hv;done)|exact hs
end Go.Proofs.YtfhmaincnlaapaaGreat.Sy
