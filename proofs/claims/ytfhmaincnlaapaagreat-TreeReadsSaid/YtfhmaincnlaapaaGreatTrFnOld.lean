/- Contracts on trees out of elder ones: results without references, results in new blocks; bytes as trees. -/
import Derived.Deep.Slices
import Derived.Deep.Fields
import Derived.ChangeArms
import Derived.Test.YtfhmaincnlaapaaGreatTrSy2
import Derived.Test.YtfhmaincnlaapaaGreatTrVcs
import Derived.Test.YtfhmaincnlaapaaGreatTrGetWalks
import Derived.Test.YtfhmaincnlaapaaGreatTrBufSmall
namespace Go.Proofs.YtfhmaincnlaapaaGreat
open Go.ChangeShapes Go.WideShapes Go.ChangeAt Go.RowKit Go.Deep
set_option linter.unusedVariables false
structure Rp (α:Type) where
 size:Nat
 rep:World→Nat→α→List Value→Prop
 len:∀ {w:World} {B:Nat} {x:α} {cs:List Value},rep w B x cs→cs.length=size
 one:∀ {w:World} {B:Nat} {x:α} {cs:List Value},rep w B x cs→∀ u∈cs,u.oneCell'=true
 keep:∀ {w w':World} {B B':Nat} {x:α} {cs:List Value},rep w B x cs→Below B w w'→B≤B'→rep w' B' x cs
def Rp.val {α:Type} (f:α→Value) (ok:α→Prop) (h1:∀ x,(f x).oneCell'=true):Rp α where
 size:=1
 rep _ _ x cs:=cs=[f x]∧ok x
 len h:=by rw [h.1];rfl
 one h:=by rw [h.1];intro u hu;rw [List.mem_singleton] at hu;rw [hu];exact h1 _
 keep h _ _:=h
def Rp.two {α β γ:Type} (p:α→β) (q:α→γ) (R:Rp β) (S:Rp γ):Rp α where
 size:=R.size+S.size
 rep w B x cs:=∃ c d,cs=c++d∧R.rep w B (p x) c∧S.rep w B (q x) d
 len h:=by obtain ⟨c,d,rfl,h1,h2⟩:=h;rw [List.length_append,R.len h1,S.len h2]
 one h:=by
  obtain ⟨c,d,rfl,h1,h2⟩:=h
  intro u hu
  rcases List.mem_append.1 hu with hu|hu
  ·exact R.one h1 u hu
  ·exact S.one h2 u hu
 keep h hb hB:=by obtain ⟨c,d,rfl,h1,h2⟩:=h;exact ⟨c,d,rfl,R.keep h1 hb hB,S.keep h2 hb hB⟩
def Chunk {α:Type} (R:Rp α) (w:World) (B:Nat):List α→List Value→Prop
 | [],xs=>xs=[]
 | x::l,xs=>∃ c rest,xs=c++rest∧R.rep w B x c∧Chunk R w B l rest
section
variable {α:Type} {R:Rp α} {w w':World} {B B':Nat} {l m:List α} {xs ys:List Value}
theorem Chunk.len (h:Chunk R w B l xs):xs.length=l.length*R.size:=by
 induction l generalizing xs with
 | nil=>cases h;simp
 | cons x l ih=>obtain ⟨c,rest,rfl,h1,h2⟩:=h;rw [List.length_append,R.len h1,ih h2,List.length_cons,Nat.succ_mul];omega
theorem Chunk.one (h:Chunk R w B l xs):∀ u∈xs,u.oneCell'=true:=by
 induction l generalizing xs with
 | nil=>cases h;simp
 | cons x l ih =>
   obtain ⟨c,rest,rfl,h1,h2⟩:=h
   intro u hu
   rcases List.mem_append.1 hu with hu|hu
   ·exact R.one h1 u hu
   ·exact ih h2 u hu
theorem Chunk.keep (h:Chunk R w B l xs) (hb:Below B w w') (hB:B≤B'):Chunk R w' B' l xs:=by
 induction l generalizing xs with
 | nil=>exact h
 | cons x l ih=>obtain ⟨c,rest,rfl,h1,h2⟩:=h;exact ⟨c,rest,rfl,R.keep h1 hb hB,ih h2⟩
theorem Chunk.nil:Chunk R w B [] []:=rfl
theorem Chunk.app (h:Chunk R w B l xs) (k:Chunk R w B m ys):Chunk R w B (l++m) (xs++ys):=by
 induction l generalizing xs with
 | nil=>cases h;exact k
 | cons x l ih=>obtain ⟨c,rest,rfl,h1,h2⟩:=h;exact ⟨c,rest++ys,by rw [List.append_assoc],h1,ih h2⟩
theorem Chunk.snoc {x:α} {c:List Value} (h:Chunk R w B l xs) (k:R.rep w B x c):Chunk R w B (l ++ [x]) (xs++c):=h.app ⟨c,[],by simp,k,rfl⟩
theorem Chunk.get (h:Chunk R w B l xs) (i:Nat) (hi:i<l.length):∃ c,R.rep w B l[i] c∧∀ j,j<R.size→xs[i*R.size+j]?=c[j]?:=by
 induction l generalizing xs i with
 | nil=>simp at hi
 | cons x l ih =>
   obtain ⟨c,rest,rfl,h1,h2⟩:=h
   have hl:=R.len h1
   cases i with
   | zero=>exact ⟨c,h1,fun j hj=>by rw [Nat.zero_mul,Nat.zero_add,List.getElem?_append_left (by omega)]⟩
   | succ i =>
     obtain ⟨c',k1,k2⟩:=ih h2 i (by simpa using hi)
     refine ⟨c',k1,fun j hj=>?_⟩
     rw [List.getElem?_append_right (by rw [hl,Nat.succ_mul];omega),hl,show (i+1)*R.size+j-R.size=i*R.size+j from by rw [Nat.succ_mul];omega]
     exact k2 j hj
theorem chunk_val {β:Type} {f:β→Value} {ok:β→Prop} {h1:∀ x,(f x).oneCell'=true} {l:List β}:Chunk (Rp.val f ok h1) w B l xs↔xs=l.map f∧∀ x∈l,ok x:=by
 induction l generalizing xs with
 | nil=>simp [Chunk]
 | cons x l ih =>
   constructor
   ·rintro ⟨c,rest,rfl,⟨rfl,h2⟩,h3⟩
    obtain ⟨rfl,h4⟩:=ih.1 h3
    exact ⟨rfl,fun y hy=>by rcases List.mem_cons.1 hy with rfl|hy;exact h2;exact h4 y hy⟩
   ·rintro ⟨rfl,h2⟩
    exact ⟨[f x],l.map f,rfl,⟨rfl,h2 x (by simp)⟩,ih.2 ⟨rfl,fun y hy=>h2 y (by simp [hy])⟩⟩
end
def Rp.sl {α:Type} (R:Rp α):Rp (List α) where
 size:=1
 rep w B l cs:=∃ A c xs,cs=[.slice A l.length c]∧l.length≤c∧c≤maxLen∧Rd w B R.size A l.length xs∧Chunk R w B l xs
 len h:=by obtain ⟨A,c,xs,rfl,_⟩:=h;rfl
 one h:=by obtain ⟨A,c,xs,rfl,_⟩:=h;intro u hu;rw [List.mem_singleton] at hu;rw [hu];rfl
 keep h hb hB:=by obtain ⟨A,c,xs,rfl,h1,h2,h3,h4⟩:=h;exact ⟨A,c,xs,rfl,h1,h2,(h3.below hb).more hB,h4.keep hb hB⟩
def SlR {α:Type} (R:Rp α) (w:World) (B:Nat) (l:List α) (A:Option Addr) (c:Nat):Prop:=l.length≤c∧c≤maxLen∧∃ xs,Rd w B R.size A l.length xs∧Chunk R w B l xs
section
variable {α:Type} {R:Rp α} {w w':World} {B B' c:Nat} {A:Option Addr} {l:List α}
theorem Rp.sl_iff {v:Value}:R.sl.rep w B l [v] ↔ ∃ A c,v=.slice A l.length c∧SlR R w B l A c:=by
 constructor
 ·rintro ⟨A,c,xs,e,h1,h2,h3,h4⟩;injection e with e;exact ⟨A,c,e,h1,h2,xs,h3,h4⟩
 ·rintro ⟨A,c,rfl,h1,h2,xs,h3,h4⟩;exact ⟨A,c,xs,rfl,h1,h2,h3,h4⟩
theorem SlR.keep (h:SlR R w B l A c) (hb:Below B w w') (hB:B≤B'):SlR R w' B' l A c:=by
 obtain ⟨h1,h2,xs,h3,h4⟩:=h;exact ⟨h1,h2,xs,(h3.below hb).more hB,h4.keep hb hB⟩
theorem SlR.mono (h:SlR R w B l A c) (hB:B≤B'):SlR R w B' l A c:=h.keep (Below.refl _ _) hB
theorem SlR.drewN (h:SlR R w B l A c) (k:Nat):SlR R (w.drewN k) B l A c:=h.keep (below_drewN (Below.refl _ _) k) (Nat.le_refl _)
theorem SlR.get (h:SlR R w B l A c) {i:Nat} (hi:i<l.length):∃ a cs,A=some a∧a.block<B∧R.rep w B l[i] cs∧∀ j,j<R.size→w.cell? (a.add (i*R.size+j))=cs[j]?:=by
 obtain ⟨_,_,xs,h3,h4⟩:=h
 obtain ⟨a,rfl,hb,hc⟩:=h3.2 (by omega)
 obtain ⟨cs,h5,h6⟩:=h4.get i hi
 refine ⟨a,cs,rfl,hb,h5,fun j hj=>?_⟩
 have hl:j<cs.length:=by rw [R.len h5];exact hj
 have e:=h6 j hj
 rw [List.getElem?_eq_getElem hl] at e
 rw [List.getElem?_eq_getElem hl]
 exact hc _ _ e
theorem SlR.nil:SlR R w B [] none 0:=⟨Nat.le_refl _,by simp [maxLen],[],Rd.nil,rfl⟩
theorem SlR.own {base:Nat} {e:TypeId} {xs:List Value} (h:w.ownsRow base e R.size (.slice A l.length c) l.length xs) (hx:Chunk R w w.heap.size l xs):SlR R w w.heap.size l A c:=by
 have:=Rd.own h
 obtain ⟨A',c',e',h1,h2,_⟩:∃ A' c',(Value.slice A l.length c)=.slice A' l.length c'∧l.length≤c'∧c'≤maxLen∧l.length≤maxLen:=own_form h
 injection e' with _ _ e'
 exact ⟨by omega,by omega,xs,this,hx⟩
end
def Opens {α:Type} (P:Program) (t:TypeId) (R:Rp α):Prop :=
 ∀ (H:Type) (enc:TypeId×Value→H) (w:World) (base:Nat) (spare:Nat→Bool) (held:Bool) (fuel:Nat) (cs:List Value) (x:DataW H×List MemPlace),DataW.trod enc P w base spare held fuel t cs=some x→∃ y,R.rep w w.heap.size y cs
section
variable {P:Program} {t:TypeId}
theorem opens_slice {α:Type} {R:Rp α} {e:TypeId} (ht:P.underlying t=some (.slice e)) (hC:P.cellsOf e=R.size) (hp:0<R.size) (he:Opens P e R):Opens P t R.sl:=by
 intro H enc w base spare held fuel cs x h
 rcases open_slice ht h with ⟨rfl,_⟩|⟨a,len,cap,m,n,D,Pl,rfl,hb,hl,hm,hmm,hx,hi⟩
 ·exact ⟨[],none,0,[],rfl,Nat.le_refl _,by simp [maxLen],Rd.nil,rfl⟩
 ·have key:∀ i,i<len→∃ yc:α×List Value,R.rep w w.heap.size yc.1 yc.2∧∀ j,j<R.size→w.cell? (a.add (i*R.size+j))=yc.2[j]?:=by
   intro i hil
   obtain ⟨cs',hc,ht'⟩:=hi i (by split at hmm<;>omega)
   obtain ⟨_,hcl,hat⟩:=World.cells?_some hc
   obtain ⟨y,hy⟩:=he H enc w base spare held n cs' _ ht'
   refine ⟨(y,cs'),hy,fun j hj=>?_⟩
   have:=hat j (by omega)
   rw [Go.Deep.add_add,hC] at this
   exact this
  have build:∀ k,k≤len→∃ (l:List α) (xs:List Value),l.length=k∧Chunk R w w.heap.size l xs∧∀ i j,i<k→j<R.size→w.cell? (a.add (i*R.size+j))=xs[i*R.size+j]?:=by
   intro k
   induction k with
   | zero=>intro _;exact ⟨[],[],rfl,rfl,fun i j hi=>by omega⟩
   | succ k ih =>
     intro hk
     obtain ⟨l,xs,rfl,h1,h2⟩:=ih (by omega)
     obtain ⟨⟨y,c⟩,h3,h4⟩:=key l.length (by omega)
     refine ⟨l ++ [y],xs++c,by simp,h1.snoc h3,fun i j hi hj=>?_⟩
     have hxl:=h1.len
     have hcl:=R.len h3
     by_cases e:i=l.length
     ·subst e
      rw [List.getElem?_append_right (by omega),hxl,Nat.add_sub_cancel_left];exact h4 j hj
     ·have:(i+1)*R.size≤l.length*R.size:=Nat.mul_le_mul_right _ (by omega)
      rw [Nat.succ_mul] at this
      rw [List.getElem?_append_left (by omega)];exact h2 i j (by omega) hj
  obtain ⟨l,xs,rfl,h1,h2⟩:=build len (Nat.le_refl _)
  refine ⟨l,some a,cap,xs,rfl,hl,hm,⟨h1.len,fun hn=>⟨a,rfl,?_,fun j u hu=>?_⟩⟩,h1⟩
  ·have:=h2 0 0 hn hp
   rw [Nat.zero_mul,Nat.zero_add] at this
   have hx0:0<xs.length:=by rw [h1.len];exact Nat.mul_pos hn hp
   rw [List.getElem?_eq_getElem hx0] at this
   have:=World.block_lt_of_cell? w _ this
   rwa [block_add] at this
  ·have hj:j<xs.length:=(List.getElem?_eq_some_iff.1 hu).1
   rw [h1.len] at hj
   have hd:j/R.size<l.length:=Nat.div_lt_of_lt_mul (by rw [Nat.mul_comm];exact hj)
   have:=h2 (j/R.size) (j%R.size) hd (Nat.mod_lt _ hp)
   rw [Nat.mul_comm,Nat.div_add_mod] at this
   rw [this];exact hu
theorem opens_string (ht:P.underlying t=some .string) (h1:∀ x:ByteArray,(Value.string x).oneCell'=true):Opens P t (Rp.val Value.string (fun s=>s.size≤maxLen) h1):=by
 intro H enc w base spare held fuel cs x h
 obtain ⟨s,rfl,_,hs⟩:=DataW.trod_string ht h
 exact ⟨s,rfl,hs⟩
theorem opens_int {k:IntKind} (ht:P.underlying t=some (.int k)) (h1:∀ x:Int,(Value.int k x).oneCell'=true):Opens P t (Rp.val (Value.int k) (fun z=>(Lit.int k z).wf=true) h1):=by
 intro H enc w base spare held fuel cs x h
 obtain ⟨s,rfl,_,hs⟩:=DataW.trod_int ht h
 exact ⟨s,rfl,hs⟩
theorem opens_two {α β γ:Type} {R:Rp β} {S:Rp γ} {p:α→β} {q:α→γ} {t:TypeId} {f0 f1:Field} (ht:P.underlying t=some (.struct #[f0,f1])) (ho0:f0.offset=0) (ho1:f1.offset=R.size) (hs0:P.cellsOf f0.type=R.size) (hs1:P.cellsOf f1.type=S.size) (hC:P.cellsOf t=R.size+S.size)
 (h0:Opens P f0.type R) (h1:Opens P f1.type S) (mk:β→γ→α) (hp:∀ a b,p (mk a b)=a) (hq:∀ a b,q (mk a b)=b):Opens P t (Rp.two p q R S):=by
 intro H enc w base spare held fuel cs x h
 obtain ⟨xs,n,_,hx,hlen,hxl,hg⟩:=DataW.trod_struct ht h
 rw [hC] at hlen
 match xs,hxl with
 | [a0,a1],_ =>
   have g0:=hg 0 f0 rfl
   have g1:=hg 1 f1 rfl
   rw [ho0,hs0,List.drop_zero] at g0
   rw [ho1,hs1] at g1
   obtain ⟨b0,r0⟩:=h0 H enc w base spare held n _ _ g0
   obtain ⟨b1,r1⟩:=h1 H enc w base spare held n _ _ g1
   rw [List.take_of_length_le (by rw [List.length_drop];omega)] at r1
   exact ⟨mk b0 b1,_,_,(List.take_append_drop R.size cs).symm,by rw [hp];exact r0,by rw [hq];exact r1⟩
theorem opens_four {α β γ δ ε:Type} {R:Rp β} {S:Rp γ} {T:Rp δ} {U:Rp ε} {p:α→β} {q:α→γ} {r:α→δ} {s:α→ε} {t:TypeId} {f0 f1 f2 f3:Field} (ht:P.underlying t=some (.struct #[f0,f1,f2,f3])) (ho0:f0.offset=0) (ho1:f1.offset=R.size) (ho2:f2.offset=R.size+S.size) (ho3:f3.offset=R.size+S.size+T.size) (hs0:P.cellsOf f0.type=R.size) (hs1:P.cellsOf f1.type=S.size) (hs2:P.cellsOf f2.type=T.size) (hs3:P.cellsOf f3.type=U.size) (hC:P.cellsOf t=R.size+S.size+T.size+U.size)
 (h0:Opens P f0.type R) (h1:Opens P f1.type S) (h2:Opens P f2.type T) (h3:Opens P f3.type U) (mk:β→γ→δ→ε→α) (hp:∀ a b c d,p (mk a b c d)=a) (hq:∀ a b c d,q (mk a b c d)=b) (hr:∀ a b c d,r (mk a b c d)=c) (hs:∀ a b c d,s (mk a b c d)=d):Opens P t (Rp.two p id R (Rp.two q id S (Rp.two r s T U))):=by
 intro H enc w base spare held fuel cs x h
 obtain ⟨xs,n,_,hx,hlen,hxl,hg⟩:=DataW.trod_struct ht h
 rw [hC] at hlen
 match xs,hxl with
 | [a0,a1,a2,a3],_ =>
   have g0:=hg 0 f0 rfl
   have g1:=hg 1 f1 rfl
   have g2:=hg 2 f2 rfl
   have g3:=hg 3 f3 rfl
   rw [ho0,hs0,List.drop_zero] at g0
   rw [ho1,hs1] at g1
   rw [ho2,hs2] at g2
   rw [ho3,hs3] at g3
   obtain ⟨b0,r0⟩:=h0 H enc w base spare held n _ _ g0
   obtain ⟨b1,r1⟩:=h1 H enc w base spare held n _ _ g1
   obtain ⟨b2,r2⟩:=h2 H enc w base spare held n _ _ g2
   obtain ⟨b3,r3⟩:=h3 H enc w base spare held n _ _ g3
   rw [←List.drop_drop] at r2
   rw [List.take_of_length_le (by rw [List.length_drop];omega),←List.drop_drop,←List.drop_drop] at r3
   exact ⟨mk b0 b1 b2 b3,_,_,(List.take_append_drop R.size cs).symm,by rw [hp];exact r0,_,_,(List.take_append_drop S.size _).symm,by simp only [id_eq];rw [hq];exact r1,_,_,(List.take_append_drop T.size _).symm,by simp only [id_eq];rw [hr];exact r2,by simp only [id_eq];rw [hs];exact r3⟩
end
end Go.Proofs.YtfhmaincnlaapaaGreat
namespace Go.Proofs.YtfhmaincnlaapaaGreat
open Go.ChangeShapes Go.WideShapes Go.ChangeAt Go.RowKit Go.Deep Go.Joins
set_option linter.unusedVariables false
structure Sch where
 dims:List (ByteArray×Int)
 ints:List ByteArray
 nums:List ByteArray
 views:List Int
abbrev strR:Rp ByteArray:=Rp.val Value.string (fun s=>s.size≤maxLen) (fun _=>rfl)
abbrev i64R:Rp Int:=Rp.val (Value.int .i64) (fun z=>(Lit.int .i64 z).wf=true) (fun _=>rfl)
abbrev u32R:Rp Int:=Rp.val (Value.int .u32) (fun z=>(Lit.int .u32 z).wf=true) (fun _=>rfl)
def dimR:Rp (ByteArray×Int):=Rp.two Prod.fst Prod.snd strR i64R
def schR:Rp Sch:=Rp.two Sch.dims id dimR.sl (Rp.two Sch.ints id strR.sl (Rp.two Sch.nums Sch.views strR.sl u32R.sl))
theorem opens_dim:Opens Tryz.prog 79 dimR :=
 opens_two Tryz.underlying79 rfl rfl (by kernel_rfl) (by kernel_rfl) (by kernel_rfl) (opens_string Tryz.underlying9 _) (opens_int Tryz.underlying3 _) Prod.mk (fun _ _=>rfl) (fun _ _=>rfl)
theorem opens_strs:Opens Tryz.prog 23 strR.sl:=opens_slice Tryz.underlying23 (by kernel_rfl) (by decide) (opens_string Tryz.underlying9 _)
theorem opens_sch:Opens Tryz.prog 26 schR :=
 opens_four Tryz.underlying26 rfl rfl rfl rfl (by kernel_rfl) (by kernel_rfl) (by kernel_rfl) (by kernel_rfl) (by kernel_rfl)
  (opens_slice Tryz.underlying22 (by kernel_rfl) (by decide) opens_dim) opens_strs opens_strs (opens_slice Tryz.underlying24 (by kernel_rfl) (by decide) (opens_int Tryz.underlying39 _))
  Sch.mk (fun _ _ _ _=>rfl) (fun _ _ _ _=>rfl) (fun _ _ _ _=>rfl) (fun _ _ _ _=>rfl)
def dimC (l:List (ByteArray×Int)):List Value:=l.flatMap fun x=>[.string x.1,.int .i64 x.2]
abbrev u32s (l:List Int):List Value:=l.map (Value.int .u32)
theorem dim_chunk {w:World} {B:Nat} {l:List (ByteArray×Int)} {xs:List Value} (h:Chunk dimR w B l xs):xs=dimC l∧∀ x∈l,x.1.size≤maxLen∧-9223372036854775808≤x.2∧x.2≤9223372036854775807:=by
 induction l generalizing xs with
 | nil=>cases h;exact ⟨rfl,fun x hx=>by cases hx⟩
 | cons x l ih =>
   obtain ⟨c,rest,rfl,⟨c1,c2,rfl,⟨rfl,h1⟩,rfl,h2⟩,h3⟩:=h
   obtain ⟨rfl,e3⟩:=ih h3
   refine ⟨rfl,fun y hy=>?_⟩
   rcases List.mem_cons.1 hy with rfl|hy
   ·exact ⟨h1,bounds_i64 h2⟩
   ·exact e3 y hy
def SchAt (w:World) (B:Nat) (v:Value) (S:Sch):Prop :=
 ∃ A0 c0 A1 c1 A2 c2 A3 c3,v=.agg #[.slice A0 S.dims.length c0,.slice A1 S.ints.length c1,.slice A2 S.nums.length c2,.slice A3 S.views.length c3] ∧
  Rd w B 2 A0 S.dims.length (dimC S.dims)∧Rd w B 1 A1 S.ints.length (strs S.ints)∧Rd w B 1 A2 S.nums.length (strs S.nums)∧Rd w B 1 A3 S.views.length (u32s S.views) ∧
  (S.dims.length≤c0∧c0≤maxLen)∧(S.ints.length≤c1∧c1≤maxLen)∧(S.nums.length≤c2∧c2≤maxLen)∧(S.views.length≤c3∧c3≤maxLen)
structure SchOk (S:Sch):Prop where
 dims:∀ x∈S.dims,x.1.size≤maxLen∧-9223372036854775808≤x.2∧x.2≤9223372036854775807
 ints:∀ x∈S.ints,x.size≤maxLen
 nums:∀ x∈S.nums,x.size≤maxLen
 views:∀ x∈S.views,0≤x∧x≤4294967295
theorem schR_at {w:World} {B:Nat} {S:Sch} {cs:Array Value} (h:schR.rep w B S cs.toList):SchAt w B (.agg cs) S∧SchOk S:=by
 obtain ⟨_,_,e0,⟨A0,c0,x0,rfl,a0,b0,r0,k0⟩,_,_,rfl,⟨A1,c1,x1,rfl,a1,b1,r1,k1⟩,_,_,rfl,⟨A2,c2,x2,rfl,a2,b2,r2,k2⟩,A3,c3,x3,rfl,a3,b3,r3,k3⟩:=h
 obtain ⟨rfl,d0⟩:=dim_chunk k0
 obtain ⟨rfl,d1⟩:=chunk_val.1 k1
 obtain ⟨rfl,d2⟩:=chunk_val.1 k2
 obtain ⟨rfl,d3⟩:=chunk_val.1 k3
 refine ⟨⟨A0,c0,A1,c1,A2,c2,A3,c3,?_,r0,r1,r2,r3,⟨a0,b0⟩,⟨a1,b1⟩,⟨a2,b2⟩,a3,b3⟩,⟨d0,d1,d2,fun x hx=>bounds_u32 (d3 x hx)⟩⟩
 congr 1
 apply Array.ext'
 rw [e0];rfl
set_option maxRecDepth 100000 in
theorem open_schema {H:Type} {enc:TypeId×Value→H} {w:World} {base:Nat} {spare:Nat→Bool} {held:Bool} {r:Reach} {b0:Nat} {v:Value} {d:DataW H} {p:List MemPlace} (hv:Value.okWide Tryz.prog w r b0 26 v) (h:DataW.Trod enc Tryz.prog w base spare held 26 v d p) :
 ∃ S:Sch,SchAt w w.heap.size v S∧SchOk S:=by
 obtain ⟨cs,rfl,hsz⟩:=okWide_struct Tryz.underlying26 hv
 obtain ⟨fuel,hf⟩:=h
 obtain ⟨S,hS⟩:=opens_sch H enc w base spare held fuel _ _ hf
 have:schR.rep w w.heap.size S cs.toList:=by simpa [Value.cells] using hS
 exact ⟨S,schR_at this⟩
end Go.Proofs.YtfhmaincnlaapaaGreat
namespace Go.Proofs.YtfhmaincnlaapaaGreat
open Go.ChangeShapes Go.WideShapes Go.ChangeAt Go.RowKit Go.Deep
set_option linter.unusedVariables false
structure AskI where
 d:Int
 u:Int
 i:Int
 f:Nat
 s:ByteArray
 m:Int
abbrev iR:Rp Int:=Rp.val (Value.int .i64) (fun z=>(Lit.int .i64 z).wf=true) (fun _=>rfl)
abbrev uR:Rp Int:=Rp.val (Value.int .u64) (fun z=>(Lit.int .u64 z).wf=true) (fun _=>rfl)
abbrev fR:Rp Nat:=Rp.val (Value.float .f64) (fun b=>b<18446744073709551616) (fun _=>rfl)
abbrev sR:Rp ByteArray:=Rp.val Value.string (fun s=>s.size≤maxLen) (fun _=>rfl)
def askR:Rp AskI:=Rp.two AskI.d id iR (Rp.two AskI.u id uR (Rp.two AskI.i id iR (Rp.two AskI.f id fR (Rp.two AskI.s AskI.m sR iR))))
end Go.Proofs.YtfhmaincnlaapaaGreat
namespace Go.Proofs.YtfhmaincnlaapaaGreat
open Go.ChangeShapes Go.WideShapes Go.ChangeAt Go.RowKit Go.Deep Go.Joins
set_option linter.unusedVariables false
structure FactS where
 codes:List Int
 ints:List Int
 nums:List Nat
abbrev f64R:Rp Nat:=Rp.val (Value.float .f64) (fun b=>b<18446744073709551616) (fun _=>rfl)
def factR:Rp FactS:=Rp.two FactS.codes id i64R.sl (Rp.two FactS.ints FactS.nums i64R.sl f64R.sl)
abbrev i64s (l:List Int):List Value:=l.map (Value.int .i64)
abbrev f64s (l:List Nat):List Value:=l.map (Value.float .f64)
def FactV (w:World) (B:Nat) (F:FactS) (v0 v1 v2:Value):Prop :=
 ∃ A0 c0 A1 c1 A2 c2,v0=.slice A0 F.codes.length c0∧v1=.slice A1 F.ints.length c1∧v2=.slice A2 F.nums.length c2 ∧
  Rd w B 1 A0 F.codes.length (i64s F.codes)∧Rd w B 1 A1 F.ints.length (i64s F.ints)∧Rd w B 1 A2 F.nums.length (f64s F.nums) ∧
  (F.codes.length≤c0∧c0≤maxLen)∧(F.ints.length≤c1∧c1≤maxLen)∧(F.nums.length≤c2∧c2≤maxLen)
structure FactOk (F:FactS):Prop where
 codes:∀ x∈F.codes,-9223372036854775808≤x∧x≤9223372036854775807
 ints:∀ x∈F.ints,-9223372036854775808≤x∧x≤9223372036854775807
 nums:∀ x∈F.nums,x<18446744073709551616
structure WholeS where
 sum:Int
 abs:Int
 sq:List Nat
 mn:Int
 mx:Int
structure RealS where
 sum:List UInt8
 mn:Nat
 mx:Nat
structure CellS where
 key:Nat
 count:Int
 ints:List WholeS
 nums:List RealS
abbrev u64nR:Rp Nat:=Rp.val (fun n:Nat=>Value.int .u64 (n:Int)) (fun n=>n<18446744073709551616) (fun _=>rfl)
abbrev u32nR:Rp Nat:=Rp.val (fun n:Nat=>Value.int .u32 (n:Int)) (fun n=>n<4294967296) (fun _=>rfl)
abbrev u8R:Rp UInt8:=Rp.val (fun b:UInt8=>Value.int .u8 (b.toNat:Int)) (fun _=>True) (fun _=>rfl)
def wholeR:Rp WholeS:=Rp.two WholeS.sum id i64R (Rp.two WholeS.abs id i64R (Rp.two WholeS.sq id u32nR.sl (Rp.two WholeS.mn WholeS.mx i64R i64R)))
def realR:Rp RealS:=Rp.two RealS.sum id u8R.sl (Rp.two RealS.mn RealS.mx f64R f64R)
def cellR:Rp CellS:=Rp.two CellS.key id u64nR (Rp.two CellS.count id i64R (Rp.two CellS.ints CellS.nums wholeR.sl realR.sl))
abbrev u32n (l:List Nat):List Value:=l.map (fun n:Nat=>Value.int .u32 (n:Int))
theorem wholeR_at {w:World} {B:Nat} {x:WholeS} {cs:List Value} (h:wholeR.rep w B x cs):∃ A c,cs=[.int .i64 x.sum,.int .i64 x.abs,.slice A x.sq.length c,.int .i64 x.mn,.int .i64 x.mx]∧Rd w B 1 A x.sq.length (u32n x.sq)∧x.sq.length≤c∧c≤maxLen ∧
 (∀ n∈x.sq,n<4294967296)∧(-9223372036854775808≤x.sum∧x.sum≤9223372036854775807)∧(-9223372036854775808≤x.abs∧x.abs≤9223372036854775807)∧(-9223372036854775808≤x.mn∧x.mn≤9223372036854775807)∧(-9223372036854775808≤x.mx∧x.mx≤9223372036854775807):=by
 obtain ⟨_,_,rfl,⟨rfl,w0⟩,_,_,rfl,⟨rfl,w1⟩,_,_,rfl,⟨A,c,xs,rfl,a2,b2,r2,k2⟩,_,_,rfl,⟨rfl,w3⟩,rfl,w4⟩:=h
 obtain ⟨rfl,d2⟩:=chunk_val.1 k2
 exact ⟨A,c,rfl,r2,a2,b2,d2,bounds_i64 w0,bounds_i64 w1,bounds_i64 w3,bounds_i64 w4⟩
theorem realR_at {w:World} {B:Nat} {x:RealS} {cs:List Value} (h:realR.rep w B x cs):∃ A c,cs=[.slice A x.sum.length c,.float .f64 x.mn,.float .f64 x.mx]∧Rd w B 1 A x.sum.length (u8s x.sum)∧x.sum.length≤c∧c≤maxLen∧x.mn<18446744073709551616∧x.mx<18446744073709551616:=by
 obtain ⟨_,_,rfl,⟨A,c,xs,rfl,a2,b2,r2,k2⟩,_,_,rfl,⟨rfl,w3⟩,rfl,w4⟩:=h
 obtain ⟨rfl,d2⟩:=chunk_val.1 k2
 exact ⟨A,c,rfl,r2,a2,b2,w3,w4⟩
structure CellV (w:World) (B:Nat) (C:CellS) (A2:Option Addr) (c2:Nat) (A3:Option Addr) (c3:Nat):Prop where
 key:C.key<18446744073709551616
 count:-9223372036854775808≤C.count∧C.count≤9223372036854775807
 ints:SlR wholeR w B C.ints A2 c2
 nums:SlR realR w B C.nums A3 c3
theorem CellV.keep {w w':World} {B B':Nat} {C:CellS} {A2 A3:Option Addr} {c2 c3:Nat} (h:CellV w B C A2 c2 A3 c3) (hb:Below B w w') (hB:B≤B'):CellV w' B' C A2 c2 A3 c3:=⟨h.key,h.count,h.ints.keep hb hB,h.nums.keep hb hB⟩
def cellC (C:CellS) (A2:Option Addr) (c2:Nat) (A3:Option Addr) (c3:Nat):List Value:=[.int .u64 (C.key:Int),.int .i64 C.count,.slice A2 C.ints.length c2,.slice A3 C.nums.length c3]
theorem cellR_at {w:World} {B:Nat} {C:CellS} {cs:List Value} (h:cellR.rep w B C cs):∃ A2 c2 A3 c3,cs=cellC C A2 c2 A3 c3∧CellV w B C A2 c2 A3 c3:=by
 obtain ⟨_,_,rfl,⟨rfl,w0⟩,_,_,rfl,⟨rfl,w1⟩,_,_,rfl,⟨A2,c2,x2,rfl,a2,b2,r2,k2⟩,A3,c3,x3,rfl,a3,b3,r3,k3⟩:=h
 exact ⟨A2,c2,A3,c3,rfl,⟨w0,bounds_i64 w1,⟨a2,b2,x2,r2,k2⟩,⟨a3,b3,x3,r3,k3⟩⟩⟩
theorem cellR_mk {w:World} {B:Nat} {C:CellS} {A2 A3:Option Addr} {c2 c3:Nat} (h:CellV w B C A2 c2 A3 c3):cellR.rep w B C (cellC C A2 c2 A3 c3):=by
 obtain ⟨w0,w1,⟨a2,b2,x2,r2,k2⟩,a3,b3,x3,r3,k3⟩:=h
 exact ⟨[_],[_,_,_],rfl,⟨rfl,w0⟩,[_],[_,_],rfl,⟨rfl,WalkArith.wf_i64 w1⟩,[_],[_],rfl,⟨A2,c2,x2,rfl,a2,b2,r2,k2⟩,A3,c3,x3,rfl,a3,b3,r3,k3⟩
theorem SlR.cellAt {w:World} {B c:Nat} {l:List CellS} {A:Option Addr} (h:SlR cellR w B l A c) {k:Nat} (hk:k<l.length):∃ a A2 c2 A3 c3,A=some a∧a.block<B∧w.cell? (a.add (k*4))=some (.int .u64 (l[k].key:Int)) ∧
 w.cell? ⟨(a.add (k*4)).block,(a.add (k*4)).off+1,none⟩=some (.int .i64 l[k].count)∧w.cell? ⟨(a.add (k*4)).block,(a.add (k*4)).off+2,none⟩=some (.slice A2 l[k].ints.length c2) ∧
 w.cell? ⟨(a.add (k*4)).block,(a.add (k*4)).off+3,none⟩=some (.slice A3 l[k].nums.length c3)∧CellV w B l[k] A2 c2 A3 c3:=by
 obtain ⟨a,cs,rfl,hb,hr,hc⟩:=h.get hk
 obtain ⟨A2,c2,A3,c3,rfl,hv⟩:=cellR_at hr
 have key:∀ j,j<4→w.cell? (a.add (k*4+j))=(cellC l[k] A2 c2 A3 c3)[j]?:=fun j hj=>hc j hj
 refine ⟨a,A2,c2,A3,c3,rfl,hb,key 0 (by decide),?_,?_,?_,hv⟩
 ·have:=key 1 (by decide)
  rw [←add_add',add_succ] at this
  exact this
 ·have:=key 2 (by decide)
  rw [←add_add',show (2:Nat)=1+1 from rfl,add_succ] at this
  exact this
 ·have:=key 3 (by decide)
  rw [←add_add',show (3:Nat)=2+1 from rfl,add_succ] at this
  exact this
theorem SlR.wholeAt {w:World} {B c:Nat} {l:List WholeS} {A:Option Addr} (h:SlR wholeR w B l A c) {k:Nat} (hk:k<l.length):∃ a A2 c2,A=some a∧a.block<B∧w.cell? (a.add (k*5))=some (.int .i64 l[k].sum) ∧
 w.cell? ⟨(a.add (k*5)).block,(a.add (k*5)).off+1,none⟩=some (.int .i64 l[k].abs)∧w.cell? ⟨(a.add (k*5)).block,(a.add (k*5)).off+2,none⟩=some (.slice A2 l[k].sq.length c2) ∧
 w.cell? ⟨(a.add (k*5)).block,(a.add (k*5)).off+3,none⟩=some (.int .i64 l[k].mn)∧w.cell? ⟨(a.add (k*5)).block,(a.add (k*5)).off+4,none⟩=some (.int .i64 l[k].mx) ∧
 Rd w B 1 A2 l[k].sq.length (u32n l[k].sq)∧l[k].sq.length≤c2∧c2≤maxLen∧(∀ n∈l[k].sq,n<4294967296)∧(-9223372036854775808≤l[k].sum∧l[k].sum≤9223372036854775807)∧(-9223372036854775808≤l[k].abs∧l[k].abs≤9223372036854775807) ∧
 (-9223372036854775808≤l[k].mn∧l[k].mn≤9223372036854775807)∧(-9223372036854775808≤l[k].mx∧l[k].mx≤9223372036854775807):=by
 obtain ⟨a,cs,rfl,hb,hr,hc⟩:=h.get hk
 obtain ⟨A2,c2,rfl,hv⟩:=wholeR_at hr
 have key:∀ j,j<5→w.cell? (a.add (k*5+j))=([.int .i64 l[k].sum,.int .i64 l[k].abs,.slice A2 l[k].sq.length c2,.int .i64 l[k].mn,.int .i64 l[k].mx]:List Value)[j]?:=fun j hj=>hc j hj
 refine ⟨a,A2,c2,rfl,hb,key 0 (by decide),?_,?_,?_,?_,hv⟩
 ·have:=key 1 (by decide)
  rw [←add_add',add_succ] at this
  exact this
 ·have:=key 2 (by decide)
  rw [←add_add',show (2:Nat)=1+1 from rfl,add_succ] at this
  exact this
 ·have:=key 3 (by decide)
  rw [←add_add',show (3:Nat)=2+1 from rfl,add_succ] at this
  exact this
 ·have:=key 4 (by decide)
  rw [←add_add',show (4:Nat)=3+1 from rfl,add_succ] at this
  exact this
theorem SlR.realAt {w:World} {B c:Nat} {l:List RealS} {A:Option Addr} (h:SlR realR w B l A c) {k:Nat} (hk:k<l.length):∃ a A2 c2,A=some a∧a.block<B∧w.cell? (a.add (k*3))=some (.slice A2 l[k].sum.length c2) ∧
 w.cell? ⟨(a.add (k*3)).block,(a.add (k*3)).off+1,none⟩=some (.float .f64 l[k].mn)∧w.cell? ⟨(a.add (k*3)).block,(a.add (k*3)).off+2,none⟩=some (.float .f64 l[k].mx) ∧
 Rd w B 1 A2 l[k].sum.length (u8s l[k].sum)∧l[k].sum.length≤c2∧c2≤maxLen∧l[k].mn<18446744073709551616∧l[k].mx<18446744073709551616:=by
 obtain ⟨a,cs,rfl,hb,hr,hc⟩:=h.get hk
 obtain ⟨A2,c2,rfl,hv⟩:=realR_at hr
 have key:∀ j,j<3→w.cell? (a.add (k*3+j))=([.slice A2 l[k].sum.length c2,.float .f64 l[k].mn,.float .f64 l[k].mx]:List Value)[j]?:=fun j hj=>hc j hj
 refine ⟨a,A2,c2,rfl,hb,key 0 (by decide),?_,?_,hv⟩
 ·have:=key 1 (by decide)
  rw [←add_add',add_succ] at this
  exact this
 ·have:=key 2 (by decide)
  rw [←add_add',show (2:Nat)=1+1 from rfl,add_succ] at this
  exact this
end Go.Proofs.YtfhmaincnlaapaaGreat
namespace Go.Proofs.YtfhmaincnlaapaaGreat.Sy
open Go.ChangeShapes Go.WideShapes Go.ChangeAt Go.RowKit
set_option linter.unusedVariables false
def RepL (w:World) (F:Nat→Prop) (cs:List AV) (us:List Value):Prop:=us.length=cs.length∧∀ (j:Nat) (x:AV) (u:Value),cs[j]?=some x→us[j]?=some u→Rep w F x u
section
variable {w:World} {F:Nat→Prop}
theorem RepL.nil:RepL w F [] []:=⟨rfl,fun j x u h=>by simp at h⟩
theorem RepL.app {a b:List AV} {us vs:List Value} (h:RepL w F a us) (k:RepL w F b vs):RepL w F (a++b) (us++vs):=by
 refine ⟨by simp [h.1,k.1],fun j x u hx hu=>?_⟩
 by_cases hj:j<a.length
 ·rw [List.getElem?_append_left hj] at hx
  rw [List.getElem?_append_left (by rw [h.1];exact hj)] at hu
  exact h.2 j x u hx hu
 ·rw [List.getElem?_append_right (by omega)] at hx
  rw [List.getElem?_append_right (by rw [h.1];omega),h.1] at hu
  exact k.2 _ x u hx hu
theorem RepL.cut {a b:List AV} {us:List Value} (h:RepL w F (a++b) us):∃ c d,us=c++d∧RepL w F a c∧RepL w F b d:=by
 have hl:=h.1
 rw [List.length_append] at hl
 refine ⟨us.take a.length,us.drop a.length,(List.take_append_drop _ _).symm,⟨by rw [List.length_take];omega,fun j x u hx hu=>?_⟩,⟨by rw [List.length_drop];omega,fun j x u hx hu=>?_⟩⟩
 ·have hj:=lt_of_some hx
  rw [List.getElem?_take_of_lt hj] at hu
  exact h.2 j x u (by rw [List.getElem?_append_left hj];exact hx) hu
 ·rw [List.getElem?_drop] at hu
  exact h.2 (a.length+j) x u (by rw [List.getElem?_append_right (by omega),Nat.add_sub_cancel_left];exact hx) hu
theorem RepL.one {x:AV} {u:Value}:RepL w F [x] [u]↔Rep w F x u:=by
 constructor
 ·intro h;exact h.2 0 x u rfl rfl
 ·intro h
  refine ⟨rfl,fun j y v hy hv=>?_⟩
  cases j with
  | zero=>simp only [List.getElem?_cons_zero,Option.some.injEq] at hy hv;subst hy;subst hv;exact h
  | succ j=>simp at hy
theorem RepL.ones {cs:List AV} {us:List Value} (h:RepL w F cs us):∀ u∈us,u.oneCell'=true:=fun u hu=>by
 obtain ⟨j,hj,rfl⟩:=List.getElem_of_mem hu
 obtain ⟨x,hx⟩:=getElem?_of (l:=cs) (j:=j) (by rw [←h.1];exact hj)
 exact (h.2 j x _ hx (List.getElem?_eq_getElem hj)).one
end
structure Enc {α:Type} (R:Rp α) (enc:α→List AV) (ok:α→Prop):Prop where
 len:∀ x,(enc x).length=R.size
 fw:∀ {w:World} {B:Nat} {F:Nat→Prop} {x:α} {cs:List Value},(∀ b,b<B→F b)→R.rep w B x cs→RepL w F (enc x) cs∧ok x
 bw:∀ {w:World} {B:Nat} {F:Nat→Prop} {x:α} {cs:List Value},(∀ b,F b→b<B)→RepL w F (enc x) cs→ok x→R.rep w B x cs
theorem Enc.val {α:Type} {f:α→Value} {ok:α→Prop} {h1:∀ x,(f x).oneCell'=true}:Enc (Rp.val f ok h1) (fun x=>[.v (f x)]) ok where
 len x:=rfl
 fw hF h:=by obtain ⟨rfl,h⟩:=h;exact ⟨RepL.one.2 (.v _ (h1 _)),h⟩
 bw {w B F x cs} hF h ho:=by
  refine ⟨?_,ho⟩
  obtain ⟨u,rfl⟩:∃ u,cs=[u]:=List.length_eq_one_iff.1 h.1
  cases RepL.one.1 h with
  | v _ _=>rfl
theorem Enc.two {α β γ:Type} {p:α→β} {q:α→γ} {R:Rp β} {S:Rp γ} {e1:β→List AV} {e2:γ→List AV} {o1:β→Prop} {o2:γ→Prop} (h:Enc R e1 o1) (k:Enc S e2 o2):Enc (Rp.two p q R S) (fun x=>e1 (p x)++e2 (q x)) (fun x=>o1 (p x)∧o2 (q x)) where
 len x:=by show (e1 (p x)++e2 (q x)).length=R.size+S.size;rw [List.length_append,h.len,k.len]
 fw hF hx:=by
  obtain ⟨c,d,rfl,a,b⟩:=hx
  obtain ⟨a1,a2⟩:=h.fw hF a
  obtain ⟨b1,b2⟩:=k.fw hF b
  exact ⟨a1.app b1,a2,b2⟩
 bw hF hx ho:=by
  obtain ⟨c,d,rfl,a,b⟩:=hx.cut
  exact ⟨c,d,rfl,h.bw hF a ho.1,k.bw hF b ho.2⟩
def encL {α:Type} (e:α→List AV) (l:List α):List AV:=[.lst l.length (l.flatMap e)]
theorem Enc.chunk {α:Type} {R:Rp α} {e:α→List AV} {ok:α→Prop} (h:Enc R e ok) {w:World} {B:Nat} {F:Nat→Prop} (hF:∀ b,b<B→F b):∀ {l:List α} {xs:List Value},Chunk R w B l xs→RepL w F (l.flatMap e) xs∧∀ x∈l,ok x
 | [],xs,hc=>by cases hc;exact ⟨.nil,fun x hx=>by cases hx⟩
 | x::l,xs,hc=>by
   obtain ⟨c,rest,rfl,a,b⟩:=hc
   obtain ⟨a1,a2⟩:=h.fw hF a
   obtain ⟨b1,b2⟩:=h.chunk hF b
   exact ⟨a1.app b1,fun y hy=>by rcases List.mem_cons.1 hy with rfl|hy;exact a2;exact b2 y hy⟩
theorem Enc.unchunk {α:Type} {R:Rp α} {e:α→List AV} {ok:α→Prop} (h:Enc R e ok) {w:World} {B:Nat} {F:Nat→Prop} (hF:∀ b,F b→b<B):∀ {l:List α} {xs:List Value},RepL w F (l.flatMap e) xs→(∀ x∈l,ok x)→Chunk R w B l xs
 | [],xs,hr,_=>List.eq_nil_of_length_eq_zero hr.1
 | x::l,xs,hr,ho=>by
   obtain ⟨c,d,rfl,a,b⟩:=RepL.cut (a:=e x) (b:=l.flatMap e) hr
   exact ⟨c,d,rfl,h.bw hF a (ho x (by simp)),h.unchunk hF b fun y hy=>ho y (by simp [hy])⟩
theorem Enc.flat_len {α:Type} {R:Rp α} {e:α→List AV} {ok:α→Prop} (h:Enc R e ok) (l:List α):(l.flatMap e).length=l.length*R.size:=by
 induction l with
 | nil=>simp
 | cons x l ih=>rw [List.flatMap_cons,List.length_append,h.len,ih,List.length_cons,Nat.succ_mul];omega
theorem Enc.sl {α:Type} {R:Rp α} {e:α→List AV} {ok:α→Prop} (h:Enc R e ok):Enc R.sl (encL e) (fun l=>∀ x∈l,ok x) where
 len l:=rfl
 fw {w B F l cs} hF hx:=by
  obtain ⟨A,c,xs,rfl,h1,h2,h3,h4⟩:=hx
  obtain ⟨k1,k2⟩:=h.chunk hF h4
  refine ⟨RepL.one.2 ?_,k2⟩
  rcases Nat.eq_zero_or_pos l.length with h0|h0
  ·obtain rfl:=List.eq_nil_of_length_eq_zero h0
   exact .nil A c h2
  ·obtain ⟨a,rfl,hb,hc⟩:=h3.2 h0
   exact .lst _ c _ a xs h0 h1 h2 (hF _ hb) k1.1 k1.ones hc k1.2
 bw {w B F l cs} hF hx ho:=by
  obtain ⟨u,rfl⟩:∃ u,cs=[u]:=List.length_eq_one_iff.1 hx.1
  have hr:Rep w F (.lst l.length (l.flatMap e)) u:=RepL.one.1 hx
  generalize hn:l.length=n at hr
  generalize hcs:l.flatMap e=cs at hr
  cases hr with
  | nil A c hm =>
    obtain rfl:=List.eq_nil_of_length_eq_zero hn
    exact ⟨A,c,[],rfl,Nat.zero_le _,hm,Rd.nil,rfl⟩
  | lst _ c _ a us h0 h1 h2 hFa hl h1' hu hr =>
    subst hcs
    have hRL:RepL w F (l.flatMap e) us:=⟨hl,hr⟩
    have hch:=h.unchunk hF hRL ho
    refine ⟨some a,c,us,by rw [hn],by rw [hn];exact h1,h2,⟨by rw [hl,h.flat_len],fun _=>⟨a,rfl,hF _ hFa,hu⟩⟩,hch⟩
theorem Enc.see {α:Type} {R:Rp α} {e:α→List AV} {ok:α→Prop} (h:Enc R e ok) {E:Env} {B:Nat} (hF:∀ b,b<B→E.F b) {x:α} {cs:List Value} (hx:R.rep E.w B x cs):Sees1 E (.agg (e x)) (.agg cs.toArray):=by
 obtain ⟨k,_⟩:=h.fw hF hx
 exact ⟨cs,rfl,k.1,fun j y u hy hu=>⟨Leaf.rep (k.2 j y u hy hu),(k.2 j y u hy hu).one⟩⟩
def pureV:AV→Bool
 | .v _=>true
 | .lst _ _=>true
 | _=>false
theorem Enc.unsee {α:Type} {R:Rp α} {e:α→List AV} {ok:α→Prop} (h:Enc R e ok) {E:Env} {B:Nat} (hF:∀ b,E.F b→b<B) {x:α} {u:Value} (hp:(e x).all pureV=true) (hx:Sees1 E (.agg (e x)) u) (ho:ok x):∃ cs:List Value,u=.agg cs.toArray∧R.rep E.w B x cs:=by
 obtain ⟨us,rfl,hl,hs⟩:=hx
 refine ⟨us,rfl,h.bw hF ⟨hl,fun j y v hy hv=>?_⟩ ho⟩
 have h1:=(hs j y v hy hv).1
 have h2:=List.all_eq_true.1 hp y (List.mem_of_getElem? hy)
 cases y with
 | v z=>obtain ⟨rfl,h3⟩:=h1;exact .v _ h3
 | lst n cs=>exact h1
 | _=>cases h2
theorem FnOk.of_calls {P:Program} {f:FuncId} {args:List AV} {r:Value} (hr:r.oneCell'=true) (h:∀ (E:Env) (vs:List Value),(∀ b,E.F b→b<E.w.heap.size)→vs.length=args.length→(∀ (j:Nat) (x:AV) (u:Value),args[j]?=some x→vs[j]?=some u→Sees1 E x u) →
 Calls P f vs.toArray E.w fun y w'=>y=.returned r∧Below E.w.heap.size E.w w'):FnOk P f ⟨args,[],.v r,[]⟩:=by
 intro M w0 E vs hob hm hl hs
 refine (h E vs hm.fz hl hs).mono ?_
 rintro y w' ⟨rfl,hb⟩
 obtain ⟨h1,h2⟩:=hm.grow hb E.F (fun b hb=>.inl hb) (fun b hb=>hb)
 exact ⟨⟨w',E.F,E.β,E.ν,E.ob⟩,r,rfl,rfl,hob,h1,h2,rfl,hr⟩
def newF (E:Env) (w':World) (b:Nat):Prop:=E.F b∨(E.w.heap.size≤b∧b<w'.heap.size)
theorem FnOk.of_new {P:Program} {f:FuncId} {args:List AV} {r:AV} (h:∀ (E:Env) (vs:List Value),(∀ b,E.F b→b<E.w.heap.size)→vs.length=args.length→(∀ (j:Nat) (x:AV) (u:Value),args[j]?=some x→vs[j]?=some u→Sees1 E x u) →
 Calls P f vs.toArray E.w fun y w'=>∃ v,y=.returned v∧Below E.w.heap.size E.w w'∧Sees ⟨w',newF E w',E.β,E.ν,E.ob⟩ r v):FnOk P f ⟨args,[],r,[]⟩:=by
 intro M w0 E vs hob hm hl hs
 refine (h E vs hm.fz hl hs).mono ?_
 rintro y w' ⟨v,rfl,hb,hsee⟩
 obtain ⟨h1,h2⟩:=hm.grow hb (newF E w') (fun b hb=>hb) (fun b hb=>.inl hb)
 exact ⟨⟨w',newF E w',E.β,E.ν,E.ob⟩,v,rfl,rfl,hob,h1,h2,hsee⟩
theorem own_rep {w:World} {base:Nat} {F:Nat→Prop} {e:TypeId} {s n:Nat} {v:Value} {us:List Value} {cs:List AV} (h:w.ownsRow base e s v n us) (hF:∀ b,base≤b→b<w.heap.size→F b) (hr:RepL w F cs us):Rep w F (.lst n cs) v:=by
 rcases h.2 with ⟨hv,hn⟩|⟨g,cap,cur,hv,hg,hh,hnc,hcm,_⟩
 ·subst hn
  have hc:cs=[]:=List.eq_nil_of_length_eq_zero (by rw [←hr.1,h.1];simp)
  subst hc;rw [hv];exact .nil none 0 (Nat.zero_le _)
 ·have hcell:=h.cells (g:=g) (by rw [hv];rfl)
  have hlt:g<w.heap.size:=by
   rcases Nat.lt_or_ge g w.heap.size with h1|h1
   ·exact h1
   ·rw [Array.getElem?_eq_none h1] at hh;cases hh
  rw [hv]
  rcases Nat.eq_zero_or_pos n with hn|hn
  ·subst hn
   have hc:cs=[]:=List.eq_nil_of_length_eq_zero (by rw [←hr.1,h.1];simp)
   subst hc;exact .nil _ cap hcm
  ·exact .lst n cap cs ⟨g,0,none⟩ us hn hnc hcm (hF g hg hlt) hr.1 hr.ones hcell hr.2
theorem repL_v {w:World} {F:Nat→Prop} {us:List Value} (h:∀ u∈us,u.oneCell'=true):RepL w F (us.map .v) us:=by
 refine ⟨by simp,fun j x u hx hu=>?_⟩
 rw [List.getElem?_map,hu] at hx
 injection hx with hx;subst hx
 exact .v u (h u (List.mem_of_getElem? hu))
theorem bytes_open {E:Env} {l:List UInt8} {u:Value} (hF:∀ b,E.F b→b<E.w.heap.size) (h:Sees1 E (.lst l.length (byL l)) u):∃ A c,u=.slice A l.length c∧Rd E.w E.w.heap.size 1 A l.length (u8s l):=by
 have hr:Rep E.w E.F (.lst l.length (byL l)) u:=h
 generalize hn:l.length=n at hr ⊢
 generalize hcs:byL l=cs at hr
 cases hr with
 | nil A c _ =>
   obtain rfl:=List.eq_nil_of_length_eq_zero hn
   exact ⟨A,c,rfl,Rd.nil⟩
 | lst _ c _ a us h0 h1 h2 hFa hl h1' hu hr =>
   subst hcs
   have hus:us=u8s l:=by
    refine List.ext_getElem? fun j=>?_
    by_cases hj:j<l.length
    ·obtain ⟨u,h5⟩:=getElem?_of (l:=us) (j:=j) (by rw [hl];simpa [byL] using hj)
     have h6:=hr j (.v (.int .u8 ((l[j]).toNat:Int))) u (by unfold byL;rw [List.getElem?_map,List.getElem?_eq_getElem hj];rfl) h5
     unfold u8s
     rw [h5,List.getElem?_map,List.getElem?_eq_getElem hj]
     cases h6 with
     | v _ h7=>rfl
    ·rw [List.getElem?_eq_none (by rw [hl];simpa [byL] using hj),List.getElem?_eq_none (by simpa [u8s] using hj)]
   exact ⟨some a,c,rfl,by rw [←hus,hl];simp [byL,hn],fun _=>⟨a,rfl,hF _ hFa,by rw [←hus];exact hu⟩⟩
theorem flat_v {α:Type} (g:α→Value) (l:List α):(l.flatMap fun x=>[AV.v (g x)])=(l.map g).map .v:=by
 induction l with
 | nil=>rfl
 | cons x l ih=>simp only [List.flatMap_cons,ih,List.map_cons];rfl
end Go.Proofs.YtfhmaincnlaapaaGreat.Sy
