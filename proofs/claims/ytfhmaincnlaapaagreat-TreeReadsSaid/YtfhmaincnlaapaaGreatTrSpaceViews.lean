/- schema.Views, bushelref11.Views. -/
import Derived.Deep.DeepCutAuto
import Derived.StillTailTactics
import Derived.Deep.RegionLawGrows
import Derived.Test.YtfhmaincnlaapaaGreatTrBufOutKeep
import Derived.Test.YtfhmaincnlaapaaGreatTrRefCheck
import Derived.Test.YtfhmaincnlaapaaGreatTrCellGet
import Derived.Test.YtfhmaincnlaapaaGreatTrExactRead
import Derived.Test.YtfhmaincnlaapaaGreatTrAggGet
namespace Go.Proofs.YtfhmaincnlaapaaGreat
open Go.ChangeShapes Go.WideShapes Go.ChangeAt Go.RowKit
set_option linter.unusedVariables false
theorem run_store_fG {P:Program} {w:World} {a:Addr} {m:Mode} (k:FloatKind) (b:Nat):(store a (.float k b) m).run P w=stored P w a (.float k b) m:=run_store P w a _ m rfl
attribute [local go_sem] run_store_fG
theorem own_one' {w:World} {base n:Nat} {e:TypeId} {size:Nat} {v:Value} {xs:List Value} (h:w.ownsRow base e size v n xs):v.oneCell'=true:=by
 obtain ⟨A,c,rfl,_⟩:=own_form h;rfl
abbrev whC (X:WholeS) (v:Value):List Value:=[.int .i64 X.sum,.int .i64 X.abs,v,.int .i64 X.mn,.int .i64 X.mx]
abbrev reC (X:RealS) (v:Value):List Value:=[v,.float .f64 X.mn,.float .f64 X.mx]
def WhO (w:World) (base:Nat):List WholeS→List Value→Prop
 | [],xs=>xs=[]
 | X::l,xs=>∃ v rest,xs=whC X v++rest∧w.ownsRow base 39 1 v X.sq.length (u32n X.sq)∧WhO w base l rest
def ReO (w:World) (base:Nat):List RealS→List Value→Prop
 | [],xs=>xs=[]
 | X::l,xs=>∃ v rest,xs=reC X v++rest∧w.ownsRow base 5 1 v X.sum.length (u8s X.sum)∧ReO w base l rest
section
variable {w w':World} {base g:Nat} {l:List WholeS} {m:List RealS} {xs:List Value}
theorem WhO.map (h:WhO w base l xs) (k:∀ v n ys,w.ownsRow base 39 1 v n ys→w'.ownsRow base 39 1 v n ys):WhO w' base l xs:=by
 induction l generalizing xs with
 | nil=>exact h
 | cons X l ih=>obtain ⟨v,rest,rfl,o,hr⟩:=h;exact ⟨v,rest,rfl,k _ _ _ o,ih hr⟩
theorem ReO.map (h:ReO w base m xs) (k:∀ v n ys,w.ownsRow base 5 1 v n ys→w'.ownsRow base 5 1 v n ys):ReO w' base m xs:=by
 induction m generalizing xs with
 | nil=>exact h
 | cons X l ih=>obtain ⟨v,rest,rfl,o,hr⟩:=h;exact ⟨v,rest,rfl,k _ _ _ o,ih hr⟩
theorem WhO.only (h:WhO w base l xs) (k:Only g w w') (hg:g<base):WhO w' base l xs:=h.map fun v n ys ho=>k.own ho (own_far ho hg)
theorem ReO.only (h:ReO w base m xs) (k:Only g w w') (hg:g<base):ReO w' base m xs:=h.map fun v n ys ho=>k.own ho (own_far ho hg)
theorem WhO.alloc (h:WhO w base l xs) (o:Obj):WhO (w.alloc o) base l xs:=h.map fun v n ys ho=>ho.alloc o
theorem ReO.alloc (h:ReO w base m xs) (o:Obj):ReO (w.alloc o) base m xs:=h.map fun v n ys ho=>ho.alloc o
theorem WhO.drew (h:WhO w base l xs):WhO w.drew base l xs:=h.map fun v n ys ho=>ho
theorem ReO.drew (h:ReO w base m xs):ReO w.drew base m xs:=h.map fun v n ys ho=>ho
theorem WhO.appd {v v':Value} {b n:Nat} {e:TypeId} {size:Nat} {ys:List Value} (h:WhO w base l xs) (k:Appd w w' v v') (ho:w.ownsRow b e size v n ys) (he:39≠e):WhO w' base l xs:=h.map fun _ _ _ h'=>k.kept h' (own_own_ne h' ho he)
theorem ReO.appd {v v':Value} {b n:Nat} {e:TypeId} {size:Nat} {ys:List Value} (h:ReO w base m xs) (k:Appd w w' v v') (ho:w.ownsRow b e size v n ys) (he:5≠e):ReO w' base m xs:=h.map fun _ _ _ h'=>k.kept h' (own_own_ne h' ho he)
theorem WhO.snoc {X:WholeS} {v:Value} (h:WhO w base l xs) (o:w.ownsRow base 39 1 v X.sq.length (u32n X.sq)):WhO w base (l ++ [X]) (xs++whC X v):=by
 induction l generalizing xs with
 | nil=>cases h;exact ⟨v,[],rfl,o,rfl⟩
 | cons Y l ih=>obtain ⟨u,rest,rfl,p,hr⟩:=h;exact ⟨u,rest++whC X v,by simp,p,ih hr⟩
theorem ReO.snoc {X:RealS} {v:Value} (h:ReO w base m xs) (o:w.ownsRow base 5 1 v X.sum.length (u8s X.sum)):ReO w base (m ++ [X]) (xs++reC X v):=by
 induction m generalizing xs with
 | nil=>cases h;exact ⟨v,[],rfl,o,rfl⟩
 | cons Y l ih=>obtain ⟨u,rest,rfl,p,hr⟩:=h;exact ⟨u,rest++reC X v,by simp,p,ih hr⟩
theorem wholeR_mk {B:Nat} {X:WholeS} {A:Option Addr} {c:Nat} (h:Rd w B 1 A X.sq.length (u32n X.sq)) (h1:X.sq.length≤c) (h2:c≤maxLen) (ho:wholeOk X):wholeR.rep w B X [.int .i64 X.sum,.int .i64 X.abs,.slice A X.sq.length c,.int .i64 X.mn,.int .i64 X.mx]:=by
 obtain ⟨o1,o2,o3,o4,o5⟩:=ho
 exact ⟨[_],[_,_,_,_],rfl,⟨rfl,WalkArith.wf_i64 o1⟩,[_],[_,_,_],rfl,⟨rfl,WalkArith.wf_i64 o2⟩,[_],[_,_],rfl,⟨A,c,u32n X.sq,rfl,h1,h2,h,chunk_val.2 ⟨rfl,o5⟩⟩,[_],[_],rfl,⟨rfl,WalkArith.wf_i64 o3⟩,rfl,WalkArith.wf_i64 o4⟩
theorem realR_mk {B:Nat} {X:RealS} {A:Option Addr} {c:Nat} (h:Rd w B 1 A X.sum.length (u8s X.sum)) (h1:X.sum.length≤c) (h2:c≤maxLen) (o1:X.mn<18446744073709551616) (o2:X.mx<18446744073709551616):realR.rep w B X [.slice A X.sum.length c,.float .f64 X.mn,.float .f64 X.mx] :=
 ⟨[_],[_,_],rfl,⟨A,c,u8s X.sum,rfl,h1,h2,h,chunk_val.2 ⟨rfl,fun _ _=>trivial⟩⟩,[_],[_],rfl,⟨rfl,o1⟩,rfl,o2⟩
theorem WhO.chunk (h:WhO w base l xs) (ho:∀ X∈l,wholeOk X):Chunk wholeR w w.heap.size l xs:=by
 induction l generalizing xs with
 | nil=>exact h
 | cons X l ih =>
   obtain ⟨v,rest,rfl,o,hr⟩:=h
   obtain ⟨A,c,rfl,a,b,_⟩:=own_form o
   exact ⟨_,rest,rfl,wholeR_mk (Rd.own o) a b (ho X (by simp)),ih hr fun Y hY=>ho Y (by simp [hY])⟩
theorem ReO.chunk (h:ReO w base m xs) (ho:∀ X∈m,X.mn<18446744073709551616∧X.mx<18446744073709551616):Chunk realR w w.heap.size m xs:=by
 induction m generalizing xs with
 | nil=>exact h
 | cons X l ih =>
   obtain ⟨v,rest,rfl,o,hr⟩:=h
   obtain ⟨A,c,rfl,a,b,_⟩:=own_form o
   exact ⟨_,rest,rfl,realR_mk (Rd.own o) a b (ho X (by simp)).1 (ho X (by simp)).2,ih hr fun Y hY=>ho Y (by simp [hY])⟩
end
theorem rd_newL (w:World) (t:TypeId) (us:List Value) (n:Nat) (hn:us.length=n):Rd (w.alloc (.cells us.toArray t)) (w.heap.size+1) n (some ⟨w.heap.size,0,none⟩) 1 us :=
 ⟨by omega,fun _=>⟨_,rfl,Nat.lt_succ_self _,fun j x hj=>by
  have e:(⟨w.heap.size,0,none⟩:Addr).add j=⟨w.heap.size,j,none⟩:=by unfold Addr.add;split<;>simp_all
  rw [e,World.cell?_alloc_mark w us.toArray t (0,0) j];simpa using hj⟩⟩
theorem WhO.mono {w:World} {base base':Nat} {l:List WholeS} {xs:List Value} (h:WhO w base l xs) (hb:base'≤base):WhO w base' l xs:=by
 induction l generalizing xs with
 | nil=>exact h
 | cons X l ih=>obtain ⟨v,rest,rfl,o,hr⟩:=h;exact ⟨v,rest,rfl,own_mono o hb,ih hr⟩
theorem ReO.mono {w:World} {base base':Nat} {m:List RealS} {xs:List Value} (h:ReO w base m xs) (hb:base'≤base):ReO w base' m xs:=by
 induction m generalizing xs with
 | nil=>exact h
 | cons X l ih=>obtain ⟨v,rest,rfl,o,hr⟩:=h;exact ⟨v,rest,rfl,own_mono o hb,ih hr⟩
def realsOk (m:List RealS):Prop:=∀ X∈m,X.mn<18446744073709551616∧X.mx<18446744073709551616
structure CellO (w:World) (base:Nat) (C:CellS) (A2:Option Addr) (c2:Nat) (A3:Option Addr) (c3:Nat):Prop where
 ok:CellOk C
 rok:realsOk C.nums
 o2:∃ xs,w.ownsRow base 122 5 (.slice A2 C.ints.length c2) C.ints.length xs∧WhO w base C.ints xs
 o3:∃ ys,w.ownsRow base 60 3 (.slice A3 C.nums.length c3) C.nums.length ys∧ReO w base C.nums ys
theorem CellO.cellV {w:World} {base:Nat} {C:CellS} {A2 A3:Option Addr} {c2 c3:Nat} (h:CellO w base C A2 c2 A3 c3):CellV w w.heap.size C A2 c2 A3 c3:=by
 obtain ⟨xs,h1,h2⟩:=h.o2
 obtain ⟨ys,h3,h4⟩:=h.o3
 exact ⟨h.ok.key,h.ok.count,SlR.own (R:=wholeR) h1 (h2.chunk h.ok.ints),SlR.own (R:=realR) h3 (h4.chunk h.rok)⟩
theorem CellO.map {w w':World} {base base':Nat} {C:CellS} {A2 A3:Option Addr} {c2 c3:Nat} (h:CellO w base C A2 c2 A3 c3) (hb:base'≤base)
 (k:∀ (e:TypeId) (size:Nat) (v:Value) (n:Nat) (xs:List Value),e≠53→w.ownsRow base e size v n xs→w'.ownsRow base e size v n xs):CellO w' base' C A2 c2 A3 c3:=by
 obtain ⟨xs,h1,h2⟩:=h.o2
 obtain ⟨ys,h3,h4⟩:=h.o3
 exact ⟨h.ok,h.rok,⟨xs,own_mono (k _ _ _ _ _ (by decide) h1) hb,(h2.map fun v n ys o=>k _ _ _ _ _ (by decide) o).mono hb⟩,ys,own_mono (k _ _ _ _ _ (by decide) h3) hb,(h4.map fun v n ys o=>k _ _ _ _ _ (by decide) o).mono hb⟩
theorem cellO_zero (w:World) (base:Nat):CellO w base zeroC none 0 none 0:=⟨zeroC_ok,(fun X hX=>by cases hX),⟨[],World.ownsRow_nil _ _ _ 5,rfl⟩,[],World.ownsRow_nil _ _ _ 3,rfl⟩
structure GetC (w wr:World) (g gc:Nat) (SV:Array Value) (K:Nat) (N:Int) (t:List UInt8) (v2 v3:Value) (l:List WholeS) (m:List RealS) (xs ys:List Value) (p e:Nat):Prop where
 s:Blk wr w.heap.size 26 SV
 z:Blk wr (w.heap.size+1) 53 #[.int .u64 0,.int .i64 0,.slice none 0 0,.slice none 0 0]
 c:Blk wr gc 53 #[.int .u64 (K:Int),.int .i64 N,v2,v3]
 o2:wr.ownsRow (gc+1) 122 5 v2 l.length xs
 f2:WhO wr (gc+1) l xs
 o3:wr.ownsRow (gc+1) 60 3 v3 m.length ys
 f3:ReO wr (gc+1) m ys
 i:InS wr g t p e
 n:Below w.heap.size w wr
 a1:w.heap.size+1+1≤g
 a2:g<gc
section
variable {w wr w2 w3:World} {g gc:Nat} {SV:Array Value} {K:Nat} {N:Int} {t:List UInt8} {v2 v3 v' vq:Value} {l:List WholeS} {m:List RealS} {xs ys:List Value} {p e p' e':Nat}
theorem GetC.lt (h:GetC w wr g gc SV K N t v2 v3 l m xs ys p e):gc+1≤wr.heap.size:=h.c.lt
theorem GetC.drew (h:GetC w wr g gc SV K N t v2 v3 l m xs ys p e):GetC w wr.drew g gc SV K N t v2 v3 l m xs ys p e:=⟨h.s,h.z,h.c,h.o2,h.f2.drew,h.o3,h.f3.drew,h.i,h.n.drew,h.a1,h.a2⟩
theorem GetC.alloc (h:GetC w wr g gc SV K N t v2 v3 l m xs ys p e) (o:Obj):GetC w (wr.alloc o) g gc SV K N t v2 v3 l m xs ys p e :=
 ⟨h.s.alloc o,h.z.alloc o,h.c.alloc o,h.o2.alloc o,h.f2.alloc o,h.o3.alloc o,h.f3.alloc o,h.i.below (belA (belR wr) o) h.i.lt,belA h.n o,h.a1,h.a2⟩
theorem GetC.only (h:GetC w wr g gc SV K N t v2 v3 l m xs ys p e) (k:Only g wr w2) (hi:InS w2 g t p' e'):GetC w w2 g gc SV K N t v2 v3 l m xs ys p' e':=by
 have h1:=h.a1;have h2:=h.a2
 exact ⟨k.blk h.s (by omega),k.blk h.z (by omega),k.blk h.c (by omega),k.own h.o2 (own_far h.o2 (by omega)),h.f2.only k (by omega),k.own h.o3 (own_far h.o3 (by omega)),h.f3.only k (by omega),hi,h.n.trans (k.below (by omega) h.n.size),h.a1,h.a2⟩
theorem GetC.drw (h:GetC w wr g gc SV K N t v2 v3 l m xs ys p e) (k:Drw wr w2):GetC w w2 g gc SV K N t v2 v3 l m xs ys p e:=by
 obtain ⟨n,rfl⟩:=k
 exact ⟨h.s,h.z,h.c,h.o2,h.f2.map fun _ _ _ ho=>ho,h.o3,h.f3.map fun _ _ _ ho=>ho,h.i,belD h.n n,h.a1,h.a2⟩
theorem GetC.all (h:GetC w wr g gc SV K N t v2 v3 l m xs ys p e) (k:Below wr.heap.size wr w2):GetC w w2 g gc SV K N t v2 v3 l m xs ys p e :=
 ⟨h.s.below k h.s.lt,h.z.below k h.z.lt,h.c.below k h.c.lt,own_below h.o2 k (Nat.le_refl _),h.f2.map fun _ _ _ o=>own_below o k (Nat.le_refl _),own_below h.o3 k (Nat.le_refl _),h.f3.map fun _ _ _ o=>own_below o k (Nat.le_refl _),h.i.below k h.i.lt,belT h.n k,h.a1,h.a2⟩
theorem GetC.put2 {X:WholeS} (h:GetC w wr g gc SV K N t v2 v3 l m xs ys p e) (hq:wr.ownsRow (gc+1) 39 1 vq X.sq.length (u32n X.sq)) (ho:w3.ownsRow (gc+1) 122 5 v' (l.length+1) (xs++whC X vq)) (k:Appd wr w3 v2 v') :
 Blk w3 gc 53 #[.int .u64 (K:Int),.int .i64 N,v2,v3]∧GetC w (w3.setCell ⟨gc,2,none⟩ v') g gc SV K N t v' v3 (l ++ [X]) m (xs++whC X vq) ys p e:=by
 have h1:=h.a1;have h2:=h.a2;have hz:=h.lt;have hzb:=h.n.size
 have hb:Below (gc+1) wr w3:=(Below.refl _ _).grown k.1 h.lt fun j hj=>(h.o2.lt j hj).1
 have hs:=h.s.below hb (by omega);have hzz:=h.z.below hb (by omega);have hc:=h.c.below hb (by omega);have hi:=h.i.below hb (by omega)
 have o3:=k.kept h.o3 (own_own_ne h.o3 h.o2 (by decide))
 have f2:=(h.f2.appd k h.o2 (by decide)).snoc (k.kept hq (own_own_ne hq h.o2 (by decide)))
 have f3:=h.f3.appd k h.o2 (by decide)
 have hset:=Only.set1 w3 gc 2 v'
 have hbel:Below gc w3 (w3.setCell ⟨gc,2,none⟩ v'):=(Below.refl gc w3).setCell (p:=⟨gc,2,none⟩) (Nat.le_refl _) v'
 refine ⟨hc,hset.blk hs (by omega),hset.blk hzz (by omega),by simpa using hc.set_ 2 v',?_,f2.only hset (by omega),hset.own o3 (own_far o3 (by omega)),f3.only hset (by omega),hi.below hbel (by omega),(h.n.trans (hb.mono (by omega))).setCell (by simp only;omega) _,h.a1,h.a2⟩
 have:=hset.own ho (own_far ho (by omega))
 simpa using this
theorem GetC.put3 {X:RealS} (h:GetC w wr g gc SV K N t v2 v3 l m xs ys p e) (hq:wr.ownsRow (gc+1) 5 1 vq X.sum.length (u8s X.sum)) (ho:w3.ownsRow (gc+1) 60 3 v' (m.length+1) (ys++reC X vq)) (k:Appd wr w3 v3 v') :
 Blk w3 gc 53 #[.int .u64 (K:Int),.int .i64 N,v2,v3]∧GetC w (w3.setCell ⟨gc,3,none⟩ v') g gc SV K N t v2 v' l (m ++ [X]) xs (ys++reC X vq) p e:=by
 have h1:=h.a1;have h2:=h.a2;have hz:=h.lt;have hzb:=h.n.size
 have hb:Below (gc+1) wr w3:=(Below.refl _ _).grown k.1 h.lt fun j hj=>(h.o3.lt j hj).1
 have hs:=h.s.below hb (by omega);have hzz:=h.z.below hb (by omega);have hc:=h.c.below hb (by omega);have hi:=h.i.below hb (by omega)
 have o2:=k.kept h.o2 (own_own_ne h.o2 h.o3 (by decide))
 have f3:=(h.f3.appd k h.o3 (by decide)).snoc (k.kept hq (own_own_ne hq h.o3 (by decide)))
 have f2:=h.f2.appd k h.o3 (by decide)
 have hset:=Only.set1 w3 gc 3 v'
 have hbel:Below gc w3 (w3.setCell ⟨gc,3,none⟩ v'):=(Below.refl gc w3).setCell (p:=⟨gc,3,none⟩) (Nat.le_refl _) v'
 refine ⟨hc,hset.blk hs (by omega),hset.blk hzz (by omega),by simpa using hc.set_ 3 v',hset.own o2 (own_far o2 (by omega)),f2.only hset (by omega),?_,f3.only hset (by omega),hi.below hbel (by omega),(h.n.trans (hb.mono (by omega))).setCell (by simp only;omega) _,h.a1,h.a2⟩
 have:=hset.own ho (own_far ho (by omega))
 simpa using this
theorem GetC.cellV {A2 A3:Option Addr} {c2 c3:Nat} (h:GetC w wr g gc SV K N t (.slice A2 l.length c2) (.slice A3 m.length c3) l m xs ys p e) (ho:CellOk ⟨K,N,l,m⟩) (hn:∀ X∈m,X.mn<18446744073709551616∧X.mx<18446744073709551616):CellV wr wr.heap.size ⟨K,N,l,m⟩ A2 c2 A3 c3 :=
 ⟨ho.key,ho.count,SlR.own (R:=wholeR) h.o2 (h.f2.chunk ho.ints),SlR.own (R:=realR) h.o3 (h.f3.chunk hn)⟩
theorem GetC.fin {A2 A3:Option Addr} {c2 c3:Nat} (h:GetC w wr g gc SV K N t (.slice A2 l.length c2) (.slice A3 m.length c3) l m xs ys p e) (ho:CellOk ⟨K,N,l,m⟩) (hn:realsOk m) (a b c d:Value) :
 CellO ((((wr.setCell ⟨w.heap.size+1,0,none⟩ a).setCell ⟨w.heap.size+1,1,none⟩ b).setCell ⟨w.heap.size+1,2,none⟩ c).setCell ⟨w.heap.size+1,3,none⟩ d) w.heap.size ⟨K,N,l,m⟩ A2 c2 A3 c3:=by
 have h1:=h.a1;have h2:=h.a2
 have hc:CellO wr (gc+1) ⟨K,N,l,m⟩ A2 c2 A3 c3:=⟨ho,hn,⟨xs,h.o2,h.f2⟩,ys,h.o3,h.f3⟩
 exact hc.map (by omega) fun e size v n xs _ o =>
  own_set_lo (own_set_lo (own_set_lo (own_set_lo o (p:=⟨w.heap.size+1,0,none⟩) (by simp only;omega) _) (p:=⟨w.heap.size+1,1,none⟩) (by simp only;omega) _) (p:=⟨w.heap.size+1,2,none⟩) (by simp only;omega) _) (p:=⟨w.heap.size+1,3,none⟩) (by simp only;omega) _
end
theorem bel4 {w w1:World} {B g:Nat} (h:Below B w w1) (hg:B≤g) (a b c d:Value):Below B w ((((w1.setCell ⟨g,0,none⟩ a).setCell ⟨g,1,none⟩ b).setCell ⟨g,2,none⟩ c).setCell ⟨g,3,none⟩ d) :=
 (((h.setCell (p:=⟨g,0,none⟩) hg a).setCell (p:=⟨g,1,none⟩) hg b).setCell (p:=⟨g,2,none⟩) hg c).setCell (p:=⟨g,3,none⟩) hg d
theorem inB_any (w:World) (g:Nat) (t:List UInt8) (p e:Nat) (h:InS w g t p e) (ht:t.length≤1000000) :
 Calls Tryz.prog 89 #[.pointer (some ⟨g,0,none⟩),.int .i64 283] w fun y w'=>∃ v,y=.returned v∧w'.ownsRow w.heap.size 5 1 v (inB_ t p e).1.length (u8s (inB_ t p e).1)∧InS w' g t (inB_ t p e).2.1 (inB_ t p e).2.2∧Only g w w':=by
 unfold inB_
 by_cases he:e=0
 ·subst he
  rw [if_pos rfl]
  exact inB_ok w g t p 283 h ht (by decide)
 ·rw [if_neg he]
  exact (inB_bad w g t p e 283 h he).mono fun y w' ⟨h1,h2⟩=>⟨_,h1,World.ownsRow_nil _ _ _ 1,h2▸h,h2▸Only.refl g w⟩
theorem whC_one (X:WholeS) {w:World} {base n:Nat} {e:TypeId} {size:Nat} {v:Value} {xs:List Value} (h:w.ownsRow base e size v n xs):∀ u∈whC X v,u.oneCell'=true:=by
 intro u hu
 simp only [List.mem_cons,List.not_mem_nil,or_false] at hu
 rcases hu with rfl|rfl|rfl|rfl|rfl
 ·rfl
 ·rfl
 ·exact own_one' h
 ·rfl
 ·rfl
theorem reC_one (X:RealS) {w:World} {base n:Nat} {e:TypeId} {size:Nat} {v:Value} {xs:List Value} (h:w.ownsRow base e size v n xs):∀ u∈reC X v,u.oneCell'=true:=by
 intro u hu
 simp only [List.mem_cons,List.not_mem_nil,or_false] at hu
 rcases hu with rfl|rfl|rfl
 ·exact own_one' h
 ·rfl
 ·rfl
theorem isNone_no {α:Type} {o:Option α} {n:α} (h:o=some n):¬o.isNone=true:=by rw [h];simp
def RetGet (w:World) (S:Sch) (mask:Nat) (t:List UInt8) (y:Ending) (w':World):Prop:=∃ A2 c2 A3 c3,y=.returned (.tuple #[.agg #[.int .u64 ((getC S mask t).1.key:Int),.int .i64 (getC S mask t).1.count,.slice A2 (getC S mask t).1.ints.length c2,.slice A3 (getC S mask t).1.nums.length c3],.int .i64 ((getC S mask t).2.1:Int),.int .i64 ((getC S mask t).2.2:Int)])∧CellO w' w.heap.size (getC S mask t).1 A2 c2 A3 c3∧Below w.heap.size w w'
theorem RetGet.bad {w w':World} {S:Sch} {mask:Nat} {t:List UInt8} {e:Nat} (h:getC S mask t=(zeroC,0,e)) (hb:Below w.heap.size w w') :
 RetGet w S mask t (.returned (.tuple #[.agg #[.int .u64 0,.int .i64 0,.slice none 0 0,.slice none 0 0],.int .i64 0,.int .i64 (e:Int)])) w' :=
 ⟨none,0,none,0,by rw [h];rfl,by rw [h];exact cellO_zero _ _,hb⟩
theorem getC_arg {S:Sch} {mask:Nat} {t:List UInt8} (h:checkN S≠0):getC S mask t=(zeroC,0,1):=if_pos h
theorem getC_none {S:Sch} {mask:Nat} {t:List UInt8} (h:checkN S=0) (h1:(keysOf S mask).isNone=true):getC S mask t=(zeroC,0,11):=by unfold getC;rw [if_neg (fun hh=>hh h),if_pos h1]
theorem getC_fault {S:Sch} {mask:Nat} {t:List UInt8} (h:checkN S=0) (h1:¬(keysOf S mask).isNone=true) (h2:(celS S t).2.2≠0):getC S mask t=(zeroC,0,(celS S t).2.2):=by unfold getC;rw [if_neg (fun hh=>hh h),if_neg h1,if_pos h2]
theorem getC_form {S:Sch} {mask:Nat} {t:List UInt8} (h:checkN S=0) (h1:¬(keysOf S mask).isNone=true) (h2:(celS S t).2.2=0) (h3:rightC S mask (celS S t).1=false):getC S mask t=(zeroC,0,6):=by
 unfold getC;rw [if_neg (fun hh=>hh h),if_neg h1,if_neg (fun hh=>hh h2),if_neg (by rw [h3];decide)]
theorem getC_ok' {S:Sch} {mask:Nat} {t:List UInt8} (h:checkN S=0) (h1:¬(keysOf S mask).isNone=true) (h2:(celS S t).2.2=0) (h3:rightC S mask (celS S t).1=true):getC S mask t=((celS S t).1,(celS S t).2.1,0):=by
 unfold getC;rw [if_neg (fun hh=>hh h),if_neg h1,if_neg (fun hh=>hh h2),if_pos h3]
set_option maxRecDepth 20000 in
set_option maxHeartbeats 16000000 in
theorem aggGet_any (w:World) (B:Nat) (v:Value) (S:Sch) (mask:Nat) (A:Option Addr) (n c:Nat) (t:List UInt8) (h:SchAt w B v S) (ho:SchOk S) (hR:Rd w B 1 A n (u8s t)) (hB:B≤w.heap.size) (ht:n≤1000000) (hm:mask<4294967296) :
 Calls Tryz.prog 33 #[v,.int .u32 (mask:Int),.slice A n c] w (RetGet w S mask t):=by
 have hh:=h
 obtain ⟨A0,c0,A1,c1,A2,c2,A3,c3,rfl,r0,r1,r2,r3,b0,b1,b2,b3⟩:=hh
 clear r0 r1 r2 r3 b0 b1 b2 b3
 obtain ⟨W0,hW0⟩:∃ W0,W0=(w.alloc (.cells #[.slice A0 S.dims.length c0,.slice A1 S.ints.length c1,.slice A2 S.nums.length c2,.slice A3 S.views.length c3] 26)).alloc (.cells #[.int .u64 0,.int .i64 0,.slice none 0 0,.slice none 0 0] 53):=⟨_,rfl⟩
 have hw0:Below w.heap.size w W0:=by rw [hW0];exact belA (belA (belR w) _) _
 have hz0:W0.heap.size=w.heap.size+1+1:=by rw [hW0];simp
 have ks:Blk W0 w.heap.size 26 #[.slice A0 S.dims.length c0,.slice A1 S.ints.length c1,.slice A2 S.nums.length c2,.slice A3 S.views.length c3]:=by rw [hW0];exact (Blk.new w _ _).alloc _
 have kz:Blk W0 (w.heap.size+1) 53 #[.int .u64 0,.int .i64 0,.slice none 0 0,.slice none 0 0]:=by
  rw [hW0];have:=Blk.new (w.alloc (.cells #[.slice A0 S.dims.length c0,.slice A1 S.ints.length c1,.slice A2 S.nums.length c2,.slice A3 S.views.length c3] 26)) 53 #[.int .u64 0,.int .i64 0,.slice none 0 0,.slice none 0 0]
  simpa using this
 have hc:=schemaCheck_any W0 B _ S (h.keep (hw0.mono hB) (Nat.le_refl _)) ho (by omega)
 have HSC:=Lib.hid (fun W (hb:Below w.heap.size w W)=>h.keep (hb.mono hB) (Nat.le_refl _):∀ W,Below w.heap.size w W→SchAt W B _ S)
 have HRD:=Lib.hid (fun W (hb:Below w.heap.size w W)=>(hR.below (hb.mono hB)).more (Nat.le_trans hB hb.size):∀ W,Below w.heap.size w W→Rd W W.heap.size 1 A n (u8s t))
 have htn:=hR.u8
 have HW0:=Lib.hid hW0;have HB0:=Lib.hid hw0;have HZ0:=Lib.hid hz0;have KS:=Lib.hid ks;have KZ:=Lib.hid kz;have HO:=Lib.hid ho;have HTN:=Lib.hid htn
 clear hW0 hw0 hz0 ks kz h hR htn
 by_cases h0:checkN S=0
 case neg =>
  have t0:=i64_ne0 h0
  have HC:=Lib.hid hc;have HG:=Lib.hid (getC_arg (mask:=mask) (t:=t) h0)
  clear h0 hc
  go_enter Tryz.func33,Tryz.ntmps33
  go_wp2_with fail
  rw [←HW0.out]
  (with_reducible refine HC.out.mono ?_);rintro y w1 ⟨rfl,hb1⟩
  have hk1:=KZ.out.below hb1 (by have:=HZ0.out;omega)
  have HB1:=Lib.hid (HB0.out.trans (hb1.mono HB0.out.size))
  have z0:=hk1.cell 0;have z1:=hk1.cell 1;have z2:=hk1.cell 2;have z3:=hk1.cell 3;have f0:=hk1.frozen 0;have f1:=hk1.frozen 1;have f2:=hk1.frozen 2;have f3:=hk1.frozen 3
  simp at z0 z1 z2 z3
  clear hb1 hk1
  go_wp2
  exact bodyPost_ret (v:=.tuple #[.agg #[.int .u64 0,.int .i64 0,.slice none 0 0,.slice none 0 0],.int .i64 0,.int .i64 1]) (by simp [results,Tryz.results33,go_sem, *]) rfl (RetGet.bad HG.out (bel4 HB1.out (by omega) _ _ _ _))
 case pos =>
  obtain ⟨_,s2,s3,_⟩:=sch_manyOk h0
  rw [h0] at hc
  have HC:=Lib.hid hc;have H00:=Lib.hid h0
  clear hc h0
  go_enter Tryz.func33,Tryz.ntmps33
  go_wp2_with fail
  rw [←HW0.out]
  (with_reducible refine HC.out.mono ?_);rintro y w1 ⟨rfl,hb1⟩
  have hk1:=KS.out.below hb1 (by have:=HZ0.out;omega)
  have hz1:=KZ.out.below hb1 (by have:=HZ0.out;omega)
  have HB1:=Lib.hid (HB0.out.trans (hb1.mono HB0.out.size))
  have s0':=hk1.cell 0;have s1':=hk1.cell 1;have s2':=hk1.cell 2;have s3':=hk1.cell 3
  simp at s0' s1' s2' s3'
  have hky:=keys_any w1 B _ S mask (HSC.out w1 HB1.out) HO.out (Nat.le_trans hB HB1.out.size) hm
  have HKY:=Lib.hid hky;have K1:=Lib.hid hk1;have Z1:=Lib.hid hz1
  clear hb1 hk1 hz1 hky HC
  cases hk:keysOf S mask with
  | none =>
    have hky:=HKY.out
    rw [hk] at hky
    simp only [Option.isSome_none,Option.getD_none] at hky
    have HK2:=Lib.hid hky;have HG:=Lib.hid (getC_none (t:=t) H00.out (by rw [hk];rfl))
    clear hky hk HKY
    go_wp2_with fail
    (with_reducible refine HK2.out.mono ?_);rintro y w2 ⟨rfl,hb2⟩
    have hk2:=Z1.out.below hb2 Z1.out.lt
    have z0:=hk2.cell 0;have z1:=hk2.cell 1;have z2:=hk2.cell 2;have z3:=hk2.cell 3;have f0:=hk2.frozen 0;have f1:=hk2.frozen 1;have f2:=hk2.frozen 2;have f3:=hk2.frozen 3
    simp at z0 z1 z2 z3
    have HB2:=Lib.hid (belT HB1.out hb2)
    clear hb2 hk2
    go_wp2
    exact bodyPost_ret (v:=.tuple #[.agg #[.int .u64 0,.int .i64 0,.slice none 0 0,.slice none 0 0],.int .i64 0,.int .i64 11]) (by simp [results,Tryz.results33,go_sem, *]) rfl (RetGet.bad HG.out (bel4 HB2.out (by omega) _ _ _ _))
  | some nk =>
    have hky:=HKY.out
    rw [hk] at hky
    simp only [Option.isSome_some,Option.getD_some] at hky
    have HK2:=Lib.hid hky;have HNN:=Lib.hid (isNone_no hk)
    clear hky hk HKY
    go_wp2_with fail
    (with_reducible refine HK2.out.mono ?_);rintro y w2 ⟨rfl,hb2⟩
    have K2:=Lib.hid (K1.out.below hb2 K1.out.lt);have Z2:=Lib.hid (Z1.out.below hb2 Z1.out.lt);have HB2:=Lib.hid (belT HB1.out hb2)
    have hn1:=newIn_any w2 A n c t (HRD.out w2 HB2.out) ht
    have HN1:=Lib.hid hn1
    clear hb2 hn1 s0' s1' s2' s3'
    go_wp2_with fail
    (with_reducible refine HN1.out.mono ?_);rintro y w3 ⟨g,rfl,hg,hi3,hb3⟩
    have K3:=Lib.hid (K2.out.below hb3 K2.out.lt);have Z3:=Lib.hid (Z2.out.below hb3 Z2.out.lt);have HB3:=Lib.hid (belT HB2.out hb3)
    have hg2:w.heap.size+1+1≤g:=by have:=Z2.out.lt;omega
    have hu:Calls Tryz.prog 41 #[.pointer (some ⟨g,0,none⟩),.int .u64 18446744073709551615] w3 fun y w'=>y=.returned (.int .u64 ((celK t).1:Int))∧InS w' g t (celK t).2.1 (celK t).2.2∧Only g w3 w':=inU_any w3 g t 0 0 18446744073709551615 hi3
    have hN:∀ W,InS W g t (celK t).2.1 (celK t).2.2→Calls Tryz.prog 87 #[.pointer (some ⟨g,0,none⟩)] W fun y w'=>y=.returned (.int .i64 (celN t).1)∧InS w' g t (celN t).2.1 (celN t).2.2∧Only g W w':=fun W h=>inI_any W g t _ _ h
    have hcw:∀ k,celW S t k=runN (meaF t) (celN t).2.1 (celN t).2.2 k:=fun k=>rfl
    have hcr:∀ k,celR S t k=runN (reaF t) (celW S t S.ints.length).2.1 (celW S t S.ints.length).2.2 k:=fun k=>rfl
    have hcs:celS S t=(⟨(celK t).1,(celN t).1,(celW S t S.ints.length).1,(celR S t S.nums.length).1⟩,(celR S t S.nums.length).2):=rfl
    have hok:=celS_ok S t
    have hnm:=celS_nums S t
    have hgf:=getC_fault (t:=t) H00.out HNN.out
    have hgo:=getC_form (t:=t) H00.out HNN.out
    have hgg:=getC_ok' (t:=t) H00.out HNN.out
    rw [hcs] at hok hnm hgf hgo hgg
    generalize celK t=rK at *
    generalize celN t=rN at *
    obtain ⟨K,p1,e1⟩:=rK
    obtain ⟨N,p2,e2⟩:=rN
    simp only at hu hN hcw hcr hok hnm hgf hgo hgg
    have HU:=Lib.hid hu;have HN:=Lib.hid hN;have HCW:=Lib.hid hcw;have HCR:=Lib.hid hcr;have HOK:=Lib.hid hok;have HNM:=Lib.hid hnm;have HGF:=Lib.hid hgf;have HGO:=Lib.hid hgo;have HGG:=Lib.hid hgg
    clear hu hN hcw hcr hcs hok hnm hgf hgo hgg hb3 hi3
    go_wp2_with fail
    (with_reducible refine HU.out.mono ?_);rintro y w4 ⟨rfl,hi4,ho4⟩
    have K4:=Lib.hid (ho4.blk K3.out (by omega));have Z4:=Lib.hid (ho4.blk Z3.out (by omega));have HB4:=Lib.hid (HB3.out.trans (ho4.below (show w.heap.size≤g by omega) HB3.out.size))
    have HN4:=Lib.hid (HN.out w4 hi4)
    clear hi4 ho4
    go_wp2_with fail
    (with_reducible refine HN4.out.mono ?_);rintro y w5 ⟨rfl,hi5,ho5⟩
    have K5:=Lib.hid (ho5.blk K4.out (by omega));have Z5:=Lib.hid (ho5.blk Z4.out (by omega));have HB5:=Lib.hid (HB4.out.trans (ho5.below (show w.heap.size≤g by omega) HB4.out.size))
    have hgc:=hi5.lt
    have HR0:Hid (GetC w (w5.alloc (.cells #[.int .u64 (K:Int),.int .i64 N,.slice none 0 0,.slice none 0 0] 53)) g w5.heap.size #[.slice A0 S.dims.length c0,.slice A1 S.ints.length c1,.slice A2 S.nums.length c2,.slice A3 S.views.length c3] K N t (.slice none 0 0) (.slice none 0 0) [] [] [] [] p2 e2):=Lib.hid
     ⟨K5.out.alloc _,Z5.out.alloc _,Blk.new w5 _ _,World.ownsRow_nil _ _ _ 5,rfl,World.ownsRow_nil _ _ _ 3,rfl,hi5.below (belA (belR w5) _) hi5.lt,belA HB5.out _,hg2,hgc⟩
    have k1:=HR0.out.s.cell 1
    simp at k1
    generalize hSV:(#[.slice A0 S.dims.length c0,.slice A1 S.ints.length c1,.slice A2 S.nums.length c2,.slice A3 S.views.length c3]:Array Value)=SV at *
    have HSV:=Lib.hid hSV
    clear hi5 ho5 hSV
    go_wp2
    generalize hgcn:w5.heap.size=gc at *
    clear hgcn
    clear k1
    go_loopw [39] (fun i wr=>∃ (k:Nat) (v2:Value) (xs:List Value),k≤S.ints.length∧i=.int .i64 (k:Int)∧Hid (GetC w wr g gc SV K N t v2 (.slice none 0 0) (runN (meaF t) p2 e2 k).1 [] xs [] (runN (meaF t) p2 e2 k).2.1 (runN (meaF t) p2 e2 k).2.2)) (fun i _=>S.ints.length-(intOf i).toNat)
    case atStart=>exact ⟨0,_,_,by omega,rfl,HR0.out⟩
    case round =>
     obtain ⟨k,v2,xs,hk,rfl,HR⟩:=hrel
     have hll:=runN_len (f:=meaF t) (fun _ _ _=>rfl) p2 e2 k
     by_cases hlt:k<S.ints.length
     ·have q1:(0:Int)≤(k:Int):=by omega
      have q2:(k:Int)<(S.ints.length:Int):=by omega
      have hs:=runN_succ (meaF t) p2 e2 k
      generalize runN (meaF t) p2 e2 k=st at *
      obtain ⟨l,pa,ea⟩:=st
      simp only at hs hll HR
      have hme:=measure_any wr.drew g t pa ea HR.out.drew.i
      have er:meaF t k pa ea=([(meaS t pa ea).1],(meaS t pa ea).2):=rfl
      rw [er] at hs
      clear er
      generalize meaS t pa ea=r at *
      obtain ⟨X,pb,eb⟩:=r
      simp only at hs hme
      have HD:=Lib.hid HR.out.drew
      have f0:wr.drew.cell? ⟨gc,2,none⟩=some v2:=HD.out.c.cell 2
      have HS:=Lib.hid hs;have HME:=Lib.hid hme
      clear hs hme
      go_upto_region 10 with (fail)
      go_region_law (first
       | (refine step_appSD (some 46) (by rfl) (by rfl) (.tmp 42) (.tmp 45) 50 (by rfl) (gc+1) 122 (.agg #[.int .i64 0,.int .i64 0,.slice none 0 0,.int .i64 0,.int .i64 0]) 5 56 info_whole rfl (by decide) Tryz.underlying50 v2 l.length xs HA5.out.o2 _ (some ⟨w6.heap.size,0,none⟩) 1 1 (whC X (.slice A7 X.sq.length c7)) HRD6.out (by rfl) (by rfl) HU6.out (by omega) (by omega) hz5 ?_;intro v7 w7 ho7 hap7;obtain ⟨hf7,hr7⟩:=HA5.out.put2 HQ6.out ho7 hap7;have c7':=hf7.cell 2;have fr7:=hf7.frozen 2;simp at c7';have HR7:=Lib.hid hr7;obtain ⟨A9,c9,rfl,_,_,_⟩:=own_form ho7;clear ho7 hap7 hf7 hr7)
       | (go_simp;go_at_call 88;(with_reducible refine HME.out.mono ?_);rintro y w6 ⟨vq,rfl,hq6,hi6,ho6⟩;obtain ⟨A7,c7,rfl,_,_,_⟩:=own_form hq6;have HR6:=Lib.hid (HD.out.only ho6 hi6);have HA5:=Lib.hid (HR6.out.alloc (.cells (whC X (.slice A7 X.sq.length c7)).toArray 122));have HU6:=Lib.hid (whC_one X hq6);have HQ6:=Lib.hid (own_mono (hq6.alloc (.cells (whC X (.slice A7 X.sq.length c7)).toArray 122)) (show gc+1≤_ from HD.out.lt));have HRD6:=Lib.hid (rd_newL w6 122 (whC X (.slice A7 X.sq.length c7)) 5 rfl);have f4:w6.cell? ⟨gc,2,none⟩=some v2:=HR6.out.c.cell 2;have f5:(w6.alloc (.cells #[.int .i64 X.sum,.int .i64 X.abs,.slice A7 X.sq.length c7,.int .i64 X.mn,.int .i64 X.mx] 122)).cell? ⟨gc,2,none⟩=some v2:=HA5.out.c.cell 2;have hz5:gc+1≤(w6.alloc (.cells #[.int .i64 X.sum,.int .i64 X.abs,.slice A7 X.sq.length c7,.int .i64 X.mn,.int .i64 X.mx] 122)).heap.size:=HA5.out.lt;clear hq6 hi6 ho6))
      all_goals
       go_wp2
       go_roundw
       case rel=>exact ⟨k+1,_,_,by omega,by go_num,by rw [HS.out];have hx:=HR7.out;rw [hll] at hx;exact Lib.hid hx⟩
       case measure=>simp [intOf];omega
     ·obtain rfl:k=S.ints.length:=by omega
      obtain ⟨A7,c7,rfl,_,_,_⟩:=own_form HR.out.o2
      rw [hll] at HR
      have hcw:=HCW.out S.ints.length
      generalize runN (meaF t) p2 e2 S.ints.length=st at *
      obtain ⟨l,pa,ea⟩:=st
      simp only at HR hll
      have hcr:=HCR.out
      rw [hcw] at hcr
      have hok:=HOK.out;have hnm:=HNM.out;have hgf:=HGF.out;have hgo:=HGO.out;have hgg:=HGG.out
      rw [hcw] at hok hgo hgg
      simp only at hcr hok hnm hgf hgo hgg
      have q2:¬(S.ints.length:Int)<(S.ints.length:Int):=by omega
      have k2:=HR.out.s.cell 2
      rw [←HSV.out] at k2
      simp at k2
      have HCR2:=Lib.hid hcr;have HOK2:=Lib.hid hok;have HNM2:=Lib.hid hnm;have HGF2:=Lib.hid hgf;have HGO2:=Lib.hid hgo;have HGG2:=Lib.hid hgg;have HLL:=Lib.hid hll
      clear hcr hok hnm hgf hgo hgg hcw HCW HCR HOK HNM HGF HGO HGG hll
      go_wp2
      clear k2
      go_loopw [52] (fun i wr=>∃ (k:Nat) (v3:Value) (ys:List Value),k≤S.nums.length∧i=.int .i64 (k:Int)∧Hid (GetC w wr g gc SV K N t (.slice A7 S.ints.length c7) v3 l (runN (reaF t) pa ea k).1 xs ys (runN (reaF t) pa ea k).2.1 (runN (reaF t) pa ea k).2.2)) (fun i _=>S.nums.length-(intOf i).toNat)
      case atStart=>exact ⟨0,_,_,by omega,rfl,HR.out⟩
      case round =>
       obtain ⟨k,v3,ys,hk,rfl,HR⟩:=hrel
       have hll:=runN_len (f:=reaF t) (fun _ _ _=>rfl) pa ea k
       by_cases hlt:k<S.nums.length
       ·have q1:(0:Int)≤(k:Int):=by omega
        have q2:(k:Int)<(S.nums.length:Int):=by omega
        have hs:=runN_succ (reaF t) pa ea k
        generalize runN (reaF t) pa ea k=st at *
        obtain ⟨m,pb,eb⟩:=st
        simp only at hs hll HR
        have htl:t.length≤1000000:=by have:=HTN.out;omega
        have hA:=inB_any wr g t pb eb HR.out.i htl
        have hB2:∀ W,InS W g t (reaA t pb eb).2.1 (reaA t pb eb).2.2→Calls Tryz.prog 90 #[.pointer (some ⟨g,0,none⟩)] W fun y w'=>y=.returned (.float .f64 (reaB t pb eb).1)∧InS w' g t (reaB t pb eb).2.1 (reaB t pb eb).2.2∧Only g W w':=fun W h=>inF_any W g t _ _ h
        have hC2:∀ W,InS W g t (reaB t pb eb).2.1 (reaB t pb eb).2.2→Calls Tryz.prog 90 #[.pointer (some ⟨g,0,none⟩)] W fun y w'=>y=.returned (.float .f64 (reaC t pb eb).1)∧InS w' g t (reaC t pb eb).2.1 (reaC t pb eb).2.2∧Only g W w':=fun W h=>inF_any W g t _ _ h
        have er:reaF t k pb eb=([⟨(reaA t pb eb).1,(reaB t pb eb).1,(reaC t pb eb).1⟩],(reaC t pb eb).2):=rfl
        rw [er] at hs
        rw [show inB_ t pb eb=reaA t pb eb from rfl] at hA
        clear er htl
        generalize reaC t pb eb=rC at *
        generalize reaB t pb eb=rB at *
        generalize reaA t pb eb=rA at *
        obtain ⟨sm,pc,ec⟩:=rA
        obtain ⟨mn,pd,ed⟩:=rB
        obtain ⟨mx,pe,ee⟩:=rC
        simp only at hs hA hB2 hC2
        have HS:=Lib.hid hs;have HA:=Lib.hid hA;have HBF:=Lib.hid hB2;have HCF:=Lib.hid hC2
        clear hs hA hB2 hC2
        go_wp2_with fail
        (with_reducible refine HA.out.mono ?_);rintro y w6 ⟨vq,rfl,hq6,hi6,ho6⟩
        obtain ⟨A8,c8,rfl,_,_,_⟩:=own_form hq6
        have HQ6:=Lib.hid (own_mono hq6 HR.out.lt)
        have HO6:=Lib.hid ho6
        have HB6:=Lib.hid (HBF.out w6 hi6)
        clear hq6 hi6 ho6
        go_wp2_with fail
        (with_reducible refine HB6.out.mono ?_);rintro y w7 ⟨rfl,hi7,ho7⟩
        have h1:=HR.out.a1;have h2:=HR.out.a2;have hl:=HR.out.lt
        have HO7:=Lib.hid (HO6.out.trans ho7)
        have HQ7:=Lib.hid (ho7.own HQ6.out (own_far HQ6.out (by omega)))
        have hzx:=HO7.out.size
        have HX7:=Lib.hid (Blk.new w7 60 #[.slice A8 sm.length c8,.float .f64 mn,.float .f64 0])
        have hi7':InS (w7.alloc (.cells #[.slice A8 sm.length c8,.float .f64 mn,.float .f64 0] 60)) g t pd ed:=hi7.below (belA (belR w7) _) hi7.lt
        have HC7:=Lib.hid (HCF.out _ hi7')
        clear hi7 ho7 hi7'
        go_wp2_with fail
        (with_reducible refine HC7.out.mono ?_);rintro y w8 ⟨rfl,hi8,ho8⟩
        have hx8:=ho8.blk HX7.out (by omega)
        have y2:=hx8.cell 2;have g2:=hx8.frozen 2
        simp at y2
        have hx9:Blk (w8.setCell ⟨w7.heap.size,2,none⟩ (.float .f64 mx)) w7.heap.size 60 #[.slice A8 sm.length c8,.float .f64 mn,.float .f64 mx]:=by simpa using hx8.set_ 2 (.float .f64 mx)
        have hi9:InS (w8.setCell ⟨w7.heap.size,2,none⟩ (.float .f64 mx)) g t pe ee:=hi8.below ((Below.refl w7.heap.size w8).setCell (p:=⟨w7.heap.size,2,none⟩) (Nat.le_refl _) _) (by omega)
        have hon:Only g w7 (w8.setCell ⟨w7.heap.size,2,none⟩ (.float .f64 mx)):=(((Only.refl g w7).alloc _).trans ho8).set_ (p:=⟨w7.heap.size,2,none⟩) (.inr (Nat.le_refl _)) _
        have HR9:=Lib.hid (HR.out.only (HO7.out.trans hon) hi9)
        have HQ9:=Lib.hid (hon.own HQ7.out (own_far HQ7.out (by omega)))
        have z0:=hx9.cell 0;have z1:=hx9.cell 1;have z2:=hx9.cell 2
        have z3:=HR9.out.c.cell 3;have g3:=HR9.out.c.frozen 3
        simp at z0 z1 z2 z3
        have HU9:=Lib.hid (reC_one ⟨sm,mn,mx⟩ HQ9.out)
        have hz9:=HR9.out.lt
        clear hx8 hx9 hi8 hi9 ho8 hon
        have hwz:Hid (Value.slice (some ⟨(w8.setCell ⟨w7.heap.size,2,none⟩ (.float .f64 mx)).heap.size,0,none⟩) 1 1=.slice (some ⟨w8.heap.size,0,none⟩) 1 1):=Lib.hid (by simp)
        go_wp2_with (at_builtin;refine wpList_appN (w8.setCell ⟨w7.heap.size,2,none⟩ (.float .f64 mx)) (reC ⟨sm,mn,mx⟩ (.slice A8 sm.length c8)) 3 rfl (by decide) HU9.out rfl (.tmp 63) (.tmp 65) 51 rfl (gc+1) 60 (.agg #[.slice none 0 0,.float .f64 0,.float .f64 0]) 40 info_real rfl Tryz.underlying51 _ m.length ys HR9.out.o3 rfl (by rw [hwz.out];rfl) ?_ ?_ ?_ ?_;omega;omega;exact hz9;intro v10 w10 ho10 hap10;obtain ⟨hf10,hr10⟩:=HR9.out.put3 (X:=⟨sm,mn,mx⟩) HQ9.out ho10 hap10;have c10':=hf10.cell 3;have fr10:=hf10.frozen 3;simp at c10';have HR10:=Lib.hid hr10;obtain ⟨A9,c9,rfl,_,_,_⟩:=own_form ho10;clear ho10 hap10 hf10 hr10)
        go_roundw
        case rel=>exact ⟨k+1,_,_,by omega,by go_num,by rw [HS.out];have hx:=HR10.out;rw [hll] at hx;exact Lib.hid hx⟩
        case measure=>simp [intOf];omega
       ·obtain rfl:k=S.nums.length:=by omega
        obtain ⟨A8,c8,rfl,_,_,_⟩:=own_form HR.out.o3
        rw [hll] at HR
        have hcr:=HCR2.out S.nums.length
        generalize runN (reaF t) pa ea S.nums.length=st at *
        obtain ⟨m,pb,eb⟩:=st
        simp only at HR hll
        have hok:=HOK2.out;have hnm:=HNM2.out;have hgf:=HGF2.out;have hgo:=HGO2.out;have hgg:=HGG2.out
        rw [hcr] at hok hnm hgf hgo hgg
        simp only at hok hnm hgf hgo hgg
        have q2:¬(S.nums.length:Int)<(S.nums.length:Int):=by omega
        have HOK3:=Lib.hid hok;have HNM3:=Lib.hid hnm;have HGF3:=Lib.hid hgf;have HGO3:=Lib.hid hgo;have HGG3:=Lib.hid hgg;have HLM:=Lib.hid hll
        have HFT:=Lib.hid (fault_any wr g t pb eb HR.out.i)
        clear hok hnm hgf hgo hgg hcr hll HCR2 HOK2 HNM2 HGF2 HGO2 HGG2
        go_wp2_with fail
        (with_reducible refine HFT.out.mono ?_);rintro y w6 ⟨rfl,hd6⟩
        have HR6:=Lib.hid (HR.out.drw hd6)
        clear hd6 HFT
        by_cases he:eb=0
        case neg =>
         have t9:((eb:Int) != 0)=true:=by rw [bne_iff_ne];omega
         have HG:=Lib.hid (HGF3.out he)
         have hz6:=HR6.out.z
         have z0:=hz6.cell 0;have z1:=hz6.cell 1;have z2:=hz6.cell 2;have z3:=hz6.cell 3;have f0:=hz6.frozen 0;have f1:=hz6.frozen 1;have f2:=hz6.frozen 2;have f3:=hz6.frozen 3
         simp at z0 z1 z2 z3
         clear hz6 he
         go_wp2
         exact bodyPost_ret (v:=.tuple #[.agg #[.int .u64 0,.int .i64 0,.slice none 0 0,.slice none 0 0],.int .i64 0,.int .i64 (eb:Int)]) (by simp [results,Tryz.results33,go_sem, *]) rfl (RetGet.bad HG.out (bel4 HR6.out.n (by omega) _ _ _ _))
        case pos =>
         subst he
         have hl6:=HLL.out;have hm6:=HLM.out
         have hcv:CellV w6 w6.heap.size ⟨K,N,l,m⟩ A7 c7 A8 c8:=GetC.cellV (by rw [hl6,hm6];exact HR6.out) HOK3.out HNM3.out
         have hsc:=(HSC.out w6 HR6.out.n).keep (w':=w6) (Below.refl B w6) (Nat.le_trans hB HR6.out.n.size)
         have hrt:=aggRight_any w6 w6.heap.size _ S mask ⟨K,N,l,m⟩ A7 c7 A8 c8 hsc HO.out hcv (Nat.le_refl _) hm
         simp only at hrt
         rw [hl6,hm6,←HSV.out] at hrt
         have k0:=HR6.out.s.cell 0;have k1:=HR6.out.s.cell 1;have k2:=HR6.out.s.cell 2;have k3:=HR6.out.s.cell 3
         rw [←HSV.out] at k0 k1 k2 k3
         have d0:=HR6.out.c.cell 0;have d1:=HR6.out.c.cell 1;have d2:=HR6.out.c.cell 2;have d3:=HR6.out.c.cell 3
         simp at k0 k1 k2 k3 d0 d1 d2 d3
         cases hr:rightC S mask ⟨K,N,l,m⟩ with
         | false =>
           rw [hr] at hrt
           have HRT:=Lib.hid hrt;have HG:=Lib.hid (HGO3.out rfl hr)
           clear hrt hr hcv hsc hl6 hm6
           go_wp2_with fail
           (with_reducible refine HRT.out.mono ?_);rintro y w7 ⟨rfl,hb7⟩
           have hz7:=HR6.out.z.below hb7 HR6.out.z.lt
           have z0:=hz7.cell 0;have z1:=hz7.cell 1;have z2:=hz7.cell 2;have z3:=hz7.cell 3;have f0:=hz7.frozen 0;have f1:=hz7.frozen 1;have f2:=hz7.frozen 2;have f3:=hz7.frozen 3
           simp at z0 z1 z2 z3
           have HB7:=Lib.hid (belT HR6.out.n hb7)
           clear hz7 hb7
           go_wp2
           exact bodyPost_ret (v:=.tuple #[.agg #[.int .u64 0,.int .i64 0,.slice none 0 0,.slice none 0 0],.int .i64 0,.int .i64 6]) (by simp [results,Tryz.results33,go_sem, *]) rfl (RetGet.bad HG.out (bel4 HB7.out (by omega) _ _ _ _))
         | true =>
           rw [hr] at hrt
           have HRT:=Lib.hid hrt;have HG:=Lib.hid (HGG3.out rfl hr)
           clear hrt hr hcv hsc hl6 hm6
           go_upto_region 23 with (go_at_call 24;(with_reducible refine HRT.out.mono ?_);rintro y w7 ⟨rfl,hb7⟩;have HB7:=Lib.hid hb7;clear hb7)
           have HR7:=Lib.hid (HR6.out.all HB7.out)
           have hz7:=HR7.out.z
           have z0:=hz7.cell 0;have z1:=hz7.cell 1;have z2:=hz7.cell 2;have z3:=hz7.cell 3;have f0:=hz7.frozen 0;have f1:=hz7.frozen 1;have f2:=hz7.frozen 2;have f3:=hz7.frozen 3
           have b0:=HR7.out.c.cell 0;have b1:=HR7.out.c.cell 1;have b2:=HR7.out.c.cell 2;have b3:=HR7.out.c.cell 3
           simp at z0 z1 z2 z3 b0 b1 b2 b3
           have hpt:pb≤n:=by obtain ⟨_,_,_,_,_,_,h⟩:=HR7.out.i;have:=HTN.out;omega
           have hLF:=left_any w7.drew g t pb 0 (HR7.out.i.drw (Drw.refl w7).drew)
           have hL:(n:Int)-leftN t pb 0=(pb:Int):=by unfold leftN;rw [if_pos rfl];have:=HTN.out;omega
           have hL0:0≤leftN t pb 0:=by omega
           have hL1:leftN t pb 0≤1000000:=by omega
           generalize leftN t pb 0=L at *
           have w1':IntKind.i64.wrap ((n:Int)-L)=(pb:Int):=by rw [hL];exact IntWalk.i64_in _ (by omega)
           have HLF:=Lib.hid hLF
           clear hLF hL hz7
           go_region_with (go_at_call 91;(with_reducible refine HLF.out.mono ?_);rintro y w8 ⟨rfl,j,rfl⟩)
           all_goals
            have HGF:=Lib.hid (GetC.fin (l:=l) (m:=m) (by rw [HLL.out,HLM.out];exact HR7.out.drw ⟨1+j,rfl⟩) HOK3.out HNM3.out (.int .u64 (K:Int)) (.int .i64 N) (.slice A7 S.ints.length c7) (.slice A8 S.nums.length c8))
            have HBF:=Lib.hid (bel4 (belD HR7.out.n (1+j)) (show w.heap.size≤w.heap.size+1 by omega) (.int .u64 (K:Int)) (.int .i64 N) (.slice A7 S.ints.length c7) (.slice A8 S.nums.length c8))
            go_wp2
            refine bodyPost_ret (v:=.tuple #[.agg #[.int .u64 (K:Int),.int .i64 N,.slice A7 S.ints.length c7,.slice A8 S.nums.length c8],.int .i64 (pb:Int),.int .i64 0]) (by simp [results,Tryz.results33,go_sem,Act.put, *]) rfl ?_
            refine ⟨A7,c7,A8,c8,?_,?_,HBF.out⟩
            ·rw [HG.out]
             show _=Ending.returned (.tuple #[.agg #[.int .u64 (K:Int),.int .i64 N,.slice A7 l.length c7,.slice A8 m.length c8],.int .i64 (pb:Int),.int .i64 ((0:Nat):Int)])
             rw [HLL.out,HLM.out];rfl
            ·rw [HG.out];exact HGF.out
end Go.Proofs.YtfhmaincnlaapaaGreat
namespace Go.Proofs.YtfhmaincnlaapaaGreat
open Go.ChangeShapes Go.WideShapes Go.ChangeAt Go.RowKit
set_option linter.unusedVariables false
def putR (C:CellS) (k:Nat):List UInt8:=encU C.key++encI C.count++encWholes C.ints++encReals (C.nums.take k)
theorem run_store_fA {P:Program} {w:World} {a:Addr} {m:Mode} (k:FloatKind) (b:Nat):(store a (.float k b) m).run P w=stored P w a (.float k b) m:=run_store P w a _ m rfl
attribute [local go_sem] run_store_fA
end Go.Proofs.YtfhmaincnlaapaaGreat
namespace Go.Proofs.YtfhmaincnlaapaaGreat
open Go.ChangeShapes Go.WideShapes Go.ChangeAt Go.RowKit
set_option linter.unusedVariables false
theorem two_le {m:Nat} (h:2≤m):decide ((2:Int)≤(m:Int))=true:=decide_eq_true (by omega)
set_option maxRecDepth 20000 in
set_option maxHeartbeats 2000000 in
theorem nodes_ok (w:World) (lv:Nat) (A:Option Addr) (n c B:Nat) (l:List (Nat×Int)) (h1:1≤lv) (h2:lv≤60) (h:Rd w B 2 A n (entC l)) (hn:n≤1000) (hB:B≤w.heap.size) (hr:riseB l=true)
 (hf:∀ k (hk:k<l.length),l[k].1<18446744073709551616∧1≤l[k].2∧l[k].2≤8192) :
 Calls Tryz.prog 54 #[.int .i64 (lv:Int),.slice A n c] w fun y w'=>∃ v xs,y=.returned (.tuple #[v,.int .i64 0])∧w'.ownsRow w.heap.size 42 4 v (nodes lv l).length xs∧ShR w' w'.heap.size (nodes lv l) xs∧Below w.heap.size w w':=by
 obtain rfl:n=l.length:=h.ent_len
 have hc:=rising_any A l.length c B l w h (by omega) hB
 rw [hr] at hc
 have HC:=Lib.hid hc;have HR:=Lib.hid hr;have H:=Lib.hid h;have HF:=Lib.hid hf;clear hc hr h hf
 go_enter Tryz.func54,Tryz.ntmps54
 go_wp2_with (go_at_call 117;(with_reducible refine HC.out.mono ?_);rintro y w1 ⟨rfl,hb1⟩)
 have hz1:=hb1.size
 have hp0:PkS (w1.alloc (.cells #[.int .i64 4,.int .u64 (lv:Int),.slice none 0 0,.int .u64 0,.slice none 0 0] 149)) w.heap.size w1.heap.size 4 lv [] 0 [] :=
  ⟨hz1,.slice none 0 0,.slice none 0 0,w.heap.size,[],Blk.new _ _ _,Nat.le_refl _,by simp;omega,World.ownsRow_nil _ _ _ 1,World.ownsRow_nil _ _ _ 4,rfl⟩
 have HP0:=Lib.hid hp0;have HB1:=Lib.hid hb1;clear hp0 hb1
 go_loopw [8,24] (fun v8 i wr=>∃ k:Nat,k≤l.length∧i=.int .i64 (k:Int)∧PkS wr w.heap.size w1.heap.size 4 lv (nst lv (l.take k)).1 (nst lv (l.take k)).2.1 (nst lv (l.take k)).2.2∧Below w.heap.size w wr) (fun _ i _=>l.length-(intOf i).toNat)
 case atStart=>exact ⟨0,by omega,rfl,by simpa [nst] using HP0.out,belA HB1.out _⟩
 case round =>
  obtain ⟨k,hk,rfl,hp,hb⟩:=hrel
  have hz:=hb.size
  have hbd:=nst_bd lv (l.take k)
  have hlk:(l.take k).length≤1000:=by rw [List.length_take];omega
  by_cases hlt:k<l.length
  ·obtain ⟨a,rfl,hab,x0,x1⟩:=(H.out.below (hb.mono hB)).ent hlt
   obtain ⟨hf1,hf2,hf3⟩:=HF.out k hlt
   have hst:=nst_take lv l k hlt
   generalize hx:l[k]=x at *
   obtain ⟨f,p⟩:=x
   generalize hs:nst lv (l.take k)=st at *
   obtain ⟨ss,m,d⟩:=st
   simp only at x0 x1 hf1 hf2 hf3 hbd hp
   have HST:=Lib.hid hst;have HX:=Lib.hid hx;have HS:=Lib.hid hs;have HP:=Lib.hid hp;clear hst hx hs hp
   obtain ⟨_,bv,ov,Bd,xs,hB,_⟩:=HP.out
   have x3:=hB.cell 3
   simp at x3
   have hgl:w1.heap.size<wr.heap.size:=hB.lt
   have hpa:PkS (wr.alloc (.cells #[.int .u64 (f:Int),.int .i64 p] 112)).drew w.heap.size w1.heap.size 4 lv ss m d:=HP.out.below (belA (belR _) _).drew
   have hba:Blk (wr.alloc (.cells #[.int .u64 (f:Int),.int .i64 p] 112)).drew wr.heap.size 112 #[.int .u64 (f:Int),.int .i64 p]:=Blk.new _ _ _
   have hga:Blk (wr.alloc (.cells #[.int .u64 (f:Int),.int .i64 p] 112)).drew w1.heap.size 149 #[.int .i64 4,.int .u64 (lv:Int),bv,.int .u64 (m:Int),ov]:=hB.alloc _
   have he:=encE_len (f,p)
   have HB:=Lib.hid hB;have HPA:=Lib.hid hpa;have HBA:=Lib.hid hba;have HGA:=Lib.hid hga;clear hB hpa hba hga
   by_cases hn2:2≤m
   ·have t1:decide (2≤m)=true:=decide_eq_true hn2
    have t1':decide ((2:Int)≤(m:Int))=true:=two_le hn2
    have hbk:(decide (2≤m)&&brkB f lv)=brkB f lv:=by rw [t1,Bool.true_and]
    have HBK:=Lib.hid hbk;clear hbk
    go_wp2_with fail
    go_region_with (first
     | (go_at_call 118;(with_reducible refine (bytesE_any _ f p hf1 (by omega) hf3).mono ?_);rintro y w2 ⟨v2,rfl,ho2,hb2⟩;obtain ⟨A2,c2,rfl,_,_,_⟩:=own_form ho2;have B2:=HBA.out.below hb2 (by simp);have G2:=HGA.out.below hb2 (by simp;omega);have z0:=B2.cell 0;have z3:=G2.cell 3;simp at z0 z3;have P2:=HPA.out.below hb2;have HP2:=Lib.hid P2;have HO2:=Lib.hid ho2;have HB2:=Lib.hid hb2;clear ho2 hb2 P2 B2 G2)
     | (go_at_call 84;(with_reducible refine (break_any f (lv:Int) _).mono ?_);rintro y w' ⟨rfl,rfl⟩)
     | (go_at_call 83;(with_reducible refine (packPut_any _ _ _ _ _ (ss,m,d) _ _ _ _ _ HP2.out HO2.out ?_ ?_ ?_ ?_).mono ?_);(first|omega|(simp only;omega));(first|omega|(simp only;omega));(first|omega|(simp only;omega));(first|omega|(simp only;omega));rintro y w3 ⟨rfl,hp3,hb3⟩))
    all_goals
     go_wp2
     go_roundw
     case rel=>exact ⟨k+1,by omega,by go_num,by rw [HST.out];unfold nstep;simp only;rw [HBK.out];exact hp3,hb.trans ((((belA (belR wr) _).drew.trans (HB2.out.mono (by simp))).mono hz).trans hb3)⟩
     case measure=>simp [intOf];omega
   ·have hm:m=0∨m=1:=by omega
    rcases hm with rfl|rfl
    ·have hbk:(decide (2≤0)&&brkB f lv)=false:=rfl
     have HBK:=Lib.hid hbk;clear hbk hn2
     simp only [Int.cast_ofNat_Int] at x3 HGA
     go_wp2_with fail
     first|(go_region_with (first
      | (go_at_call 118;(with_reducible refine (bytesE_any _ f p hf1 (by omega) hf3).mono ?_);rintro y w2 ⟨v2,rfl,ho2,hb2⟩;obtain ⟨A2,c2,rfl,_,_,_⟩:=own_form ho2;have B2:=HBA.out.below hb2 (by simp);have G2:=HGA.out.below hb2 (by simp;omega);have z0:=B2.cell 0;have z3:=G2.cell 3;simp at z0 z3;have P2:=HPA.out.below hb2;have HP2:=Lib.hid P2;have HO2:=Lib.hid ho2;have HB2:=Lib.hid hb2;clear ho2 hb2 P2 B2 G2)
      | (go_at_call 83;(with_reducible refine (packPut_any _ _ _ _ _ (ss,0,d) _ _ _ _ _ HP2.out HO2.out ?_ ?_ ?_ ?_).mono ?_);(first|omega|(simp only;omega));(first|omega|(simp only;omega));(first|omega|(simp only;omega));(first|omega|(simp only;omega));rintro y w3 ⟨rfl,hp3,hb3⟩)))|fail
     all_goals
      go_wp2
      go_roundw
      case rel=>exact ⟨k+1,by omega,by go_num,by rw [HST.out];unfold nstep;simp only;rw [HBK.out];exact hp3,hb.trans ((((belA (belR wr) _).drew.trans (HB2.out.mono (by simp))).mono hz).trans hb3)⟩
      case measure=>simp [intOf];omega
    ·have hbk:(decide (2≤1)&&brkB f lv)=false:=rfl
     have HBK:=Lib.hid hbk;clear hbk hn2
     simp only [Int.natCast_one] at x3 HGA
     go_wp2_with fail
     first|(go_region_with (first
      | (go_at_call 118;(with_reducible refine (bytesE_any _ f p hf1 (by omega) hf3).mono ?_);rintro y w2 ⟨v2,rfl,ho2,hb2⟩;obtain ⟨A2,c2,rfl,_,_,_⟩:=own_form ho2;have B2:=HBA.out.below hb2 (by simp);have G2:=HGA.out.below hb2 (by simp;omega);have z0:=B2.cell 0;have z3:=G2.cell 3;simp at z0 z3;have P2:=HPA.out.below hb2;have HP2:=Lib.hid P2;have HO2:=Lib.hid ho2;have HB2:=Lib.hid hb2;clear ho2 hb2 P2 B2 G2)
      | (go_at_call 83;(with_reducible refine (packPut_any _ _ _ _ _ (ss,1,d) _ _ _ _ _ HP2.out HO2.out ?_ ?_ ?_ ?_).mono ?_);(first|omega|(simp only;omega));(first|omega|(simp only;omega));(first|omega|(simp only;omega));(first|omega|(simp only;omega));rintro y w3 ⟨rfl,hp3,hb3⟩)))|fail
     all_goals
      go_wp2
      go_roundw
      case rel=>exact ⟨k+1,by omega,by go_num,by rw [HST.out];unfold nstep;simp only;rw [HBK.out];exact hp3,hb.trans ((((belA (belR wr) _).drew.trans (HB2.out.mono (by simp))).mono hz).trans hb3)⟩
      case measure=>simp [intOf];omega
  ·obtain rfl:k=l.length:=by omega
   rw [List.take_length] at hp hbd
   have he:=packEnd_any wr w.heap.size w1.heap.size lv 4 (nst lv l) hp (by omega) (by omega)
   have HE:=Lib.hid he;clear he hp
   go_wp2_with fail
   (with_reducible refine HE.out.mono ?_);rintro y w2 ⟨rfl,hp2,hb2⟩
   obtain ⟨_,bv,ov,Bd,xs,hB2,_,_,_,h4,h5⟩:=hp2
   obtain ⟨A2,c2,rfl,_,_,_⟩:=own_form h4
   have x4:=hB2.cell 4
   simp at x4
   have H4:=Lib.hid h4;have H5:=Lib.hid h5;have HB2:=Lib.hid hB2;clear h4 h5 hB2
   go_wp2
   go_ret2
   exact ⟨_,xs,rfl,H4.out,H5.out.reads,hb.trans hb2⟩
structure Back {V:Type} (t:List UInt8) (g:V→List UInt8) (f:Nat→Nat→Nat→List V×Nat×Nat):Prop where
 inb:∀ k p e,p≤t.length→(f k p e).2.1≤t.length
 bk:∀ k p e,p≤t.length→(f k p e).2.2=0→e=0∧t.take (f k p e).2.1=t.take p++(f k p e).1.flatMap g
theorem Back.runI {V:Type} {t:List UInt8} {g:V→List UInt8} {f:Nat→Nat→Nat→List V×Nat×Nat} (h:Back t g f) (n p e:Nat) (hp:p≤t.length):(runN f p e n).2.1≤t.length:=by
 induction n with
 | zero=>exact hp
 | succ n ih=>rw [runN_succ];exact h.inb _ _ _ ih
theorem Back.run {V:Type} {t:List UInt8} {g:V→List UInt8} {f:Nat→Nat→Nat→List V×Nat×Nat} (h:Back t g f) (n p e:Nat) (hp:p≤t.length) (he:(runN f p e n).2.2=0) :
 e=0∧t.take (runN f p e n).2.1=t.take p++(runN f p e n).1.flatMap g:=by
 induction n with
 | zero=>exact ⟨he,by simp [runN]⟩
 | succ n ih =>
   rw [runN_succ] at he ⊢
   simp only at he ⊢
   obtain ⟨h0,d2⟩:=h.bk n _ _ (h.runI n p e hp) he
   obtain ⟨a,d⟩:=ih h0
   exact ⟨a,by rw [d2,d,List.flatMap_append,List.append_assoc]⟩
theorem stepE_zero {e a b:Nat} (h:stepE e a b=0):e=0∧a=0∧b=0:=by
 unfold stepE at h
 split at h
 ·omega
 ·split at h
  ·omega
  ·exact ⟨by omega,by omega,h⟩
theorem stepP_in (t:List UInt8) (p n k:Nat) (hp:p≤t.length) (h:k=0→n≤(t.drop p).length):stepP p n k≤t.length:=by
 unfold stepP
 split
 ·rename_i h0;have:=h h0;rw [List.length_drop] at this;omega
 ·exact hp
set_option maxRecDepth 20000 in
theorem refFull_any (w:World) (B:Nat) (v:Value) (S:Sch) (h:SchAt w B v S) (hB:B≤w.heap.size) (h1:1≤S.dims.length) (h6:S.dims.length≤6) :
 Calls Tryz.prog 60 #[v] w fun y w'=>y=.returned (.int .u32 (fullN S:Int))∧Below w.heap.size w w':=by
 have hle:=fullN_le h1 h6
 have hh:=h
 obtain ⟨A0,c0,A1,c1,A2,c2,A3,c3,rfl,r0,r1,r2,r3,b0,b1,b2,b3⟩:=hh
 clear r0 r1 r2 r3 h
 have hw0:=belA (belR w) (.cells #[.slice A0 S.dims.length c0,.slice A1 S.ints.length c1,.slice A2 S.nums.length c2,.slice A3 S.views.length c3] 26)
 have HW0:=Lib.hid hw0
 have HT:=Lib.hid (fun W=>two_any W S.dims.length (by omega))
 have hp2:fullN S=p2 S.dims.length-1:=rfl
 have e:IntKind.u32.wrap ((p2 S.dims.length:Int)-1)=(fullN S:Int):=by rw [IntKind.wrap_u32];omega
 have e2:(p2 S.dims.length:Int)-1=(fullN S:Int):=by omega
 have e3:IntKind.u32.wrap (fullN S:Int)=(fullN S:Int):=by rw [IntKind.wrap_u32];omega
 generalize fullN S=f at *
 generalize p2 S.dims.length=q at *
 clear hw0 hp2
 go_enter Tryz.func60,Tryz.ntmps60
 go_wp2_with (go_at_call 111;(with_reducible refine (HT.out _).mono ?_);rintro y w1 ⟨rfl,rfl⟩)
 go_ret
 first
 | exact ⟨rfl,HW0.out⟩
 | exact ⟨by rw [e2],HW0.out⟩
end Go.Proofs.YtfhmaincnlaapaaGreat
