/- CODE, LOOPS, FUNCTIONS: what is left to show when a function is run on trees. -/
import Derived.Test.YtfhmaincnlaapaaGreatTrSy11
namespace Go.Proofs.YtfhmaincnlaapaaGreat.Sy
open Go.ChangeShapes Go.WideShapes Go.ChangeAt Go.RowKit
set_option linter.unusedVariables false
theorem lk_eq (S:List (Nat×AV)) (d:Nat) (x:AV):lk ((d,x)::S) d=x:=by unfold lk;rw [if_pos rfl]
theorem lk_ne (S:List (Nat×AV)) {d t:Nat} (x:AV) (h:¬t=d):lk ((d,x)::S) t=lk S t:=by conv=>lhs;unfold lk;rw [if_neg (fun e=>h e.symm)]
def refsIn (O:List (Nat×AObj)) (x:AV):Bool:=(refsOf1 x).all fun o=>(lo O o).isSome
def refsInV (O:List (Nat×AObj)):AV→Bool
 | .agg cs=>cs.all (refsIn O)
 | .tup l=>l.all fun x=>match x with | .agg cs=>cs.all (refsIn O)|y=>refsIn O y
 | .opt _ _=>false
 | x=>refsIn O x
def closedB (O:List (Nat×AObj)):Bool:=O.all fun p=>match p.2 with | .cells _ cs=>cs.all (refsIn O)|_=>true
theorem Sees1.restr {E E':Env} (hw:E'.w=E.w) (hF:E'.F=E.F) (hβ:E'.β=E.β) (hν:E'.ν=E.ν) {O:List (Nat×AObj)} (hO:E'.ob=lo O) (ho:∀ o,lo O o≠none→lo O o=E.ob o) {x:AV} {u:Value} (hr:(match x with | .agg cs=>cs.all (refsIn O)|y=>refsIn O y)=true) (hx:Sees1 E x u):Sees1 E' x u:=by
 have h1:∀ (y:AV) (v:Value),refsIn O y=true→Leaf E y v→Leaf E' y v:=fun y v hy hl=>by
  refine Leaf.restr hw (fun b hb=>by rw [hF];exact hb) hβ hν (fun o hoo=>?_) hl
  have:=List.all_eq_true.1 hy o hoo
  rw [hO]
  exact ho o (fun h0=>by rw [h0] at this;cases this)
 cases x with
 | agg cs =>
   obtain ⟨us,e,hl,hs⟩:=hx
   exact ⟨us,e,hl,fun j y v hy hv=>⟨h1 y v (List.all_eq_true.1 hr y (List.mem_of_getElem? hy)) (hs j y v hy hv).1,(hs j y v hy hv).2⟩⟩
 | _=>exact Sees1.leaf (h1 _ u hr (by simpa only [Sees1] using hx))
theorem Sees.restr {E E':Env} (hw:E'.w=E.w) (hF:E'.F=E.F) (hβ:E'.β=E.β) (hν:E'.ν=E.ν) {O:List (Nat×AObj)} (hO:E'.ob=lo O) (ho:∀ o,lo O o≠none→lo O o=E.ob o) {x:AV} {u:Value} (hr:refsInV O x=true) (hx:Sees E x u):Sees E' x u:=by
 cases x with
 | tup l =>
   obtain ⟨us,e,hl,hs⟩:=hx
   refine ⟨us,e,hl,fun j y v hy hv=>?_⟩
   have:=List.all_eq_true.1 hr y (List.mem_of_getElem? hy)
   exact Sees1.restr hw hF hβ hν hO ho this (hs j y v hy hv)
 | opt=>cases hr
 | agg cs=>exact Sees1.restr (x:=.agg cs) hw hF hβ hν hO ho hr hx
 | _=>exact Sees.sees1 (Sees1.restr hw hF hβ hν hO ho hr (by simpa only [Sees] using hx))
theorem Mem.restr {M:Cx} {w0:World} {E:Env} (h:Mem M w0 E) {O:List (Nat×AObj)} (hc:closedB O=true) (ho:∀ o,lo O o≠none→lo O o=E.ob o):Mem M w0 ⟨E.w,E.F,E.β,E.ν,lo O⟩:=by
 have hbk:∀ q b,bk ⟨E.w,E.F,E.β,E.ν,lo O⟩ q=some b→bk E q=some b:=fun q b hb=>by
  have hq:lo O q≠none:=fun h0=>by unfold bk at hb;simp only [h0] at hb;cases hb
  unfold bk at hb ⊢;rw [←ho q hq];exact hb
 refine ⟨h.chg,h.org,h.fz,fun q x hx=>?_,fun q b hb=>h.live q b (hbk q b hb),fun q q' b h1 h2=>h.inj q q' b (hbk q b h1) (hbk q' b h2)⟩
 have hx':E.ob q=some x:=by rw [←ho q (by rw [show lo O q=some x from hx];simp)];exact hx
 have hok:=h.ok q x hx'
 have hcl:=List.all_eq_true.1 hc _ (mem_of_lo hx)
 cases x with
 | gone=>trivial
 | cells t cs =>
   obtain ⟨us,hb,hl,hs⟩:=hok
   refine ⟨us,hb,hl,fun j y v hy hv=>⟨Leaf.restr (E:=E) (E':=⟨E.w,E.F,E.β,E.ν,lo O⟩) rfl (fun b hb=>hb) rfl rfl (fun o hoo=>?_) (hs j y v hy hv).1,(hs j y v hy hv).2⟩⟩
   have h1:=List.all_eq_true.1 (List.all_eq_true.1 hcl y (List.mem_of_getElem? hy)) o hoo
   exact ho o (fun h0=>by rw [h0] at h1;cases h1)
 | row e s n k cs=>exact hok
def wkVc (σ:AS):List (Nat×AV)→List Prop
 | []=>[]
 | (t,x)::l=>avEq (lk σ.S t) x::wkVc σ l
def wkVcO (σ:AS):List (Nat×AObj)→List Prop
 | []=>[]
 | (q,x)::l=>opEq obEq (lo σ.O q) x::wkVcO σ l
def wkB (σ':AS):Bool:=closedB σ'.O&&(σ'.S.all (fun p=>refsInV σ'.O p.2)&&σ'.pk.all fun q=>(lo σ'.O q).isSome)
theorem wkVc_spec {σ:AS} {l:List (Nat×AV)} (h:allP (wkVc σ l)) (t:Nat):lk l t=.junk∨lk l t=lk σ.S t:=by
 induction l with
 | nil=>exact .inl rfl
 | cons p l ih =>
   obtain ⟨k,x⟩:=p
   obtain ⟨h1,h2⟩:=h
   by_cases e:t=k
   ·subst e;rw [lk_eq];exact .inr (avEq_eq h1).symm
   ·rw [lk_ne _ _ e];exact ih h2
theorem wkVcO_spec {σ:AS} {l:List (Nat×AObj)} (h:allP (wkVcO σ l)) (q:Nat) (hq:lo l q≠none):lo l q=lo σ.O q:=by
 induction l with
 | nil=>exact absurd rfl hq
 | cons p l ih =>
   obtain ⟨k,x⟩:=p
   obtain ⟨h1,h2⟩:=h
   by_cases e:q=k
   ·subst e;rw [lo_eq];exact (opOb_eq h1).symm
   ·rw [lo_ne _ _ e] at hq ⊢;exact ih h2 hq
theorem lk_mem {l:List (Nat×AV)} {t:Nat} (h:lk l t≠.junk):∃ k,(k,lk l t)∈l:=by
 induction l with
 | nil=>exact absurd rfl h
 | cons p l ih =>
   obtain ⟨k,x⟩:=p
   unfold lk at h ⊢
   split
   ·exact ⟨k,by simp⟩
   ·rename_i e;rw [if_neg e] at h;obtain ⟨k',hk⟩:=ih h;exact ⟨k',by simp [hk]⟩
theorem St.weaken {M:Cx} {w0:World} {σ σ':AS} {a:Act} {w:World} (h:St M w0 σ a w) (hn:σ'.nt=σ.nt) (hp:σ'.pk=σ.pk) (hb:wkB σ'=true) (hS:allP (wkVc σ σ'.S)) (hO:allP (wkVcO σ σ'.O)):St M w0 σ' a w:=by
 obtain ⟨E,rfl,hN⟩:=h
 unfold wkB at hb
 rw [Bool.and_eq_true,Bool.and_eq_true] at hb
 have ho:∀ o,lo σ'.O o≠none→lo σ'.O o=E.ob o:=fun o hq=>by rw [hN.ob];exact wkVcO_spec hO o hq
 refine ⟨⟨E.w,E.F,E.β,E.ν,lo σ'.O⟩,rfl,hN.df,by rw [hn];exact hN.sz,rfl,hN.mem.restr hb.1 ho,⟨hN.aft.sub,hN.aft.old,fun o h0=>?_⟩,by rw [hp];exact hN.pkk,fun t=>?_⟩
 ·have hm:=hN.pkk o h0
  rw [←hp] at hm
  have h1:=List.all_eq_true.1 hb.2.2 o hm
  have h2:lo σ'.O o=E.ob o:=ho o (fun h3=>by rw [h3] at h1;cases h1)
  obtain ⟨a1,a2,a3⟩:=hN.aft.obj o h0
  exact ⟨by show lo σ'.O o≠none;rw [h2];exact a1,fun t cs hh=>a2 t cs (by rw [←h2];exact hh),fun e s n k cs hh=>a3 e s n k cs (by rw [←h2];exact hh)⟩
 rcases wkVc_spec hS t with h1|h1
 ·rw [h1];trivial
 ·by_cases hj:lk σ'.S t=.junk
  ·rw [hj];trivial
  ·obtain ⟨k,hk⟩:=lk_mem hj
   exact Sees.restr (E:=E) (E':=⟨E.w,E.F,E.β,E.ν,lo σ'.O⟩) rfl rfl rfl rfl rfl ho (List.all_eq_true.1 hb.2.1 _ hk) (by rw [h1];exact hN.sl t)
def rnVer (pk:List Nat) (O:List (Nat×AObj)) (o:Nat):Option Nat:=bif pk.any (Nat.beq o) then none else match lo O o with|some (.row _ _ _ k _)=>some k|_=>none
def rn1 (pk:List Nat) (O:List (Nat×AObj)):AV→AV
 | .row o ver=>match rnVer pk O o with|some k=>(if k=ver then .row o 0 else .junk)|none=>.row o ver
 | .rptr o ver off=>match rnVer pk O o with|some k=>(if k=ver then .rptr o 0 off else .junk)|none=>.rptr o ver off
 | x=>x
def rnA (pk:List Nat) (O:List (Nat×AObj)):AV→AV
 | .agg cs=>.agg (cs.map (rn1 pk O))
 | x=>rn1 pk O x
def rnT (pk:List Nat) (O:List (Nat×AObj)):AV→AV
 | .tup l=>.tup (l.map (rnA pk O))
 | .opt _ _=>.junk
 | x=>rnA pk O x
def rnO (pk:List Nat) (O:List (Nat×AObj)) (o:Nat):AObj→AObj
 | .cells t cs=>.cells t (cs.map (rn1 pk O))
 | .row e s n k cs=>bif pk.any (Nat.beq o) then .row e s n k cs else .row e s n 0 cs
 | .gone=>.gone
def oldB (pk:List Nat) (O:List (Nat×AObj)):Bool:=O.any fun p=>match p.2 with | .row _ _ _ k _=>!(pk.any (Nat.beq p.1)) && !(Nat.beq k 0)|_=>false
def renum (σ:AS):AS:=bif oldB σ.pk σ.O then ⟨σ.S.map fun p=>(p.1,rnT σ.pk σ.O p.2),σ.O.map fun p=>(p.1,rnO σ.pk σ.O p.1 p.2),σ.nt,σ.pk⟩ else σ
theorem lk_map' (g:AV→AV) (hj:g .junk=.junk) (l:List (Nat×AV)) (t:Nat):lk (l.map fun p=>(p.1,g p.2)) t=g (lk l t):=by
 induction l with
 | nil=>exact hj.symm
 | cons p l ih =>
   obtain ⟨k,x⟩:=p
   by_cases h:t=k
   ·subst h;simp only [List.map_cons];rw [lk_eq,lk_eq]
   ·simp only [List.map_cons];rw [lk_ne _ _ h,lk_ne _ _ h];exact ih
theorem lo_map' (g:Nat→AObj→AObj) (l:List (Nat×AObj)) (t:Nat):lo (l.map fun p=>(p.1,g p.1 p.2)) t=(lo l t).map (g t):=by
 induction l with
 | nil=>rfl
 | cons p l ih =>
   obtain ⟨k,x⟩:=p
   by_cases h:t=k
   ·subst h;simp only [List.map_cons];rw [lo_eq,lo_eq];rfl
   ·simp only [List.map_cons];rw [lo_ne _ _ h,lo_ne _ _ h];exact ih
theorem any_beq {l:List Nat} {o:Nat}:l.any (Nat.beq o)=true↔o∈l:=by
 rw [List.any_eq_true]
 constructor
 ·rintro ⟨x,hx,h⟩;obtain rfl:=Nat.eq_of_beq_eq_true h;exact hx
 ·intro h;exact ⟨o,h,Nat.beq_refl o⟩
theorem rnVer_some {pk:List Nat} {O:List (Nat×AObj)} {o k:Nat} (h:rnVer pk O o=some k):o∉pk∧∃ e s n cs,lo O o=some (.row e s n k cs):=by
 unfold rnVer at h
 rw [Bool.cond_eq_ite] at h
 split at h
 ·cases h
 ·rename_i hp
  split at h
  ·rename_i e s n k' cs hq;injection h with h;subst h;exact ⟨fun hm=>hp (any_beq.2 hm),_,_,_,_,hq⟩
  ·cases h
theorem rnVer_none {pk:List Nat} {O:List (Nat×AObj)} {o:Nat} (h:rnVer pk O o=none):o∈pk∨∀ e s n k cs,lo O o≠some (.row e s n k cs):=by
 unfold rnVer at h
 rw [Bool.cond_eq_ite] at h
 split at h
 ·rename_i hp;exact .inl (any_beq.1 hp)
 ·right
  intro e s n k cs hq
  rw [hq] at h;cases h
section
variable {E E':Env} {pk:List Nat} {O:List (Nat×AObj)}
theorem rnO_row {o:Nat} {x:AObj} {e:TypeId} {s n k:Nat} {cs:List AV} (h:rnO pk O o x=.row e s n k cs):∃ k0,x=.row e s n k0 cs∧(o∈pk→k0=k)∧(o∉pk→k=0):=by
 cases x with
 | cells t l=>cases h
 | gone=>cases h
 | row e1 s1 n1 k1 cs1 =>
   simp only [rnO,Bool.cond_eq_ite] at h
   split at h
   ·rename_i hp;injection h with h1 h2 h3 h4 h5;subst h1;subst h2;subst h3;subst h4;subst h5;exact ⟨_,rfl,fun _=>rfl,fun hn=>absurd (any_beq.1 hp) hn⟩
   ·rename_i hp;injection h with h1 h2 h3 h4 h5;subst h1;subst h2;subst h3;subst h4;subst h5;exact ⟨_,rfl,fun hm=>absurd (any_beq.2 hm) hp,fun _=>rfl⟩
theorem rnO_cells {o:Nat} {x:AObj} {t:TypeId} {cs:List AV} (h:rnO pk O o x=.cells t cs):∃ cs0,x=.cells t cs0∧cs=cs0.map (rn1 pk O):=by
 cases x with
 | cells t l=>injection h with h1 h2;subst h1;exact ⟨l,rfl,h2.symm⟩
 | gone=>cases h
 | row e1 s1 n1 k1 cs1=>simp only [rnO,Bool.cond_eq_ite] at h;split at h<;>cases h
theorem rn1_leaf (hw:E'.w=E.w) (hF:E'.F=E.F) (hβ:E'.β=E.β) (hν:E'.ν=E.ν) (hO:E.ob=lo O) (hob:∀ o,E'.ob o=(E.ob o).map (rnO pk O o)) {x:AV} {u:Value} (hx:Leaf E x u):Leaf E' (rn1 pk O x) u:=by
 have hne:∀ o,E.ob o≠none→E'.ob o≠none:=fun o h h2=>by
  rw [hob o] at h2
  cases hx:E.ob o with
  | none=>exact h hx
  | some y=>rw [hx] at h2;cases h2
 have hrow:∀ o e s n k cs,E'.ob o=some (.row e s n k cs)→∃ k0,E.ob o=some (.row e s n k0 cs)∧(o∈pk→k0=k)∧(o∉pk→k=0):=fun o e s n k cs h=>by
  rw [hob o] at h
  cases hx:E.ob o with
  | none=>rw [hx] at h;cases h
  | some y =>
    rw [hx] at h;injection h with h
    obtain ⟨k0,rfl,h1,h2⟩:=rnO_row h
    exact ⟨k0,rfl,h1,h2⟩
 cases x with
 | v x=>exact hx
 | lst n cs=>show Rep E'.w E'.F _ u;rw [hw,hF];exact hx
 | agg=>exact hx
 | tup=>exact hx
 | opt=>exact hx
 | fk=>exact hx
 | junk=>trivial
 | fptr cs off =>
   obtain ⟨a,us,rfl,hFa,hl,h1,hu,hr⟩:=hx
   exact ⟨a,us,rfl,by rw [hF];exact hFa,hl,h1,by rw [hw];exact hu,by rw [hw,hF];exact hr⟩
 | ptr o off =>
   refine ⟨hne o hx.1,fun t cs h=>?_⟩
   rw [hob o] at h
   cases hy:E.ob o with
   | none=>rw [hy] at h;cases h
   | some y =>
     rw [hy] at h;injection h with h
     obtain ⟨cs0,rfl,_⟩:=rnO_cells h
     rw [hβ];exact hx.2 _ _ hy
 | row o ver =>
   simp only [rn1]
   cases hv:rnVer pk O o with
   | none =>
     refine ⟨hne o hx.1,fun e s n k cs h=>?_⟩
     obtain ⟨k0,h0,h1,h2⟩:=hrow o e s n k cs h
     rcases rnVer_none hv with hp|hp
     ·obtain rfl:=h1 hp;rw [hν];exact hx.2 _ _ _ _ _ h0
     ·rw [hO] at h0;exact absurd h0 (hp _ _ _ _ _)
   | some k1 =>
     obtain ⟨hp,e1,s1,n1,cs1,hq⟩:=rnVer_some hv
     simp only
     split
     ·rename_i hk;subst hk
      refine ⟨hne o hx.1,fun e s n k cs h=>?_⟩
      obtain ⟨k0,h0,h1,h2⟩:=hrow o e s n k cs h
      have h3:=h2 hp
      rw [h3]
      refine ⟨Nat.le_refl _,fun _=>?_⟩
      have hq':E.ob o=some (.row e1 s1 n1 k1 cs1):=by rw [hO];exact hq
      rw [hν];exact (hx.2 _ _ _ _ _ hq').2 rfl
     ·trivial
 | rptr o ver off =>
   simp only [rn1]
   cases hv:rnVer pk O o with
   | none =>
     refine ⟨hne o hx.1,fun e s n k cs h=>?_⟩
     obtain ⟨k0,h0,h1,h2⟩:=hrow o e s n k cs h
     rcases rnVer_none hv with hp|hp
     ·obtain rfl:=h1 hp;rw [hν];exact hx.2 _ _ _ _ _ h0
     ·rw [hO] at h0;exact absurd h0 (hp _ _ _ _ _)
   | some k1 =>
     obtain ⟨hp,e1,s1,n1,cs1,hq⟩:=rnVer_some hv
     simp only
     split
     ·rename_i hk;subst hk
      refine ⟨hne o hx.1,fun e s n k cs h=>?_⟩
      obtain ⟨k0,h0,h1,h2⟩:=hrow o e s n k cs h
      have h3:=h2 hp
      rw [h3]
      refine ⟨Nat.le_refl _,fun _=>?_⟩
      rw [hν];exact (hx.2 _ _ _ _ _ h0).2 (by
       rw [hO,hq] at h0;injection h0 with h0;injection h0)
     ·trivial
theorem rn_leafs (hw:E'.w=E.w) (hF:E'.F=E.F) (hβ:E'.β=E.β) (hν:E'.ν=E.ν) (hO:E.ob=lo O) (hob:∀ o,E'.ob o=(E.ob o).map (rnO pk O o)) {cs:List AV} {us:List Value} (h:Leafs E cs us):Leafs E' (cs.map (rn1 pk O)) us:=by
 refine ⟨by rw [List.length_map];exact h.1,fun j x u hx hu=>?_⟩
 rw [List.getElem?_map] at hx
 cases hc:cs[j]? with
 | none=>rw [hc] at hx;cases hx
 | some y =>
   rw [hc] at hx;injection hx with hx;subst hx
   exact ⟨rn1_leaf hw hF hβ hν hO hob (h.2 j y u hc hu).1,(h.2 j y u hc hu).2⟩
theorem rnA_one {x:AV} (h:∀ l,x≠.agg l):rnA pk O x=rn1 pk O x:=by
 cases x<;>first|rfl|exact absurd rfl (h _)
theorem rnT_one {x:AV} (h:∀ l,x≠.tup l) (h2:∀ b y,x≠.opt b y):rnT pk O x=rnA pk O x:=by
 cases x<;>first|rfl|exact absurd rfl (h _)|exact absurd rfl (h2 _ _)
theorem rnA_sees (hw:E'.w=E.w) (hF:E'.F=E.F) (hβ:E'.β=E.β) (hν:E'.ν=E.ν) (hO:E.ob=lo O) (hob:∀ o,E'.ob o=(E.ob o).map (rnO pk O o)) {x:AV} {u:Value} (hx:Sees1 E x u):Sees1 E' (rnA pk O x) u:=by
 cases x with
 | agg cs=>obtain ⟨us,e,hl⟩:=hx;exact ⟨us,e,rn_leafs hw hF hβ hν hO hob hl⟩
 | _=>rw [rnA_one (by intro l h;cases h)];exact Sees1.leaf (rn1_leaf hw hF hβ hν hO hob (by simpa only [Sees1] using hx))
theorem rnT_sees (hw:E'.w=E.w) (hF:E'.F=E.F) (hβ:E'.β=E.β) (hν:E'.ν=E.ν) (hO:E.ob=lo O) (hob:∀ o,E'.ob o=(E.ob o).map (rnO pk O o)) {x:AV} {u:Value} (hx:Sees E x u):Sees E' (rnT pk O x) u:=by
 cases x with
 | tup l =>
   obtain ⟨us,e,hl,hs⟩:=hx
   refine ⟨us,e,by rw [List.length_map];exact hl,fun j y v hy hv=>?_⟩
   rw [List.getElem?_map] at hy
   cases hc:l[j]? with
   | none=>rw [hc] at hy;cases hy
   | some z =>
     rw [hc] at hy;injection hy with hy;subst hy
     exact rnA_sees hw hF hβ hν hO hob (hs j z v hc hv)
 | agg cs=>exact rnA_sees (x:=.agg cs) hw hF hβ hν hO hob hx
 | opt=>trivial
 | _=>rw [rnT_one (by intro l h;cases h) (by intro b y h;cases h)];exact Sees.sees1 (rnA_sees hw hF hβ hν hO hob (by simpa only [Sees] using hx))
end
theorem St.renum {M:Cx} {w0:World} {σ:AS} {a:Act} {w:World} (h:St M w0 σ a w):St M w0 (renum σ) a w:=by
 unfold Sy.renum
 rw [Bool.cond_eq_ite]
 split
 ·obtain ⟨E,rfl,hN⟩:=h
  let E':Env:=⟨E.w,E.F,E.β,E.ν,lo (σ.O.map fun p=>(p.1,rnO σ.pk σ.O p.1 p.2))⟩
  have hob:∀ o,E'.ob o=(E.ob o).map (rnO σ.pk σ.O o):=fun o=>by
   show lo (σ.O.map fun p=>(p.1,rnO σ.pk σ.O p.1 p.2)) o=_
   rw [lo_map',hN.ob]
  have hget:∀ o x,E'.ob o=some x→∃ y,E.ob o=some y∧x=rnO σ.pk σ.O o y:=fun o x hx=>by
   rw [hob o] at hx
   cases hy:E.ob o with
   | none=>rw [hy] at hx;cases hx
   | some y=>rw [hy] at hx;injection hx with hx;exact ⟨y,rfl,hx.symm⟩
  have hbk:∀ o,bk E' o=bk E o:=fun o=>by
   unfold bk;rw [hob o]
   cases hy:E.ob o with
   | none=>rfl
   | some y =>
     cases y with
     | cells=>rfl
     | gone=>rfl
     | row e s n k cs=>by_cases hp:σ.pk.any (Nat.beq o)=true<;>simp [rnO,hp,E']
  refine ⟨E',rfl,hN.df,hN.sz,rfl,⟨hN.mem.chg,hN.mem.org,hN.mem.fz,fun o x hx=>?_,fun o b hb=>hN.mem.live o b (by rw [←hbk];exact hb),fun o o' b h1 h2=>hN.mem.inj o o' b (by rw [←hbk];exact h1) (by rw [←hbk];exact h2)⟩,⟨hN.aft.sub,hN.aft.old,fun o h0=>?_⟩,hN.pkk,fun t=>?_⟩
  ·obtain ⟨y,hy,rfl⟩:=hget o x hx
   have hok:=hN.mem.ok o y hy
   cases y with
   | gone=>trivial
   | cells t cs =>
     obtain ⟨us,hb,hl⟩:=hok
     exact ⟨us,hb,rn_leafs (E:=E) (E':=E') rfl rfl rfl rfl hN.ob hob hl⟩
   | row e s n k cs =>
     simp only [rnO,Bool.cond_eq_ite]
     split<;>exact hok
  ·have hm:=hN.pkk o h0
   obtain ⟨a1,a2,a3⟩:=hN.aft.obj o h0
   refine ⟨?_,fun t cs hh=>?_,fun e s n k cs hh=>?_⟩
   ·rw [hob o];cases hy:E.ob o with
    | none=>exact absurd hy a1
    | some y=>simp
   ·obtain ⟨y,hy,e1⟩:=hget o _ hh
    obtain ⟨cs0,rfl,_⟩:=rnO_cells e1.symm
    exact a2 _ _ hy
   ·obtain ⟨y,hy,e1⟩:=hget o _ hh
    obtain ⟨k0,rfl,h1,_⟩:=rnO_row e1.symm
    obtain rfl:=h1 hm
    exact a3 _ _ _ _ _ hy
  ·rw [lk_map' (rnT σ.pk σ.O) rfl]
   exact rnT_sees (E:=E) (E':=E') rfl rfl rfl rfl hN.ob hob (hN.sl t)
 ·exact h
def born1 (O':List (Nat×AObj)) (σ:AS):Nat×AV→AS
 | (t,.row q 0)=>match lk σ.S t,lo σ.O q,lo O' q with
   | .v (.slice none 0 0),none,some (.row e s _ _ _)=>bif Nat.blt 0 s then ⟨(t,.row q 0)::σ.S,(q,.row e s 0 0 [])::σ.O,σ.nt,σ.pk⟩ else σ
   | _,_,_=>σ
 | _=>σ
def born (O':List (Nat×AObj)):List (Nat×AV)→AS→AS
 | [],σ=>σ
 | p::l,σ=>born O' l (born1 O' σ p)
theorem St.born1 {M:Cx} {w0:World} {σ:AS} {a:Act} {w:World} (h:St M w0 σ a w) (O':List (Nat×AObj)) (p:Nat×AV):St M w0 (born1 O' σ p) a w:=by
 unfold Sy.born1
 split
 ·rename_i t q
  split
  ·rename_i e s n k cs h1 h2 h3
   rw [Bool.cond_eq_ite]
   split
   ·rename_i hs
    have hs:0<s:=by simpa [Nat.blt_eq] using hs
    obtain ⟨E,rfl,hN⟩:=h
    have hq0:E.ob q=none:=by rw [hN.ob];exact h2
    let E':Env:=⟨E.w,E.F,E.β,fun o=>if o=q then .slice none 0 0 else E.ν o,lo ((q,.row e s 0 0 [])::σ.O)⟩
    have hob1:E'.ob q=some (.row e s 0 0 []):=lo_eq _ _ _
    have hob2:∀ o,o≠q→E'.ob o=E.ob o:=fun o ho=>by
     show lo ((q,.row e s 0 0 [])::σ.O) o=_
     rw [lo_ne _ _ ho,hN.ob]
    have hνq:E'.ν q=.slice none 0 0:=if_pos rfl
    have hbkq:bk E' q=none:=by unfold bk;rw [hob1];simp only [hνq];rfl
    obtain ⟨hm,haf⟩:=hN.mem.step (E':=E') (·=q) rfl rfl rfl (Nat.le_refl _) (fun _ _ _=>rfl) (fun _ hb=>hb) (fun _ hb=>.inl hb) (fun o ho=>⟨hob2 o ho,rfl,if_neg ho⟩)
     (fun o ho h0=>by subst ho;exact absurd hq0 h0)
     (fun _ o x ho hx=>by
      subst ho
      rw [hob1] at hx;injection hx with hx;subst hx
      exact ⟨[],⟨by simp,.inl ⟨hνq,rfl⟩⟩,hs,rfl,fun j x u hx=>by simp at hx⟩)
     (fun o b ho hb=>by subst ho;rw [hbkq] at hb;cases hb)
     (fun o o' b ho ho' _ _=>by rw [ho,ho'])
    refine ⟨E',rfl,hN.df,hN.sz,rfl,hm,hN.aft.trans haf,hN.pkk,fun t'=>?_⟩
    by_cases ht:t'=t
    ·subst ht
     rw [lk_eq]
     have e1:=hN.sl t'
     rw [h1] at e1
     have e1:=sees_v e1
     show Leaf E' (.row q 0) _
     refine ⟨by rw [hob1];simp,fun e s n k cs hh=>?_⟩
     rw [hob1] at hh;injection hh with hh;injection hh with _ _ _ h4 _;subst h4
     exact ⟨Nat.le_refl _,fun _=>by rw [hνq];exact e1⟩
    ·rw [lk_ne _ _ ht];exact (hN.sl t').after haf
   ·exact h
  ·exact h
 ·exact h
theorem St.born {M:Cx} {w0:World} {a:Act} {w:World} (O':List (Nat×AObj)):∀ (l:List (Nat×AV)) {σ:AS},St M w0 σ a w→St M w0 (born O' l σ) a w
 | [],σ,h=>h
 | p::l,σ,h=>St.born O' l (h.born1 O' p)
theorem born1_nt {O':List (Nat×AObj)} {σ:AS} {p:Nat×AV}:(born1 O' σ p).nt=σ.nt∧(born1 O' σ p).pk=σ.pk:=by
 unfold Sy.born1
 split
 ·split
  ·rw [Bool.cond_eq_ite];split<;>exact ⟨rfl,rfl⟩
  ·exact ⟨rfl,rfl⟩
 ·exact ⟨rfl,rfl⟩
theorem born_nt {O':List (Nat×AObj)}:∀ (l:List (Nat×AV)) (σ:AS),(born O' l σ).nt=σ.nt∧(born O' l σ).pk=σ.pk
 | [],σ=>⟨rfl,rfl⟩
 | p::l,σ=>⟨(born_nt l (born1 O' σ p)).1.trans born1_nt.1,(born_nt l (born1 O' σ p)).2.trans born1_nt.2⟩
def isNil:AV→Bool
 | .v (.slice none 0 0)=>true
 | _=>false
def soft1 (x y:AV):AV:=match y with
 | .v (.slice none 0 0)=>match x with
   | .lst _ _=>.lst 0 []
   | _=>.v (.slice none 0 0)
 | y=>y
def softL:List AV→List AV→List AV
 | x::l,y::m=>soft1 x y::softL l m
 | _,m=>m
def softO (σ:AS):Nat×AObj→AS
 | (q,.cells _ cs')=>match lo σ.O q with
   | some (.cells t cs)=>bif cs.any isNil then ⟨σ.S,(q,.cells t (softL cs' cs))::σ.O,σ.nt,σ.pk⟩ else σ
   | _=>σ
 | _=>σ
def softT (σ:AS):Nat×AV→AS
 | (t,.lst _ _)=>bif isNil (lk σ.S t) then ⟨(t,.lst 0 [])::σ.S,σ.O,σ.nt,σ.pk⟩ else σ
 | (t,.agg cs')=>match lk σ.S t with
   | .agg cs=>bif cs.any isNil then ⟨(t,.agg (softL cs' cs))::σ.S,σ.O,σ.nt,σ.pk⟩ else σ
   | _=>σ
 | _=>σ
theorem soft1_leaf {E:Env} {x y:AV} {u:Value} (h:Leaf E y u):Leaf E (soft1 x y) u:=by
 unfold soft1
 split
 ·split
  ·obtain ⟨e,_⟩:=h;rw [e];exact .nil none 0 (Nat.zero_le _)
  ·exact h
 ·exact h
theorem softL_len:∀ (l m:List AV),(softL l m).length=m.length
 | x::l,y::m=>by simp [softL,softL_len l m]
 | [],[]=>rfl
 | [],_::_=>rfl
 | _::_,[]=>rfl
theorem softL_at:∀ (l m:List AV) (j:Nat) (z:AV),(softL l m)[j]?=some z→∃ x y,m[j]?=some y∧(z=soft1 x y∨z=y)
 | x::l,y::m,0,z,h=>by
   injection h with h
   exact ⟨x,y,rfl,.inl h.symm⟩
 | x::l,y::m,j+1,z,h=>by
   obtain ⟨a,b,h1,h2⟩:=softL_at l m j z h
   exact ⟨a,b,h1,h2⟩
 | [],m,j,z,h=>⟨.junk,z,by cases m<;>exact h,.inr rfl⟩
 | _::_,[],j,z,h=>by simp [softL] at h
theorem softL_leafs {E:Env} {l m:List AV} {us:List Value} (h:Leafs E m us):Leafs E (softL l m) us:=by
 refine ⟨by rw [softL_len];exact h.1,fun j z u hz hu=>?_⟩
 obtain ⟨x,y,h1,h2⟩:=softL_at l m j z hz
 have h3:=h.2 j y u h1 hu
 rcases h2 with rfl|rfl
 ·exact ⟨soft1_leaf h3.1,h3.2⟩
 ·exact h3
theorem Leaf.cellsOnly {E E':Env} (hw:E'.w=E.w) (hF:E'.F=E.F) (hβ:E'.β=E.β) (hν:E'.ν=E.ν) (hrow:∀ o e s n k cs,E'.ob o=some (.row e s n k cs)→E.ob o=some (.row e s n k cs)) (hcell:∀ o t cs,E'.ob o=some (.cells t cs)→∃ cs0,E.ob o=some (.cells t cs0)) (hne:∀ o,E.ob o≠none→E'.ob o≠none) {x:AV} {u:Value} (hx:Leaf E x u):Leaf E' x u:=by
 cases x with
 | v x=>exact hx
 | lst n cs=>show Rep E'.w E'.F _ u;rw [hw,hF];exact hx
 | agg=>exact hx
 | tup=>exact hx
 | opt=>exact hx
 | fk=>exact hx
 | junk=>trivial
 | fptr cs off =>
   obtain ⟨a,us,rfl,hFa,hl,h1,hu,hr⟩:=hx
   exact ⟨a,us,rfl,by rw [hF];exact hFa,hl,h1,by rw [hw];exact hu,by rw [hw,hF];exact hr⟩
 | ptr o off =>
   refine ⟨hne o hx.1,fun t cs h=>?_⟩
   obtain ⟨cs0,h0⟩:=hcell _ _ _ h
   rw [hβ];exact hx.2 _ _ h0
 | row o ver=>exact ⟨hne o hx.1,fun e s n k cs h=>by rw [hν];exact hx.2 _ _ _ _ _ (hrow _ _ _ _ _ _ h)⟩
 | rptr o ver off=>exact ⟨hne o hx.1,fun e s n k cs h=>by rw [hν];exact hx.2 _ _ _ _ _ (hrow _ _ _ _ _ _ h)⟩
theorem Leafs.mapL {E E':Env} (f:∀ {x:AV} {u:Value},Leaf E x u→Leaf E' x u) {cs:List AV} {us:List Value} (h:Leafs E cs us):Leafs E' cs us:=⟨h.1,fun j x u h1 h2=>⟨f (h.2 j x u h1 h2).1,(h.2 j x u h1 h2).2⟩⟩
theorem Sees.mapL {E E':Env} (f:∀ {x:AV} {u:Value},Leaf E x u→Leaf E' x u) {x:AV} {u:Value} (h:Sees E x u):Sees E' x u:=by
 have h1:∀ (y:AV) (v:Value),Sees1 E y v→Sees1 E' y v:=fun y v hy=>by
  cases y with
  | agg cs=>obtain ⟨us,e,hl⟩:=hy;exact ⟨us,e,hl.mapL f⟩
  | _=>exact Sees1.leaf (f (by simpa only [Sees1] using hy))
 cases x with
 | tup l=>obtain ⟨us,e,hl,hs⟩:=h;exact ⟨us,e,hl,fun j y v hy hv=>h1 y v (hs j y v hy hv)⟩
 | opt b x =>
   simp only [Sees] at h ⊢
   split
   ·rename_i hb;rw [if_pos hb] at h;exact h1 _ _ h
   ·rename_i hb;rw [if_neg hb] at h;exact h
 | _=>exact Sees.sees1 (h1 _ _ (by simpa only [Sees] using h))
theorem St.softO {M:Cx} {w0:World} {σ:AS} {a:Act} {w:World} (h:St M w0 σ a w) (p:Nat×AObj):St M w0 (softO σ p) a w:=by
 unfold Sy.softO
 split
 ·rename_i q t' cs'
  split
  ·rename_i t cs hq
   rw [Bool.cond_eq_ite]
   split
   ·obtain ⟨E,rfl,hN⟩:=h
    have hq0:E.ob q=some (.cells t cs):=by rw [hN.ob];exact hq
    let E':Env:=⟨E.w,E.F,E.β,E.ν,lo ((q,.cells t (softL cs' cs))::σ.O)⟩
    have hob1:E'.ob q=some (.cells t (softL cs' cs)):=lo_eq _ _ _
    have hob2:∀ o,o≠q→E'.ob o=E.ob o:=fun o ho=>by
     show lo ((q,.cells t (softL cs' cs))::σ.O) o=_
     rw [lo_ne _ _ ho,hN.ob]
    have hrow:∀ o e s n k l,E'.ob o=some (.row e s n k l)→E.ob o=some (.row e s n k l):=fun o e s n k l hh=>by
     by_cases ho:o=q
     ·subst ho;rw [hob1] at hh;cases hh
     ·rw [hob2 o ho] at hh;exact hh
    have hcell:∀ o t l,E'.ob o=some (.cells t l)→∃ l0,E.ob o=some (.cells t l0):=fun o t l hh=>by
     by_cases ho:o=q
     ·subst ho;rw [hob1] at hh;injection hh with hh;injection hh with h1 h2;subst h1;exact ⟨_,hq0⟩
     ·rw [hob2 o ho] at hh;exact ⟨_,hh⟩
    have hne:∀ o,E.ob o≠none→E'.ob o≠none:=fun o hh=>by
     by_cases ho:o=q
     ·subst ho;rw [hob1];simp
     ·rw [hob2 o ho];exact hh
    have hleaf:∀ {x:AV} {u:Value},Leaf E x u→Leaf E' x u:=fun hx=>Leaf.cellsOnly (E:=E) (E':=E') rfl rfl rfl rfl hrow hcell hne hx
    have hbk:∀ o,bk E' o=bk E o:=fun o=>by
     by_cases ho:o=q
     ·subst ho;unfold bk;rw [hob1,hq0]
     ·unfold bk;rw [hob2 o ho]
    refine ⟨E',rfl,hN.df,hN.sz,rfl,⟨hN.mem.chg,hN.mem.org,hN.mem.fz,fun o x hx=>?_,fun o b hb=>hN.mem.live o b (by rw [←hbk];exact hb),fun o o' b h1 h2=>hN.mem.inj o o' b (by rw [←hbk];exact h1) (by rw [←hbk];exact h2)⟩,⟨hN.aft.sub,hN.aft.old,fun o h0=>?_⟩,hN.pkk,fun t=>(hN.sl t).mapL hleaf⟩
    ·by_cases ho:o=q
     ·subst ho
      rw [hob1] at hx;injection hx with hx;subst hx
      obtain ⟨us,hb,hl⟩:=hN.mem.ok o _ hq0
      exact ⟨us,hb,(softL_leafs hl).mapL hleaf⟩
     ·rw [hob2 o ho] at hx
      have hok:=hN.mem.ok o x hx
      cases x with
      | gone=>trivial
      | cells t cs=>obtain ⟨us,hb,hl⟩:=hok;exact ⟨us,hb,hl.mapL hleaf⟩
      | row e s n k l=>exact hok
    ·obtain ⟨a1,a2,a3⟩:=hN.aft.obj o h0
     refine ⟨hne o a1,fun t l hh=>?_,fun e s n k l hh=>a3 _ _ _ _ _ (hrow _ _ _ _ _ _ hh)⟩
     obtain ⟨l0,hl0⟩:=hcell _ _ _ hh
     exact a2 _ _ hl0
   ·exact h
  ·exact h
 ·exact h
theorem isNil_eq {x:AV} (h:isNil x=true):x=.v (.slice none 0 0):=by
 unfold isNil at h
 split at h
 ·rfl
 ·cases h
theorem St.slot {M:Cx} {w0:World} {σ:AS} {a:Act} {w:World} (h:St M w0 σ a w) (t:Nat) (x:AV) (hx:∀ (E:Env) (u:Value),Sees E (lk σ.S t) u→Sees E x u):St M w0 ⟨(t,x)::σ.S,σ.O,σ.nt,σ.pk⟩ a w:=by
 obtain ⟨E,rfl,hN⟩:=h
 refine ⟨E,rfl,hN.df,hN.sz,hN.ob,hN.mem,hN.aft,hN.pkk,fun t'=>?_⟩
 by_cases ht:t'=t
 ·subst ht;rw [lk_eq];exact hx _ _ (hN.sl t')
 ·rw [lk_ne _ _ ht];exact hN.sl t'
theorem St.softT {M:Cx} {w0:World} {σ:AS} {a:Act} {w:World} (h:St M w0 σ a w) (p:Nat×AV):St M w0 (softT σ p) a w:=by
 unfold Sy.softT
 split
 ·rename_i t n cs
  rw [Bool.cond_eq_ite]
  split
  ·rename_i hn
   refine h.slot t _ fun E u hu=>?_
   rw [isNil_eq hn] at hu
   rw [sees_v hu]
   exact Sees.leaf (x:=.lst 0 []) (show Rep E.w E.F (.lst 0 []) _ from .nil none 0 (Nat.zero_le _))
  ·exact h
 ·rename_i t cs'
  split
  ·rename_i cs hc
   rw [Bool.cond_eq_ite]
   split
   ·refine h.slot t _ fun E u hu=>?_
    rw [hc] at hu
    obtain ⟨us,e,hl⟩:=hu
    exact ⟨us,e,softL_leafs hl⟩
   ·exact h
  ·exact h
 ·exact h
def softsO:List (Nat×AObj)→AS→AS
 | [],σ=>σ
 | p::l,σ=>softsO l (softO σ p)
def softsT:List (Nat×AV)→AS→AS
 | [],σ=>σ
 | p::l,σ=>softsT l (softT σ p)
theorem St.softsO {M:Cx} {w0:World} {a:Act} {w:World}:∀ (l:List (Nat×AObj)) {σ:AS},St M w0 σ a w→St M w0 (softsO l σ) a w
 | [],σ,h=>h
 | p::l,σ,h=>St.softsO l (h.softO p)
theorem St.softsT {M:Cx} {w0:World} {a:Act} {w:World}:∀ (l:List (Nat×AV)) {σ:AS},St M w0 σ a w→St M w0 (softsT l σ) a w
 | [],σ,h=>h
 | p::l,σ,h=>St.softsT l (h.softT p)
theorem softO_nt {σ:AS} {p:Nat×AObj}:(softO σ p).nt=σ.nt∧(softO σ p).pk=σ.pk:=by
 unfold Sy.softO
 split
 ·split
  ·rw [Bool.cond_eq_ite];split<;>exact ⟨rfl,rfl⟩
  ·exact ⟨rfl,rfl⟩
 ·exact ⟨rfl,rfl⟩
theorem softT_nt {σ:AS} {p:Nat×AV}:(softT σ p).nt=σ.nt∧(softT σ p).pk=σ.pk:=by
 unfold Sy.softT
 split
 ·rw [Bool.cond_eq_ite];split<;>exact ⟨rfl,rfl⟩
 ·split
  ·rw [Bool.cond_eq_ite];split<;>exact ⟨rfl,rfl⟩
  ·exact ⟨rfl,rfl⟩
 ·exact ⟨rfl,rfl⟩
theorem softsO_nt:∀ (l:List (Nat×AObj)) (σ:AS),(softsO l σ).nt=σ.nt∧(softsO l σ).pk=σ.pk
 | [],σ=>⟨rfl,rfl⟩
 | p::l,σ=>⟨(softsO_nt l (softO σ p)).1.trans softO_nt.1,(softsO_nt l (softO σ p)).2.trans softO_nt.2⟩
theorem softsT_nt:∀ (l:List (Nat×AV)) (σ:AS),(softsT l σ).nt=σ.nt∧(softsT l σ).pk=σ.pk
 | [],σ=>⟨rfl,rfl⟩
 | p::l,σ=>⟨(softsT_nt l (softT σ p)).1.trans softT_nt.1,(softsT_nt l (softT σ p)).2.trans softT_nt.2⟩
def bornC1 (O':List (Nat×AObj)) (q j:Nat) (σ:AS):AV→AS
 | .row r 0=>match lo σ.O q,lo σ.O r,lo O' r with
   | some (.cells t cs),none,some (.row e s _ _ _)=>match cs[j]? with
     | some (.v (.slice none 0 0))=>bif Nat.blt 0 s then ⟨σ.S,(q,.cells t (cs.set j (.row r 0)))::(r,.row e s 0 0 [])::σ.O,σ.nt,σ.pk⟩ else σ
     | _=>σ
   | _,_,_=>σ
 | _=>σ
def bornCs (O':List (Nat×AObj)) (q:Nat):Nat→List AV→AS→AS
 | _,[],σ=>σ
 | j,y::l,σ=>bornCs O' q (j+1) l (bornC1 O' q j σ y)
def bornO (O':List (Nat×AObj)):List (Nat×AObj)→AS→AS
 | [],σ=>σ
 | (q,.cells _ cs')::l,σ=>bornO O' l (bornCs O' q 0 cs' σ)
 | _::l,σ=>bornO O' l σ
theorem St.bornC1 {M:Cx} {w0:World} {σ:AS} {a:Act} {w:World} (h:St M w0 σ a w) (O':List (Nat×AObj)) (q j:Nat) (y:AV):St M w0 (bornC1 O' q j σ y) a w:=by
 unfold Sy.bornC1
 split
 ·rename_i r
  split
  ·rename_i t cs e s n k cs' h1 h2 h3
   split
   ·rename_i h4
    rw [Bool.cond_eq_ite]
    split
    ·rename_i hs
     have hs:0<s:=by simpa [Nat.blt_eq] using hs
     obtain ⟨E,rfl,hN⟩:=h
     have hq0:E.ob q=some (.cells t cs):=by rw [hN.ob];exact h1
     have hr0:E.ob r=none:=by rw [hN.ob];exact h2
     have hqr:q≠r:=fun e=>by subst e;rw [hq0] at hr0;cases hr0
     let E':Env:=⟨E.w,E.F,E.β,fun o=>if o=r then .slice none 0 0 else E.ν o,lo ((q,.cells t (cs.set j (.row r 0)))::(r,.row e s 0 0 [])::σ.O)⟩
     have hobq:E'.ob q=some (.cells t (cs.set j (.row r 0))):=lo_eq _ _ _
     have hobr:E'.ob r=some (.row e s 0 0 []):=by
      show lo ((q,.cells t (cs.set j (.row r 0)))::(r,.row e s 0 0 [])::σ.O) r=_
      rw [lo_ne _ _ (fun h=>hqr h.symm),lo_eq]
     have hob:∀ o,o≠q→o≠r→E'.ob o=E.ob o:=fun o h1 h2=>by
      show lo ((q,.cells t (cs.set j (.row r 0)))::(r,.row e s 0 0 [])::σ.O) o=_
      rw [lo_ne _ _ h1,lo_ne _ _ h2,hN.ob]
     have hνr:E'.ν r=.slice none 0 0:=if_pos rfl
     have hbkr:bk E' r=none:=by unfold bk;rw [hobr];simp only [hνr];rfl
     have hbkq:bk E' q=some (E.β q):=by unfold bk;rw [hobq]
     have hbkq0:bk E q=some (E.β q):=by unfold bk;rw [hq0]
     have hrow:Leaf E' (.row r 0) (.slice none 0 0):=by
      refine ⟨by rw [hobr];simp,fun e s n k cs hh=>?_⟩
      rw [hobr] at hh;injection hh with hh;injection hh with _ _ _ h4 _;subst h4
      exact ⟨Nat.le_refl _,fun _=>hνr.symm⟩
     obtain ⟨hm,haf⟩:=hN.mem.step (E':=E') (fun o=>o=r∨o=q) rfl rfl rfl (Nat.le_refl _) (fun _ _ _=>rfl) (fun _ hb=>hb) (fun _ hb=>.inl hb) (fun o ho=>⟨hob o (fun h=>ho (.inr h)) (fun h=>ho (.inl h)),rfl,if_neg (fun h=>ho (.inl h))⟩)
      (fun o ho h0=>by
       rcases ho with rfl|rfl
       ·exact absurd hr0 h0
       ·refine ⟨by rw [hobq];simp,fun t' l hh=>⟨⟨t,cs,hq0⟩,rfl⟩,fun e s n k l hh=>?_⟩
        rw [hobq] at hh;cases hh)
      (fun haf o x ho hx=>by
       rcases ho with rfl|rfl
       ·rw [hobr] at hx;injection hx with hx;subst hx
        exact ⟨[],⟨by simp,.inl ⟨hνr,rfl⟩⟩,hs,rfl,fun j x u hx=>by simp at hx⟩
       ·rw [hobq] at hx;injection hx with hx;subst hx
        obtain ⟨us,hb,hl,hls⟩:=hN.mem.ok o _ hq0
        refine ⟨us,hb,by rw [List.length_set];exact hl,fun i x u hx hu=>?_⟩
        by_cases hij:j=i
        ·subst hij
         have hlt:j<cs.length:=lt_of_some h4
         rw [List.getElem?_set_self hlt] at hx
         injection hx with hx;subst hx
         obtain ⟨⟨e1,_⟩,e2⟩:=hls j _ u h4 hu
         exact ⟨by rw [e1];exact hrow,e2⟩
        ·rw [List.getElem?_set_ne hij] at hx
         exact ⟨(hls i x u hx hu).1.after haf,(hls i x u hx hu).2⟩)
      (fun o b ho hb=>by
       rcases ho with rfl|rfl
       ·rw [hbkr] at hb;cases hb
       ·rw [hbkq] at hb;injection hb with hb;subst hb
        have:=hN.mem.live o _ hbkq0
        exact ⟨this.1,this.2.1,.inr ⟨o,.inr rfl,hbkq0⟩⟩)
      (fun o o' b ho ho' h5 h6=>by
       rcases ho with rfl|rfl
       ·rw [hbkr] at h5;cases h5
       ·rcases ho' with rfl|rfl
        ·rw [hbkr] at h6;cases h6
        ·rfl)
     exact ⟨E',rfl,hN.df,hN.sz,rfl,hm,hN.aft.trans haf,hN.pkk,fun t'=>(hN.sl t').after haf⟩
    ·exact h
   ·exact h
  ·exact h
 ·exact h
theorem St.bornCs {M:Cx} {w0:World} {a:Act} {w:World} (O':List (Nat×AObj)) (q:Nat):∀ (l:List AV) (j:Nat) {σ:AS},St M w0 σ a w→St M w0 (bornCs O' q j l σ) a w
 | [],_,σ,h=>h
 | y::l,j,σ,h=>St.bornCs O' q l (j+1) (h.bornC1 O' q j y)
theorem St.bornO {M:Cx} {w0:World} {a:Act} {w:World} (O':List (Nat×AObj)):∀ (l:List (Nat×AObj)) {σ:AS},St M w0 σ a w→St M w0 (bornO O' l σ) a w
 | [],σ,h=>h
 | (q,.cells _ cs)::l,σ,h=>St.bornO O' l (St.bornCs O' q cs 0 h)
 | (q,.row _ _ _ _ _)::l,σ,h=>St.bornO O' l h
 | (q,.gone)::l,σ,h=>St.bornO O' l h
theorem bornC1_nt {O':List (Nat×AObj)} {q j:Nat} {σ:AS} {y:AV}:(bornC1 O' q j σ y).nt=σ.nt∧(bornC1 O' q j σ y).pk=σ.pk:=by
 unfold Sy.bornC1
 split
 ·split
  ·split
   ·rw [Bool.cond_eq_ite];split<;>exact ⟨rfl,rfl⟩
   ·exact ⟨rfl,rfl⟩
  ·exact ⟨rfl,rfl⟩
 ·exact ⟨rfl,rfl⟩
theorem bornCs_nt (O':List (Nat×AObj)) (q:Nat):∀ (l:List AV) (j:Nat) (σ:AS),(bornCs O' q j l σ).nt=σ.nt∧(bornCs O' q j l σ).pk=σ.pk
 | [],_,σ=>⟨rfl,rfl⟩
 | y::l,j,σ=>⟨(bornCs_nt O' q l (j+1) (bornC1 O' q j σ y)).1.trans bornC1_nt.1,(bornCs_nt O' q l (j+1) (bornC1 O' q j σ y)).2.trans bornC1_nt.2⟩
theorem bornO_nt (O':List (Nat×AObj)):∀ (l:List (Nat×AObj)) (σ:AS),(bornO O' l σ).nt=σ.nt∧(bornO O' l σ).pk=σ.pk
 | [],σ=>⟨rfl,rfl⟩
 | (q,.cells _ cs)::l,σ=>⟨(bornO_nt O' l (bornCs O' q 0 cs σ)).1.trans (bornCs_nt O' q cs 0 σ).1,(bornO_nt O' l (bornCs O' q 0 cs σ)).2.trans (bornCs_nt O' q cs 0 σ).2⟩
 | (q,.row _ _ _ _ _)::l,σ=>bornO_nt O' l σ
 | (q,.gone)::l,σ=>bornO_nt O' l σ
def fitS (T σ:AS):AS:=softsT T.S (softsO T.O (bornO T.O T.O (born T.O T.S (renum σ))))
theorem fitS_nt {T σ:AS}:(fitS T σ).nt=σ.nt∧(fitS T σ).pk=σ.pk:=by
 have h:(renum σ).nt=σ.nt∧(renum σ).pk=σ.pk:=by unfold Sy.renum;rw [Bool.cond_eq_ite];split<;>exact ⟨rfl,rfl⟩
 exact ⟨(softsT_nt _ _).1.trans ((softsO_nt _ _).1.trans ((bornO_nt _ _ _).1.trans ((born_nt _ _).1.trans h.1))),(softsT_nt _ _).2.trans ((softsO_nt _ _).2.trans ((bornO_nt _ _ _).2.trans ((born_nt _ _).2.trans h.2)))⟩
theorem St.fit {M:Cx} {w0:World} {σ:AS} {a:Act} {w:World} (h:St M w0 σ a w) (T:AS):St M w0 (fitS T σ) a w:=St.softsT _ (St.softsO _ (St.bornO _ _ (St.born _ _ h.renum)))
theorem St.weakenF {M:Cx} {w0:World} {σ σ':AS} {a:Act} {w:World} (h:St M w0 σ a w) (hn:σ'.nt=σ.nt) (hp:σ'.pk=σ.pk) (hb:wkB σ'=true) (hS:allP (wkVc (fitS σ' σ) σ'.S)) (hO:allP (wkVcO (fitS σ' σ) σ'.O)):St M w0 σ' a w :=
 (h.fit σ').weaken (hn.trans fitS_nt.1.symm) (hp.trans fitS_nt.2.symm) hb hS hO
def LoopOk (P:Program) (c:Code) (σ:AS) (e:Exit) (σ':AS):Prop:=∀ (M:Cx) (w0:World) (a:Act) (w:World) (Q:Exit→Act→World→Prop),St M w0 σ a w→(∀ a' w',St M w0 σ' a' w'→Q e a' w')→(Code.loop c).wp P Q a w
structure LoopHint where
 e:Exit
 σ:AS
 σ':AS
def firstId:Code→Nat
 | .region id _ _=>id
 | .seq a _=>firstId a
 | .block _ b=>firstId b
 | .loop b=>firstId b
 | _=>0
def findLoop (k:Nat):Code→Option Code
 | .loop b=>if firstId b=k then some b else findLoop k b
 | .seq x y=>match findLoop k x with|some b=>some b|none=>findLoop k y
 | .cond _ x y=>match findLoop k x with|some b=>some b|none=>findLoop k y
 | .block _ b=>findLoop k b
 | _=>none
def loopBody (fn:Func) (k:Nat):Code:=(findLoop k (fn.body.getD .skip)).getD .skip
def loopOf:List (Nat×LoopHint)→Nat→Option LoopHint
 | [],_=>none
 | (k,x)::r,t=>if k=t then some x else loopOf r t
def runC (P:Program) (H:List (Nat×Hint)) (L:List (Nat×LoopHint)):Code→AS→Option (Exit×AS×List Prop)
 | .skip,σ=>some (.normal,σ,[])
 | .ret,σ=>some (.ret,σ,[])
 | .exit id,σ=>some (.exit id,σ,[])
 | .region _ ops draw,σ=>match runF P H ops ops.toList σ with
   | some (σ',vc,fs)=>if draw=true→drawOk ops.toList fs (Region.before ops)=true then some (.normal,σ',vc) else none
   | none=>none
 | .seq x y,σ=>match runC P H L x σ with
   | some (.normal,σ',vc)=>match runC P H L y σ' with
     | some (e,σ2,vc2)=>some (e,σ2,vc++vc2)
     | none=>none
   | some (e,σ',vc)=>some (e,σ',vc)
   | none=>none
 | .cond c x y,σ=>match opv σ c with
   | .v (.bool true)=>runC P H L x σ
   | .v (.bool false)=>runC P H L y σ
   | _=>none
 | .block id b,σ=>match runC P H L b σ with
   | some (.exit id',σ',vc)=>if id'=id then some (.normal,σ',vc) else some (.exit id',σ',vc)
   | r=>r
 | .loop b,σ=>match loopOf L (firstId b) with
   | some h=>bif wkB h.σ&&((h.σ.nt==σ.nt)&&(h.σ.pk==σ.pk)) then some (h.e,h.σ',LoopOk P b h.σ h.e h.σ'::(wkVc (fitS h.σ σ) h.σ.S++wkVcO (fitS h.σ σ) h.σ.O)) else none
   | none=>none
 | _,_=>none
theorem runC_ok {P:Program} (hmo:P.follows .mixedOrders=true) {H:List (Nat×Hint)} {L:List (Nat×LoopHint)}:∀ {c:Code} {σ σ':AS} {e:Exit} {vc:List Prop},runC P H L c σ=some (e,σ',vc)→allP vc→∀ {M:Cx} {w0:World} {a:Act} {w:World} {Q:Exit→Act→World→Prop},
 St M w0 σ a w→(∀ a' w',St M w0 σ' a' w'→Q e a' w')→c.wp P Q a w:=by
 intro c
 induction c with
 | skip=>intro σ σ' e vc h hv M w0 a w Q hs hQ;injection h with h;injection h with h1 h2;injection h2 with h2 h3;subst h1;subst h2;exact wp_skip (hQ a w hs)
 | ret=>intro σ σ' e vc h hv M w0 a w Q hs hQ;injection h with h;injection h with h1 h2;injection h2 with h2 h3;subst h1;subst h2;exact wp_ret (hQ a w hs)
 | exit id=>intro σ σ' e vc h hv M w0 a w Q hs hQ;injection h with h;injection h with h1 h2;injection h2 with h2 h3;subst h1;subst h2;exact wp_exit (hQ a w hs)
 | region id ops draw =>
   intro σ σ' e vc h hv M w0 a w Q hs hQ
   simp only [runC] at h
   split at h
   ·rename_i σ1 vc1 fs hr
    split at h
    ·rename_i hd
     injection h with h;injection h with h1 h2;injection h2 with h2 h3;subst h1;subst h2;subst h3
     cases draw with
     | false=>exact region_text hr hv hs hQ
     | true=>exact region_any hmo hr (hd rfl) hv hs hQ
    ·cases h
   ·cases h
 | seq x y ihx ihy =>
   intro σ σ' e vc h hv M w0 a w Q hs hQ
   simp only [runC] at h
   split at h
   ·rename_i σ1 vc1 hx
    split at h
    ·rename_i e2 σ2 vc2 hy
     injection h with h;injection h with h1 h2;injection h2 with h2 h3;subst h1;subst h2;subst h3
     obtain ⟨v1,v2⟩:=allP_append.1 hv
     exact wp_seq (ihx hx v1 hs fun a' w' hs'=>ihy hy v2 hs' hQ)
    ·cases h
   ·rename_i e1 σ1 vc1 hne hx
    injection h with h;injection h with h1 h2;injection h2 with h2 h3;subst h1;subst h2;subst h3
    refine wp_seq (ihx hx hv hs fun a' w' hs'=>?_)
    cases e1<;>first|exact hQ a' w' hs'|exact (hne _ _ rfl).elim|exact (hne rfl).elim|exact absurd rfl hne
   ·cases h
 | cond c x y ihx ihy =>
   intro σ σ' e vc h hv M w0 a w Q hs hQ
   simp only [runC] at h
   split at h
   ·rename_i hc
    obtain ⟨E,rfl,hN⟩:=hs
    have e1:=hN.op c;rw [hc] at e1
    exact wp_cond_true (sees_v e1) (ihx h hv ⟨E,rfl,hN⟩ hQ)
   ·rename_i hc
    obtain ⟨E,rfl,hN⟩:=hs
    have e1:=hN.op c;rw [hc] at e1
    exact wp_cond_false (sees_v e1) (ihy h hv ⟨E,rfl,hN⟩ hQ)
   ·cases h
 | block id b ih =>
   intro σ σ' e vc h hv M w0 a w Q hs hQ
   simp only [runC] at h
   refine wp_block ?_
   split at h
   ·rename_i id' σ1 vc1 hb
    split at h
    ·rename_i hid
     injection h with h;injection h with h1 h2;injection h2 with h2 h3;subst h1;subst h2;subst h3
     exact ih hb hv hs fun a' w' hs'=>by simp only [Exit.inBlock,hid,if_true];exact hQ a' w' hs'
    ·rename_i hid
     injection h with h;injection h with h1 h2;injection h2 with h2 h3;subst h1;subst h2;subst h3
     exact ih hb hv hs fun a' w' hs'=>by simp only [Exit.inBlock,hid,if_false];exact hQ a' w' hs'
   ·rename_i hne
    refine ih h hv hs fun a' w' hs'=>?_
    cases e with
    | exit id'=>exact absurd h (hne id' σ' vc)
    | _=>exact hQ a' w' hs'
 | loop b ih =>
   intro σ σ' e vc h hv M w0 a w Q hs hQ
   simp only [runC] at h
   split at h
   ·rename_i lh hl
    rw [Bool.cond_eq_ite] at h
    split at h
    ·rename_i hb
     rw [Bool.and_eq_true,Bool.and_eq_true] at hb
     injection h with h;injection h with h1 h2;injection h2 with h2 h3;subst h1;subst h2;subst h3
     obtain ⟨v1,v2⟩:=hv
     obtain ⟨v2,v3⟩:=allP_append.1 v2
     exact v1 M w0 a w Q (hs.weakenF (by simpa using hb.2.1) (by simpa using hb.2.2) hb.1 v2 v3) hQ
    ·cases h
   ·cases h
 | _=>intro σ σ' e vc h;cases h
end Go.Proofs.YtfhmaincnlaapaaGreat.Sy
