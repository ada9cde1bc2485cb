/- agg.Put. -/
import Derived.Test.YtfhmaincnlaapaaGreatAgFloLess
import Derived.Test.YtfhmaincnlaapaaGreatAgRefNodesW
import Derived.Test.YtfhmaincnlaapaaGreatAgSchemaCheck
import Derived.Test.YtfhmaincnlaapaaGreatAgFactLight
import Derived.Test.YtfhmaincnlaapaaGreatAgSy18
namespace Go.Proofs.YtfhmaincnlaapaaGreat.Sy
open Go.ChangeShapes Go.WideShapes Go.ChangeAt Go.RowKit
set_option linter.unusedVariables false
theorem keepS_at {fr:List Nat}:∀ {S:List (Nat×AV)} {seen:List Nat},∀ p ∈ keepS fr seen S,p.1 ∉ fr∧p.1 ∉ seen∧lk S p.1=p.2
 | [],seen,p,hp=>by cases hp
 | (t,x) :: l,seen,p,hp=>by
   have hany:∀ (m:List Nat) (t:Nat),(m.any fun b=>Nat.beq b t)=true↔t ∈ m:=fun m t=>by
    rw [List.any_eq_true]
    constructor
    ·rintro ⟨b,hb,e⟩;rw [Nat.beq_eq] at e;rw [← e];exact hb
    ·intro h;exact ⟨t,h,by simp⟩
   unfold keepS at hp
   rw [Bool.cond_eq_ite] at hp
   split at hp
   ·rename_i hd
    rw [Bool.or_eq_true,hany,hany] at hd
    obtain ⟨h1,h2,h3⟩:=keepS_at p hp
    refine ⟨h1,h2,?_⟩
    rw [lk_ne _ _ (fun e=>?_)]
    ·exact h3
    ·rcases hd with hd|hd
     ·exact h1 (by rw [e];exact hd)
     ·exact h2 (by rw [e];exact hd)
   ·rename_i hd
    rw [Bool.or_eq_true,hany,hany] at hd
    rcases List.mem_cons.1 hp with rfl|hp
    ·exact ⟨fun h=>hd (.inl h),fun h=>hd (.inr h),lk_eq _ _ _⟩
    ·obtain ⟨h1,h2,h3⟩:=keepS_at p hp
     exact ⟨h1,fun h=>h2 (by simp [h]),by rw [lk_ne _ _ (fun e=>h2 (by simp [e]))];exact h3⟩
theorem pickOs_at {O:List (Nat×AObj)}:∀ {l:List Nat},∀ p ∈ pickOs O l,lo O p.1=some p.2
 | [],p,hp=>by cases hp
 | q :: l,p,hp=>by
   unfold pickOs at hp
   split at hp
   ·rename_i x hx
    rcases List.mem_cons.1 hp with rfl|hp
    ·exact hx
    ·exact pickOs_at p hp
   ·exact pickOs_at p hp
theorem St.trim {M:Cx} {w0:World} {σ:AS} {a:Act} {w:World} (h:St M w0 σ a w) {fr:List Nat} (hb:wkB (trimS fr σ)=true):St M w0 (trimS fr σ) a w :=
 h.weaken rfl rfl hb (wkVc_of fun p hp=>(keepS_at p hp).2.2) (wkVcO_of fun p hp=>pickOs_at p hp)
theorem St.freezes {M:Cx} {w0:World} {a:Act} {w:World}:∀ {l:List Nat} {σ:AS},St M w0 σ a w→St M w0 (Sy.freezes l σ) a w
 | [],_,h=>h
 | q :: l,σ,h=>St.freezes (l:=l) (σ:=Sy.freeze q σ) (St.freeze h q)
theorem nubN_le:∀ l:List Nat,(nubN l).length≤l.length
 | []=>Nat.le_refl _
 | a :: l=>by
   have:=nubN_le l
   unfold nubN
   rw [Bool.cond_eq_ite]
   split
   ·simp only [List.length_cons];omega
   ·simp only [List.length_cons];omega
theorem nubN_nodup:∀ {l:List Nat},(nubN l).length=l.length→l.Nodup
 | [],_=>List.nodup_nil
 | a :: l,h=>by
   have:=nubN_le l
   unfold nubN at h
   rw [Bool.cond_eq_ite] at h
   split at h
   ·simp only [List.length_cons] at h;omega
   ·rename_i hn
    simp only [List.length_cons,Nat.add_right_cancel_iff] at h
    refine List.nodup_cons.2 ⟨fun hm=>hn ?_,nubN_nodup h⟩
    rw [List.any_eq_true];exact ⟨a,hm,by simp⟩
def RunOk (P:Program) (c:Code) (f:AS→Option (Exit×AS)):Prop:=∀ (σ σ':AS) (e:Exit),f σ=some (e,σ')→∀ (M:Cx) (w0:World) (a:Act) (w:World) (Q:Exit→Act→World→Prop),St M w0 σ a w→(∀ a' w',St M w0 σ' a' w'→Q e a' w')→c.wp P Q a w
theorem iterC_ok {P:Program} {c:Code} {f:AS→Option (Exit×AS)} (hf:RunOk P c f) (fr:List Nat) (k:Nat):RunOk P (.loop c) (iterC f fr k):=by
 intro σ σ' e h M w0 a w Q hs hQ
 refine wp_loop_ghost (fun n a w=>∃ σ,iterC f fr n σ=some (e,σ')∧St M w0 σ a w) k ⟨σ,h,hs⟩ ?_
 rintro n a1 w1 ⟨σ1,h1,hs1⟩
 cases n with
 | zero=>cases h1
 | succ n =>
   unfold iterC at h1
   split at h1
   ·rename_i σ2 hf2
    rw [Bool.cond_eq_ite] at h1
    split at h1
    ·rename_i hb
     exact hf _ _ _ hf2 _ _ _ _ _ hs1 fun a2 w2 hs2=>⟨n,Nat.lt_succ_self n,trimS fr σ2,h1,hs2.trim hb⟩
    ·cases h1
   ·rename_i hne
    refine hf _ _ _ h1 _ _ _ _ _ hs1 fun a2 w2 hs2=>?_
    have hq:=hQ a2 w2 hs2
    cases e <;> first|exact hq|exact (hne _ h1).elim
theorem evC_ok {P:Program} (hmo:P.follows .mixedOrders=true) {call:CallF} (hc:CallsOk P call) (fz:Nat→List Nat) (k:Nat):∀ c:Code,RunOk P c (evC P call fz k c):=by
 intro c
 induction c with
 | skip=>intro σ σ' e h M w0 a w Q hs hQ;injection h with h;injection h with h1 h2;subst h1;subst h2;exact wp_skip (hQ a w hs)
 | ret=>intro σ σ' e h M w0 a w Q hs hQ;injection h with h;injection h with h1 h2;subst h1;subst h2;exact wp_ret (hQ a w hs)
 | exit id=>intro σ σ' e h M w0 a w Q hs hQ;injection h with h;injection h with h1 h2;subst h1;subst h2;exact wp_exit (hQ a w hs)
 | region id ops draw =>
   intro σ σ' e h M w0 a w Q hs hQ
   simp only [evC,Bool.cond_eq_ite] at h
   split at h
   ·rename_i hdst
    split at h
    ·rename_i σ1 fs hr
     split at h
     ·rename_i hd
      injection h with h;injection h with h1 h2;subst h1;subst h2
      unfold dstsOk at hdst
      rw [Nat.beq_eq] at hdst
      obtain ⟨vc,hrun,hv⟩:=evOps_ok hc [] (fun o _ p hp=>by cases hp) (nubN_nodup hdst) hr
      cases draw with
      | false=>exact region_text hrun hv hs.freezes hQ
      | true=>exact region_any hmo hrun (hd rfl) hv hs.freezes hQ
     ·cases h
    ·cases h
   ·cases h
 | seq x y ihx ihy =>
   intro σ σ' e h M w0 a w Q hs hQ
   simp only [evC] at h
   split at h
   ·rename_i σ1 hx
    exact wp_seq (ihx _ _ _ hx _ _ _ _ _ hs fun a' w' hs'=>ihy _ _ _ h _ _ _ _ _ hs' hQ)
   ·rename_i hne
    refine wp_seq (ihx _ _ _ h _ _ _ _ _ hs fun a' w' hs'=>?_)
    cases e <;> first|exact hQ a' w' hs'|exact (hne _ h).elim
 | cond c x y ihx ihy =>
   intro σ σ' e h M w0 a w Q hs hQ
   simp only [evC] at h
   split at h
   ·rename_i hcnd
    obtain ⟨E,rfl,hN⟩:=hs
    have e1:=hN.op c;rw [hcnd] at e1
    exact wp_cond_true (sees_v e1) (ihx _ _ _ h _ _ _ _ _ ⟨E,rfl,hN⟩ hQ)
   ·rename_i hcnd
    obtain ⟨E,rfl,hN⟩:=hs
    have e1:=hN.op c;rw [hcnd] at e1
    exact wp_cond_false (sees_v e1) (ihy _ _ _ h _ _ _ _ _ ⟨E,rfl,hN⟩ hQ)
   ·cases h
 | block id b ih =>
   intro σ σ' e h M w0 a w Q hs hQ
   simp only [evC] at h
   refine wp_block ?_
   split at h
   ·rename_i id' σ1 hb
    split at h
    ·rename_i hid
     injection h with h;injection h with h1 h2;subst h1;subst h2
     exact ih _ _ _ hb _ _ _ _ _ hs fun a' w' hs'=>by simp only [Exit.inBlock,hid,if_true];exact hQ a' w' hs'
    ·rename_i hid
     injection h with h;injection h with h1 h2;subst h1;subst h2
     exact ih _ _ _ hb _ _ _ _ _ hs fun a' w' hs'=>by simp only [Exit.inBlock,hid,if_false];exact hQ a' w' hs'
   ·rename_i hne
    refine ih _ _ _ h _ _ _ _ _ hs fun a' w' hs'=>?_
    cases e with
    | exit id'=>exact absurd h (hne id' σ')
    | _=>exact hQ a' w' hs'
 | loop b ih=>exact iterC_ok ih _ k
 | _=>intro σ σ' e h;cases h
theorem evFn_ok {P:Program} (hmo:P.follows .mixedOrders=true) {kn:FuncId→List AV→Option AV} (hkn:∀ f args r,kn f args=some r→FnOk P f ⟨args,[],r,[]⟩) (FZ:FuncId→Nat→List Nat) (k:Nat):∀ n,CallsOk P (evFn P kn FZ k n)
 | 0=>fun f args pre I h=>by cases h
 | n+1=>fun f args pre I h=>by
   unfold evFn at h
   split at h
   ·rename_i r hr
    injection h with h;subst h
    split at hr
    ·rename_i he
     have:pre=[]:=List.isEmpty_iff.1 he
     subst this
     exact ⟨hkn _ _ _ hr,rfl,rfl⟩
    ·cases hr
   ·rename_i fn hf
    split at h
    ·rename_i c hb
     split at h
     ·rename_i e σ' hr
      have hcode:=evC_ok hmo (evFn_ok hmo hkn FZ k n) (FZ f) k c _ _ _ hr
      split at h
      all_goals first
       | (cases h;done)
       | (split at h
          ·rename_i x hx
           split at h
           ·rename_i post hpost
            rw [Bool.cond_eq_ite] at h
            split at h
            ·rename_i hbb
             rw [Bool.and_eq_true,Bool.and_eq_true] at hbb
             injection h with h;subst h
             exact ⟨fn_wp (I:=⟨args,pre,resR post σ'.O x,post⟩) hf hb hcode (by simp) hx hbb.1 hbb.2.1 hbb.2.2 (reEq_refl _) (wkVcO_of (pickO_at hpost)),rfl,rfl⟩
            ·cases h
           ·cases h
          ·cases h)
     ·cases h
    ·cases h
   ·cases h
def strsOf:List AV→Option (List ByteArray)
 | []=>some []
 | .v (.string s) :: l=>(match strsOf l with|some r=>some (s :: r)|none=>none)
 | _=>none
theorem strsOf_at:∀ {cs:List AV} {l:List ByteArray},strsOf cs=some l→cs=l.map fun s=>.v (.string s)
 | [],l,h=>by injection h with h;subst h;rfl
 | x :: cs,l,h=>by
   unfold strsOf at h
   split at h
   ·rename_i h1;cases h1
   ·rename_i s l' h1
    injection h1 with h1 h2;subst h1;subst h2
    split at h
    ·rename_i r hr;injection h with h;subst h;rw [strsOf_at hr];rfl
    ·cases h
   ·cases h
def knTwice (f:FuncId) (args:List AV):Option AV :=
 bif Nat.beq f 104 then (match args with
  | [.lst n cs]=>(match strsOf cs with
    | some l=>bif Nat.beq n l.length&&(Nat.ble n 1000000&&((l.all fun x=>Nat.ble x.size maxLen) && !dupB l)) then some (.v (.int .i64 (-1))) else none
    | none=>none)
  | _=>none) else none
theorem knTwice_ok (f:FuncId) (args:List AV) (r:AV) (h:knTwice f args=some r):FnOk Tryz.prog f ⟨args,[],r,[]⟩:=by
 unfold knTwice at h
 rw [Bool.cond_eq_ite] at h
 split at h
 ·rename_i hf
  rw [Nat.beq_eq] at hf
  subst hf
  split at h
  ·rename_i n cs
   split at h
   ·rename_i l hl
    rw [Bool.cond_eq_ite] at h
    split at h
    ·rename_i hb
     injection h with h;subst h
     simp only [Bool.and_eq_true,Nat.beq_eq,Nat.ble_eq,Bool.not_eq_true'] at hb
     obtain ⟨h1,h2,h3,h4⟩:=hb
     have hcs:=strsOf_at hl
     refine FnOk.of_calls rfl fun E vs hF hlen hs=>?_
     obtain ⟨u,rfl⟩:∃ u,vs=[u]:=List.length_eq_one_iff.1 hlen
     have hu:Rep E.w E.F (.lst n cs) u:=hs 0 _ u rfl rfl
     have hsz:∀ x ∈ l,x.size≤maxLen:=fun x hx=>by simpa using List.all_eq_true.1 h3 x hx
     have fin:∀ A n c,Rd E.w E.w.heap.size 1 A n (strs l)→n=l.length→u=.slice A n c→Calls Tryz.prog 104 [u].toArray E.w fun y w'=>y=.returned (.int .i64 (-1))∧Below E.w.heap.size E.w w':=fun A n c hrd hn hu=>by
      subst hu
      refine (twice_any E.w A n c E.w.heap.size l hrd (Nat.le_refl _) (by omega) hsz).mono ?_
      rintro y w' ⟨z,rfl,hz,hbl⟩
      rcases hz with ⟨rfl,_⟩|⟨_,hz⟩
      ·exact ⟨rfl,hbl⟩
      ·rw [h4] at hz;cases hz
     cases hu with
     | nil A c _ =>
       have:l=[]:=List.eq_nil_of_length_eq_zero h1.symm
       subst this
       exact fin A 0 c Rd.nil rfl rfl
     | lst _ c _ a us hn hc hm hFa hl1 h1' hu' hr =>
       have hus:us=strs l:=by
        rw [hcs] at hl1 hr
        refine List.ext_getElem? fun j=>?_
        by_cases hj:j<l.length
        ·obtain ⟨u,h5⟩:=getElem?_of (l:=us) (j:=j) (by rw [hl1];simpa using hj)
         have h6:=hr j (.v (.string l[j])) u (by rw [List.getElem?_map,List.getElem?_eq_getElem hj];rfl) h5
         rw [h5,List.getElem?_map,List.getElem?_eq_getElem hj]
         cases h6 with
         | v _ h7=>rfl
        ·rw [List.getElem?_eq_none (by rw [hl1];simpa using hj),List.getElem?_eq_none (by simpa using hj)]
       refine fin (some a) n c ⟨?_,fun _=>⟨a,rfl,hF _ hFa,by rw [← hus];exact hu'⟩⟩ h1 rfl
       simp [strs,h1]
    ·cases h
   ·cases h
  ·cases h
 ·cases h
def fz14 (f:FuncId) (r:Nat):List Nat:=bif Nat.beq f 20&&Nat.beq r 2 then [9,10] else []
end Go.Proofs.YtfhmaincnlaapaaGreat.Sy
namespace Go.Proofs.YtfhmaincnlaapaaGreat
open Go.ChangeShapes Go.WideShapes Go.ChangeAt Go.RowKit
set_option linter.unusedVariables false
theorem fullP_le (S:Sch):fullP S<4294967296:=by
 unfold fullP
 split
 ·rename_i h
  obtain ⟨hm,_⟩:=checkN_zero h
  unfold manyOk at hm
  unfold fullN
  have:=p2_le _ 31 (show S.dims.length≤31 by omega)
  rw [p2_31] at this
  omega
 ·decide
set_option maxRecDepth 20000 in
set_option maxHeartbeats 1000000 in
theorem full_any (w:World) (B:Nat) (v:Value) (S:Sch) (h:SchAt w B v S) (ho:SchOk S) (hB:B≤w.heap.size) :
 Calls Tryz.prog 119 #[v] w fun y w'=>y=.returned (.int .u32 (fullP S:Int))∧Below w.heap.size w w':=by
 have hh:=h
 obtain ⟨A0,c0,A1,c1,A2,c2,A3,c3,rfl,r0,r1,r2,r3,b0,b1,b2,b3⟩:=hh
 clear r0 r1 r2 r3 b0 b1 b2 b3
 have hw0:=belA (belR w) (.cells #[.slice A0 S.dims.length c0,.slice A1 S.ints.length c1,.slice A2 S.nums.length c2,.slice A3 S.views.length c3] 26)
 have hc:=schemaCheck_any (w.alloc (.cells #[.slice A0 S.dims.length c0,.slice A1 S.ints.length c1,.slice A2 S.nums.length c2,.slice A3 S.views.length c3] 26)) B _ S (h.keep (hw0.mono hB) (Nat.le_refl _)) ho (by simp;omega)
 have K0:=Lib.hid (Blk.new w 26 #[.slice A0 S.dims.length c0,.slice A1 S.ints.length c1,.slice A2 S.nums.length c2,.slice A3 S.views.length c3])
 have HW0:=Lib.hid hw0
 clear hw0 h
 by_cases h0:checkN S=0
 ·have e:fullP S=p2 S.dims.length-1:=if_pos h0
  obtain ⟨hm,_⟩:=checkN_zero h0
  unfold manyOk at hm
  obtain ⟨m1,m2,_⟩:=hm
  rw [h0] at hc
  have hsh:=shl_one S.dims.length m1 m2
  have hlt:=fullP_le S
  rw [e] at hlt ⊢
  have hw:IntKind.u32.wrap ((p2 S.dims.length-1:Nat):Int)=((p2 S.dims.length-1:Nat):Int):=by rw [IntKind.wrap_u32];omega
  have HC:=Lib.hid hc
  clear hc h0 e
  generalize p2 S.dims.length-1=q at *
  go_enter Tryz.func119,Tryz.ntmps119
  go_wp2_with (go_at_call 39;(with_reducible refine HC.out.mono ?_);rintro y w1 ⟨rfl,hb1⟩;have HB1:=Lib.hid (HW0.out.trans (hb1.mono (show w.heap.size≤_ by simp)));have hk:=K0.out.below hb1 (by simp);have k0:=hk.cell 0;simp at k0;clear hb1 hk)
  go_ret
  exact ⟨rfl,HB1.out⟩
 ·have e:fullP S=0:=if_neg h0
  rw [e]
  have t0:=i64_ne0 h0
  have HC:=Lib.hid hc
  clear hc h0 e
  go_enter Tryz.func119,Tryz.ntmps119
  go_wp2_with (go_at_call 39;(with_reducible refine HC.out.mono ?_);rintro y w1 ⟨rfl,hb1⟩;have HB1:=Lib.hid (HW0.out.trans (hb1.mono (show w.heap.size≤_ by simp)));clear hb1)
  go_ret
  exact ⟨rfl,HB1.out⟩
theorem keysP_le (S:Sch) (mask:Nat):∀ k p,keysTo S k=some p→keysP S mask k≤p:=by
 intro k
 induction k with
 | zero=>intro p h;have:=(keysTo_le S 0 p h).1;exact this
 | succ k ih =>
   intro q h
   cases hk:keysTo S k with
   | none=>rw [keysTo_none S k hk (k+1) (by omega)] at h;cases h
   | some p =>
     have hp:=ih p hk
     rw [keysTo_succ S k p hk] at h
     unfold keyStep at h
     split at h
     ·rename_i hd
      injection h with h
      subst h
      unfold keysP
      have h1:1≤(szAt S k).toNat:=by omega
      split
      ·exact Nat.mul_le_mul_right _ hp
      ·have:=Nat.mul_le_mul_left p h1
       omega
     ·cases h
theorem keysTo_part (S:Sch) (m p:Nat) (h:keysTo S m=some p) (k:Nat) (hk:k≤m):∃ q,keysTo S k=some q:=by
 cases hq:keysTo S k with
 | none=>rw [keysTo_none S k hq m hk] at h;cases h
 | some q=>exact ⟨q,rfl⟩
theorem andNot_full (mask n:Nat) (hn:n≤31) (hm:mask<4294967296):bits .andNot .u32 (mask:Int) ((p2 n-1:Nat):Int)=((mask/p2 n*p2 n:Nat):Int):=by
 have h1:=p2_le n 31 hn
 rw [p2_31] at h1
 rw [u32_andNot_nat mask _ hm (by omega),and_hi mask n hn hm]
theorem keysP_succ (S:Sch) (mask k:Nat):keysP S mask (k+1)=if mask.testBit k then keysP S mask k*(szAt S k).toNat else keysP S mask k:=rfl
set_option maxRecDepth 20000 in
set_option maxHeartbeats 4000000 in
theorem keys_any (w:World) (B:Nat) (v:Value) (S:Sch) (mask:Nat) (h:SchAt w B v S) (ho:SchOk S) (hB:B≤w.heap.size) (hm:mask<4294967296) :
 Calls Tryz.prog 57 #[v,.int .u32 (mask:Int)] w fun y w'=>y=.returned (.tuple #[.int .u64 (((keysOf S mask).getD 0:Nat):Int),.bool (keysOf S mask).isSome])∧Below w.heap.size w w':=by
 have hh:=h
 obtain ⟨A0,c0,A1,c1,A2,c2,A3,c3,rfl,r0,r1,r2,r3,b0,b1,b2,b3⟩:=hh
 clear r1 r2 r3 b0 b1 b2 b3
 have hw0:=belA (belR w) (.cells #[.slice A0 S.dims.length c0,.slice A1 S.ints.length c1,.slice A2 S.nums.length c2,.slice A3 S.views.length c3] 26)
 have hc:=full_any (w.alloc (.cells #[.slice A0 S.dims.length c0,.slice A1 S.ints.length c1,.slice A2 S.nums.length c2,.slice A3 S.views.length c3] 26)) B _ S (h.keep (hw0.mono hB) (Nat.le_refl _)) ho (by simp;omega)
 have K0:=Lib.hid (Blk.new w 26 #[.slice A0 S.dims.length c0,.slice A1 S.ints.length c1,.slice A2 S.nums.length c2,.slice A3 S.views.length c3])
 have HW0:=Lib.hid hw0;have R0:=Lib.hid r0
 clear hw0 h r0
 by_cases h0:checkN S=0
 case neg =>
  have e:keysOf S mask=none:=if_neg fun hh=>h0 hh.1
  have ef:fullP S=0:=if_neg h0
  rw [ef] at hc
  rw [e]
  have HC:=Lib.hid hc
  clear hc h0 e ef
  go_enter Tryz.func57,Tryz.ntmps57
  go_wp2_with (go_at_call 119;(with_reducible refine HC.out.mono ?_);rintro y w1 ⟨rfl,hb1⟩;have HB1:=Lib.hid (HW0.out.trans (hb1.mono (show w.heap.size≤_ by simp)));clear hb1)
  go_ret2
  exact ⟨rfl,HB1.out⟩
 case pos =>
  obtain ⟨hmo,p,hp⟩:=checkN_zero h0
  unfold manyOk at hmo
  obtain ⟨m1,m2,_⟩:=hmo
  have ef:fullP S=p2 S.dims.length-1:=if_pos h0
  have hlt:=fullP_le S
  have han:=andNot_full mask S.dims.length (by omega) hm
  have hp2:=p2_le 1 _ m1
  have hp1:p2 1=2:=rfl
  rw [hp1] at hp2
  rw [ef] at hc hlt
  have hf0:(((p2 S.dims.length-1:Nat):Int)==0)=false:=by rw [beq_eq_false_iff_ne];omega
  by_cases hlm:mask<p2 S.dims.length
  case neg =>
   have e:keysOf S mask=none:=if_neg fun hh=>hlm hh.2
   have hnz:(((mask/p2 S.dims.length*p2 S.dims.length:Nat):Int) != 0)=true:=by
    have:0<mask/p2 S.dims.length:=Nat.div_pos (by omega) (by omega)
    have:=Nat.mul_pos this (show 0<p2 S.dims.length by omega)
    rw [bne_iff_ne];omega
   rw [e]
   have HC:=Lib.hid hc
   clear hc h0 e ef hp2 hp hlt hlm
   generalize p2 S.dims.length-1=q at *
   generalize mask/p2 S.dims.length*p2 S.dims.length=r at *
   go_enter Tryz.func57,Tryz.ntmps57
   go_wp2_with (go_at_call 119;(with_reducible refine HC.out.mono ?_);rintro y w1 ⟨rfl,hb1⟩;have HB1:=Lib.hid (HW0.out.trans (hb1.mono (show w.heap.size≤_ by simp)));clear hb1)
   go_ret2
   exact ⟨rfl,HB1.out⟩
  case pos =>
   have e:keysOf S mask=some (keysP S mask S.dims.length):=if_pos ⟨h0,hlm⟩
   have hz:mask/p2 S.dims.length*p2 S.dims.length=0:=by rw [Nat.div_eq_of_lt hlm,Nat.zero_mul]
   rw [hz] at han
   have han0:bits .andNot .u32 (mask:Int) ((p2 S.dims.length-1:Nat):Int)=0:=han
   rw [e]
   simp only [Option.getD_some,Option.isSome_some]
   have HC:=Lib.hid hc;have HSZ:=Lib.hid (keysTo_some S _ p hp)
   have HKP:Hid (∀ k,k≤S.dims.length→keysP S mask k≤1099511627776):=Lib.hid fun k hk=>by
    obtain ⟨q,hq⟩:=keysTo_part S _ p hp k hk
    exact Nat.le_trans (keysP_le S mask k q hq) (keysTo_le S k q hq).2
   clear hc h0 e ef hp2 hp hlt hlm han hz
   generalize p2 S.dims.length-1=q at *
   go_enter Tryz.func57,Tryz.ntmps57
   go_wp2_with (go_at_call 119;(with_reducible refine HC.out.mono ?_);rintro y w1 ⟨rfl,hb1⟩;have HB1:=Lib.hid (HW0.out.trans (hb1.mono (show w.heap.size≤_ by simp)));have hk:=K0.out.below hb1 (by simp);have k0:=hk.cell 0;simp at k0;clear hb1 hk)
   clear k0
   go_loopw [7,23] (fun kv i wr=>∃ k:Nat,k≤S.dims.length∧i=.int .i64 (k:Int)∧kv=.int .u64 (keysP S mask k:Int)∧Hid (Below w.heap.size w wr)) (fun _ i _=>S.dims.length-(intOf i).toNat)
   case atStart=>exact ⟨0,by omega,rfl,rfl,HB1.out⟩
   case round =>
    obtain ⟨k,hk,rfl,rfl,HB⟩:=hrel
    by_cases hlt:k<S.dims.length
    ·obtain ⟨a,rfl,hab,x0,x1⟩:=(R0.out.below (HB.out.mono hB)).dim hlt
     have q1:(0:Int)≤(k:Int):=by omega
     have q2:(k:Int)<(S.dims.length:Int):=by omega
     have hzk:=HSZ.out k hlt
     have hsz:szAt S k=S.dims[k].2:=by unfold szAt;simp [List.getD,hlt]
     have hs:=keysP_succ S mask k
     have hkp:=HKP.out (k+1) (by omega)
     have hkq:=HKP.out k (by omega)
     have hsh:(mask:Int)/2^k=((mask/p2 k:Nat):Int):=by unfold p2;simp
     have hlq:mask/p2 k<4294967296:=Nat.lt_of_le_of_lt (Nat.div_le_self _ _) hm
     have hbit:=bit_of mask k
     have han2:bits .and .u32 ((mask/p2 k:Nat):Int) 1=((mask/p2 k%2:Nat):Int):=by
      have:=u32_and_nat (mask/p2 k) 1 hlq (by decide)
      rw [Nat.and_one_is_mod] at this
      exact this
     rw [hbit] at han2
     generalize mask/p2 k=MK at *
     have hbz:=(belA (HB.out.mono (Nat.le_refl _)) (.cells #[.string S.dims[k].1,.int .i64 S.dims[k].2] 79))
     generalize S.dims[k]=d at *
     obtain ⟨nm,sz⟩:=d
     simp only at x0 x1 hsz hbz
     subst hsz
     obtain ⟨z,hz⟩:∃ z:Nat,szAt S k=(z:Int):=⟨(szAt S k).toNat,by omega⟩
     rw [hz] at x1 hs hzk hbz
     rw [Int.toNat_natCast] at hs
     generalize keysP S mask k=K at *
     have wz:IntKind.u64.wrap (z:Int)=(z:Int):=by rw [IntKind.wrap_u64];omega
     cases hb:mask.testBit k with
     | true =>
       rw [hb] at hs han2
       simp only [if_true] at hs han2
       rw [hs] at hkp
       have wm:IntKind.u64.wrap ((K:Int)*(z:Int))=((K*z:Nat):Int):=by rw [← Int.natCast_mul,IntKind.wrap_u64];omega
       have HS:=Lib.hid hs;have HBZ:=Lib.hid hbz
       clear hs hbz hb hbit hz
       go_wp2
       go_roundw
       case rel=>exact ⟨k+1,by omega,by go_num,by rw [HS.out,Int.natCast_mul],HBZ.out⟩
       case measure=>simp [intOf];omega
     | false =>
       rw [hb] at hs han2
       simp only [Bool.false_eq_true,if_false] at hs han2
       have HS:=Lib.hid hs;have HBZ:=Lib.hid hbz
       clear hs hbz hb hbit hz
       go_wp2
       go_roundw
       case rel=>exact ⟨k+1,by omega,by go_num,by rw [HS.out],HBZ.out⟩
       case measure=>simp [intOf];omega
    ·obtain rfl:k=S.dims.length:=by omega
     go_wp2
     go_ret2
     exact ⟨rfl,HB.out⟩
theorem Rd.u32n {w:World} {B:Nat} {A:Option Addr} {l:List Nat} (h:Rd w B 1 A l.length (u32n l)) {k:Nat} (hk:k<l.length):∃ a,A=some a∧a.block<B∧w.cell? (a.add k)=some (.int .u32 ((l.getD k 0:Nat):Int)):=by
 obtain ⟨a,u,e,hb,hx,hc⟩:=h.at1 hk
 refine ⟨a,e,hb,?_⟩
 rw [hc]
 simp [hk] at hx
 simp [List.getD,hk,← hx]
theorem tsz_take (l:List Nat) (m:Nat) (h:m<l.length):tsz (l.take (m+1))=if l.getD m 0=0 then tsz (l.take m) else m+1:=by
 rw [List.take_succ_eq_append_getElem h,tsz_last,List.length_take,Nat.min_eq_left (by omega)]
 simp [List.getD,h]
set_option maxRecDepth 20000 in
theorem size_any (w:World) (B:Nat) (A:Option Addr) (c:Nat) (l:List Nat) (hR:Rd w B 1 A l.length (u32n l)) (hl:l.length≤1000000) :
 Calls Tryz.prog 140 #[.slice A l.length c] w fun y w'=>y=.returned (.int .i64 (tsz l:Int))∧w=w':=by
 have HR:=Lib.hid hR
 clear hR
 go_enter Tryz.func140,Tryz.ntmps140
 go_wp2
 go_loop [3] (fun i=>∃ m:Nat,m≤l.length∧i=.int .i64 (m:Int)∧Hid (tsz (l.take m)=tsz l)) (fun i=>(intOf i).toNat)
 case atStart=>exact ⟨l.length,Nat.le_refl _,rfl,by rw [List.take_length];exact Lib.hid rfl⟩
 case round =>
  obtain ⟨m,hm,rfl,HT⟩:=hrel
  cases m with
  | zero =>
    have ht:=HT.out
    rw [List.take_zero] at ht
    have hz:tsz l=0:=by rw [← ht];rfl
    have HZ:=Lib.hid hz
    simp only [show ((0:Nat):Int)=0 from rfl]
    clear ht HT hz
    go_wp2
    go_ret
    exact ⟨by rw [HZ.out];rfl,rfl⟩
  | succ m =>
    obtain ⟨a,rfl,hab,x0⟩:=HR.out.u32n (k:=m) (by omega)
    have ht:=tsz_take l m (by omega)
    rw [HT.out] at ht
    have q1:(0:Int)≤(m:Int):=by omega
    have q2:(m:Int)<(l.length:Int):=by omega
    have e1:((m+1:Nat):Int)-1=(m:Int):=by omega
    have g1:decide ((0:Int)<((m+1:Nat):Int))=true:=decide_eq_true (by omega)
    have w1:IntKind.i64.wrap (m:Int)=(m:Int):=IntWalk.i64_in _ (by omega)
    generalize l.getD m 0=x at *
    by_cases hx:x=0
    ·subst hx
     rw [if_pos rfl] at ht
     have HT2:=Lib.hid ht
     simp only [show ((0:Nat):Int)=0 from rfl] at x0
     clear ht
     go_wp2
     go_round
     case rel=>exact ⟨m,by omega,(by first|rfl|rw [w1]|go_num),HT2.out.symm⟩
     case measure=>first|(simp [intOf];done)|simp [intOf,w1]
    ·rw [if_neg hx] at ht
     have HZ:=Lib.hid ht
     have t0:((x:Int)==0)=false:=by rw [beq_eq_false_iff_ne];omega
     clear ht hx
     go_wp2
     go_ret
     exact ⟨by rw [HZ.out];rfl,rfl⟩
theorem info_u32:(Tryz.prog.info? 39).map (fun i=>(i.zero,i.size,i.bytes))=some (some (.int .u32 0),1,4):=by kernel_rfl
theorem u32n_one (l:List Nat):∀ u ∈ u32n l,u.oneCell'=true:=by intro u hu;obtain ⟨x,_,rfl⟩:=List.mem_map.1 hu;rfl
theorem rd_take1 {w:World} {B n k:Nat} {A:Option Addr} {xs:List Value} (h:Rd w B 1 A n xs) (hk:k≤n):Rd w B 1 A k (xs.take k):=by
 have hl:=h.1
 refine ⟨by rw [List.length_take];omega,fun hn=>?_⟩
 obtain ⟨a,rfl,hb,hcell⟩:=h.2 (by omega)
 refine ⟨a,rfl,hb,fun j u hu=>hcell j u ?_⟩
 rw [List.getElem?_take] at hu
 split at hu
 ·exact hu
 ·cases hu
set_option maxRecDepth 20000 in
theorem trim_any (w:World) (B:Nat) (A:Option Addr) (c:Nat) (l:List Nat) (hR:Rd w B 1 A l.length (u32n l)) (hl:l.length≤1000000) (hlc:l.length≤c) (hc:c≤maxLen) :
 Calls Tryz.prog 71 #[.slice A l.length c] w fun y w'=>∃ v,y=.returned v∧w'.ownsRow w.heap.size 39 1 v (tsz l) (u32n (l.take (tsz l)))∧Below w.heap.size w w':=by
 have ht:=tsz_le l
 have hs:=size_any w B A c l hR hl
 have hr:=rd_take1 hR ht
 rw [show (u32n l).take (tsz l)=u32n (l.take (tsz l)) from by simp [u32n,List.map_take]] at hr
 have hone:=u32n_one (l.take (tsz l))
 have q1:(0:Int)≤(tsz l:Int):=by omega
 have q2:(tsz l:Int)≤(c:Int):=by omega
 have hcc:=hc
 unfold maxLen at hcc
 have HS:=Lib.hid hs;have HR:=Lib.hid hr;have HO:=Lib.hid hone;have HN:=Lib.hid (World.ownsRow_nil w w.heap.size 39 1)
 clear hs hr hone hR
 generalize tsz l=m at *
 generalize l.take m=l' at *
 go_enter Tryz.func71,Tryz.ntmps71
 go_wp2_with (first
  | (go_at_call 140;(with_reducible refine HS.out.mono ?_);rintro y w1 ⟨rfl,rfl⟩)
  | (at_builtin;refine wpList_appS w rfl _ _ 24 rfl w.heap.size 39 _ 1 4 info_u32 rfl (by decide) Tryz.underlying24 (.slice none 0 0) 0 [] HN.out rfl _ _ m _ (u32n l') HR.out rfl HO.out ?_ ?_ ?_ ?_;omega;omega;exact Nat.le_refl _;intro v2 w2 ho2 hap2;have HO2:=Lib.hid ho2;have HB2:=Lib.hid (hap2.below (Nat.le_refl _) HN.out);clear ho2 hap2))
 go_ret
 have h2:=HO2.out
 rw [Nat.zero_add,List.nil_append] at h2
 exact ⟨_,rfl,h2,HB2.out⟩
theorem less_flo (a b:Nat) (w:World) (ha:a<18446744073709551616) (hb:b<18446744073709551616):Calls Tryz.prog 72 #[.float .f64 a,.float .f64 b] w fun y w'=>y=.returned (.bool (decide (keyB a<keyB b)))∧w=w':=by
 have HA:=Lib.hid (fun W=>key_any a W ha);have HB:=Lib.hid (fun W=>key_any b W hb)
 go_enter Tryz.func72,Tryz.ntmps72
 go_wp2_with fail
 (with_reducible refine (HA.out _).mono ?_);rintro y w1 ⟨rfl,rfl⟩
 go_wp2_with fail
 (with_reducible refine (HB.out _).mono ?_);rintro y w1 ⟨rfl,rfl⟩
 go_wp2
 go_ret
 first
 | exact ⟨rfl,rfl⟩
 | (refine ⟨?_,rfl⟩;congr 2;rw [Bool.eq_iff_iff];simp)
theorem flat_take_le {α:Type} (f:α→List UInt8) (c:Nat) (l:List α) (h:∀ x ∈ l,(f x).length≤c) (k m:Nat) (hk:l.length≤m):((l.take k).flatMap f).length≤c*m:=by
 have h1:=flat_le f c (l.take k) fun x hx=>h x (List.mem_of_mem_take hx)
 have h2:(l.take k).length≤m:=by rw [List.length_take];omega
 exact Nat.le_trans h1 (Nat.mul_le_mul_left c h2)
theorem lightC_parts {C:CellS} (h:lightC C=true):C.ints.length≤10∧C.nums.length≤10∧(∀ x ∈ C.ints,x.sq.length≤20)∧∀ x ∈ C.nums,x.sum.length≤300:=by
 unfold lightC lightW lightR at h
 simp only [Bool.and_eq_true,decide_eq_true_iff,List.all_eq_true] at h
 exact ⟨h.1.1.1,h.1.1.2,h.1.2,h.2⟩
def putW (C:CellS) (k:Nat):List UInt8:=encU C.key++encI C.count++encWholes (C.ints.take k)
def putR (C:CellS) (k:Nat):List UInt8:=encU C.key++encI C.count++encWholes C.ints++encReals (C.nums.take k)
theorem putW_zero (C:CellS):putW C 0=encU C.key++encI C.count:=by unfold putW encWholes;simp
theorem putW_all (C:CellS):putW C C.ints.length=putR C 0:=by unfold putW putR encReals;rw [List.take_length];simp
theorem putR_all (C:CellS):putR C C.nums.length=encCell C:=by unfold putR encCell;rw [List.take_length]
theorem putW_succ (C:CellS) (k:Nat) (hk:k<C.ints.length):putW C (k+1)=putW C k++encI C.ints[k].sum++encI C.ints[k].abs++encU C.ints[k].sq.length++encSq C.ints[k].sq++encI C.ints[k].mn++encI C.ints[k].mx:=by
 unfold putW encWholes
 rw [List.take_succ_eq_append_getElem hk,List.flatMap_append,List.flatMap_singleton]
 unfold encWhole
 simp only [List.append_assoc]
theorem putR_succ (C:CellS) (k:Nat) (hk:k<C.nums.length):putR C (k+1)=putR C k++encU C.nums[k].sum.length++C.nums[k].sum++be 8 (keyB C.nums[k].mn)++be 8 (keyB C.nums[k].mx):=by
 unfold putR encReals
 rw [List.take_succ_eq_append_getElem hk,List.flatMap_append,List.flatMap_singleton]
 unfold encReal
 simp only [List.append_assoc]
theorem putW_le {C:CellS} (h:lightC C=true) (k:Nat):(putW C k).length≤3000:=by
 obtain ⟨h1,h2,h3,h4⟩:=lightC_parts h
 have:=flat_take_le encWhole 225 C.ints (fun x hx=>encWhole_le (decide_eq_true (h3 x hx))) k 10 h1
 have:=encU_9 C.key;have:=encI_9 C.count
 unfold putW encWholes;simp only [List.length_append];omega
theorem putR_le {C:CellS} (h:lightC C=true) (k:Nat):(putR C k).length≤7000:=by
 obtain ⟨h1,h2,h3,h4⟩:=lightC_parts h
 have hw:=putW_le h C.ints.length
 have:=flat_take_le encReal 325 C.nums (fun x hx=>encReal_le (decide_eq_true (h4 x hx))) k 10 h2
 rw [putW_all] at hw
 unfold putR encReals at hw ⊢
 simp only [List.length_append] at hw ⊢;omega
theorem run_store_fA {P:Program} {w:World} {a:Addr} {m:Mode} (k:FloatKind) (b:Nat):(store a (.float k b) m).run P w=stored P w a (.float k b) m:=run_store P w a _ m rfl
attribute [local go_sem] run_store_fA
theorem encSq_succ (l:List Nat) (k:Nat) (hk:k<l.length):encSq (l.take (k+1))=encSq (l.take k)++encU (l.getD k 0):=flat_snoc encU 0 l k hk
end Go.Proofs.YtfhmaincnlaapaaGreat
