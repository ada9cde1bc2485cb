/-
  bushellaw14.AggJoins answers true for any two cells, and leaves them as they were.
  Conditions: none beyond the statement's own.
-/
import Derived.Test.YtfhmaincnlaapaaAjSy3
import Derived.Test.YtfhmaincnlaapaaAjNumMath
import Derived.Test.YtfhmaincnlaapaaAjCellPure
import Derived.Test.YtfhmaincnlaapaaAjEncC
import Derived.Test.YtfhmaincnlaapaaAjFnLaw
import Derived.Test.YtfhmaincnlaapaaAjSy18
namespace Go.Proofs.Ytfhmaincnlaapaa.Sy
open Go.ChangeShapes Go.WideShapes Go.ChangeAt Go.RowKit
set_option linter.unusedVariables false
theorem keepS_at {fr : List Nat} : ∀ {S : List (Nat × AV)} {seen : List Nat}, ∀ p ∈ keepS fr seen S, p.1 ∉ fr ∧ p.1 ∉ seen ∧ lk S p.1 = p.2
  | [], seen, p, hp => by cases hp
  | (t, x) :: l, seen, p, hp => by
    have hany : ∀ (m : List Nat) (t : Nat), (m.any fun b => Nat.beq b t) = true ↔ t ∈ m := fun m t => by
      rw [List.any_eq_true]
      constructor
      · rintro ⟨b, hb, e⟩; rw [Nat.beq_eq] at e; rw [← e]; exact hb
      · intro h; exact ⟨t, h, by simp⟩
    unfold keepS at hp
    rw [Bool.cond_eq_ite] at hp
    split at hp
    · rename_i hd
      rw [Bool.or_eq_true, hany, hany] at hd
      obtain ⟨h1, h2, h3⟩ := keepS_at p hp
      refine ⟨h1, h2, ?_⟩
      rw [lk_ne _ _ (fun e => ?_)]
      · exact h3
      · rcases hd with hd | hd
        · exact h1 (by rw [e]; exact hd)
        · exact h2 (by rw [e]; exact hd)
    · rename_i hd
      rw [Bool.or_eq_true, hany, hany] at hd
      rcases List.mem_cons.1 hp with rfl | hp
      · exact ⟨fun h => hd (.inl h), fun h => hd (.inr h), lk_eq _ _ _⟩
      · obtain ⟨h1, h2, h3⟩ := keepS_at p hp
        exact ⟨h1, fun h => h2 (by simp [h]), by rw [lk_ne _ _ (fun e => h2 (by simp [e]))]; exact h3⟩
theorem pickOs_at {O : List (Nat × AObj)} : ∀ {l : List Nat}, ∀ p ∈ pickOs O l, lo O p.1 = some p.2
  | [], p, hp => by cases hp
  | q :: l, p, hp => by
    unfold pickOs at hp
    split at hp
    · rename_i x hx
      rcases List.mem_cons.1 hp with rfl | hp
      · exact hx
      · exact pickOs_at p hp
    · exact pickOs_at p hp
theorem St.trim {M : Cx} {w0 : World} {σ : AS} {a : Act} {w : World} (h : St M w0 σ a w) {fr : List Nat} (hb : wkB (trimS fr σ) = true) : St M w0 (trimS fr σ) a w :=
  h.weaken rfl rfl hb (wkVc_of fun p hp => (keepS_at p hp).2.2) (wkVcO_of fun p hp => pickOs_at p hp)
theorem St.freezes {M : Cx} {w0 : World} {a : Act} {w : World} : ∀ {l : List Nat} {σ : AS}, St M w0 σ a w → St M w0 (Sy.freezes l σ) a w
  | [], _, h => h
  | q :: l, σ, h => St.freezes (l := l) (σ := Sy.freeze q σ) (St.freeze h q)
theorem nubN_le : ∀ l : List Nat, (nubN l).length ≤ l.length
  | [] => Nat.le_refl _
  | a :: l => by
    have := nubN_le l
    unfold nubN
    rw [Bool.cond_eq_ite]
    split
    · simp only [List.length_cons]; omega
    · simp only [List.length_cons]; omega
theorem nubN_nodup : ∀ {l : List Nat}, (nubN l).length = l.length → l.Nodup
  | [], _ => List.nodup_nil
  | a :: l, h => by
    have := nubN_le l
    unfold nubN at h
    rw [Bool.cond_eq_ite] at h
    split at h
    · simp only [List.length_cons] at h; omega
    · rename_i hn
      simp only [List.length_cons, Nat.add_right_cancel_iff] at h
      refine List.nodup_cons.2 ⟨fun hm => hn ?_, nubN_nodup h⟩
      rw [List.any_eq_true]; exact ⟨a, hm, by simp⟩
def RunOk (P : Program) (c : Code) (f : AS → Option (Exit × AS)) : Prop := ∀ (σ σ' : AS) (e : Exit), f σ = some (e, σ') → ∀ (M : Cx) (w0 : World) (a : Act) (w : World) (Q : Exit → Act → World → Prop), St M w0 σ a w → (∀ a' w', St M w0 σ' a' w' → Q e a' w') → c.wp P Q a w
theorem iterC_ok {P : Program} {c : Code} {f : AS → Option (Exit × AS)} (hf : RunOk P c f) (fr : List Nat) (k : Nat) : RunOk P (.loop c) (iterC f fr k) := by
  intro σ σ' e h M w0 a w Q hs hQ
  refine wp_loop_ghost (fun n a w => ∃ σ, iterC f fr n σ = some (e, σ') ∧ St M w0 σ a w) k ⟨σ, h, hs⟩ ?_
  rintro n a1 w1 ⟨σ1, h1, hs1⟩
  cases n with
  | zero => cases h1
  | succ n =>
    unfold iterC at h1
    split at h1
    · rename_i σ2 hf2
      rw [Bool.cond_eq_ite] at h1
      split at h1
      · rename_i hb
        exact hf _ _ _ hf2 _ _ _ _ _ hs1 fun a2 w2 hs2 => ⟨n, Nat.lt_succ_self n, trimS fr σ2, h1, hs2.trim hb⟩
      · cases h1
    · rename_i hne
      refine hf _ _ _ h1 _ _ _ _ _ hs1 fun a2 w2 hs2 => ?_
      have hq := hQ a2 w2 hs2
      cases e <;> first | exact hq | exact (hne _ h1).elim
theorem evC_ok {P : Program} (hmo : P.follows .mixedOrders = true) {call : CallF} (hc : CallsOk P call) (fz : Nat → List Nat) (k : Nat) : ∀ c : Code, RunOk P c (evC P call fz k c) := by
  intro c
  induction c with
  | skip => intro σ σ' e h M w0 a w Q hs hQ; injection h with h; injection h with h1 h2; subst h1; subst h2; exact wp_skip (hQ a w hs)
  | ret => intro σ σ' e h M w0 a w Q hs hQ; injection h with h; injection h with h1 h2; subst h1; subst h2; exact wp_ret (hQ a w hs)
  | exit id => intro σ σ' e h M w0 a w Q hs hQ; injection h with h; injection h with h1 h2; subst h1; subst h2; exact wp_exit (hQ a w hs)
  | region id ops draw =>
    intro σ σ' e h M w0 a w Q hs hQ
    simp only [evC, Bool.cond_eq_ite] at h
    split at h
    · rename_i hdst
      split at h
      · rename_i σ1 fs hr
        split at h
        · rename_i hd
          injection h with h; injection h with h1 h2; subst h1; subst h2
          unfold dstsOk at hdst
          rw [Nat.beq_eq] at hdst
          obtain ⟨vc, hrun, hv⟩ := evOps_ok hc [] (fun o _ p hp => by cases hp) (nubN_nodup hdst) hr
          cases draw with
          | false => exact region_text hrun hv hs.freezes hQ
          | true => exact region_any hmo hrun (hd rfl) hv hs.freezes hQ
        · cases h
      · cases h
    · cases h
  | seq x y ihx ihy =>
    intro σ σ' e h M w0 a w Q hs hQ
    simp only [evC] at h
    split at h
    · rename_i σ1 hx
      exact wp_seq (ihx _ _ _ hx _ _ _ _ _ hs fun a' w' hs' => ihy _ _ _ h _ _ _ _ _ hs' hQ)
    · rename_i hne
      refine wp_seq (ihx _ _ _ h _ _ _ _ _ hs fun a' w' hs' => ?_)
      cases e <;> first | exact hQ a' w' hs' | exact (hne _ h).elim
  | cond c x y ihx ihy =>
    intro σ σ' e h M w0 a w Q hs hQ
    simp only [evC] at h
    split at h
    · rename_i hcnd
      obtain ⟨E, rfl, hN⟩ := hs
      have e1 := hN.op c; rw [hcnd] at e1
      exact wp_cond_true (sees_v e1) (ihx _ _ _ h _ _ _ _ _ ⟨E, rfl, hN⟩ hQ)
    · rename_i hcnd
      obtain ⟨E, rfl, hN⟩ := hs
      have e1 := hN.op c; rw [hcnd] at e1
      exact wp_cond_false (sees_v e1) (ihy _ _ _ h _ _ _ _ _ ⟨E, rfl, hN⟩ hQ)
    · cases h
  | block id b ih =>
    intro σ σ' e h M w0 a w Q hs hQ
    simp only [evC] at h
    refine wp_block ?_
    split at h
    · rename_i id' σ1 hb
      split at h
      · rename_i hid
        injection h with h; injection h with h1 h2; subst h1; subst h2
        exact ih _ _ _ hb _ _ _ _ _ hs fun a' w' hs' => by simp only [Exit.inBlock, hid, if_true]; exact hQ a' w' hs'
      · rename_i hid
        injection h with h; injection h with h1 h2; subst h1; subst h2
        exact ih _ _ _ hb _ _ _ _ _ hs fun a' w' hs' => by simp only [Exit.inBlock, hid, if_false]; exact hQ a' w' hs'
    · rename_i hne
      refine ih _ _ _ h _ _ _ _ _ hs fun a' w' hs' => ?_
      cases e with
      | exit id' => exact absurd h (hne id' σ')
      | _ => exact hQ a' w' hs'
  | loop b ih => exact iterC_ok ih _ k
  | _ => intro σ σ' e h; cases h
theorem evFn_ok {P : Program} (hmo : P.follows .mixedOrders = true) {kn : FuncId → List AV → Option AV} (hkn : ∀ f args r, kn f args = some r → FnOk P f ⟨args, [], r, []⟩) (FZ : FuncId → Nat → List Nat) (k : Nat) : ∀ n, CallsOk P (evFn P kn FZ k n)
  | 0 => fun f args pre I h => by cases h
  | n + 1 => fun f args pre I h => by
    unfold evFn at h
    split at h
    · rename_i r hr
      injection h with h; subst h
      split at hr
      · rename_i he
        have : pre = [] := List.isEmpty_iff.1 he
        subst this
        exact ⟨hkn _ _ _ hr, rfl, rfl⟩
      · cases hr
    · rename_i fn hf
      split at h
      · rename_i c hb
        split at h
        · rename_i e σ' hr
          have hcode := evC_ok hmo (evFn_ok hmo hkn FZ k n) (FZ f) k c _ _ _ hr
          split at h
          all_goals first
            | (cases h; done)
            | (split at h
               · rename_i x hx
                 split at h
                 · rename_i post hpost
                   rw [Bool.cond_eq_ite] at h
                   split at h
                   · rename_i hbb
                     rw [Bool.and_eq_true, Bool.and_eq_true] at hbb
                     injection h with h; subst h
                     exact ⟨fn_wp (I := ⟨args, pre, resR post σ'.O x, post⟩) hf hb hcode (by simp) hx hbb.1 hbb.2.1 hbb.2.2 (reEq_refl _) (wkVcO_of (pickO_at hpost)), rfl, rfl⟩
                   · cases h
                 · cases h
               · cases h)
        · cases h
      · cases h
    · cases h
end Go.Proofs.Ytfhmaincnlaapaa.Sy
namespace Go.Proofs.Ytfhmaincnlaapaa.Sy
open Go.ChangeShapes Go.WideShapes Go.ChangeAt Go.RowKit
set_option linter.unusedVariables false
def strsOf : List AV → Option (List ByteArray)
  | [] => some []
  | .v (.string s) :: l => (match strsOf l with | some r => some (s :: r) | none => none)
  | _ => none
theorem strsOf_at : ∀ {cs : List AV} {l : List ByteArray}, strsOf cs = some l → cs = l.map fun s => .v (.string s)
  | [], l, h => by injection h with h; subst h; rfl
  | x :: cs, l, h => by
    unfold strsOf at h
    split at h
    · rename_i h1; cases h1
    · rename_i s l' h1
      injection h1 with h1 h2; subst h1; subst h2
      split at h
      · rename_i r hr; injection h with h; subst h; rw [strsOf_at hr]; rfl
      · cases h
    · cases h
def knTwice (f : FuncId) (args : List AV) : Option AV :=
  bif Nat.beq f 102 then (match args with
    | [.lst n cs] => (match strsOf cs with
      | some l => bif Nat.beq n l.length && (Nat.ble n 1000000 && ((l.all fun x => Nat.ble x.size maxLen) && !dupB l)) then some (.v (.int .i64 (-1))) else none
      | none => none)
    | _ => none) else none
theorem knTwice_ok (f : FuncId) (args : List AV) (r : AV) (h : knTwice f args = some r) : FnOk Try.prog f ⟨args, [], r, []⟩ := by
  unfold knTwice at h
  rw [Bool.cond_eq_ite] at h
  split at h
  · rename_i hf
    rw [Nat.beq_eq] at hf
    subst hf
    split at h
    · rename_i n cs
      split at h
      · rename_i l hl
        rw [Bool.cond_eq_ite] at h
        split at h
        · rename_i hb
          injection h with h; subst h
          simp only [Bool.and_eq_true, Nat.beq_eq, Nat.ble_eq, Bool.not_eq_true'] at hb
          obtain ⟨h1, h2, h3, h4⟩ := hb
          have hcs := strsOf_at hl
          refine FnOk.of_calls rfl fun E vs hF hlen hs => ?_
          obtain ⟨u, rfl⟩ : ∃ u, vs = [u] := List.length_eq_one_iff.1 hlen
          have hu : Rep E.w E.F (.lst n cs) u := hs 0 _ u rfl rfl
          have hsz : ∀ x ∈ l, x.size ≤ maxLen := fun x hx => by simpa using List.all_eq_true.1 h3 x hx
          have fin : ∀ A n c, Rd E.w E.w.heap.size 1 A n (strs l) → n = l.length → u = .slice A n c → Calls Try.prog 102 [u].toArray E.w fun y w' => y = .returned (.int .i64 (-1)) ∧ Below E.w.heap.size E.w w' := fun A n c hrd hn hu => by
            subst hu
            refine (twice_any E.w A n c E.w.heap.size l hrd (Nat.le_refl _) (by omega) hsz).mono ?_
            rintro y w' ⟨z, rfl, hz, hbl⟩
            rcases hz with ⟨rfl, _⟩ | ⟨_, hz⟩
            · exact ⟨rfl, hbl⟩
            · rw [h4] at hz; cases hz
          cases hu with
          | nil A c _ =>
            have : l = [] := List.eq_nil_of_length_eq_zero h1.symm
            subst this
            exact fin A 0 c Rd.nil rfl rfl
          | lst _ c _ a us hn hc hm hFa hl1 h1' hu' hr =>
            have hus : us = strs l := by
              rw [hcs] at hl1 hr
              refine List.ext_getElem? fun j => ?_
              by_cases hj : j < l.length
              · obtain ⟨u, h5⟩ := getElem?_of (l := us) (j := j) (by rw [hl1]; simpa using hj)
                have h6 := hr j (.v (.string l[j])) u (by rw [List.getElem?_map, List.getElem?_eq_getElem hj]; rfl) h5
                rw [h5, List.getElem?_map, List.getElem?_eq_getElem hj]
                cases h6 with
                | v _ h7 => rfl
              · rw [List.getElem?_eq_none (by rw [hl1]; simpa using hj), List.getElem?_eq_none (by simpa using hj)]
            refine fin (some a) n c ⟨?_, fun _ => ⟨a, rfl, hF _ hFa, by rw [← hus]; exact hu'⟩⟩ h1 rfl
            simp [strs, h1]
        · cases h
      · cases h
    · cases h
  · cases h
def fz14 (f : FuncId) (r : Nat) : List Nat := bif Nat.beq f 33 && Nat.beq r 2 then [9, 10] else []
end Go.Proofs.Ytfhmaincnlaapaa.Sy
namespace Go.Proofs.Ytfhmaincnlaapaa.Sy
open Go.ChangeShapes Go.WideShapes Go.ChangeAt Go.RowKit
set_option linter.unusedVariables false
set_option linter.unusedSimpArgs false
/-! ### in the other order -/
theorem addW_comm (a b : Int) : addW a b = addW b a := by unfold addW; rw [Int.add_comm]
theorem joinW_comm (x y : WholeS) : joinW x y = joinW y x := by
  unfold joinW
  rw [addW_comm x.sum y.sum, addW_comm x.abs y.abs, Nat.add_comm (vw x.sq), Int.min_comm, Int.max_comm]
theorem joinS_comm {s o : SumS} (h : (joinS s o).2 = true) : joinS s o = joinS o s := by
  unfold joinS at h ⊢
  split at h
  · rename_i h1
    rw [if_pos h1, if_pos (by rw [Int.add_comm]; exact h1), Int.add_comm, Bool.or_comm s.none, Bool.or_comm s.up, Bool.or_comm s.down, Bool.or_comm s.minus, Bool.or_comm s.plus]
  · cases h
theorem joinS_ok (s o : SumS) : (joinS s o).2 = (joinS o s).2 := by
  unfold joinS
  by_cases h : (s.all + o.all).natAbs < roomN
  · rw [if_pos h, if_pos (by rw [Int.add_comm]; exact h)]
  · rw [if_neg h, if_neg (by rw [Int.add_comm]; exact h)]
theorem leastF_key (a b : Nat) : keyB (leastF a b) = keyB (leastF b a) := by unfold leastF; split <;> split <;> omega
theorem mostF_key (a b : Nat) : keyB (mostF a b) = keyB (mostF b a) := by unfold mostF; split <;> split <;> omega
theorem joinR_comm (x y : RealS) : (joinR x y).2 = (joinR y x).2 ∧ sameR (joinR x y).1 (joinR y x).1 = true := by
  by_cases h : readE x.sum ≠ 0 ∨ readE y.sum ≠ 0
  · have e1 : joinR x y = (noR, 13) := if_pos h
    have e2 : joinR y x = (noR, 13) := if_pos h.symm
    rw [e1, e2]
    exact ⟨rfl, sameR_self _⟩
  · have e1 : joinR x y = if (joinS (decS x.sum) (decS y.sum)).2 = true then (⟨encS (joinS (decS x.sum) (decS y.sum)).1, leastF x.mn y.mn, mostF x.mx y.mx⟩, 0) else (noR, 10) := if_neg h
    have e2 : joinR y x = if (joinS (decS y.sum) (decS x.sum)).2 = true then (⟨encS (joinS (decS y.sum) (decS x.sum)).1, leastF y.mn x.mn, mostF y.mx x.mx⟩, 0) else (noR, 10) := if_neg (fun h1 => h h1.symm)
    rw [← joinS_ok (decS x.sum) (decS y.sum)] at e2
    by_cases hz : (joinS (decS x.sum) (decS y.sum)).2 = true
    · rw [if_pos hz] at e1 e2
      rw [e1, e2, joinS_comm hz]
      refine ⟨rfl, ?_⟩
      unfold sameR
      simp only [leastF_key x.mn y.mn, mostF_key x.mx y.mx, decide_true, Bool.and_true]
    · rw [if_neg hz] at e1 e2
      rw [e1, e2]
      exact ⟨rfl, sameR_self _⟩
theorem errs_congr {f g : Nat → Nat} : ∀ {n : Nat}, (∀ i, i < n → f i = g i) → errs f n = errs g n
  | 0, _ => rfl
  | n + 1, h => by
    unfold errs
    rw [errs_congr fun i hi => h i (by omega), h n (Nat.lt_succ_self n)]
theorem sameWs_self : ∀ l : List WholeS, sameWs l l = true
  | [] => rfl
  | x :: l => by unfold sameWs; rw [sameW_self, sameWs_self l]; rfl
theorem sameRs_self : ∀ l : List RealS, sameRs l l = true
  | [] => rfl
  | x :: l => by unfold sameRs; rw [sameR_self, sameRs_self l]; rfl
theorem sameC_self (C : CellS) : sameC C C = true := by unfold sameC; rw [sameWs_self, sameRs_self]; simp
theorem sameRs_map {f g : Nat → RealS} : ∀ (l : List Nat), (∀ i ∈ l, sameR (f i) (g i) = true) → sameRs (l.map f) (l.map g) = true
  | [], _ => rfl
  | i :: l, h => by simp only [List.map_cons]; unfold sameRs; rw [h i (by simp), sameRs_map l fun j hj => h j (by simp [hj])]; rfl
theorem joinC_comm (a b : CellS) : (joinC a b).2 = (joinC b a).2 ∧ sameC (joinC b a).1 (joinC a b).1 = true := by
  have eW : ∀ i, errW a b i = errW b a i := fun i => by unfold errW; rw [joinW_comm]
  have vW : ∀ i, valW a b i = valW b a i := fun i => by unfold valW; rw [joinW_comm]
  have eR : ∀ i, errR a b i = errR b a i := fun i => (joinR_comm _ _).1
  unfold joinC
  by_cases c0 : a.key ≠ b.key ∨ a.ints.length ≠ b.ints.length ∨ a.nums.length ≠ b.nums.length
  · rw [if_pos c0, if_pos (by omega)]
    exact ⟨rfl, sameC_self _⟩
  · have hk : a.key = b.key := by omega
    have hi : a.ints.length = b.ints.length := by omega
    have hn : a.nums.length = b.nums.length := by omega
    rw [if_neg c0, if_neg (show ¬ (b.key ≠ a.key ∨ b.ints.length ≠ a.ints.length ∨ b.nums.length ≠ a.nums.length) by omega), addW_comm b.count a.count]
    by_cases c1 : (addW a.count b.count).2 = false
    · rw [if_pos c1, if_pos c1]; exact ⟨rfl, sameC_self _⟩
    · rw [if_neg c1, if_neg c1, ← hi, ← hn, errs_congr (f := errW b a) (g := errW a b) fun i _ => (eW i).symm, errs_congr (f := errR b a) (g := errR a b) fun i _ => (eR i).symm]
      by_cases c2 : errs (errW a b) a.ints.length ≠ 0
      · rw [if_pos c2, if_pos c2]; exact ⟨rfl, sameC_self _⟩
      · rw [if_neg c2, if_neg c2]
        by_cases c3 : errs (errR a b) a.nums.length ≠ 0
        · rw [if_pos c3, if_pos c3]; exact ⟨rfl, sameC_self _⟩
        · rw [if_neg c3, if_neg c3]
          refine ⟨rfl, ?_⟩
          have e1 : accW b a a.ints.length = accW a b a.ints.length := by unfold accW; exact List.map_congr_left fun i _ => (vW i).symm
          have e2 : sameRs (accR b a a.nums.length) (accR a b a.nums.length) = true := sameRs_map _ fun i _ => (joinR_comm _ _).2
          unfold sameC
          simp only
          rw [e1, e2, sameWs_self]
          simp [hk]
/-! ### the cells are small -/
theorem okC_of {C : CellS} (h : CellOk C) (hn : okCl C) (hl : lightC C = true) : OkC C := by
  unfold lightC at hl
  simp only [Bool.and_eq_true, decide_eq_true_iff, List.all_eq_true] at hl
  obtain ⟨⟨⟨l1, l2⟩, l3⟩, l4⟩ := hl
  refine ⟨h.key, h.count, by omega, by omega, fun X hX => ?_, fun X hX => ?_⟩
  · obtain ⟨h1, h2, h3, h4, h5⟩ := h.ints X hX
    have := of_decide_eq_true (l3 X hX)
    exact ⟨h1, h2, h5, by omega, h3, h4⟩
  · obtain ⟨_, h2, h3⟩ := hn.2.2.2 X hX
    have := of_decide_eq_true (l4 X hX)
    exact ⟨by omega, h2, h3⟩
theorem addW_64 {a b : Int} : I64 (addW a b).1 := by
  unfold addW I64; split
  · assumption
  · simp
theorem okWh_no : okWh noW := ⟨rfl, rfl, (fun n (hn : n ∈ []) => by cases hn), rfl, rfl⟩
theorem okW_val {a b : CellS} (ha : OkC a) (hb : OkC b) {i : Nat} (h1 : i < a.ints.length) (h2 : i < b.ints.length) : okWh (valW a b i) := by
  have hx := ha.w h1
  have hy := hb.w h2
  unfold valW
  cases hz : joinW (wAt a.ints i) (wAt b.ints i) with
  | none => exact okWh_no
  | some z =>
    unfold joinW at hz
    split at hz
    · injection hz with hz; subst hz
      have m1 := hx.mn; have m2 := hy.mn; have m3 := hx.mx; have m4 := hy.mx
      unfold I64 at m1 m2 m3 m4
      exact ⟨WalkArith.wf_i64 addW_64, WalkArith.wf_i64 addW_64, dig_ltW _, WalkArith.wf_i64 (by simp only; omega), WalkArith.wf_i64 (by simp only; omega)⟩
    · cases hz
theorem okR_val {a b : CellS} (ha : OkC a) (hb : OkC b) {i : Nat} (h1 : i < a.nums.length) (h2 : i < b.nums.length) : okRe (valR a b i) := by
  have hx := ha.r h1
  have hy := hb.r h2
  have m1 := hx.mn; have m2 := hy.mn; have m3 := hx.mx; have m4 := hy.mx
  unfold valR joinR
  split
  · exact ⟨fun _ _ => trivial, by show (0 : Nat) < _; decide, by show (0 : Nat) < _; decide⟩
  · split
    · refine ⟨fun _ _ => trivial, ?_, ?_⟩
      · show leastF _ _ < _; unfold leastF; split <;> assumption
      · show mostF _ _ < _; unfold mostF; split <;> assumption
    · exact ⟨fun _ _ => trivial, by show (0 : Nat) < _; decide, by show (0 : Nat) < _; decide⟩
theorem okCl_join {a b : CellS} (ha : OkC a) (hb : OkC b) : okCl (joinC a b).1 := by
  have hno : okCl noC := ⟨by decide, rfl, (fun X (hX : X ∈ []) => by cases hX), (fun X (hX : X ∈ []) => by cases hX)⟩
  unfold joinC
  split
  · exact hno
  · rename_i c0
    split
    · exact hno
    · split
      · exact hno
      · split
        · exact hno
        · refine ⟨ha.key, WalkArith.wf_i64 addW_64, fun X hX => ?_, fun X hX => ?_⟩
          · obtain ⟨i, hi, rfl⟩ := List.mem_map.1 hX
            have := List.mem_range.1 hi
            exact okW_val ha hb this (by omega)
          · obtain ⟨i, hi, rfl⟩ := List.mem_map.1 hX
            have := List.mem_range.1 hi
            exact okR_val ha hb this (by omega)
theorem awake14_fn' : FnOk Try.prog 33 ⟨[], [], bz true, []⟩ := (evFn_ok hmo knTwice_ok fz14 200 30 33 [] [] ⟨[], [], bz true, []⟩ (by kernel_rfl)).1
theorem aggJoins_fn {a b : CellS} (ha : CellOk a) (hb : CellOk b) (oa : okCl a) (ob : okCl b) : FnOk Try.prog 6 ⟨[.agg (encCl a), .agg (encCl b)], [], bz true, []⟩ := by
  have h1 := lightC_fn oa
  have h2 := lightC_fn ob
  have h9 := awake14_fn'
  rw [cellT_eq] at h1 h2
  rw [cellT_eq, cellT_eq]
  cases e1 : lightC a with
  | false =>
    rw [e1] at h1
    refine fn_go hmo Try.func6 (by kernel_rfl) [(12, Hint.call (Inst.mk [cellT a] [] (AV.v (Value.bool false)) [])), (19, Hint.call (Inst.mk [] [] (bz true) []))] [] [true = true, [AV.v (Value.int IntKind.u64 (↑a.key : Int)), AV.v (Value.int IntKind.i64 a.count), AV.lst a.ints.length (wsL a.ints), AV.lst a.nums.length (rsL a.nums)] = [AV.v (Value.int IntKind.u64 (↑a.key : Int)), AV.v (Value.int IntKind.i64 a.count), AV.lst a.ints.length (wsL a.ints), AV.lst a.nums.length (rsL a.nums)] ∧ True, FnOk Try.prog (32 : Nat) (Inst.mk [AV.agg [AV.v (Value.int IntKind.u64 (↑a.key : Int)), AV.v (Value.int IntKind.i64 a.count), AV.lst a.ints.length (wsL a.ints), AV.lst a.nums.length (rsL a.nums)]] [] (AV.v (Value.bool false)) []), True, FnOk Try.prog (33 : Nat) (Inst.mk [] [] (AV.v (Value.bool true)) [])] (by kernel_rfl) ?_
    ((repeat' refine And.intro ?_ ?_); (iterate 2 (with_reducible rfl)); (exact True.intro); ((show FnOk _ _ _; assumption)); (exact True.intro); ((show FnOk _ _ _; assumption)); (exact True.intro))
  | true =>
    cases e2 : lightC b with
    | false =>
      rw [e1] at h1; rw [e2] at h2
      refine fn_go hmo Try.func6 (by kernel_rfl) [(12, Hint.call (Inst.mk [cellT a] [] (AV.v (Value.bool true)) [])), (16, Hint.call (Inst.mk [cellT b] [] (AV.v (Value.bool false)) [])), (19, Hint.call (Inst.mk [] [] (bz true) []))] [] [true = true, [AV.v (Value.int IntKind.u64 (↑a.key : Int)), AV.v (Value.int IntKind.i64 a.count), AV.lst a.ints.length (wsL a.ints), AV.lst a.nums.length (rsL a.nums)] = [AV.v (Value.int IntKind.u64 (↑a.key : Int)), AV.v (Value.int IntKind.i64 a.count), AV.lst a.ints.length (wsL a.ints), AV.lst a.nums.length (rsL a.nums)] ∧ True, FnOk Try.prog (32 : Nat) (Inst.mk [AV.agg [AV.v (Value.int IntKind.u64 (↑a.key : Int)), AV.v (Value.int IntKind.i64 a.count), AV.lst a.ints.length (wsL a.ints), AV.lst a.nums.length (rsL a.nums)]] [] (AV.v (Value.bool true)) []), [AV.v (Value.int IntKind.u64 (↑b.key : Int)), AV.v (Value.int IntKind.i64 b.count), AV.lst b.ints.length (wsL b.ints), AV.lst b.nums.length (rsL b.nums)] = [AV.v (Value.int IntKind.u64 (↑b.key : Int)), AV.v (Value.int IntKind.i64 b.count), AV.lst b.ints.length (wsL b.ints), AV.lst b.nums.length (rsL b.nums)] ∧ True, FnOk Try.prog (32 : Nat) (Inst.mk [AV.agg [AV.v (Value.int IntKind.u64 (↑b.key : Int)), AV.v (Value.int IntKind.i64 b.count), AV.lst b.ints.length (wsL b.ints), AV.lst b.nums.length (rsL b.nums)]] [] (AV.v (Value.bool false)) []), True, FnOk Try.prog (33 : Nat) (Inst.mk [] [] (AV.v (Value.bool true)) [])] (by kernel_rfl) ?_
      ((repeat' refine And.intro ?_ ?_); (iterate 2 (with_reducible rfl)); (exact True.intro); ((show FnOk _ _ _; assumption)); (with_reducible rfl); (exact True.intro); ((show FnOk _ _ _; assumption)); (exact True.intro); ((show FnOk _ _ _; assumption)); (exact True.intro))
    | true =>
      have ca := okC_of ha oa e1
      have cb := okC_of hb ob e2
      have h3 := aggJoin_fn ca cb
      have h4 := aggJoin_fn cb ca
      have h5 := refJoin_fn ca cb
      obtain ⟨s1, s2⟩ := joinC_comm a b
      have h6 := same_fn (okCl_join ca cb) (okCl_join ca cb)
      have h7 := same_fn (okCl_join cb ca) (okCl_join ca cb)
      rw [sameC_self, cellT_eq] at h6
      rw [s2, cellT_eq, cellT_eq] at h7
      rw [← s1] at h4
      rw [e1] at h1; rw [e2] at h2
      obtain ⟨x, hx⟩ : ∃ x, (joinC a b).1 = x := ⟨_, rfl⟩
      obtain ⟨y, hy⟩ : ∃ y, (joinC b a).1 = y := ⟨_, rfl⟩
      obtain ⟨e, he⟩ : ∃ e, (joinC a b).2 = e := ⟨_, rfl⟩
      rw [hx, he] at h3 h5
      rw [hy, he] at h4
      rw [hx] at h6
      rw [hx, hy] at h7
      clear s1 s2 hx hy he
      refine fn_go hmo Try.func6 (by kernel_rfl) [(12, Hint.call (Inst.mk [cellT a] [] (AV.v (Value.bool true)) [])), (16, Hint.call (Inst.mk [cellT b] [] (AV.v (Value.bool true)) [])), (23, Hint.call (Inst.mk [cellT a, cellT b] [] (AV.tup [cellT x, iz (↑e : Int)]) [])), (29, Hint.call (Inst.mk [cellT b, cellT a] [] (AV.tup [cellT y, iz (↑e : Int)]) [])), (35, Hint.call (Inst.mk [cellT a, cellT b] [] (AV.tup [cellT x, iz (↑e : Int)]) [])), (40, Hint.val (AV.v (Value.bool true))), (44, Hint.val (AV.v (Value.bool true))), (49, Hint.call (Inst.mk [cellT x, cellT x] [] (AV.v (Value.bool true)) [])), (54, Hint.call (Inst.mk [cellT y, cellT x] [] (AV.v (Value.bool true)) [])), (57, Hint.call (Inst.mk [] [] (bz true) []))] [] [true = true, [AV.v (Value.int IntKind.u64 (↑a.key : Int)), AV.v (Value.int IntKind.i64 a.count), AV.lst a.ints.length (wsL a.ints), AV.lst a.nums.length (rsL a.nums)] = [AV.v (Value.int IntKind.u64 (↑a.key : Int)), AV.v (Value.int IntKind.i64 a.count), AV.lst a.ints.length (wsL a.ints), AV.lst a.nums.length (rsL a.nums)] ∧ True, FnOk Try.prog (32 : Nat) (Inst.mk [AV.agg [AV.v (Value.int IntKind.u64 (↑a.key : Int)), AV.v (Value.int IntKind.i64 a.count), AV.lst a.ints.length (wsL a.ints), AV.lst a.nums.length (rsL a.nums)]] [] (AV.v (Value.bool true)) []), [AV.v (Value.int IntKind.u64 (↑b.key : Int)), AV.v (Value.int IntKind.i64 b.count), AV.lst b.ints.length (wsL b.ints), AV.lst b.nums.length (rsL b.nums)] = [AV.v (Value.int IntKind.u64 (↑b.key : Int)), AV.v (Value.int IntKind.i64 b.count), AV.lst b.ints.length (wsL b.ints), AV.lst b.nums.length (rsL b.nums)] ∧ True, FnOk Try.prog (32 : Nat) (Inst.mk [AV.agg [AV.v (Value.int IntKind.u64 (↑b.key : Int)), AV.v (Value.int IntKind.i64 b.count), AV.lst b.ints.length (wsL b.ints), AV.lst b.nums.length (rsL b.nums)]] [] (AV.v (Value.bool true)) []), [AV.v (Value.int IntKind.u64 (↑a.key : Int)), AV.v (Value.int IntKind.i64 a.count), AV.lst a.ints.length (wsL a.ints), AV.lst a.nums.length (rsL a.nums)] = [AV.v (Value.int IntKind.u64 (↑a.key : Int)), AV.v (Value.int IntKind.i64 a.count), AV.lst a.ints.length (wsL a.ints), AV.lst a.nums.length (rsL a.nums)] ∧ [AV.v (Value.int IntKind.u64 (↑b.key : Int)), AV.v (Value.int IntKind.i64 b.count), AV.lst b.ints.length (wsL b.ints), AV.lst b.nums.length (rsL b.nums)] = [AV.v (Value.int IntKind.u64 (↑b.key : Int)), AV.v (Value.int IntKind.i64 b.count), AV.lst b.ints.length (wsL b.ints), AV.lst b.nums.length (rsL b.nums)] ∧ True, FnOk Try.prog (34 : Nat) (Inst.mk [AV.agg [AV.v (Value.int IntKind.u64 (↑a.key : Int)), AV.v (Value.int IntKind.i64 a.count), AV.lst a.ints.length (wsL a.ints), AV.lst a.nums.length (rsL a.nums)], AV.agg [AV.v (Value.int IntKind.u64 (↑b.key : Int)), AV.v (Value.int IntKind.i64 b.count), AV.lst b.ints.length (wsL b.ints), AV.lst b.nums.length (rsL b.nums)]] [] (AV.tup [AV.agg [AV.v (Value.int IntKind.u64 (↑x.key : Int)), AV.v (Value.int IntKind.i64 x.count), AV.lst x.ints.length (wsL x.ints), AV.lst x.nums.length (rsL x.nums)], AV.v (Value.int IntKind.i64 (↑e : Int))]) []), [AV.v (Value.int IntKind.u64 (↑b.key : Int)), AV.v (Value.int IntKind.i64 b.count), AV.lst b.ints.length (wsL b.ints), AV.lst b.nums.length (rsL b.nums)] = [AV.v (Value.int IntKind.u64 (↑b.key : Int)), AV.v (Value.int IntKind.i64 b.count), AV.lst b.ints.length (wsL b.ints), AV.lst b.nums.length (rsL b.nums)] ∧ [AV.v (Value.int IntKind.u64 (↑a.key : Int)), AV.v (Value.int IntKind.i64 a.count), AV.lst a.ints.length (wsL a.ints), AV.lst a.nums.length (rsL a.nums)] = [AV.v (Value.int IntKind.u64 (↑a.key : Int)), AV.v (Value.int IntKind.i64 a.count), AV.lst a.ints.length (wsL a.ints), AV.lst a.nums.length (rsL a.nums)] ∧ True, FnOk Try.prog (34 : Nat) (Inst.mk [AV.agg [AV.v (Value.int IntKind.u64 (↑b.key : Int)), AV.v (Value.int IntKind.i64 b.count), AV.lst b.ints.length (wsL b.ints), AV.lst b.nums.length (rsL b.nums)], AV.agg [AV.v (Value.int IntKind.u64 (↑a.key : Int)), AV.v (Value.int IntKind.i64 a.count), AV.lst a.ints.length (wsL a.ints), AV.lst a.nums.length (rsL a.nums)]] [] (AV.tup [AV.agg [AV.v (Value.int IntKind.u64 (↑y.key : Int)), AV.v (Value.int IntKind.i64 y.count), AV.lst y.ints.length (wsL y.ints), AV.lst y.nums.length (rsL y.nums)], AV.v (Value.int IntKind.i64 (↑e : Int))]) []), [AV.v (Value.int IntKind.u64 (↑a.key : Int)), AV.v (Value.int IntKind.i64 a.count), AV.lst a.ints.length (wsL a.ints), AV.lst a.nums.length (rsL a.nums)] = [AV.v (Value.int IntKind.u64 (↑a.key : Int)), AV.v (Value.int IntKind.i64 a.count), AV.lst a.ints.length (wsL a.ints), AV.lst a.nums.length (rsL a.nums)] ∧ [AV.v (Value.int IntKind.u64 (↑b.key : Int)), AV.v (Value.int IntKind.i64 b.count), AV.lst b.ints.length (wsL b.ints), AV.lst b.nums.length (rsL b.nums)] = [AV.v (Value.int IntKind.u64 (↑b.key : Int)), AV.v (Value.int IntKind.i64 b.count), AV.lst b.ints.length (wsL b.ints), AV.lst b.nums.length (rsL b.nums)] ∧ True, FnOk Try.prog (35 : Nat) (Inst.mk [AV.agg [AV.v (Value.int IntKind.u64 (↑a.key : Int)), AV.v (Value.int IntKind.i64 a.count), AV.lst a.ints.length (wsL a.ints), AV.lst a.nums.length (rsL a.nums)], AV.agg [AV.v (Value.int IntKind.u64 (↑b.key : Int)), AV.v (Value.int IntKind.i64 b.count), AV.lst b.ints.length (wsL b.ints), AV.lst b.nums.length (rsL b.nums)]] [] (AV.tup [AV.agg [AV.v (Value.int IntKind.u64 (↑x.key : Int)), AV.v (Value.int IntKind.i64 x.count), AV.lst x.ints.length (wsL x.ints), AV.lst x.nums.length (rsL x.nums)], AV.v (Value.int IntKind.i64 (↑e : Int))]) []), ((↑e : Int) == (↑e : Int)) = true, ((↑e : Int) == (↑e : Int)) = true, [AV.v (Value.int IntKind.u64 (↑x.key : Int)), AV.v (Value.int IntKind.i64 x.count), AV.lst x.ints.length (wsL x.ints), AV.lst x.nums.length (rsL x.nums)] = [AV.v (Value.int IntKind.u64 (↑x.key : Int)), AV.v (Value.int IntKind.i64 x.count), AV.lst x.ints.length (wsL x.ints), AV.lst x.nums.length (rsL x.nums)] ∧ [AV.v (Value.int IntKind.u64 (↑x.key : Int)), AV.v (Value.int IntKind.i64 x.count), AV.lst x.ints.length (wsL x.ints), AV.lst x.nums.length (rsL x.nums)] = [AV.v (Value.int IntKind.u64 (↑x.key : Int)), AV.v (Value.int IntKind.i64 x.count), AV.lst x.ints.length (wsL x.ints), AV.lst x.nums.length (rsL x.nums)] ∧ True, FnOk Try.prog (36 : Nat) (Inst.mk [AV.agg [AV.v (Value.int IntKind.u64 (↑x.key : Int)), AV.v (Value.int IntKind.i64 x.count), AV.lst x.ints.length (wsL x.ints), AV.lst x.nums.length (rsL x.nums)], AV.agg [AV.v (Value.int IntKind.u64 (↑x.key : Int)), AV.v (Value.int IntKind.i64 x.count), AV.lst x.ints.length (wsL x.ints), AV.lst x.nums.length (rsL x.nums)]] [] (AV.v (Value.bool true)) []), [AV.v (Value.int IntKind.u64 (↑y.key : Int)), AV.v (Value.int IntKind.i64 y.count), AV.lst y.ints.length (wsL y.ints), AV.lst y.nums.length (rsL y.nums)] = [AV.v (Value.int IntKind.u64 (↑y.key : Int)), AV.v (Value.int IntKind.i64 y.count), AV.lst y.ints.length (wsL y.ints), AV.lst y.nums.length (rsL y.nums)] ∧ [AV.v (Value.int IntKind.u64 (↑x.key : Int)), AV.v (Value.int IntKind.i64 x.count), AV.lst x.ints.length (wsL x.ints), AV.lst x.nums.length (rsL x.nums)] = [AV.v (Value.int IntKind.u64 (↑x.key : Int)), AV.v (Value.int IntKind.i64 x.count), AV.lst x.ints.length (wsL x.ints), AV.lst x.nums.length (rsL x.nums)] ∧ True, FnOk Try.prog (36 : Nat) (Inst.mk [AV.agg [AV.v (Value.int IntKind.u64 (↑y.key : Int)), AV.v (Value.int IntKind.i64 y.count), AV.lst y.ints.length (wsL y.ints), AV.lst y.nums.length (rsL y.nums)], AV.agg [AV.v (Value.int IntKind.u64 (↑x.key : Int)), AV.v (Value.int IntKind.i64 x.count), AV.lst x.ints.length (wsL x.ints), AV.lst x.nums.length (rsL x.nums)]] [] (AV.v (Value.bool true)) []), True, FnOk Try.prog (33 : Nat) (Inst.mk [] [] (AV.v (Value.bool true)) [])] (by kernel_rfl) ?_
      ((repeat' refine And.intro ?_ ?_); (iterate 2 (with_reducible rfl)); (exact True.intro); ((show FnOk _ _ _; assumption)); (with_reducible rfl); (exact True.intro); ((show FnOk _ _ _; assumption)); (iterate 2 (with_reducible rfl)); (exact True.intro); ((show FnOk _ _ _; assumption)); (iterate 2 (with_reducible rfl)); (exact True.intro); ((show FnOk _ _ _; assumption)); (iterate 2 (with_reducible rfl)); (exact True.intro); ((show FnOk _ _ _; assumption)); (iterate 2 ((with_reducible refine Be ?_; omega))); (iterate 2 (with_reducible rfl)); (exact True.intro); ((show FnOk _ _ _; assumption)); (iterate 2 (with_reducible rfl)); (exact True.intro); ((show FnOk _ _ _; assumption)); (exact True.intro); ((show FnOk _ _ _; assumption)); (exact True.intro))
theorem lawAggJoins_any (w : World) (C : CellS) (A2 : Option Addr) (c2 : Nat) (A3 : Option Addr) (c3 : Nat) (D : CellS) (B2 : Option Addr) (d2 : Nat) (B3 : Option Addr) (d3 : Nat) (hv : CellV w w.heap.size C A2 c2 A3 c3) (hu : CellV w w.heap.size D B2 d2 B3 d3) :
    Calls Try.prog 6 #[.agg #[.int .u64 (C.key : Int), .int .i64 C.count, .slice A2 C.ints.length c2, .slice A3 C.nums.length c3], .agg #[.int .u64 (D.key : Int), .int .i64 D.count, .slice B2 D.ints.length d2, .slice B3 D.nums.length d3]] w fun y w' => y = .returned (.bool true) ∧ Below w.heap.size w w' :=
  (aggJoins_fn (cell_okS hv) (cell_okS hu) (cell_ok' hv) (cell_ok' hu)).calls w [.agg #[.int .u64 (C.key : Int), .int .i64 C.count, .slice A2 C.ints.length c2, .slice A3 C.nums.length c3], .agg #[.int .u64 (D.key : Int), .int .i64 D.count, .slice B2 D.ints.length d2, .slice B3 D.nums.length d3]] rfl fun E hw hF j x u hx hu' => by
    match j, hx, hu' with
    | 0, hx, hu' => injection hx with hx; injection hu' with hu'; subst hx; subst hu'; exact cell_see hF (by rw [hw]; exact hv)
    | 1, hx, hu' => injection hx with hx; injection hu' with hu'; subst hx; subst hu'; exact cell_see hF (by rw [hw]; exact hu)
    | j + 2, hx, hu' => simp at hx
end Go.Proofs.Ytfhmaincnlaapaa.Sy
namespace Go.Proofs.Ytfhmaincnlaapaa.aggJoins
open Go.ChangeShapes Go.WideShapes Go.ChangeAt Go.RowKit Go.Joins Go.Deep
open Go.ChangeMaps (open_string shut_string)
set_option linter.unusedVariables false

set_option maxRecDepth 100000 in
theorem lifted (os : Os) (started : os.Started) (H : Type) (enc : TypeId × Value → H) :
    ReturnsInHanded {} Try.checked os 6 .any (Rows.aggJoinsSpec.pre6 enc Try.prog Try.f6 Rows.aggJoinsRow.domain false) (Rows.aggJoinsSpec.post enc Try.prog Try.f6 false true false false) := by
  refine returnsInHanded_of_change (C := Try.checked) own started (by kernel_rfl) Try.func6
    (ChangeSpec.witness6 (enc := enc) (C := Try.checked) false ⟨#[], #[.agg #[.int .u64 0, .int .i64 0, .slice none 0 0, .slice none 0 0], .agg #[.int .u64 0, .int .i64 0, .slice none 0 0, .slice none 0 0]], []⟩ 8 (by kernel_rfl) (by kernel_rfl) (by kernel_rfl) (by kernel_rfl)) ?_
  intro W base args ds gs before hval0 hW hcnd _
  have hval : ∀ (j : Nat) t v, Try.f6.params[j]? = some t → args[j]? = some v → Value.okWide Try.prog W .any base t v := hval0
  have hW' := hW
  obtain ⟨p, q, hA0, hV, rfl, hfz, hnd⟩ := hW
  have hA : DataW.TrodAll enc Try.prog W 0 (fun _ => true) true Try.f6.params.toList args.toList ds p := hA0
  rw [Try.params6] at hA hval
  obtain ⟨v0, vs0, d0, ds0, p0, q0, hargs, rfl, rfl, h0, r0⟩ := trodAll_cons hA
  obtain ⟨v1, vs1, d1, ds1, p1, q1, rfl, rfl, rfl, h1, r1⟩ := trodAll_cons r0
  obtain ⟨rfl, rfl, rfl⟩ := trodAll_nil r1
  obtain rfl : args = #[v0, v1] := by cases args; simp_all
  obtain ⟨rfl, rfl⟩ := trodVars_none hV
  have k0 := h0
  have lt0 : ∀ x ∈ p0, x.block < W.heap.size := by obtain ⟨m, hm⟩ := k0; exact DataW.trod_lt m _ _ _ hm
  have k1 := h1
  have lt1 : ∀ x ∈ p1, x.block < W.heap.size := by obtain ⟨m, hm⟩ := k1; exact DataW.trod_lt m _ _ _ hm
  obtain ⟨C0, A0, c0, D0, d0, rfl, R0⟩ := Sy.open_cell (hval 0 52 v0 rfl rfl) h0
  obtain ⟨C1, A1, c1, D1, d1, rfl, R1⟩ := Sy.open_cell (hval 1 52 v1 rfl rfl) h1
  clear hA0 hval0
  refine (Sy.lawAggJoins_any W C0 A0 c0 D0 d0 C1 A1 c1 D1 d1 R0 R1).mono fun e W' ⟨he, bel⟩ => ?_
  subst he
  exact ⟨_, rfl, _, _, _, [], _, [], hW', trodAll_mk1 (shut_bool Try.underlying4 _), (trodAll_cons_mk (Below.trod laidOut (by kernel_rfl) (of_decide_eq_true (by kernel_rfl)) k0 bel lt0) (trodAll_cons_mk (Below.trod laidOut (by kernel_rfl) (of_decide_eq_true (by kernel_rfl)) k1 bel lt1) trodAll_mk0)), rfl, bel.frame _, fun h => by cases h⟩

theorem over : Rows.aggJoinsRow.holds Try.pinned (OpenSpec.ofChange Rows.aggJoinsSpec) :=
  OpenClaim.holds_of_wide 6 Try.f6 rfl rfl rfl rfl rfl rfl rfl ⟨rfl, rfl, rfl, rfl, rfl⟩ rfl rfl rfl rfl rfl (by kernel_rfl) Try.func6 (by kernel_rfl)
    (of_decide_eq_true (by kernel_rfl)) (by unfold Func.isWrapper; first | (rw [if_pos (by decide +kernel)]; kernel_rfl) | (rw [if_neg (by decide +kernel)]; exact ⟨rfl, rfl⟩))
    (fun os started H enc _ => lifted os started H enc)

theorem proved : Rows.AggJoinsSaid := over
#print axioms proved
end Go.Proofs.Ytfhmaincnlaapaa.aggJoins
