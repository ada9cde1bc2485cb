/-
  THE WALK of bushellaw25.TreeNodes.
-/
import Derived.Test.YtpnolgghbenekaaLawTreeAsks
import Derived.Test.YtpnolgghbenekaaNodesLaw
import Derived.Test.YtpnolgghbenekaaRefNodesW
import Derived.Test.YtpnolgghbenekaaRefSheets
import Derived.Test.YtpnolgghbenekaaRep
namespace Go.Proofs.Ytpnolgghbenekaa
open Go.ChangeShapes Go.WideShapes Go.ChangeAt Go.RowKit
set_option linter.unusedVariables false

theorem entC_one (l : List (Nat × Int)) : ∀ u ∈ entC l, u.oneCell' = true := by
  intro u hu
  simp only [entC, List.mem_flatMap] at hu
  obtain ⟨x, _, hx⟩ := hu
  simp only [List.mem_cons, List.not_mem_nil, or_false] at hx
  rcases hx with rfl | rfl <;> rfl
theorem entC_app (l m : List (Nat × Int)) : entC (l ++ m) = entC l ++ entC m := by simp [entC]
theorem Drw.below0 {a b : World} (h : Drw a b) : Below a.heap.size a b := by obtain ⟨k, rfl⟩ := h; exact belD (belR a) k
theorem rise_ok (l : List (Nat × Int)) (hr : riseB l = true) (k : Nat) (hk : k < l.length) : 1 ≤ l[k].2 ∧ l[k].2 ≤ 8192 := by
  have := (riseB_iff l).1 hr k hk
  cases k with
  | zero => rw [okAt_zero l hk] at this; simp only [Bool.and_eq_true, decide_eq_true_eq] at this; exact this
  | succ k => rw [okAt_succ l k hk] at this; simp only [Bool.and_eq_true, decide_eq_true_eq] at this; exact this.1
/-- what the nodes read as, one by one -/
theorem groups_read (lv : Nat) (l : List (Nat × Int)) (h1 : 1 ≤ lv) (h2 : lv ≤ 60) (hr : riseB l = true) (hf : ∀ x ∈ l, x.1 < 18446744073709551616) :
    ∃ gs : List (List (Nat × Int)), nodes lv l = gs.map (mkN lv) ∧ gs.flatten = l ∧ (2 ≤ l.length → gs.length < l.length) ∧ ∀ i (hi : i < gs.length), gs[i].length ≤ l.length ∧ rnode (mkN lv gs[i]) = ((lv : Int), gs[i], 0) := by
  obtain ⟨gs, e1, e2, e3, e4⟩ := nodes_groups lv l
  refine ⟨gs, e1, e2, e4, fun i hi => ?_⟩
  have hm : gs[i] ∈ gs := List.getElem_mem hi
  obtain ⟨a, b, hab⟩ : ∃ a b, l = a ++ gs[i] ++ b := by
    refine ⟨(gs.take i).flatten, (gs.drop (i + 1)).flatten, ?_⟩
    rw [← e2, List.append_assoc, ← List.flatten_cons, ← List.drop_eq_getElem_cons hi, ← List.flatten_append, List.take_append_drop]
  refine ⟨by rw [hab]; simp; omega, ?_⟩
  have hrg : riseB gs[i] = true := rise_infix a gs[i] b (by rw [← hab]; exact hr)
  refine rnode_mkN lv gs[i] h1 h2 (e3 _ hm).1 (e3 _ hm).2 (fun x hx => ?_) hrg
  obtain ⟨k, hk, rfl⟩ := List.getElem_of_mem hx
  exact ⟨hf _ (by rw [hab]; simp [hx]), rise_ok _ hrg k hk⟩

set_option maxRecDepth 20000 in
set_option maxHeartbeats 4000000 in
theorem treeNodes_yes (lv : Nat) (A : Option Addr) (n c : Nat) (l : List (Nat × Int)) (w : World) (h1 : 1 ≤ lv) (h2 : lv ≤ 60) (h : Rd w w.heap.size 2 A n (entC l)) (hn : n ≤ 300) (hr : riseB l = true) (hf : ∀ x ∈ l, x.1 < 18446744073709551616) :
    Calls Try.prog 3 #[.int .i64 (lv : Int), .slice A n c] w fun y w' => y = .returned (.bool true) ∧ Below w.heap.size w w' := by
  obtain rfl : n = l.length := h.ent_len
  obtain ⟨gs, e1, e2, e3, e4⟩ := groups_read lv l h1 h2 hr hf
  have hfk : ∀ k (hk : k < l.length), l[k].1 < 18446744073709551616 ∧ 1 ≤ l[k].2 ∧ l[k].2 ≤ 8192 := fun k hk => ⟨hf _ (List.getElem_mem hk), rise_ok l hr k hk⟩
  have hgl : (nodes lv l).length = gs.length := by rw [e1, List.length_map]
  have hgb : gs.length ≤ l.length + 1 := by
    by_cases h2 : 2 ≤ l.length
    · have := e3 h2; omega
    · have := nst_bd lv l; have : (nodes lv l).length ≤ (nst lv l).1.length + 1 := by unfold nodes pend; split <;> simp
      omega
  have hfl : ∀ k, k ≤ gs.length → (gs.take k).flatten.length ≤ 300 := fun k hk => by
    have : (gs.take k).flatten.length + (gs.drop k).flatten.length = l.length := by rw [← List.length_append, ← List.flatten_append, List.take_append_drop, e2]
    omega
  have he := entries_any A l.length c _ l w h (by omega) (Nat.le_refl _)
  have H := Lib.hid h; have HR := Lib.hid hr; have HFK := Lib.hid hfk; have E1 := Lib.hid e1; have E2 := Lib.hid e2; have E4 := Lib.hid e4; have HGL := Lib.hid hgl; have HFL := Lib.hid hfl
  clear h hr hfk e1 e2 e4 hgl hfl hf
  have key : ∀ (b1 : Bool) (hb1 : decide ((2 : Int) ≤ (l.length : Int)) = b1) (hb2 : b1 = true → ¬ l.length ≤ (nodes lv l).length), Calls Try.prog 3 #[.int .i64 (lv : Int), .slice A l.length c] w fun y w' => y = .returned (.bool true) ∧ Below w.heap.size w w' := by
    intro b1 hb1 hb2
    clear e3
    have hb2' : b1 = false ∨ b1 = true ∧ ¬ l.length ≤ (nodes lv l).length := by cases b1; exact .inl rfl; exact .inr ⟨rfl, hb2 rfl⟩
    clear hb2
    rcases hb2' with rfl | ⟨rfl, hb2⟩
    all_goals
      go_enter Try.func3, Try.ntmps3
      go_wp2_with fail
      (with_reducible refine he.mono ?_); rintro y w1 ⟨v1, rfl, ho1, hw1⟩
      obtain ⟨A1, c1, rfl, _, _, _⟩ := own_form ho1
      have r1 := Rd.own ho1
      have hk := nodes_ok w1 lv A l.length c w.heap.size l h1 h2 (H.out.below hw1) (by omega) hw1.size HR.out HFK.out
      have R1 := Lib.hid r1; have HW1 := Lib.hid hw1; clear r1 hw1 ho1
      go_wp2_with fail
      (with_reducible refine hk.mono ?_); rintro y w2 ⟨v2, xs2, rfl, ho2, hs2, hw2⟩
      obtain ⟨A2, c2, rfl, _, _, _⟩ := own_form ho2
      have hm := may_any A1 l.length c1 w1.heap.size l w2 (R1.out.below hw2) (by omega)
      rw [HR.out] at hm
      have HW2 := Lib.hid (belT HW1.out hw2); have R1b := Lib.hid (R1.out.below hw2); have HZ2 := Lib.hid hw2.size; have R2 := Lib.hid (Rd.own ho2); have S2 := Lib.hid hs2; clear hs2 ho2 hw2 hk he R1
      go_wp2_with fail
      (with_reducible refine hm.mono ?_); rintro y w3 ⟨rfl, j3, rfl⟩
      have hz2 := HZ2.out
      have hrn := refNodes_any (w2.drewN j3) lv A1 l.length c1 w1.heap.size l h1 h2 (R1b.out.drewN j3) (by omega) hz2 HFK.out
      go_wp2_with fail
      clear hm
      (with_reducible refine hrn.mono ?_); rintro y w4 ⟨v4, xs4, rfl, ho4, hs4, hw4⟩
      obtain ⟨A4, c4, rfl, _, _, _⟩ := own_form ho4
      have hw4' : Below w2.heap.size w2 w4 := (belD (belR w2) j3).trans hw4
      have r2 := R2.out.below hw4'
      have s2 := S2.out.keep hw4' (Nat.le_refl _)
      have hsh := sheets_any A2 A4 c2 c4 _ _ _ _ (nodes lv l) xs2 xs4 w4 r2 s2 (Rd.own ho4) hs4 (by rw [HGL.out]; omega)
      have HSH := Lib.hid hsh; have R2b := Lib.hid r2; have S2b := Lib.hid s2; have HW4 := Lib.hid (belT HW2.out hw4'); have HZ4 := Lib.hid hw4'.size; have R1c := Lib.hid (R1b.out.below (hw4'.mono hz2))
      clear hsh r2 s2 hw4 hw4' ho4 hs4 hrn R2 S2 R1b
      go_wp2_with (go_at_call 14; (with_reducible refine HSH.out.mono ?_); rintro y w5 ⟨rfl, j5, rfl⟩)
      clear hb1
      go_loopw [8, 9] (fun v8 i wr => ∃ k : Nat, k ≤ gs.length ∧ i = .int .i64 (k : Int) ∧ wr.ownsRow w4.heap.size 45 2 v8 (gs.take k).flatten.length (entC (gs.take k).flatten) ∧ Below w4.heap.size w4 wr) (fun _ i _ => gs.length - (intOf i).toNat)
      case atStart => exact ⟨0, by omega, rfl, World.ownsRow_nil _ _ _ 2, belD (belR _) _⟩
      case round =>
        obtain ⟨k, hk, rfl, ho, hb⟩ := hrel
        by_cases hlt : k < gs.length
        · have hgl := HGL.out
          obtain ⟨a, Ad, cd, rfl, hab, x0, x1, x2, x3, hR, hd1, hd2⟩ := ((R2b.out.below (hb.mono HZ4.out)).sht (S2b.out.keep (hb.mono HZ4.out) (Nat.le_refl _)) k (by omega))
          obtain ⟨g1, g2⟩ := E4.out k hlt
          have hek : (nodes lv l)[k]'(by omega) = mkN lv gs[k] := by simp only [E1.out, List.getElem_map]
          have hz4 := hb.size
          have hfk := HFL.out (k + 1) (by omega)
          have hst : (gs.take (k + 1)).flatten = (gs.take k).flatten ++ gs[k] := by rw [List.take_succ_eq_append_getElem hlt, List.flatten_append]; simp
          rw [hst, List.length_append] at hfk
          rw [hek] at x0 x1 x2 x3 hR hd1
          have hrd := readNode_any wr (mkN lv gs[k]) Ad cd (hR.more (by have := HZ4.out; omega)) (by have := (encG_len gs[k]).2; unfold mkN; simp only; omega)
          rw [g2] at hrd
          simp only at hrd
          simp only [mkN] at x0 x1 x2 x3 hrd
          have q1 : (0 : Int) ≤ (k : Int) := by omega
          have q2 : (k : Int) < ((nodes lv l).length : Int) := by omega
          rw [show ((0 : Nat) : Int) = 0 from rfl] at hrd
          have hst2 : (gs.take (k + 1)).flatten.length = (gs.take k).flatten.length + gs[k].length := by rw [hst, List.length_append]
          have hgk : ∃ g, gs[k] = g := ⟨_, rfl⟩
          obtain ⟨g, hgk⟩ := hgk
          rw [hgk] at hrd x1 x3 hst hst2 hfk
          generalize hD : (g.flatMap encE).length = D at *
          generalize hL8 : (gs.take k).flatten.length = L8 at *
          generalize hG : g.length = Lk at *
          have HRD := Lib.hid hrd; have HST := Lib.hid hst; have HST2 := Lib.hid hst2; have HO := Lib.hid ho; have HGK := Lib.hid hgk; have HD := Lib.hid hD; have HL8 := Lib.hid hL8; have HG := Lib.hid hG
          clear hrd hst hst2 ho hek g2 hR hgl hgk hD hL8 hG
          obtain ⟨A8, c8, rfl, _, _, _⟩ := own_form HO.out
          go_wp2_with fail
          (with_reducible refine HRD.out.mono ?_); rintro y w6 ⟨v6, rfl, ho6, hb6⟩
          obtain ⟨A6, c6, rfl, _, _, _⟩ := own_form ho6
          have hen := entries_any A6 Lk c6 _ g w6 (Rd.own ho6) (by omega) (Nat.le_refl _)
          rw [HG.out] at hen
          have HEN := Lib.hid hen; have HB6 := Lib.hid hb6; have HO6 := Lib.hid (own_below HO.out hb6 (Nat.le_refl _)); clear hen hb6 ho6
          go_wp2_with (first
            | (go_at_call 11; (with_reducible refine HEN.out.mono ?_); rintro y w7 ⟨v7, rfl, ho7, hb7⟩; obtain ⟨A7, c7, rfl, _, _, _⟩ := own_form ho7; have R7 := Lib.hid (Rd.own ho7); have HB7 := Lib.hid hb7; have HO7 := Lib.hid (own_below HO6.out hb7 (Nat.le_refl _)); have hz7 := hb7.size; have hz6 := HB6.out.size; clear ho7 hb7)
            | (at_builtin; (refine wpList_appS _ rfl (.tmp 98) (.tmp 100) 24 rfl w4.heap.size 45 (.agg #[.int .u64 0, .int .i64 0]) 2 16 info_ent25 rfl (by decide) Try.underlying24 (.slice A8 L8 c8) L8 (entC (gs.take k).flatten) HO7.out ?_ _ A7 Lk c7 (entC g) R7.out ?_ (entC_one _) ?_ ?_ ?_ ?_); rfl; rfl; omega; omega; omega; intro v9 w9 ho9 hap9; have hb9 := hap9.below (B := w4.heap.size) (by omega) HO7.out; have HO9 := Lib.hid ho9; have HB9 := Lib.hid hb9; clear ho9 hb9 hap9))
          go_roundw
          case rel => exact ⟨k + 1, by omega, by go_num, by rw [HST2.out, HST.out, entC_app]; exact HO9.out, (belT (belT hb HB6.out) HB7.out).trans HB9.out⟩
          case measure => simp [intOf]; omega
        · obtain rfl : k = gs.length := by omega
          rw [List.take_length, E2.out] at ho
          obtain ⟨A8, c8, rfl, _, _, _⟩ := own_form ho
          have hsm := same_any A8 A1 l.length c8 l.length c1 wr.heap.size l l wr (Rd.own ho) ((R1c.out.below (hb.mono (by have := HZ4.out; omega))).more (by have := hb.size; have := HZ4.out; omega)) (by omega) (by omega)
          rw [sameB_self] at hsm
          have hw4 := HW4.out
          have hgl := HGL.out
          have q2 : ¬ (gs.length : Int) < ((nodes lv l).length : Int) := by omega
          have HSM := Lib.hid hsm; have HBW := Lib.hid (belT hw4 hb); clear ho hsm hw4 hgl
          go_wp2_with (first | (go_at_call 17; (with_reducible refine HSM.out.mono ?_); rintro y w6 ⟨rfl, j6, rfl⟩) | (go_at_call 10; (with_reducible refine (awake25_any _).mono ?_); rintro y w7 ⟨rfl, hb7⟩))
          go_ret
          exact ⟨rfl, belT (belD HBW.out j6) hb7⟩
  by_cases hl2 : 2 ≤ l.length
  · exact key true (decide_eq_true (by omega)) (fun _ => by have := e3 hl2; rw [HGL.out]; omega)
  · exact key false (decide_eq_false (by omega)) (fun h => by cases h)

/-- entries as an argument reads them -/
def entR : Rp (Int × Int) := Rp.two Prod.fst Prod.snd (Rp.val (Value.int .u64) (fun z => (Lit.int .u64 z).wf = true) (fun _ => rfl)) (Rp.val (Value.int .i64) (fun z => (Lit.int .i64 z).wf = true) (fun _ => rfl))
theorem entR_chunk {w : World} {B : Nat} {l : List (Int × Int)} {xs : List Value} (h : Chunk entR w B l xs) : ∃ m : List (Nat × Int), m.length = l.length ∧ xs = entC m ∧ ∀ x ∈ m, x.1 < 18446744073709551616 := by
  induction l generalizing xs with
  | nil => cases h; exact ⟨[], rfl, rfl, fun x hx => by cases hx⟩
  | cons x l ih =>
    obtain ⟨c, rest, rfl, ⟨c1, c2, rfl, ⟨rfl, h1⟩, rfl, h2⟩, h3⟩ := h
    obtain ⟨m, e1, rfl, e3⟩ := ih h3
    have hb := bounds_u64 h1
    refine ⟨(x.1.toNat, x.2) :: m, by simp [e1], ?_, fun y hy => ?_⟩
    · show _ = [Value.int .u64 ((x.1.toNat : Nat) : Int), Value.int .i64 x.2] ++ entC m
      rw [show ((x.1.toNat : Nat) : Int) = x.1 from by omega]; rfl
    · rcases List.mem_cons.1 hy with rfl | hy
      · simp only; omega
      · exact e3 y hy
theorem opens_ent : Opens Try.prog 102 entR :=
  opens_two Try.underlying102 rfl rfl (by kernel_rfl) (by kernel_rfl) (by kernel_rfl) (opens_int Try.underlying35 _) (opens_int Try.underlying3 _) Prod.mk (fun _ _ => rfl) (fun _ _ => rfl)
theorem SlR.ent {w : World} {B : Nat} {l : List (Int × Int)} {A : Option Addr} {c : Nat} (h : SlR entR w B l A c) : ∃ m : List (Nat × Int), Rd w B 2 A l.length (entC m) ∧ ∀ x ∈ m, x.1 < 18446744073709551616 := by
  obtain ⟨_, _, xs, h1, h2⟩ := h
  obtain ⟨m, e1, rfl, e3⟩ := entR_chunk h2
  exact ⟨m, h1, e3⟩

set_option maxRecDepth 20000 in
set_option maxHeartbeats 2000000 in
theorem treeNodes_any (level : Int) (A : Option Addr) (n c : Nat) (l : List (Nat × Int)) (w : World) (h : Rd w w.heap.size 2 A n (entC l)) (hf : ∀ x ∈ l, x.1 < 18446744073709551616) :
    Calls Try.prog 3 #[.int .i64 level, .slice A n c] w fun y w' => y = .returned (.bool true) ∧ Below w.heap.size w w' := by
  obtain rfl : n = l.length := h.ent_len
  by_cases hn : l.length ≤ 300
  · have he := entries_any A l.length c _ l w h (by omega) (Nat.le_refl _)
    by_cases hlv : 1 ≤ level ∧ level ≤ 60
    · obtain ⟨lv, rfl⟩ := Int.eq_ofNat_of_zero_le (show 0 ≤ level by omega)
      cases hr : riseB l with
      | true => exact treeNodes_yes lv A l.length c l w (by omega) (by omega) h hn hr hf
      | false =>
        obtain ⟨h1, h2⟩ := hlv
        have H := Lib.hid h; have HR := Lib.hid hr; clear h hr
        go_enter Try.func3, Try.ntmps3
        go_wp2_with fail
        (with_reducible refine he.mono ?_); rintro y w1 ⟨v1, rfl, ho1, hw1⟩
        obtain ⟨A1, c1, rfl, _, _, _⟩ := own_form ho1
        have hk := nodes_form w1 (lv : Int) A l.length c w.heap.size l h1 h2 (H.out.below hw1) (by omega) hw1.size HR.out
        have R1 := Lib.hid (Rd.own ho1); have HW1 := Lib.hid hw1; clear hw1 ho1
        go_wp2_with fail
        (with_reducible refine hk.mono ?_); rintro y w2 ⟨rfl, hw2⟩
        have hm := may_any A1 l.length c1 w1.heap.size l w2 (R1.out.below hw2) (by omega)
        rw [HR.out] at hm
        have HM := Lib.hid hm; have HW2 := Lib.hid (belT HW1.out hw2); clear hm hw2 hk he
        go_wp2_with (first | (go_at_call 13; (with_reducible refine HM.out.mono ?_); rintro y w3 ⟨rfl, j3, rfl⟩) | (go_at_call 10; (with_reducible refine (awake25_any _).mono ?_); rintro y w7 ⟨rfl, hb7⟩))
        go_ret
        exact ⟨rfl, belT (belD HW2.out j3) hb7⟩
    · have hlv' : level < 1 ∨ 60 < level := by omega
      have key : ∀ b1 b2 : Bool, decide (level < 1) = b1 → decide (60 < level) = b2 → (b1 || b2) = true → Calls Try.prog 3 #[.int .i64 level, .slice A l.length c] w fun y w' => y = .returned (.bool true) ∧ Below w.heap.size w w' := by
        intro b1 b2 hb1 hb2 hb3
        have hk := fun W => nodes_range W level A l.length c hlv'
        have HK := Lib.hid hk; have H := Lib.hid h; clear hk h hlv hlv'
        cases b1 <;> cases b2 <;> first | (exfalso; revert hb3; decide) | skip
        all_goals
          clear hb3
          go_enter Try.func3, Try.ntmps3
          go_wp2_with fail
          (with_reducible refine he.mono ?_); rintro y w1 ⟨v1, rfl, ho1, hw1⟩
          obtain ⟨A1, c1, rfl, _, _, _⟩ := own_form ho1
          have HW1 := Lib.hid hw1; clear hw1 ho1
          go_wp2_with (first | (go_at_call 12; (with_reducible refine (HK.out _).mono ?_); rintro y w2 ⟨rfl, rfl⟩) | (go_at_call 10; (with_reducible refine (awake25_any _).mono ?_); rintro y w7 ⟨rfl, hb7⟩))
          go_ret
          exact ⟨rfl, belT HW1.out hb7⟩
      exact key _ _ rfl rfl (by rcases hlv' with h | h <;> simp [h])
  · have hn' : 300 < l.length := by omega
    have H := Lib.hid h; clear h
    go_enter Try.func3, Try.ntmps3
    go_wp2_with (go_at_call 10; (with_reducible refine (awake25_any _).mono ?_); rintro y w7 ⟨rfl, hb7⟩)
    go_ret
    exact ⟨rfl, hb7⟩
end Go.Proofs.Ytpnolgghbenekaa
