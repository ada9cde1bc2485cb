/-
  bushelref39.Pages.
  bushelref25.Leaves.
  LEAVES, one cell more, without the program.
  space.Pages.
  HOW MANY PAGES A TREE HAS, without the program.
  bushellaw25.awake: the chapter's example holds.
  bushellaw25.entries, same; tree.Seek.
  bushelref25.ReadNode.
  THE DOCUMENT's READER: U, End.
  tree.ReadNode.
-/
import Derived.Deep.DeepCutAuto
import Derived.Laws.OwnMore
import Derived.Deep.CutBlock
import Derived.Test.YtfhmaincnlaapaaGreatTlRefRead
import Derived.Test.YtfhmaincnlaapaaGreatTlReadPure
import Derived.Test.YtfhmaincnlaapaaGreatTlRefNodesW
import Derived.Test.YtfhmaincnlaapaaGreatTlRefKeys
import Derived.Test.YtfhmaincnlaapaaGreatTlRefPutC
namespace Go.Proofs.YtfhmaincnlaapaaGreat
open Go.ChangeShapes Go.WideShapes Go.ChangeAt Go.RowKit
set_option linter.unusedVariables false

theorem inUmax_any (w : World) (g : Nat) (t : List UInt8) (p e : Nat) (h : InS w g t p e) :
    Calls Tryz.prog 41 #[.pointer (some ⟨g, 0, none⟩), .int .u64 18446744073709551615] w
      fun y w' => y = .returned (.int .u64 ((inU t p e umax).1 : Int)) ∧ InS w' g t (inU t p e umax).2.1 (inU t p e umax).2.2 ∧ Only g w w' := inU_any w g t p e umax h
theorem inU8k_any (w : World) (g : Nat) (t : List UInt8) (p e : Nat) (h : InS w g t p e) :
    Calls Tryz.prog 41 #[.pointer (some ⟨g, 0, none⟩), .int .u64 8192] w
      fun y w' => y = .returned (.int .u64 ((inU t p e 8192).1 : Int)) ∧ InS w' g t (inU t p e 8192).2.1 (inU t p e 8192).2.2 ∧ Only g w w' := inU_any w g t p e 8192 h

theorem headB_cases (k : Int) (a b : Nat) (h : headB k a b = false) : k ≠ 4 ∨ a < 1 ∨ (1001 < a ∧ 1 ≤ a) ∨ (b < 1 ∧ 1 ≤ a ∧ a ≤ 1001) ∨ (60 < b ∧ 1 ≤ b ∧ 1 ≤ a ∧ a ≤ 1001) := by
  unfold headB at h
  simp only [Bool.and_eq_false_iff, decide_eq_false_iff_not] at h
  omega
theorem headB_true (k : Int) (a b : Nat) (h : headB k a b = true) : k = 4 ∧ 1 ≤ a ∧ a ≤ 1001 ∧ 1 ≤ b ∧ b ≤ 60 := by
  unfold headB at h
  simp only [Bool.and_eq_true, decide_eq_true_eq] at h
  omega

set_option maxHeartbeats 1000000 in
theorem readNode_head (w : World) (s : Sht) (A : Option Addr) (c : Nat) (h : headB s.k s.a s.b = false) :
    Calls Tryz.prog 55 #[.agg #[.int .i64 s.k, .int .u64 (s.a : Int), .int .u64 (s.b : Int), .slice A s.d.length c]] w fun y w' => y = .returned (.tuple #[.int .i64 0, .slice none 0 0, .int .i64 6]) ∧ Below w.heap.size w w' := by
  obtain ⟨k, a, b, d⟩ := s
  simp only at h ⊢
  have hc := headB_cases k a b h
  have HH := Lib.hid h; clear h
  have r0 := room_any
  by_cases h1 : k = 4
  · subst h1
    by_cases h2 : a < 1
    · obtain rfl : a = 0 := by omega
      clear hc h2
      go_enter Tryz.func55, Tryz.ntmps55
      go_wp2
      go_quiet (fail)
      go_wp2
      go_ret3
      exact ⟨rfl, belD (belA (belR w) _) _⟩
    · have t2 : decide ((a : Int) < 1) = false := decide_eq_false (by omega)
      by_cases h3 : 1001 < a
      · have t3 : decide ((1001 : Int) < (a : Int)) = true := decide_eq_true (by omega)
        have H2 := Lib.hid h2; have H3 := Lib.hid h3; have HC := Lib.hid hc; clear h2 h3 hc
        go_enter Tryz.func55, Tryz.ntmps55
        go_wp2
        go_quiet ((go_at_call 58; exact qcallS (room_any _)))
        go_wp2
        go_ret3
        exact ⟨rfl, belD (belA (belR w) _) _⟩
      · have t3 : decide ((1001 : Int) < (a : Int)) = false := decide_eq_false (by omega)
        by_cases h4 : b < 1
        · obtain rfl : b = 0 := by omega
          have H2 := Lib.hid h2; have H3 := Lib.hid h3; have HC := Lib.hid hc; clear h2 h3 hc h4
          go_enter Tryz.func55, Tryz.ntmps55
          go_wp2
          go_quiet ((go_at_call 58; exact qcallS (room_any _)))
          go_wp2
          go_ret3
          exact ⟨rfl, belD (belA (belR w) _) _⟩
        · have t4 : decide ((b : Int) < 1) = false := decide_eq_false (by omega)
          have t5 : decide ((60 : Int) < (b : Int)) = true := decide_eq_true (by omega)
          have H2 := Lib.hid h2; have H3 := Lib.hid h3; have H4 := Lib.hid h4; have HC := Lib.hid hc; clear h2 h3 h4 hc
          go_enter Tryz.func55, Tryz.ntmps55
          go_wp2
          go_quiet ((go_at_call 58; exact qcallS (room_any _)))
          go_wp2
          go_ret3
          exact ⟨rfl, belD (belA (belR w) _) _⟩
  · have t1 : ((k : Int) != 4) = true := by rw [bne_iff_ne]; exact h1
    have H1 := Lib.hid h1; have HC := Lib.hid hc; clear h1 hc
    go_enter Tryz.func55, Tryz.ntmps55
    go_wp2
    go_quiet (fail)
    go_wp2
    go_ret3
    exact ⟨rfl, belD (belA (belR w) _) _⟩

theorem new_at {w w' : World} {z j : Nat} {T : TypeId} {cs : Array Value} (h : w.heap.size = z) (hw : w' = (w.alloc (.cells cs T)).drewN j := by rfl) : Blk w' z T cs := by subst h hw; exact (Blk.new _ _ _).drewN j
theorem rst_succ (t : List UInt8) (k : Nat) : rst t (k + 1) = rstep t (rst t k) := rfl
set_option maxRecDepth 20000 in
set_option maxHeartbeats 2000000 in
theorem readNode_body (w : World) (a b : Nat) (d : List UInt8) (A : Option Addr) (c : Nat) (h : headB 4 a b = true) (hR : Rd w w.heap.size 1 A d.length (u8s d)) (hd : d.length ≤ 1000000) :
    Calls Tryz.prog 55 #[.agg #[.int .i64 4, .int .u64 (a : Int), .int .u64 (b : Int), .slice A d.length c]] w fun y w' =>
      ∃ v, y = .returned (.tuple #[.int .i64 (rnode ⟨4, a, b, d⟩).1, v, .int .i64 ((rnode ⟨4, a, b, d⟩).2.2 : Int)]) ∧ w'.ownsRow w.heap.size 112 2 v (rnode ⟨4, a, b, d⟩).2.1.length (entC (rnode ⟨4, a, b, d⟩).2.1) ∧ Below w.heap.size w w' := by
  obtain ⟨_, ha1, ha2, hb1, hb2⟩ := headB_true _ _ _ h
  have hearly := fun k hk he => rnode_early ⟨4, a, b, d⟩ k h hk he
  have hlast : ∀ e q acc, rst d a = (q, e, acc) → e = 0 → endE d q 0 ≠ 0 → rnode ⟨4, a, b, d⟩ = (0, [], endE d q 0) := fun e q acc h1 h2 h3 => by
    subst h2; unfold rnode; simp only; rw [if_neg (by rw [h]; simp), h1]; simp only; rw [if_pos h3]
  have hform : ∀ e q acc, rst d a = (q, e, acc) → e = 0 → endE d q 0 = 0 → riseB acc = false → rnode ⟨4, a, b, d⟩ = (0, [], 6) := fun e q acc h1 h2 h3 h4 => by
    subst h2; unfold rnode; simp only; rw [if_neg (by rw [h]; simp), h1]; simp only; rw [if_neg (by rw [h3]; simp), if_pos h4]
  have hgood : ∀ e q acc, rst d a = (q, e, acc) → e = 0 → endE d q 0 = 0 → riseB acc = true → rnode ⟨4, a, b, d⟩ = ((b : Int), acc, 0) := fun e q acc h1 h2 h3 h4 => by
    subst h2; unfold rnode; simp only; rw [if_neg (by rw [h]; simp), h1]; simp only; rw [if_neg (by rw [h3]; simp), if_neg (by rw [h4]; simp)]
  simp only at hearly
  generalize rnode ⟨4, a, b, d⟩ = res at *
  have t2 : decide ((a : Int) < 1) = false := decide_eq_false (by omega)
  have t3 : decide ((1001 : Int) < (a : Int)) = false := decide_eq_false (by omega)
  have t4 : decide ((b : Int) < 1) = false := decide_eq_false (by omega)
  have t5 : decide ((60 : Int) < (b : Int)) = false := decide_eq_false (by omega)
  have HE := Lib.hid hearly; have HLA := Lib.hid hlast; have HFO := Lib.hid hform; have HGO := Lib.hid hgood; have HH := Lib.hid h; have HR := Lib.hid hR; clear hearly hlast hform hgood h hR
  go_enter Tryz.func55, Tryz.ntmps55
  go_wp2
  go_quiet ((go_at_call 58; exact qcallS (room_any _)))
  have hbx := fun q => belD (belA (belR w) (.cells #[.int .i64 4, .int .u64 (a : Int), .int .u64 (b : Int), .slice A d.length c] 42)) q
  have hni := fun q => newIn_any ((w.alloc (.cells #[.int .i64 4, .int .u64 (a : Int), .int .u64 (b : Int), .slice A d.length c] 42)).drewN q) A d.length c d ((HR.out.keep fun p hp => (hbx q).cell hp).more (by simp)) hd
  have HBX := Lib.hid hbx; have HNI := Lib.hid hni; clear hbx hni
  go_wp2_with fail
  (with_reducible refine (HNI.out _).mono ?_); rintro y w1 ⟨g, rfl, hg, hin, hb1'⟩
  have hx := ((Blk.new w 42 #[.int .i64 4, .int .u64 (a : Int), .int .u64 (b : Int), .slice A d.length c]).drewN nq).below hb1' (by simp)
  have x1 := hx.cell 1; have x2 := hx.cell 2
  simp at x1 x2
  have hgw : w.heap.size + 1 ≤ g := by simpa using hg
  have hbw1 : Below w.heap.size w w1 := belT (HBX.out nq) hb1'
  have HIN := Lib.hid hin; have HX := Lib.hid hx; have HB1 := Lib.hid hb1'; have HBW1 := Lib.hid hbw1; clear hin hx hb1' hbw1 hg
  go_wp2
  go_loopw [6, 41] (fun ov i wr => ∃ k q acc, k ≤ a ∧ i = .int .u64 (k : Int) ∧ rst d k = (q, 0, acc) ∧ InS wr g d q 0 ∧ wr.ownsRow (g + 1) 112 2 ov k (entC acc) ∧ Below w.heap.size w wr ∧ Blk wr w.heap.size 42 #[.int .i64 4, .int .u64 (a : Int), .int .u64 (b : Int), .slice A d.length c]) (fun _ i _ => a - (intOf i).toNat)
  case atStart => exact ⟨0, 0, [], by omega, rfl, rfl, HIN.out, World.ownsRow_nil _ _ _ 2, HBW1.out, HX.out⟩
  case round =>
    obtain ⟨k, q, acc, hk, rfl, hst, hin, ho, hb, hX⟩ := hrel
    have hgl := hin.lt
    have hlen : acc.length = k := by have := rst_len d k; rw [hst] at this; exact this
    have hst1 := rst_succ d k
    rw [hst] at hst1
    obtain ⟨A0, c0, rfl, _, _, _⟩ := own_form ho
    have HO := Lib.hid ho; have HST := Lib.hid hst; have HX1 := Lib.hid hX; clear ho hst hX
    by_cases hlt : k < a
    · have hu1 := inUmax_any wr g d q 0 hin
      have er : rx d (q, 0, acc) = inU d q 0 umax := rfl
      have ey : ry d (q, 0, acc) = inU d (inU d q 0 umax).2.1 (inU d q 0 umax).2.2 8192 := rfl
      unfold rstep at hst1
      rw [er, ey] at hst1
      generalize inU d q 0 umax = r1 at *
      obtain ⟨x, q1, e1⟩ := r1
      simp only at hu1 hst1
      have hy8 := inU_lt d q1 e1 8192
      have hu2 := fun W hW => inU8k_any W g d q1 e1 hW
      generalize inU d q1 e1 8192 = r2 at *
      obtain ⟨y, q2, e2⟩ := r2
      simp only at hu2 hst1 hy8
      have HU1 := Lib.hid hu1; have HU2 := Lib.hid hu2; have HST1 := Lib.hid hst1; have HER := Lib.hid er; have HEY := Lib.hid ey; have HIN1 := Lib.hid hin; have HLEN := Lib.hid hlen; clear hu1 hu2 hst1 er ey hin hlen
      go_wp2_with fail
      (with_reducible refine HU1.out.mono ?_); rintro z w2 ⟨rfl, hi2, hon2⟩
      have hz2 := hon2.size
      have hB2 : Below (g + 1) (w2) (w2.alloc (.cells #[.int .u64 (x : Int), .int .i64 0] 112)) := (Below.refl _ _).alloc (by omega) _
      have HI2 := Lib.hid (hi2.below hB2 (by omega)); have HON2 := Lib.hid hon2; clear hi2 hB2
      go_wp2_with fail
      (with_reducible refine (HU2.out _ HI2.out).mono ?_); rintro z w3 ⟨rfl, hi3, hon3⟩
      have hyb := hon3.blk (Blk.new w2 112 #[.int .u64 (x : Int), .int .i64 0]) (by omega)
      have hz3 := hon3.size
      have y0 := hyb.cell 0; have y1 := hyb.cell 1; have f1 := hyb.frozen 1
      simp at y0 y1 hz3
      have hb3 : Below w2.heap.size w3 (w3.setCell ⟨w2.heap.size, 1, none⟩ (.int .i64 (y : Int))) := (Below.refl w2.heap.size w3).setCell (p := ⟨w2.heap.size, 1, none⟩) (Nat.le_refl _) _
      have hft := fault_any _ g d q2 e2 (hi3.below hb3 (by omega))
      have HFT := Lib.hid hft; have HI3 := Lib.hid (hi3.below hb3 (by omega)); have HON3 := Lib.hid hon3; have HYB := Lib.hid hyb; have HB3 := Lib.hid hb3; clear hft hi3 hon3 hyb hb3
      have hne2 : (Value.slice A0 k c0).ownBlock ≠ some g := fun e => by have := (HO.out.lt g e).1; omega
      have o2 := HON2.out.own HO.out hne2
      have o3 := HON3.out.own (o2.alloc (.cells #[.int .u64 (x : Int), .int .i64 0] 112)) hne2
      have o4 := (Only.set1 w3 w2.heap.size 1 (.int .i64 (y : Int))).own o3 (fun e => by have := (o2.lt _ e).2; omega)
      have hX2 := HON2.out.blk HX1.out (by omega)
      have hX3 := HON3.out.blk (hX2.alloc (.cells #[.int .u64 (x : Int), .int .i64 0] 112)) (by omega)
      have hX4 := hX3.far (p := ⟨w2.heap.size, 1, none⟩) (by simp only; omega) (.int .i64 (y : Int))
      have hbw4 : Below w.heap.size w (w3.setCell ⟨w2.heap.size, 1, none⟩ (.int .i64 (y : Int))) :=
        (((hb.trans (HON2.out.below (by omega) hb.size)).alloc (by have := hb.size; omega) _).trans (HON3.out.below (by omega) (by have := hb.size; simp; omega))).setCell (by have := hb.size; simp only; omega) _
      have hyb4 := HYB.out.set_ 1 (.int .i64 (y : Int))
      simp at hyb4
      have O4 := Lib.hid o4; have X4 := Lib.hid hX4; have BW4 := Lib.hid hbw4; have YB4 := Lib.hid hyb4; have NE2 := Lib.hid hne2; clear o2 o3 o4 hX2 hX3 hX4 hbw4 hyb4 hne2
      go_wp2_with fail
      (with_reducible refine HFT.out.mono ?_); rintro z w4 ⟨rfl, j4, rfl⟩
      by_cases he2 : e2 = 0
      · subst he2
        have hz4 : (w3.setCell ⟨w2.heap.size, 1, none⟩ (.int .i64 (y : Int))).heap.size = w3.heap.size := by simp
        have HZ4 := Lib.hid hz4; clear hz4
        go_wp2_with (at_builtin; refine wpList_appB rfl [.int .u64 (x : Int), .int .i64 (y : Int)] 2 rfl (by decide) (by simp [Value.oneCell']) _ _ 113 rfl (g + 1) 112 _ 16 info_ent rfl Tryz.underlying113 _ _ _ (own_drewN (O4.out.alloc (.cells #[.int .u64 (x : Int), .int .i64 (y : Int)] 112)) j4) w3.heap.size (new_at (j := j4) HZ4.out) rfl rfl ?_ ?_ ?_ ?_; omega; omega; (simp; omega); intro v5 w5 ho5 hap5; obtain ⟨A5, c5, rfl, _, _, _⟩ := own_form ho5)
        have hg1 : g + 1 ≤ ((w3.setCell ⟨w2.heap.size, 1, none⟩ (.int .i64 (y : Int))).alloc (.cells #[.int .u64 (x : Int), .int .i64 (y : Int)] 112)).heap.size := by simp; omega
        have hb5 : Below (g + 1) _ w5 := hap5.below hg1 (own_drewN (O4.out.alloc _) j4)
        go_roundw
        case rel =>
          refine ⟨k + 1, q2, acc ++ [(x, (y : Int))], by omega, by go_num, HST1.out, ?_, by rw [← entC_snoc]; exact ho5, ?_, ?_⟩
          · exact ((HI3.out.below (below_drewN ((Below.refl (g + 1) _).alloc (by simp; omega) _) j4) (by omega)).below hb5 (by omega))
          · exact (below_drewN (BW4.out.alloc BW4.out.size _) j4).trans (hb5.mono (by omega))
          · exact hap5.blk ((X4.out.alloc _).drewN j4) (fun e => by have := (O4.out.lt _ e).1; omega)
        case measure => simp [intOf]; omega
      · have hres := HE.out (k + 1) (by omega) (by rw [HST1.out]; exact he2)
        rw [HST1.out] at hres
        have t9 : ((e2 : Int) != 0) = true := by rw [bne_iff_ne]; omega
        have HRES := Lib.hid hres; have HE2 := Lib.hid he2; clear hres he2
        go_wp2
        go_ret3
        exact ⟨.slice none 0 0, by rw [HRES.out]; rfl, by rw [HRES.out]; exact World.ownsRow_nil _ _ _ 2, below_drewN BW4.out j4⟩
    · obtain rfl : k = a := by omega
      have hend := end_any wr g d q 0 hin
      have hla := HLA.out 0 q acc HST.out rfl
      have hfo := HFO.out 0 q acc HST.out rfl
      have hgo := HGO.out 0 q acc HST.out rfl
      have hne2 : (Value.slice A0 k c0).ownBlock ≠ some g := fun e => by have := (HO.out.lt g e).1; omega
      have hzb := hb.size
      generalize endE d q 0 = en at *
      have HEND := Lib.hid hend; have HLA2 := Lib.hid hla; have HFO2 := Lib.hid hfo; have HGO2 := Lib.hid hgo; have NE2 := Lib.hid hne2; have HLEN := Lib.hid hlen; have HST1 := Lib.hid hst1; clear hend hla hfo hgo hne2 hin hlen hst1
      go_wp2_with fail
      (with_reducible refine HEND.out.mono ?_); rintro z w2 ⟨rfl, hi2, hon2⟩
      have o2 := hon2.own HO.out NE2.out
      have hX2 := hon2.blk HX1.out (by omega)
      have hbw2 := hb.trans (hon2.below (by omega) hzb)
      have hri := rising_any A0 k c0 _ acc w2 (Rd.own o2) (by omega) (Nat.le_refl _)
      have O2 := Lib.hid o2; have X2 := Lib.hid hX2; have BW2 := Lib.hid hbw2; have HRI := Lib.hid hri; have HON2 := Lib.hid hon2; clear o2 hX2 hbw2 hi2 hri hon2
      by_cases hen : en = 0
      · subst hen
        cases hr : riseB acc with
        | true =>
          have hres := HGO2.out rfl hr
          have hri := HRI.out
          rw [hr] at hri
          have HRES := Lib.hid hres; have HR2 := Lib.hid hri; have HRR := Lib.hid hr; clear hres hri hr
          go_wp2_with fail
          (with_reducible refine HR2.out.mono ?_); rintro z w3 ⟨rfl, hb3⟩
          have x2 := (X2.out.below hb3 X2.out.lt).cell 2
          simp at x2
          have HB3 := Lib.hid hb3; clear hb3
          go_wp2
          go_ret3
          exact ⟨.slice A0 k c0, by rw [HRES.out]; rfl, by rw [HRES.out]; simp only; rw [HLEN.out]; exact own_mono (own_below O2.out HB3.out (Nat.le_refl _)) (by omega), belT BW2.out (by exact HB3.out)⟩
        | false =>
          have hres := HFO2.out rfl hr
          have hri := HRI.out
          rw [hr] at hri
          have HRES := Lib.hid hres; have HR2 := Lib.hid hri; have HRR := Lib.hid hr; clear hres hri hr
          go_wp2_with fail
          (with_reducible refine HR2.out.mono ?_); rintro z w3 ⟨rfl, hb3⟩
          have HB3 := Lib.hid hb3; clear hb3
          go_wp2
          go_ret3
          exact ⟨.slice none 0 0, by rw [HRES.out]; rfl, by rw [HRES.out]; exact World.ownsRow_nil _ _ _ 2, belT BW2.out (by exact HB3.out)⟩
      · have hres := HLA2.out hen
        have t9 : ((en : Int) != 0) = true := by rw [bne_iff_ne]; omega
        have HRES := Lib.hid hres; have HE2 := Lib.hid hen; clear hres hen
        go_wp2
        go_ret3
        exact ⟨.slice none 0 0, by rw [HRES.out]; rfl, by rw [HRES.out]; exact World.ownsRow_nil _ _ _ 2, BW2.out⟩

theorem readNode_any (w : World) (s : Sht) (A : Option Addr) (c : Nat) (hR : Rd w w.heap.size 1 A s.d.length (u8s s.d)) (hd : s.d.length ≤ 1000000) :
    Calls Tryz.prog 55 #[.agg #[.int .i64 s.k, .int .u64 (s.a : Int), .int .u64 (s.b : Int), .slice A s.d.length c]] w fun y w' =>
      ∃ v, y = .returned (.tuple #[.int .i64 (rnode s).1, v, .int .i64 ((rnode s).2.2 : Int)]) ∧ w'.ownsRow w.heap.size 112 2 v (rnode s).2.1.length (entC (rnode s).2.1) ∧ Below w.heap.size w w' := by
  obtain ⟨k, a, b, d⟩ := s
  cases hh : headB k a b with
  | false =>
    have hr : rnode ⟨k, a, b, d⟩ = (0, [], 6) := by unfold rnode; rw [if_pos hh]
    rw [hr]
    exact (readNode_head w ⟨k, a, b, d⟩ A c hh).mono fun y w' ⟨hy, hb⟩ => ⟨.slice none 0 0, hy, World.ownsRow_nil _ _ _ 2, hb⟩
  | true =>
    obtain ⟨rfl, _⟩ := headB_true _ _ _ hh
    exact readNode_body w a b d A c hh hR hd
end Go.Proofs.YtfhmaincnlaapaaGreat
namespace Go.Proofs.YtfhmaincnlaapaaGreat
open Go.ChangeShapes Go.WideShapes Go.ChangeAt Go.RowKit
set_option linter.unusedVariables false

end Go.Proofs.YtfhmaincnlaapaaGreat
namespace Go.Proofs.YtfhmaincnlaapaaGreat
open Go.ChangeShapes Go.WideShapes Go.ChangeAt Go.RowKit
set_option linter.unusedVariables false

end Go.Proofs.YtfhmaincnlaapaaGreat
namespace Go.Proofs.YtfhmaincnlaapaaGreat
open Go.ChangeShapes Go.WideShapes Go.ChangeAt Go.RowKit
set_option linter.unusedVariables false

attribute [local go_sem ↓] wp_app_rule
/-- how many entries stand up to a key, in a rising list -/
def seekN (l : List (Nat × Int)) (key : Nat) : Nat := (l.takeWhile fun x => decide (x.1 ≤ key)).length
theorem seekN_of (l : List (Nat × Int)) (key lo : Nat) (hlo : lo ≤ l.length) (h1 : ∀ j (h : j < l.length), j < lo → l[j].1 ≤ key) (h2 : ∀ (h : lo < l.length), key < l[lo].1) : seekN l key = lo := by
  induction l generalizing lo with
  | nil => simp at hlo; subst hlo; rfl
  | cons x l ih =>
    cases lo with
    | zero =>
      have := h2 (by simp)
      simp only [List.getElem_cons_zero] at this
      unfold seekN; rw [List.takeWhile_cons, if_neg (by simp; omega)]; rfl
    | succ lo =>
      have h0 := h1 0 (by simp) (by omega)
      simp only [List.getElem_cons_zero] at h0
      have := ih lo (by simpa using hlo) (fun j h hj => by have := h1 (j + 1) (by simpa using h) (by omega); simpa using this) (fun h => by have := h2 (by simpa using h); simpa using this)
      unfold seekN at this ⊢
      rw [List.takeWhile_cons, if_pos (by simpa using h0), List.length_cons, this]
theorem rise_lt (l : List (Nat × Int)) (hr : riseB l = true) (i j : Nat) (hij : i < j) (hj : j < l.length) : l[i].1 < l[j].1 := by
  rw [riseB_iff] at hr
  induction j with
  | zero => omega
  | succ j ih =>
    have h := hr (j + 1) hj
    rw [okAt_succ l j hj] at h
    simp only [Bool.and_eq_true, decide_eq_true_eq] at h
    by_cases e : i = j
    · subst e; exact h.2
    · exact Nat.lt_trans (ih (by omega) (by omega)) h.2
set_option maxHeartbeats 1000000 in
theorem seek_any (A : Option Addr) (n c B : Nat) (l : List (Nat × Int)) (key : Nat) (w : World) (h : Rd w B 2 A n (entC l)) (hn : n ≤ 1000000) (hr : riseB l = true) (hk : key < 18446744073709551616) :
    Calls Tryz.prog 56 #[.slice A n c, .int .u64 (key : Int)] w fun y w' => y = .returned (.int .i64 ((seekN l key : Int) - 1)) ∧ w = w' := by
  obtain rfl : n = l.length := h.ent_len
  have H := Lib.hid h; have HRI := Lib.hid hr; clear h hr
  go_enter Tryz.func56, Tryz.ntmps56
  go_wp2
  go_loop [5, 6, 7] (fun a b v7 => ∃ lo hi : Nat, lo ≤ hi ∧ hi ≤ l.length ∧ a = .int .i64 (lo : Int) ∧ b = .int .i64 (hi : Int) ∧ (∀ j (h : j < l.length), j < lo → l[j].1 ≤ key) ∧ (∀ (h : hi < l.length), key < l[hi].1)) (fun a b _ => (intOf b - intOf a).toNat)
  case atStart => exact ⟨0, l.length, by omega, by omega, rfl, rfl, fun j _ hj => by omega, fun h => by omega⟩
  case round =>
    obtain ⟨lo, hi, h1, h2, rfl, rfl, hlo, hhi⟩ := hrel
    have HLO := Lib.hid hlo; have HHI := Lib.hid hhi; clear hlo hhi
    by_cases hlt : lo < hi
    · have hmid : (lo + hi) / 2 < l.length := by omega
      obtain ⟨a, rfl, hab, x0, _⟩ := H.out.ent hmid
      have hmm : ((lo : Int) + (hi : Int)) / 2 = (((lo + hi) / 2 : Nat) : Int) := by omega
      have hr1 : ∀ j (h : j < l.length), j < (lo + hi) / 2 → l[j].1 < (l[(lo + hi) / 2]'hmid).1 := fun j h hj => rise_lt l HRI.out j _ hj hmid
      have hx : ∃ x, (l[(lo + hi) / 2]'hmid).1 = x := ⟨_, rfl⟩
      obtain ⟨x, hx⟩ := hx
      rw [hx] at x0 hr1
      have hml : lo ≤ (lo + hi) / 2 := by omega
      have hmh : (lo + hi) / 2 < hi := by omega
      generalize hm : (lo + hi) / 2 = mid at *
      have HR1 := Lib.hid hr1; have HX := Lib.hid hx; have HM := Lib.hid hm; clear hr1 hx hm
      by_cases hle : x ≤ key
      · have hlo2 : ∀ j (h : j < l.length), j < mid + 1 → l[j].1 ≤ key := fun j h hj => by
          by_cases e : j = mid
          · subst e; rw [HX.out]; exact hle
          · exact Nat.le_trans (Nat.le_of_lt (HR1.out j h (by omega))) hle
        have HL2 := Lib.hid hlo2; clear hlo2
        go_wp2
        go_round
        case rel => exact ⟨mid + 1, hi, by omega, h2, by go_num, rfl, HL2.out, HHI.out⟩
        case measure => simp [intOf]; omega
      · have hhi2 : ∀ (h : mid < l.length), key < l[mid].1 := fun h => by rw [HX.out]; omega
        have HH2 := Lib.hid hhi2; clear hhi2
        go_wp2
        go_round
        case rel => exact ⟨lo, mid, by omega, by omega, rfl, by rw [hmm], HLO.out, HH2.out⟩
        case measure => simp [intOf]; omega
    · obtain rfl : lo = hi := by omega
      have hs := seekN_of l key lo h2 HLO.out HHI.out
      have HS := Lib.hid hs; clear hs
      go_wp2
      go_ret
      exact ⟨by rw [HS.out]; go_num, rfl⟩
end Go.Proofs.YtfhmaincnlaapaaGreat
namespace Go.Proofs.YtfhmaincnlaapaaGreat
open Go.ChangeShapes Go.WideShapes Go.ChangeAt Go.RowKit
set_option linter.unusedVariables false

def exl : List (Nat × Int) := [(1, 3), (2, 1)]
def exd : List UInt8 := [1, 1, 1, 3, 1, 2, 1, 1]
theorem ex_rise : riseB exl = true := by decide
theorem ex_nodes : nodes 1 exl = [⟨4, 2, 1, exd⟩] := by rfl
theorem ex_read : rnode ⟨4, 2, 1, exd⟩ = (1, exl, 0) := by decide
theorem ex_seek7 : seekN exl 7 = 2 := by decide
theorem ex_seek0 : seekN exl 0 = 0 := by decide
theorem rd_lit {w : World} {T : TypeId} (l : List (Nat × Int)) (cs : Array Value) (h : cs.toList = entC l) : Rd (w.alloc (.cells cs T)) (w.heap.size + 1) 2 (some ⟨w.heap.size, 0, none⟩) l.length (entC l) := by
  refine ⟨entC_len l, fun _ => ⟨_, rfl, by simp, fun j u hj => ?_⟩⟩
  have hadd : (⟨w.heap.size, 0, none⟩ : Addr).add j = ⟨w.heap.size, j, none⟩ := by unfold Addr.add; split <;> simp_all
  rw [hadd, (Blk.new w T cs).cell j]
  rw [← h] at hj
  simpa using hj
set_option maxRecDepth 20000 in
set_option maxHeartbeats 1000000 in
theorem awake25_any (w : World) : Calls Tryz.prog 15 #[] w fun y w' => y = .returned (.bool true) ∧ Below w.heap.size w w' := by
  have hrd := rd_lit (w := w) (T := 112) exl #[.int .u64 1, .int .i64 3, .int .u64 2, .int .i64 1] rfl
  have hn : Calls Tryz.prog 54 #[.int .i64 1, .slice (some ⟨w.heap.size, 0, none⟩) 2 2] (w.alloc (.cells #[.int .u64 1, .int .i64 3, .int .u64 2, .int .i64 1] 112)) fun y w' => ∃ v xs, y = .returned (.tuple #[v, .int .i64 0]) ∧ w'.ownsRow (w.heap.size + 1) 42 4 v 1 xs ∧ ShR w' w'.heap.size [⟨4, 2, 1, exd⟩] xs ∧ Below (w.heap.size + 1) (w.alloc (.cells #[.int .u64 1, .int .i64 3, .int .u64 2, .int .i64 1] 112)) w' := by
    have := nodes_ok (w.alloc (.cells #[.int .u64 1, .int .i64 3, .int .u64 2, .int .i64 1] 112)) 1 (some ⟨w.heap.size, 0, none⟩) 2 2 (w.heap.size + 1) exl (by omega) (by omega) hrd (by omega) (by simp) ex_rise (by
      intro k hk
      have : k = 0 ∨ k = 1 := by simp [exl] at hk; omega
      rcases this with rfl | rfl <;> simp [exl])
    rw [ex_nodes] at this
    simp only [World.size_alloc] at this
    exact this
  have HN := Lib.hid hn; clear hn hrd
  go_enter Tryz.func15, Tryz.ntmps15
  go_wp2_with fail
  (with_reducible refine HN.out.mono ?_); rintro y w1 ⟨v, xs, rfl, ho, hs, hb1⟩
  obtain ⟨A, c, rfl, hc, hm, _⟩ := own_form ho
  obtain ⟨Ad, cd, e0, e1, e2, e3, hrd, hdc, hcm⟩ := hs.get 0 (by simp)
  obtain ⟨a, rfl, hab, hcell⟩ := (Rd.own ho).2 (by omega)
  have x0 := hcell _ _ e0; have x1 := hcell _ _ e1; have x2 := hcell _ _ e2; have x3 := hcell _ _ e3
  simp only [Nat.zero_mul, Nat.zero_add, add_zero', List.getElem_cons_zero] at x0 x1 x2 x3 hrd
  rw [show (1 : Nat) = 0 + 1 from rfl, add_succ] at x1
  rw [show (2 : Nat) = 1 + 1 from rfl, add_succ] at x2
  rw [show (3 : Nat) = 2 + 1 from rfl, add_succ] at x3
  have hr : Calls Tryz.prog 55 #[.agg #[.int .i64 4, .int .u64 2, .int .u64 1, .slice Ad exd.length cd]] w1 fun y w' =>
      ∃ v, y = .returned (.tuple #[.int .i64 1, v, .int .i64 0]) ∧ w'.ownsRow w1.heap.size 112 2 v 2 (entC exl) ∧ Below w1.heap.size w1 w' := by
    have := readNode_any w1 ⟨4, 2, 1, exd⟩ Ad cd hrd (by decide)
    rw [ex_read] at this
    exact this
  have HR := Lib.hid hr; have HB1 := Lib.hid hb1; have HO := Lib.hid ho; have HS := Lib.hid hs; have HRD := Lib.hid hrd; have HCELL := Lib.hid hcell; clear hr hb1 ho hs hrd hcell e0 e1 e2 e3
  go_wp2_with fail
  (with_reducible refine HR.out.mono ?_); rintro y w2 ⟨v2, rfl, ho2, hb2⟩
  obtain ⟨A2, c2, rfl, hc2, hm2, _⟩ := own_form ho2
  have hR2 := Rd.own ho2
  obtain ⟨a2, rfl, hab2, y0, y1⟩ := hR2.ent (k := 1) (by decide)
  have y0' : w2.cell? ⟨a2.block, a2.off + 2, none⟩ = some (.int .u64 2) := by
    rw [show 1 * 2 = 1 + 1 from rfl, add_succ] at y0; exact y0
  have y1' : w2.cell? ⟨a2.block, a2.off + 2 + 1, none⟩ = some (.int .i64 1) := by
    rw [show 1 * 2 = 1 + 1 from rfl, add_succ] at y1; exact y1
  have hs7 : Calls Tryz.prog 56 #[.slice (some a2) 2 c2, .int .u64 7] w2 fun y w' => y = .returned (.int .i64 1) ∧ w2 = w' := by
    have := seek_any (some a2) 2 c2 _ exl 7 w2 hR2 (by omega) ex_rise (by omega)
    rw [ex_seek7] at this; exact this
  have hs0 : Calls Tryz.prog 56 #[.slice (some a2) 2 c2, .int .u64 0] w2 fun y w' => y = .returned (.int .i64 (-1)) ∧ w2 = w' := by
    have := seek_any (some a2) 2 c2 _ exl 0 w2 hR2 (by omega) ex_rise (by omega)
    rw [ex_seek0] at this; exact this
  have H7 := Lib.hid hs7; have H0 := Lib.hid hs0; have HR2 := Lib.hid hR2; have HO2 := Lib.hid ho2; have HB2 := Lib.hid hb2; clear hs7 hs0 hR2 ho2 hb2 y0 y1
  go_wp2_with (first | (go_at_call 56; (with_reducible refine H7.out.mono ?_); rintro y w3 ⟨rfl, rfl⟩) | (go_at_call 56; (with_reducible refine H0.out.mono ?_); rintro y w3 ⟨rfl, rfl⟩))
  go_ret
  exact ⟨rfl, ((belA (belR w) _).trans (HB1.out.mono (Nat.le_succ _))).trans (HB2.out.mono (by have := HB1.out.size; simp at this; omega))⟩
end Go.Proofs.YtfhmaincnlaapaaGreat
namespace Go.Proofs.YtfhmaincnlaapaaGreat
open Go.ChangeShapes Go.WideShapes Go.ChangeAt Go.RowKit
set_option linter.unusedVariables false

/-- keys that rise -/
def StrictL (fs : List Nat) : Prop := ∀ j, j + 1 < fs.length → fs.getD j 0 < fs.getD (j + 1) 0
theorem StrictL.lt {fs : List Nat} (h : StrictL fs) {i j : Nat} (hij : i < j) (hj : j < fs.length) : fs.getD i 0 < fs.getD j 0 := by
  induction j with
  | zero => omega
  | succ j ih =>
    by_cases e : i = j
    · subst e; exact h i hj
    · exact Nat.lt_trans (ih (by omega) (by omega)) (h j hj)
/-- what leaves and nodes are of a list of things: how many they hold together -/
structure Cover (L : List Sht) (n : Nat) : Prop where
  sum : sumA L = n
  pos : ∀ s ∈ L, 1 ≤ s.a
theorem sumA_take_le (L : List Sht) (i : Nat) : sumA (L.take i) ≤ sumA L := by
  have h := sumA_app (L.take i) (L.drop i)
  rw [List.take_append_drop] at h
  omega
theorem Cover.lt {L : List Sht} {n : Nat} (h : Cover L n) {i : Nat} (hi : i < L.length) : sumA (L.take i) < n := by
  have h1 := sumA_take L i L[i] (List.getElem?_eq_getElem hi)
  have h2 := sumA_take_le L (i + 1)
  have h3 := h.pos L[i] (List.getElem_mem hi)
  rw [h.sum] at h2
  omega
theorem Cover.mono {L : List Sht} {n : Nat} (h : Cover L n) {i : Nat} (hi : i + 1 ≤ L.length) : sumA (L.take i) < sumA (L.take (i + 1)) := by
  have h1 := sumA_take L i L[i] (List.getElem?_eq_getElem hi)
  have h3 := h.pos L[i] (List.getElem_mem hi)
  omega
theorem Cover.len {L : List Sht} {n : Nat} (h : Cover L n) : L.length ≤ n := by
  have h1 := h.sum
  have h2 := h.pos
  clear h
  induction L generalizing n with
  | nil => simp
  | cons x L ih =>
    have h3 := h2 x (by simp)
    rw [sumA_cons] at h1
    have := ih (n := n - x.a) (by omega) fun s hs => h2 s (by simp [hs])
    rw [List.length_cons]; omega
end Go.Proofs.YtfhmaincnlaapaaGreat
namespace Go.Proofs.YtfhmaincnlaapaaGreat
open Go.ChangeShapes Go.WideShapes Go.ChangeAt Go.RowKit
set_option linter.unusedVariables false

end Go.Proofs.YtfhmaincnlaapaaGreat
namespace Go.Proofs.YtfhmaincnlaapaaGreat
open Go.ChangeShapes Go.WideShapes Go.ChangeAt Go.RowKit
set_option linter.unusedVariables false

theorem leaves_take (b : Nat) (l : List CellS) (k : Nat) : leaves b (l.take k) = pend 3 b (pkC b l k) := rfl
theorem pk_pos1 (kd : Int) (b : Nat) (st : Pst) (x : List UInt8) (br : Bool) : 0 < (pput kd b st x br).2.1 := by
  unfold pput
  split
  · exact Nat.one_pos
  · exact Nat.succ_pos _
theorem leaves_last (b : Nat) (l : List CellS) (k : Nat) (h0 : 0 < k) (hk : k ≤ l.length) : ∃ ss n d, pkC b l k = (ss, n, d) ∧ 0 < n ∧ leaves b (l.take k) = ss ++ [⟨3, n, b, d⟩] := by
  obtain ⟨j, rfl⟩ : ∃ j, k = j + 1 := ⟨k - 1, by omega⟩
  have hp : 0 < (pkC b l (j + 1)).2.1 := by rw [pkC_succ b l j (by omega)]; exact pk_pos1 _ _ _ _ _
  refine ⟨(pkC b l (j + 1)).1, (pkC b l (j + 1)).2.1, (pkC b l (j + 1)).2.2, rfl, hp, ?_⟩
  rw [leaves_take]; unfold pend; rw [if_pos hp]
theorem leaves_first (b : Nat) (l : List CellS) (h : 0 < l.length) : leaves b (l.take 0) = [] ∧ leaves b (l.take 1) = [⟨3, 0 + 1, b, [] ++ encCell l[0]⟩] := by
  refine ⟨rfl, ?_⟩
  rw [leaves_take, pkC_succ b l 0 h]
  have e : pput 3 b (pkC b l 0) (encCell l[0]) (brkB l[0].key 0) = ([], 1, encCell l[0]) := by
    rw [pkC_zero]; unfold pput; split <;> rfl
  rw [e]; rfl
theorem leaves_cut (b : Nat) (l : List CellS) (k : Nat) (h : k < l.length) (ss : List Sht) (n : Nat) (d : List UInt8) (e : pkC b l k = (ss, n, d)) (h0 : 0 < n)
    (hc : brkB l[k].key 0 = true ∨ 1001 < d.length + (encCell l[k]).length) : leaves b (l.take (k + 1)) = (ss ++ [⟨3, n, b, d⟩]) ++ [⟨3, 0 + 1, b, [] ++ encCell l[k]⟩] := by
  rw [leaves_take, pkC_succ b l k h, e]
  unfold pput
  rw [if_pos hc]
  show pend 3 b ((if 0 < n then ss ++ [⟨3, n, b, d⟩] else ss), 1, encCell l[k]) = _
  rw [if_pos h0]
  rfl
theorem leaves_more (b : Nat) (l : List CellS) (k : Nat) (h : k < l.length) (ss : List Sht) (n : Nat) (d : List UInt8) (e : pkC b l k = (ss, n, d))
    (hc : ¬ (brkB l[k].key 0 = true ∨ 1001 < d.length + (encCell l[k]).length)) : leaves b (l.take (k + 1)) = ss ++ [⟨3, n + 1, b, d ++ encCell l[k]⟩] := by
  rw [leaves_take, pkC_succ b l k h, e]
  unfold pput
  rw [if_neg hc]
  show pend 3 b (ss, n + 1, d ++ encCell l[k]) = _
  unfold pend
  rw [if_pos (Nat.succ_pos n)]
/-- whether a fresh sheet is begun, and what the leaves come to -/
def LvDec (b : Nat) (l : List CellS) (k : Nat) (e : List UInt8) (cb : Bool) : Prop :=
  (cb = true → leaves b (l.take (k + 1)) = leaves b (l.take k) ++ [⟨3, 0 + 1, b, [] ++ e⟩]) ∧
  (cb = false → ∃ ss n d, leaves b (l.take k) = ss ++ [⟨3, n, b, d⟩] ∧ pkC b l k = (ss, n, d) ∧ leaves b (l.take (k + 1)) = ss ++ [⟨3, n + 1, b, d ++ e⟩])
end Go.Proofs.YtfhmaincnlaapaaGreat
namespace Go.Proofs.YtfhmaincnlaapaaGreat
open Go.ChangeShapes Go.WideShapes Go.ChangeAt Go.RowKit
set_option linter.unusedVariables false

/-- a fresh sheet of any kind at the end of the row -/
theorem refNewK (kd : Int) {w3 w5 : World} {base B m c0 : Nat} {A0 : Option Addr} {v5 : Value} {ss : List Sht} {xs : List Value} {us : Array Value} (lv : Nat) (ho : w3.ownsRow base 42 4 (.slice A0 m c0) m xs) (hS : ShO w3 base B ss xs) (hbase : base ≤ w3.heap.size)
    (h : Appd (w3.alloc (.cells us 42)) w5 (.slice A0 m c0) v5) :
    ShO w5 base B (ss ++ [⟨kd, 0, lv, []⟩]) (xs ++ [.int .i64 kd, .int .u64 0, .int .u64 (lv : Int), .slice none 0 0]) ∧
      (∀ b1 nn x ys, w3.ownsRow b1 5 1 x nn ys → w5.ownsRow b1 5 1 x nn ys) ∧ Below base w3 w5 ∧ w3.heap.size ≤ w5.heap.size := by
  have ne58 : (5 : TypeId) ≠ 42 := by decide
  have far : ∀ {b1 nn : Nat} {x : Value} {ys : List Value}, w3.ownsRow b1 5 1 x nn ys → w5.ownsRow b1 5 1 x nn ys :=
    fun k => h.kept (k.alloc _) (own_own_ne k ho ne58)
  have hz : (w3.alloc (.cells us 42)).heap.size = w3.heap.size + 1 := by simp
  have hz5 := h.1.size
  refine ⟨(hS.map (Nat.le_refl _) fun x nn ys k _ => far k).snoc (s := ⟨kd, 0, lv, []⟩) (v := .slice none 0 0) (World.ownsRow_nil _ _ _ _) (fun k hk => by cases hk), fun _ _ _ _ k => far k, ((Below.refl _ w3).alloc hbase _).trans (h.below (by omega) (ho.alloc _)), by omega⟩
/-- behind a round: the row of sheets at the head of the next one -/
def LvRel (w wr : World) (b : Nat) (l : List CellS) (k : Nat) (v : Value) : Prop :=
  ∃ xs, wr.ownsRow w.heap.size 42 4 v (leaves b (l.take k)).length xs ∧ ShO wr w.heap.size wr.heap.size (leaves b (l.take k)) xs ∧ Below w.heap.size w wr
def LvCut (w w5 : World) (b : Nat) (l : List CellS) (k : Nat) (A3 : Option Addr) (c3 n3 : Nat) (e : List UInt8) (v5 v8 : Value) : Prop :=
  ∃ A5 c5 m ss s xs5, v5 = .slice A5 (m + 1) c5 ∧ v8 = .int .i64 (m : Int) ∧ m = ss.length ∧ m ≤ 2000 ∧ s.a ≤ 1000 ∧ s.d.length ≤ 8000 ∧ w5.ownsRow w.heap.size 42 4 v5 (m + 1) xs5 ∧ ShO w5 w.heap.size w5.heap.size (ss ++ [s]) xs5 ∧
    w5.ownsRow w.heap.size 5 1 (.slice A3 n3 c3) n3 (u8s e) ∧ Below w.heap.size w w5 ∧ leaves b (l.take (k + 1)) = ss ++ [⟨s.k, s.a + 1, s.b, s.d ++ e⟩]
set_option maxRecDepth 100000 in
set_option maxHeartbeats 8000000 in
theorem refLeaves_any (w : World) (b : Nat) (A : Option Addr) (c B : Nat) (l : List CellS) (g : SlR cellR w B l A c) (hb32 : b < 4294967296) (hl : ∀ C ∈ l, lightC C = true) (hn : l.length ≤ 60) (hB : B ≤ w.heap.size) :
    Calls Tryz.prog 32 #[.int .u32 (b : Int), .slice A l.length c] w fun y w' => ∃ v xs, y = .returned v ∧ w'.ownsRow w.heap.size 42 4 v (leaves b l).length xs ∧ ShR w' w'.heap.size (leaves b l) xs ∧ Below w.heap.size w w' := by
  have H := Lib.hid g; have HLI := Lib.hid hl; clear g hl
  have wl : IntKind.u64.wrap (b : Int) = (b : Int) := by rw [IntKind.wrap_u64]; omega
  go_enter Tryz.func32, Tryz.ntmps32
  go_wp2
  go_loopg [5, 6] l.length (fun g ov i wr => ∃ k : Nat, k ≤ l.length ∧ g = l.length - k ∧ i = .int .i64 (k : Int) ∧ LvRel w wr b l k ov)
  case atStart => exact ⟨0, by omega, rfl, rfl, [], World.ownsRow_nil _ _ _ 4, rfl, belR _⟩
  case round =>
    obtain ⟨k, hk, rfl, rfl, hrel⟩ := hrel
    obtain ⟨xs, ho, hs, hb⟩ := hrel
    have hz := hb.size
    by_cases hlt : k < l.length
    · obtain ⟨a, D2, d2, D3, d3, rfl, hab, x0, x1, x2, x3, hv⟩ := (H.out.keep (hb.mono hB) (Nat.le_refl _)).cellAt hlt
      have hlc := HLI.out _ (List.getElem_mem hlt)
      have hput := fun W (hW : Below wr.heap.size wr W) => refPutC_any W B l[k] D2 d2 D3 d3 (hv.keep (hW.mono (by omega)) (Nat.le_refl _)) hlc (by have := hW.size; omega)
      have hle := encCell_le hlc
      have hbd := pkC_bd b l (fun C hC => HLI.out C hC) k hk
      have hb60 : (pkC b l k).1.length ≤ 60 ∧ (pkC b l k).2.1 ≤ 60 ∧ (pkC b l k).2.2.length ≤ 6000 := ⟨by omega, by omega, hbd.2.2⟩
      have q1 : (0 : Int) ≤ (k : Int) := by omega
      have q2 : (k : Int) < (l.length : Int) := by omega
      obtain ⟨ky, hky⟩ : ∃ ky, l[k].key = ky := ⟨_, rfl⟩
      obtain ⟨e, he⟩ : ∃ e, encCell l[k] = e := ⟨_, rfl⟩
      obtain ⟨n3, hn3⟩ : ∃ n3, e.length = n3 := ⟨_, rfl⟩
      rw [he] at hput hle
      rw [hn3] at hput hle
      obtain ⟨A0, c0, rfl, _, _, _⟩ := own_form ho
      obtain ⟨L, hL⟩ : ∃ L, (leaves b (l.take k)).length = L := ⟨_, rfl⟩
      rw [hL] at ho ⊢
      have hL60 : L ≤ 61 := by
        have h1 := leaves_len b (l.take k)
        rw [List.length_take] at h1; omega
      have HKY := Lib.hid hky; have HE := Lib.hid he; have HN3 := Lib.hid hn3; have HL := Lib.hid hL; have HO := Lib.hid ho; have HS := Lib.hid hs; have HPUT := Lib.hid hput; have HBD := Lib.hid hb60
      clear hky he hn3 hL ho hs hput hlc hbd hv hb60
      go_upto_region 7 with (go_at_call 35; (with_reducible refine (HPUT.out _ (belR _)).mono ?_); rintro y w3 ⟨v3, rfl, ho3, hb3⟩; obtain ⟨A3, c3, rfl, _, _, _⟩ := own_form ho3; have HO9 := Lib.hid (own_belowK HO.out hb3 (fun k hk => (HO.out.lt k hk).2)); have HS9 := Lib.hid (HS.out.map hb3.size fun v n ys h hk => own_belowK h hb3 hk); have HOB9 := Lib.hid (own_mono ho3 hz); have HB9 := Lib.hid (hb.trans (hb3.mono hz)); clear ho3 hb3)
      have hz9 := HB9.out.size
      clear x0 x1 x2 x3
      go_cut [8, 44] (fun s8 s44 wx => w3 = wx ∧ s8 = .int .i64 ((L : Int) - 1) ∧ ∃ cb, s44 = .bool cb ∧ LvDec b l k e cb)
      case first =>
        by_cases hk0 : k = 0
        · subst hk0
          obtain ⟨e0, e1⟩ := leaves_first b l hlt
          rw [HE.out] at e1
          have hdec : LvDec b l 0 e true := ⟨fun _ => by rw [e0, e1]; rfl, fun h => by cases h⟩
          have HD := Lib.hid hdec; clear hdec e0 e1
          go_wp2
          go_meet
          case rel => exact ⟨rfl, congrArg (Value.int .i64) (by omega), true, rfl, HD.out⟩
        · obtain ⟨ss, n, d, hst, hn0, hnd⟩ := leaves_last b l k (by omega) hk
          have hlen := HL.out
          rw [hnd, List.length_append, List.length_singleton] at hlen
          subst hlen
          have hbd := HBD.out
          rw [hst] at hbd
          simp only at hbd
          have hsh := HS9.out
          rw [hnd] at hsh
          obtain ⟨xs0, v, hxs, hxl, _, hov, _⟩ := hsh.last
          obtain ⟨Ab, cb, rfl, _, _, _⟩ := own_form hov
          obtain ⟨a0, rfl, _, hal, _, -, hC⟩ := own_elem HO9.out ss.length (by omega)
          have y3 := (hC 3 (by decide)).1
          rw [hxs, ← hxl, get_mid, hxl] at y3
          simp only [shC, List.getElem?_cons_succ, List.getElem?_cons_zero] at y3
          clear hC hsh hov hxs
          have hkz : ((k : Int) == 0) = false := by rw [beq_eq_false_iff_ne]; omega
          have hdY : ∀ hc : brkB ky 0 = true ∨ 1001 < d.length + n3, LvDec b l k e true := fun hc => ⟨fun _ => by
            rw [leaves_cut b l k hlt ss n d hst hn0 (by rw [HKY.out, HE.out, HN3.out]; exact hc), hnd, HE.out], fun h => by cases h⟩
          have hdN : ∀ hc : ¬ (brkB ky 0 = true ∨ 1001 < d.length + n3), LvDec b l k e false := fun hc => ⟨fun h => (by cases h), fun _ =>
            ⟨ss, n, d, hnd, hst, by rw [leaves_more b l k hlt ss n d hst (by rw [HKY.out, HE.out, HN3.out]; exact hc), HE.out]⟩⟩
          have HYY := Lib.hid hdY; have HNN := Lib.hid hdN; have HST := Lib.hid hst; have HND := Lib.hid hnd
          clear hdY hdN hst hnd
          obtain ⟨a', _, _, _, _, ea, _, x0, _⟩ := (H.out.keep (HB9.out.mono hB) (Nat.le_refl _)).cellAt hlt
          injection ea with ea
          subst ea
          rw [HKY.out] at x0
          have q5 : (0 : Int) ≤ (ss.length : Int) := by omega
          have q6 : (ss.length : Int) < (ss.length : Int) + 1 := by omega
          have HBR := Lib.hid (fun W => refBreak_any ky 0 W)
          cases hbk : brkB ky 0
          · rw [hbk] at HBR
            by_cases hlen : 1001 < d.length + n3
            · have tl : decide ((1001 : Int) < (d.length : Int) + (n3 : Int)) = true := decide_eq_true (by omega)
              have HD := Lib.hid (HYY.out (.inr hlen)); clear HYY HNN hbk
              go_wp2_with (go_at_call 86; (with_reducible refine (HBR.out _).mono ?_); rintro y w' ⟨rfl, rfl⟩)
              go_meet
              case rel => exact ⟨rfl, congrArg (Value.int .i64) (by omega), true, rfl, HD.out⟩
            · have tl : decide ((1001 : Int) < (d.length : Int) + (n3 : Int)) = false := decide_eq_false (by omega)
              have HD := Lib.hid (HNN.out (by rw [hbk]; simp; omega)); clear HYY HNN hbk
              go_wp2_with (go_at_call 86; (with_reducible refine (HBR.out _).mono ?_); rintro y w' ⟨rfl, rfl⟩)
              go_meet
              case rel => exact ⟨rfl, congrArg (Value.int .i64) (by omega), false, rfl, HD.out⟩
          · rw [hbk] at HBR
            have HD := Lib.hid (HYY.out (.inl hbk)); clear HYY HNN hbk
            go_wp2_with (go_at_call 86; (with_reducible refine (HBR.out _).mono ?_); rintro y w' ⟨rfl, rfl⟩)
            go_meet
            case rel => exact ⟨rfl, congrArg (Value.int .i64) (by omega), true, rfl, HD.out⟩
      case rest =>
        obtain ⟨rfl, rfl, cb, rfl, hdec⟩ := hcut
        have HD := Lib.hid hdec; clear hdec
        go_upto_if 44 with (fail)
        go_cut [5, 8] (fun s5 s8 wx => LvCut w wx b l k A3 c3 n3 e s5 s8)
        case first =>
          cases cb with
          | true =>
            have hnd := HD.out.1 rfl
            have HN := Lib.hid hnd; clear hnd
            go_wp2_with (at_builtin; (refine wpList_appB rfl [.int .i64 3, .int .u64 0, .int .u64 (b : Int), .slice none 0 0] 4 rfl (by decide) (by simp [Value.oneCell']) _ _ 65 rfl w.heap.size 42 _ 48 info_sh rfl Tryz.underlying65 _ _ _ (HO9.out.alloc (.cells #[.int .i64 3, .int .u64 0, .int .u64 (b : Int), .slice none 0 0] 42)) _ (Blk.new _ _ _) rfl rfl ?_ ?_ ?_ ?_; omega; omega; (simp; omega); intro v5 w5 ho5 hap5; obtain ⟨A5, c5, rfl, _, _, _⟩ := own_form ho5; have HO5 := Lib.hid ho5; clear ho5))
            obtain ⟨hsh, hrows, hbl, hsz5⟩ := refNewK 3 b HO9.out HS9.out hz9 hap5
            have HSH := Lib.hid (hsh.map hsz5 fun _ _ _ h _ => h); have HR := Lib.hid hrows; clear hsh hrows
            go_meet
            case rel => exact ⟨A5, c5, L, leaves b (l.take k), ⟨3, 0, b, []⟩, _, rfl, by first | rfl | simp, HL.out.symm, by omega, by simp, by simp, HO5.out, HSH.out, HR.out _ _ _ _ HOB9.out, HB9.out.trans hbl, HN.out⟩
          | false =>
            obtain ⟨ss, n, d, e1, e2, e3⟩ := HD.out.2 rfl
            have hlen := HL.out
            rw [e1, List.length_append, List.length_singleton] at hlen
            have hbd := HBD.out
            rw [e2] at hbd
            simp only at hbd
            have hsh := HS9.out
            rw [e1] at hsh
            have HE3 := Lib.hid e3; have HSH := Lib.hid hsh; clear e1 e2 e3 hsh
            subst hlen
            go_wp2
            go_meet
            case rel => exact ⟨A0, c0, ss.length, ss, ⟨3, n, b, d⟩, xs, rfl, by first | rfl | simp, rfl, by omega, by simp only; omega, by simp only; omega, HO9.out, HSH.out, HOB9.out, HB9.out, HE3.out⟩
        case rest =>
          clear HO9 HS9 HOB9 HB9 HD HO HS H HPUT HBD
          obtain ⟨A5, c5, m, ss, s, xs5, rfl, rfl, hm, hm2, hsa, hsd2, ho5, hs5, hob5, hb5, hnd⟩ := hcut
          obtain ⟨a5, Ab, cb2, rfl, hba, hal, y1, z1, y3, z3, hcb1, hcb2, hnext⟩ := refTail _ w.heap.size _ _ _ c5 m ss s xs5 hm ho5 hs5 (Nat.le_refl _) A3 c3 e n3 HN3.out.symm hob5 hb5.size
          have hnext := hnext _ rfl
          rw [show ((s.a + 1 : Nat) : Int) = (s.a : Int) + 1 from by omega] at hnext
          simp only [pS] at y1 z1 y3 z3 hnext
          have wa : IntKind.u64.wrap ((s.a : Int) + 1) = (s.a : Int) + 1 := by rw [IntKind.wrap_u64]; omega
          have q5 : (0 : Int) ≤ (m : Int) := by omega
          have q6 : (m : Int) < (m : Int) + 1 := by omega
          obtain ⟨t1, t2, t3⟩ := hnext
          have hal' : (a5.add (m * 4)).block < wc.heap.size := by rw [block_add]; exact hal
          have hne' : ¬ (a5.add (m * 4)).block = wc.heap.size := by omega
          have hz5 := hb5.size
          have HM := Lib.hid hm; have HO5 := Lib.hid ho5; have HS5 := Lib.hid hs5; have HOB5 := Lib.hid hob5; have HB5 := Lib.hid hb5; have HN := Lib.hid hnd; have T1 := Lib.hid t1; have T2 := Lib.hid t2; have T3 := Lib.hid t3
          clear hm ho5 hs5 hob5 hb5 hnd t1 t2 t3
          go_wp2_with (first
            | (at_builtin; (refine wpList_appS _ rfl (.tmp 66) (.tmp 71) 27 rfl wc.heap.size 5 (.int .u8 0) 1 1 info_u8 rfl (by decide) Tryz.underlying27 (.slice (some ⟨wc.heap.size, 0, none⟩) 0 0) 0 [] T1.out ?_ _ Ab s.d.length cb2 (u8s s.d) T2.out ?_ (u8s_one _) ?_ ?_ ?_ ?_); rfl; rfl; omega; omega; (exact Nat.le_of_lt (T1.out.lt _ rfl).2); intro v8 w8 ho8 hap8; obtain ⟨R8, hz8, T8⟩ := T3.out v8 w8 ho8 hap8; have HO8 := Lib.hid ho8; have R8 := Lib.hid R8; have T8 := Lib.hid T8; clear ho8)
            | (at_builtin; (refine wpList_appS _ rfl (.tmp 72) (.tmp 73) 27 rfl wc.heap.size 5 (.int .u8 0) 1 1 info_u8 rfl (by decide) Tryz.underlying27 v8 (0 + s.d.length) ([] ++ u8s s.d) HO8.out ?_ _ A3 n3 c3 (u8s e) R8.out ?_ (u8s_one _) ?_ ?_ ?_ ?_); rfl; rfl; omega; omega; omega; intro v9 w9 ho9 hap9; obtain ⟨A9, c9, rfl, _, _, _⟩ := own_form ho9; obtain ⟨z9, ⟨yy, y9⟩, xs9, HF9⟩ := T8.out _ w9 ho9 hap9; rw [Nat.zero_add] at HF9; have HR9 := Lib.hid HF9; clear HF9 ho9))
          go_roundg (l.length - (k + 1))
          case measure => omega
          case rel => exact ⟨k + 1, by omega, rfl, by go_num, xs9, by rw [HN.out, List.length_append, List.length_singleton, ← HM.out]; exact HR9.out.1, by rw [HN.out]; exact HR9.out.2.1, HB5.out.trans HR9.out.2.2⟩
    · obtain rfl : k = l.length := by omega
      rw [List.take_length] at ho hs
      have HO := Lib.hid ho; have HS := Lib.hid hs; clear ho hs
      go_wp2
      go_ret
      exact ⟨_, xs, rfl, HO.out, HS.out.reads, hb⟩
end Go.Proofs.YtfhmaincnlaapaaGreat
namespace Go.Proofs.YtfhmaincnlaapaaGreat
open Go.ChangeShapes Go.WideShapes Go.ChangeAt Go.RowKit
set_option linter.unusedVariables false

end Go.Proofs.YtfhmaincnlaapaaGreat
