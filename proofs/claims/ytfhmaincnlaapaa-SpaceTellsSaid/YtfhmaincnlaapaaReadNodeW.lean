/-
  tree.ReadNode.
-/
import Derived.Test.YtfhmaincnlaapaaReadPure
import Derived.Test.YtfhmaincnlaapaaNodesPure
namespace Go.Proofs.Ytfhmaincnlaapaa
open Go.ChangeShapes Go.WideShapes Go.ChangeAt Go.RowKit
set_option linter.unusedVariables false

theorem inUmax_any (w : World) (g : Nat) (t : List UInt8) (p e : Nat) (h : InS w g t p e) :
    Calls Try.prog 110 #[.pointer (some ⟨g, 0, none⟩), .int .u64 18446744073709551615] w
      fun y w' => y = .returned (.int .u64 ((inU t p e umax).1 : Int)) ∧ InS w' g t (inU t p e umax).2.1 (inU t p e umax).2.2 ∧ Only g w w' := inU_any w g t p e umax h
theorem inU8k_any (w : World) (g : Nat) (t : List UInt8) (p e : Nat) (h : InS w g t p e) :
    Calls Try.prog 110 #[.pointer (some ⟨g, 0, none⟩), .int .u64 8192] w
      fun y w' => y = .returned (.int .u64 ((inU t p e 8192).1 : Int)) ∧ InS w' g t (inU t p e 8192).2.1 (inU t p e 8192).2.2 ∧ Only g w w' := inU_any w g t p e 8192 h

theorem headB_cases (k : Int) (a b : Nat) (h : headB k a b = false) : k ≠ 4 ∨ a < 1 ∨ (1001 < a ∧ 1 ≤ a) ∨ (b < 1 ∧ 1 ≤ a ∧ a ≤ 1001) ∨ (60 < b ∧ 1 ≤ b ∧ 1 ≤ a ∧ a ≤ 1001) := by
  unfold headB at h
  simp only [Bool.and_eq_false_iff, decide_eq_false_iff_not] at h
  omega
theorem headB_true (k : Int) (a b : Nat) (h : headB k a b = true) : k = 4 ∧ 1 ≤ a ∧ a ≤ 1001 ∧ 1 ≤ b ∧ b ≤ 60 := by
  unfold headB at h
  simp only [Bool.and_eq_true, decide_eq_true_eq] at h
  omega

set_option maxHeartbeats 1000000 in
theorem readNode_head (w : World) (s : Sht) (A : Option Addr) (c : Nat) (h : headB s.k s.a s.b = false) :
    Calls Try.prog 53 #[.agg #[.int .i64 s.k, .int .u64 (s.a : Int), .int .u64 (s.b : Int), .slice A s.d.length c]] w fun y w' => y = .returned (.tuple #[.int .i64 0, .slice none 0 0, .int .i64 6]) ∧ Below w.heap.size w w' := by
  obtain ⟨k, a, b, d⟩ := s
  simp only at h ⊢
  have hc := headB_cases k a b h
  have HH := Lib.hid h; clear h
  have r0 := room_any
  by_cases h1 : k = 4
  · subst h1
    by_cases h2 : a < 1
    · obtain rfl : a = 0 := by omega
      clear hc h2
      go_enter Try.func53, Try.ntmps53
      go_wp2
      go_quiet (fail)
      go_wp2
      go_ret3
      exact ⟨rfl, belD (belA (belR w) _) _⟩
    · have t2 : decide ((a : Int) < 1) = false := decide_eq_false (by omega)
      by_cases h3 : 1001 < a
      · have t3 : decide ((1001 : Int) < (a : Int)) = true := decide_eq_true (by omega)
        have H2 := Lib.hid h2; have H3 := Lib.hid h3; have HC := Lib.hid hc; clear h2 h3 hc
        go_enter Try.func53, Try.ntmps53
        go_wp2
        go_quiet ((go_at_call 108; exact qcallS (room_any _)))
        go_wp2
        go_ret3
        exact ⟨rfl, belD (belA (belR w) _) _⟩
      · have t3 : decide ((1001 : Int) < (a : Int)) = false := decide_eq_false (by omega)
        by_cases h4 : b < 1
        · obtain rfl : b = 0 := by omega
          have H2 := Lib.hid h2; have H3 := Lib.hid h3; have HC := Lib.hid hc; clear h2 h3 hc h4
          go_enter Try.func53, Try.ntmps53
          go_wp2
          go_quiet ((go_at_call 108; exact qcallS (room_any _)))
          go_wp2
          go_ret3
          exact ⟨rfl, belD (belA (belR w) _) _⟩
        · have t4 : decide ((b : Int) < 1) = false := decide_eq_false (by omega)
          have t5 : decide ((60 : Int) < (b : Int)) = true := decide_eq_true (by omega)
          have H2 := Lib.hid h2; have H3 := Lib.hid h3; have H4 := Lib.hid h4; have HC := Lib.hid hc; clear h2 h3 h4 hc
          go_enter Try.func53, Try.ntmps53
          go_wp2
          go_quiet ((go_at_call 108; exact qcallS (room_any _)))
          go_wp2
          go_ret3
          exact ⟨rfl, belD (belA (belR w) _) _⟩
  · have t1 : ((k : Int) != 4) = true := by rw [bne_iff_ne]; exact h1
    have H1 := Lib.hid h1; have HC := Lib.hid hc; clear h1 hc
    go_enter Try.func53, Try.ntmps53
    go_wp2
    go_quiet (fail)
    go_wp2
    go_ret3
    exact ⟨rfl, belD (belA (belR w) _) _⟩

theorem new_at {w w' : World} {z j : Nat} {T : TypeId} {cs : Array Value} (h : w.heap.size = z) (hw : w' = (w.alloc (.cells cs T)).drewN j := by rfl) : Blk w' z T cs := by subst h hw; exact (Blk.new _ _ _).drewN j
def noTup (e : Nat) : Value := .tuple #[.int .i64 0, .slice none 0 0, .int .i64 (e : Int)]
theorem rst_succ (t : List UInt8) (k : Nat) : rst t (k + 1) = rstep t (rst t k) := rfl
set_option maxRecDepth 20000 in
set_option maxHeartbeats 2000000 in
theorem readNode_body (w : World) (a b : Nat) (d : List UInt8) (A : Option Addr) (c : Nat) (h : headB 4 a b = true) (hR : Rd w w.heap.size 1 A d.length (u8s d)) (hd : d.length ≤ 1000000) :
    Calls Try.prog 53 #[.agg #[.int .i64 4, .int .u64 (a : Int), .int .u64 (b : Int), .slice A d.length c]] w fun y w' =>
      ∃ v, y = .returned (.tuple #[.int .i64 (rnode ⟨4, a, b, d⟩).1, v, .int .i64 ((rnode ⟨4, a, b, d⟩).2.2 : Int)]) ∧ w'.ownsRow w.heap.size 94 2 v (rnode ⟨4, a, b, d⟩).2.1.length (entC (rnode ⟨4, a, b, d⟩).2.1) ∧ Below w.heap.size w w' := by
  obtain ⟨_, ha1, ha2, hb1, hb2⟩ := headB_true _ _ _ h
  have hearly := fun k hk he => rnode_early ⟨4, a, b, d⟩ k h hk he
  have hlast : ∀ e q acc, rst d a = (q, e, acc) → e = 0 → endE d q 0 ≠ 0 → rnode ⟨4, a, b, d⟩ = (0, [], endE d q 0) := fun e q acc h1 h2 h3 => by
    subst h2; unfold rnode; simp only; rw [if_neg (by rw [h]; simp), h1]; simp only; rw [if_pos h3]
  have hform : ∀ e q acc, rst d a = (q, e, acc) → e = 0 → endE d q 0 = 0 → riseB acc = false → rnode ⟨4, a, b, d⟩ = (0, [], 6) := fun e q acc h1 h2 h3 h4 => by
    subst h2; unfold rnode; simp only; rw [if_neg (by rw [h]; simp), h1]; simp only; rw [if_neg (by rw [h3]; simp), if_pos h4]
  have hgood : ∀ e q acc, rst d a = (q, e, acc) → e = 0 → endE d q 0 = 0 → riseB acc = true → rnode ⟨4, a, b, d⟩ = ((b : Int), acc, 0) := fun e q acc h1 h2 h3 h4 => by
    subst h2; unfold rnode; simp only; rw [if_neg (by rw [h]; simp), h1]; simp only; rw [if_neg (by rw [h3]; simp), if_neg (by rw [h4]; simp)]
  simp only at hearly
  generalize rnode ⟨4, a, b, d⟩ = res at *
  have t2 : decide ((a : Int) < 1) = false := decide_eq_false (by omega)
  have t3 : decide ((1001 : Int) < (a : Int)) = false := decide_eq_false (by omega)
  have t4 : decide ((b : Int) < 1) = false := decide_eq_false (by omega)
  have t5 : decide ((60 : Int) < (b : Int)) = false := decide_eq_false (by omega)
  have HE := Lib.hid hearly; have HLA := Lib.hid hlast; have HFO := Lib.hid hform; have HGO := Lib.hid hgood; have HH := Lib.hid h; have HR := Lib.hid hR; clear hearly hlast hform hgood h hR
  go_enter Try.func53, Try.ntmps53
  go_wp2
  go_quiet ((go_at_call 108; exact qcallS (room_any _)))
  have hbx := fun q => belD (belA (belR w) (.cells #[.int .i64 4, .int .u64 (a : Int), .int .u64 (b : Int), .slice A d.length c] 55)) q
  have hni := fun q => newIn_any ((w.alloc (.cells #[.int .i64 4, .int .u64 (a : Int), .int .u64 (b : Int), .slice A d.length c] 55)).drewN q) A d.length c d ((HR.out.keep fun p hp => (hbx q).cell hp).more (by simp)) hd
  have HBX := Lib.hid hbx; have HNI := Lib.hid hni; clear hbx hni
  go_wp2_with fail
  (with_reducible refine (HNI.out _).mono ?_); rintro y w1 ⟨g, rfl, hg, hin, hb1'⟩
  have hx := ((Blk.new w 55 #[.int .i64 4, .int .u64 (a : Int), .int .u64 (b : Int), .slice A d.length c]).drewN nq).below hb1' (by simp)
  have x1 := hx.cell 1; have x2 := hx.cell 2
  simp at x1 x2
  have hgw : w.heap.size + 1 ≤ g := by simpa using hg
  have hbw1 : Below w.heap.size w w1 := belT (HBX.out nq) hb1'
  have HIN := Lib.hid hin; have HX := Lib.hid hx; have HB1 := Lib.hid hb1'; have HBW1 := Lib.hid hbw1; clear hin hx hb1' hbw1 hg
  go_wp2
  go_loopw [6, 41] (fun ov i wr => ∃ k q acc, k ≤ a ∧ i = .int .u64 (k : Int) ∧ rst d k = (q, 0, acc) ∧ InS wr g d q 0 ∧ wr.ownsRow (g + 1) 94 2 ov k (entC acc) ∧ Below w.heap.size w wr ∧ Blk wr w.heap.size 55 #[.int .i64 4, .int .u64 (a : Int), .int .u64 (b : Int), .slice A d.length c]) (fun _ i _ => a - (intOf i).toNat)
  case atStart => exact ⟨0, 0, [], by omega, rfl, rfl, HIN.out, World.ownsRow_nil _ _ _ 2, HBW1.out, HX.out⟩
  case round =>
    obtain ⟨k, q, acc, hk, rfl, hst, hin, ho, hb, hX⟩ := hrel
    have hgl := hin.lt
    have hlen : acc.length = k := by have := rst_len d k; rw [hst] at this; exact this
    have hst1 := rst_succ d k
    rw [hst] at hst1
    obtain ⟨A0, c0, rfl, _, _, _⟩ := own_form ho
    have HO := Lib.hid ho; have HST := Lib.hid hst; have HX1 := Lib.hid hX; clear ho hst hX
    by_cases hlt : k < a
    · have hu1 := inUmax_any wr g d q 0 hin
      have er : rx d (q, 0, acc) = inU d q 0 umax := rfl
      have ey : ry d (q, 0, acc) = inU d (inU d q 0 umax).2.1 (inU d q 0 umax).2.2 8192 := rfl
      unfold rstep at hst1
      rw [er, ey] at hst1
      generalize inU d q 0 umax = r1 at *
      obtain ⟨x, q1, e1⟩ := r1
      simp only at hu1 hst1
      have hy8 := inU_lt d q1 e1 8192
      have hu2 := fun W hW => inU8k_any W g d q1 e1 hW
      generalize inU d q1 e1 8192 = r2 at *
      obtain ⟨y, q2, e2⟩ := r2
      simp only at hu2 hst1 hy8
      have HU1 := Lib.hid hu1; have HU2 := Lib.hid hu2; have HST1 := Lib.hid hst1; have HER := Lib.hid er; have HEY := Lib.hid ey; have HIN1 := Lib.hid hin; have HLEN := Lib.hid hlen; clear hu1 hu2 hst1 er ey hin hlen
      go_wp2_with fail
      (with_reducible refine HU1.out.mono ?_); rintro z w2 ⟨rfl, hi2, hon2⟩
      have hz2 := hon2.size
      have hB2 : Below (g + 1) (w2) (w2.alloc (.cells #[.int .u64 (x : Int), .int .i64 0] 94)) := (Below.refl _ _).alloc (by omega) _
      have HI2 := Lib.hid (hi2.below hB2 (by omega)); have HON2 := Lib.hid hon2; clear hi2 hB2
      go_wp2_with fail
      (with_reducible refine (HU2.out _ HI2.out).mono ?_); rintro z w3 ⟨rfl, hi3, hon3⟩
      have hyb := hon3.blk (Blk.new w2 94 #[.int .u64 (x : Int), .int .i64 0]) (by omega)
      have hz3 := hon3.size
      have y0 := hyb.cell 0; have y1 := hyb.cell 1; have f1 := hyb.frozen 1
      simp at y0 y1 hz3
      have hb3 : Below w2.heap.size w3 (w3.setCell ⟨w2.heap.size, 1, none⟩ (.int .i64 (y : Int))) := (Below.refl w2.heap.size w3).setCell (p := ⟨w2.heap.size, 1, none⟩) (Nat.le_refl _) _
      have hft := fault_any _ g d q2 e2 (hi3.below hb3 (by omega))
      have HFT := Lib.hid hft; have HI3 := Lib.hid (hi3.below hb3 (by omega)); have HON3 := Lib.hid hon3; have HYB := Lib.hid hyb; have HB3 := Lib.hid hb3; clear hft hi3 hon3 hyb hb3
      have hne2 : (Value.slice A0 k c0).ownBlock ≠ some g := fun e => by have := (HO.out.lt g e).1; omega
      have o2 := HON2.out.own HO.out hne2
      have o3 := HON3.out.own (o2.alloc (.cells #[.int .u64 (x : Int), .int .i64 0] 94)) hne2
      have o4 := (Only.set1 w3 w2.heap.size 1 (.int .i64 (y : Int))).own o3 (fun e => by have := (o2.lt _ e).2; omega)
      have hX2 := HON2.out.blk HX1.out (by omega)
      have hX3 := HON3.out.blk (hX2.alloc (.cells #[.int .u64 (x : Int), .int .i64 0] 94)) (by omega)
      have hX4 := hX3.far (p := ⟨w2.heap.size, 1, none⟩) (by simp only; omega) (.int .i64 (y : Int))
      have hbw4 : Below w.heap.size w (w3.setCell ⟨w2.heap.size, 1, none⟩ (.int .i64 (y : Int))) :=
        (((hb.trans (HON2.out.below (by omega) hb.size)).alloc (by have := hb.size; omega) _).trans (HON3.out.below (by omega) (by have := hb.size; simp; omega))).setCell (by have := hb.size; simp only; omega) _
      have hyb4 := HYB.out.set_ 1 (.int .i64 (y : Int))
      simp at hyb4
      have O4 := Lib.hid o4; have X4 := Lib.hid hX4; have BW4 := Lib.hid hbw4; have YB4 := Lib.hid hyb4; have NE2 := Lib.hid hne2; clear o2 o3 o4 hX2 hX3 hX4 hbw4 hyb4 hne2
      go_wp2_with fail
      (with_reducible refine HFT.out.mono ?_); rintro z w4 ⟨rfl, j4, rfl⟩
      by_cases he2 : e2 = 0
      · subst he2
        have hz4 : (w3.setCell ⟨w2.heap.size, 1, none⟩ (.int .i64 (y : Int))).heap.size = w3.heap.size := by simp
        have HZ4 := Lib.hid hz4; clear hz4
        go_wp2_with (at_builtin; refine wpList_appB rfl [.int .u64 (x : Int), .int .i64 (y : Int)] 2 rfl (by decide) (by simp [Value.oneCell']) _ _ 92 rfl (g + 1) 94 _ 16 info_ent rfl Try.underlying92 _ _ _ (own_drewN (O4.out.alloc (.cells #[.int .u64 (x : Int), .int .i64 (y : Int)] 94)) j4) w3.heap.size (new_at (j := j4) HZ4.out) rfl rfl ?_ ?_ ?_ ?_; omega; omega; (simp; omega); intro v5 w5 ho5 hap5; obtain ⟨A5, c5, rfl, _, _, _⟩ := own_form ho5)
        have hg1 : g + 1 ≤ ((w3.setCell ⟨w2.heap.size, 1, none⟩ (.int .i64 (y : Int))).alloc (.cells #[.int .u64 (x : Int), .int .i64 (y : Int)] 94)).heap.size := by simp; omega
        have hb5 : Below (g + 1) _ w5 := hap5.below hg1 (own_drewN (O4.out.alloc _) j4)
        go_roundw
        case rel =>
          refine ⟨k + 1, q2, acc ++ [(x, (y : Int))], by omega, by go_num, HST1.out, ?_, by rw [← entC_snoc]; exact ho5, ?_, ?_⟩
          · exact ((HI3.out.below (below_drewN ((Below.refl (g + 1) _).alloc (by simp; omega) _) j4) (by omega)).below hb5 (by omega))
          · exact (below_drewN (BW4.out.alloc BW4.out.size _) j4).trans (hb5.mono (by omega))
          · exact hap5.blk ((X4.out.alloc _).drewN j4) (fun e => by have := (O4.out.lt _ e).1; omega)
        case measure => simp [intOf]; omega
      · have hres := HE.out (k + 1) (by omega) (by rw [HST1.out]; exact he2)
        rw [HST1.out] at hres
        have t9 : ((e2 : Int) != 0) = true := by rw [bne_iff_ne]; omega
        have HRES := Lib.hid hres; have HE2 := Lib.hid he2; clear hres he2
        go_wp2
        go_ret3
        exact ⟨.slice none 0 0, by rw [HRES.out]; rfl, by rw [HRES.out]; exact World.ownsRow_nil _ _ _ 2, below_drewN BW4.out j4⟩
    · obtain rfl : k = a := by omega
      have hend := end_any wr g d q 0 hin
      have hla := HLA.out 0 q acc HST.out rfl
      have hfo := HFO.out 0 q acc HST.out rfl
      have hgo := HGO.out 0 q acc HST.out rfl
      have hne2 : (Value.slice A0 k c0).ownBlock ≠ some g := fun e => by have := (HO.out.lt g e).1; omega
      have hzb := hb.size
      generalize endE d q 0 = en at *
      have HEND := Lib.hid hend; have HLA2 := Lib.hid hla; have HFO2 := Lib.hid hfo; have HGO2 := Lib.hid hgo; have NE2 := Lib.hid hne2; have HLEN := Lib.hid hlen; have HST1 := Lib.hid hst1; clear hend hla hfo hgo hne2 hin hlen hst1
      go_wp2_with fail
      (with_reducible refine HEND.out.mono ?_); rintro z w2 ⟨rfl, hi2, hon2⟩
      have o2 := hon2.own HO.out NE2.out
      have hX2 := hon2.blk HX1.out (by omega)
      have hbw2 := hb.trans (hon2.below (by omega) hzb)
      have hri := rising_any A0 k c0 _ acc w2 (Rd.own o2) (by omega) (Nat.le_refl _)
      have O2 := Lib.hid o2; have X2 := Lib.hid hX2; have BW2 := Lib.hid hbw2; have HRI := Lib.hid hri; have HON2 := Lib.hid hon2; clear o2 hX2 hbw2 hi2 hri hon2
      by_cases hen : en = 0
      · subst hen
        cases hr : riseB acc with
        | true =>
          have hres := HGO2.out rfl hr
          have hri := HRI.out
          rw [hr] at hri
          have HRES := Lib.hid hres; have HR2 := Lib.hid hri; have HRR := Lib.hid hr; clear hres hri hr
          go_wp2_with fail
          (with_reducible refine HR2.out.mono ?_); rintro z w3 ⟨rfl, hb3⟩
          have x2 := (X2.out.below hb3 X2.out.lt).cell 2
          simp at x2
          have HB3 := Lib.hid hb3; clear hb3
          go_wp2
          go_ret3
          exact ⟨.slice A0 k c0, by rw [HRES.out]; rfl, by rw [HRES.out]; simp only; rw [HLEN.out]; exact own_mono (own_below O2.out HB3.out (Nat.le_refl _)) (by omega), belT BW2.out (by exact HB3.out)⟩
        | false =>
          have hres := HFO2.out rfl hr
          have hri := HRI.out
          rw [hr] at hri
          have HRES := Lib.hid hres; have HR2 := Lib.hid hri; have HRR := Lib.hid hr; clear hres hri hr
          go_wp2_with fail
          (with_reducible refine HR2.out.mono ?_); rintro z w3 ⟨rfl, hb3⟩
          have HB3 := Lib.hid hb3; clear hb3
          go_wp2
          go_ret3
          exact ⟨.slice none 0 0, by rw [HRES.out]; rfl, by rw [HRES.out]; exact World.ownsRow_nil _ _ _ 2, belT BW2.out (by exact HB3.out)⟩
      · have hres := HLA2.out hen
        have t9 : ((en : Int) != 0) = true := by rw [bne_iff_ne]; omega
        have HRES := Lib.hid hres; have HE2 := Lib.hid hen; clear hres hen
        go_wp2
        go_ret3
        exact ⟨.slice none 0 0, by rw [HRES.out]; rfl, by rw [HRES.out]; exact World.ownsRow_nil _ _ _ 2, BW2.out⟩

theorem readNode_any (w : World) (s : Sht) (A : Option Addr) (c : Nat) (hR : Rd w w.heap.size 1 A s.d.length (u8s s.d)) (hd : s.d.length ≤ 1000000) :
    Calls Try.prog 53 #[.agg #[.int .i64 s.k, .int .u64 (s.a : Int), .int .u64 (s.b : Int), .slice A s.d.length c]] w fun y w' =>
      ∃ v, y = .returned (.tuple #[.int .i64 (rnode s).1, v, .int .i64 ((rnode s).2.2 : Int)]) ∧ w'.ownsRow w.heap.size 94 2 v (rnode s).2.1.length (entC (rnode s).2.1) ∧ Below w.heap.size w w' := by
  obtain ⟨k, a, b, d⟩ := s
  cases hh : headB k a b with
  | false =>
    have hr : rnode ⟨k, a, b, d⟩ = (0, [], 6) := by unfold rnode; rw [if_pos hh]
    rw [hr]
    exact (readNode_head w ⟨k, a, b, d⟩ A c hh).mono fun y w' ⟨hy, hb⟩ => ⟨.slice none 0 0, hy, World.ownsRow_nil _ _ _ 2, hb⟩
  | true =>
    obtain ⟨rfl, _⟩ := headB_true _ _ _ hh
    exact readNode_body w a b d A c hh hR hd
end Go.Proofs.Ytfhmaincnlaapaa
