/-
  tree.Nodes.
-/
import Derived.Test.YtfhmaincnlaapaaNodesPure
namespace Go.Proofs.Ytfhmaincnlaapaa
open Go.ChangeShapes Go.WideShapes Go.ChangeAt Go.RowKit
set_option linter.unusedVariables false

theorem nodes_range (w : World) (level : Int) (A : Option Addr) (n c : Nat) (h : level < 1 ∨ 60 < level) :
    Calls Try.prog 45 #[.int .i64 level, .slice A n c] w fun y w' => y = .returned (.tuple #[.slice none 0 0, .int .i64 2]) ∧ w = w' := by
  rcases h with h | h
  · go_enter Try.func45, Try.ntmps45
    go_wp2
    go_ret2
    exact ⟨rfl, rfl⟩
  · have h' : ¬ level < 1 := by omega
    go_enter Try.func45, Try.ntmps45
    go_wp2
    go_ret2
    exact ⟨rfl, rfl⟩
theorem nodes_form (w : World) (level : Int) (A : Option Addr) (n c B : Nat) (l : List (Nat × Int)) (h1 : 1 ≤ level) (h2 : level ≤ 60) (h : Rd w B 2 A n (entC l)) (hn : n ≤ 1000000) (hB : B ≤ w.heap.size) (hr : riseB l = false) :
    Calls Try.prog 45 #[.int .i64 level, .slice A n c] w fun y w' => y = .returned (.tuple #[.slice none 0 0, .int .i64 6]) ∧ Below w.heap.size w w' := by
  have hc := rising_any A n c B l w h hn hB
  rw [hr] at hc
  have HC := Lib.hid hc; have HR := Lib.hid hr; have H := Lib.hid h; clear hc hr h
  go_enter Try.func45, Try.ntmps45
  go_wp2_with (go_at_call 98; (with_reducible refine HC.out.mono ?_); rintro y w1 ⟨rfl, hb1⟩)
  go_ret2
  exact ⟨rfl, hb1⟩

theorem two_le {m : Nat} (h : 2 ≤ m) : decide ((2 : Int) ≤ (m : Int)) = true := decide_eq_true (by omega)
set_option maxRecDepth 20000 in
set_option maxHeartbeats 2000000 in
theorem nodes_ok (w : World) (lv : Nat) (A : Option Addr) (n c B : Nat) (l : List (Nat × Int)) (h1 : 1 ≤ lv) (h2 : lv ≤ 60) (h : Rd w B 2 A n (entC l)) (hn : n ≤ 1000) (hB : B ≤ w.heap.size) (hr : riseB l = true)
    (hf : ∀ k (hk : k < l.length), l[k].1 < 18446744073709551616 ∧ 1 ≤ l[k].2 ∧ l[k].2 ≤ 8192) :
    Calls Try.prog 45 #[.int .i64 (lv : Int), .slice A n c] w fun y w' => ∃ v xs, y = .returned (.tuple #[v, .int .i64 0]) ∧ w'.ownsRow w.heap.size 55 4 v (nodes lv l).length xs ∧ ShR w' w'.heap.size (nodes lv l) xs ∧ Below w.heap.size w w' := by
  obtain rfl : n = l.length := h.ent_len
  have hc := rising_any A l.length c B l w h (by omega) hB
  rw [hr] at hc
  have HC := Lib.hid hc; have HR := Lib.hid hr; have H := Lib.hid h; have HF := Lib.hid hf; clear hc hr h hf
  go_enter Try.func45, Try.ntmps45
  go_wp2_with (go_at_call 98; (with_reducible refine HC.out.mono ?_); rintro y w1 ⟨rfl, hb1⟩)
  have hz1 := hb1.size
  have hp0 : PkS (w1.alloc (.cells #[.int .i64 4, .int .u64 (lv : Int), .slice none 0 0, .int .u64 0, .slice none 0 0] 107)) w.heap.size w1.heap.size 4 lv [] 0 [] :=
    ⟨hz1, .slice none 0 0, .slice none 0 0, w.heap.size, [], Blk.new _ _ _, Nat.le_refl _, by simp; omega, World.ownsRow_nil _ _ _ 1, World.ownsRow_nil _ _ _ 4, rfl⟩
  have HP0 := Lib.hid hp0; have HB1 := Lib.hid hb1; clear hp0 hb1
  go_loopw [8, 24] (fun v8 i wr => ∃ k : Nat, k ≤ l.length ∧ i = .int .i64 (k : Int) ∧ PkS wr w.heap.size w1.heap.size 4 lv (nst lv (l.take k)).1 (nst lv (l.take k)).2.1 (nst lv (l.take k)).2.2 ∧ Below w.heap.size w wr) (fun _ i _ => l.length - (intOf i).toNat)
  case atStart => exact ⟨0, by omega, rfl, by simpa [nst] using HP0.out, belA HB1.out _⟩
  case round =>
    obtain ⟨k, hk, rfl, hp, hb⟩ := hrel
    have hz := hb.size
    have hbd := nst_bd lv (l.take k)
    have hlk : (l.take k).length ≤ 1000 := by rw [List.length_take]; omega
    by_cases hlt : k < l.length
    · obtain ⟨a, rfl, hab, x0, x1⟩ := (H.out.below (hb.mono hB)).ent hlt
      obtain ⟨hf1, hf2, hf3⟩ := HF.out k hlt
      have hst := nst_take lv l k hlt
      generalize hx : l[k] = x at *
      obtain ⟨f, p⟩ := x
      generalize hs : nst lv (l.take k) = st at *
      obtain ⟨ss, m, d⟩ := st
      simp only at x0 x1 hf1 hf2 hf3 hbd hp
      have HST := Lib.hid hst; have HX := Lib.hid hx; have HS := Lib.hid hs; have HP := Lib.hid hp; clear hst hx hs hp
      obtain ⟨_, bv, ov, Bd, xs, hB, _⟩ := HP.out
      have x3 := hB.cell 3
      simp at x3
      have hgl : w1.heap.size < wr.heap.size := hB.lt
      have hpa : PkS (wr.alloc (.cells #[.int .u64 (f : Int), .int .i64 p] 94)).drew w.heap.size w1.heap.size 4 lv ss m d := HP.out.below (belA (belR _) _).drew
      have hba : Blk (wr.alloc (.cells #[.int .u64 (f : Int), .int .i64 p] 94)).drew wr.heap.size 94 #[.int .u64 (f : Int), .int .i64 p] := Blk.new _ _ _
      have hga : Blk (wr.alloc (.cells #[.int .u64 (f : Int), .int .i64 p] 94)).drew w1.heap.size 107 #[.int .i64 4, .int .u64 (lv : Int), bv, .int .u64 (m : Int), ov] := hB.alloc _
      have he := encE_len (f, p)
      have HB := Lib.hid hB; have HPA := Lib.hid hpa; have HBA := Lib.hid hba; have HGA := Lib.hid hga; clear hB hpa hba hga
      by_cases hn2 : 2 ≤ m
      · have t1 : decide (2 ≤ m) = true := decide_eq_true hn2
        have t1' : decide ((2 : Int) ≤ (m : Int)) = true := two_le hn2
        have hbk : (decide (2 ≤ m) && brkB f lv) = brkB f lv := by rw [t1, Bool.true_and]
        have HBK := Lib.hid hbk; clear hbk
        go_wp2_with fail
        go_region_with (first
          | (go_at_call 99; (with_reducible refine (bytesE_any _ f p hf1 (by omega) hf3).mono ?_); rintro y w2 ⟨v2, rfl, ho2, hb2⟩; obtain ⟨A2, c2, rfl, _, _, _⟩ := own_form ho2; have B2 := HBA.out.below hb2 (by simp); have G2 := HGA.out.below hb2 (by simp; omega); have z0 := B2.cell 0; have z3 := G2.cell 3; simp at z0 z3; have P2 := HPA.out.below hb2; have HP2 := Lib.hid P2; have HO2 := Lib.hid ho2; have HB2 := Lib.hid hb2; clear ho2 hb2 P2 B2 G2)
          | (go_at_call 58; (with_reducible refine (break_any f (lv : Int) _).mono ?_); rintro y w' ⟨rfl, rfl⟩)
          | (go_at_call 56; (with_reducible refine (packPut_any _ _ _ _ _ (ss, m, d) _ _ _ _ _ HP2.out HO2.out ?_ ?_ ?_ ?_).mono ?_); (first | omega | (simp only; omega)); (first | omega | (simp only; omega)); (first | omega | (simp only; omega)); (first | omega | (simp only; omega)); rintro y w3 ⟨rfl, hp3, hb3⟩))
        all_goals
          go_wp2
          go_roundw
          case rel => exact ⟨k + 1, by omega, by go_num, by rw [HST.out]; unfold nstep; simp only; rw [HBK.out]; exact hp3, hb.trans ((((belA (belR wr) _).drew.trans (HB2.out.mono (by simp))).mono hz).trans hb3)⟩
          case measure => simp [intOf]; omega
      · have hm : m = 0 ∨ m = 1 := by omega
        rcases hm with rfl | rfl
        · have hbk : (decide (2 ≤ 0) && brkB f lv) = false := rfl
          have HBK := Lib.hid hbk; clear hbk hn2
          simp only [Int.cast_ofNat_Int] at x3 HGA
          go_wp2_with fail
          first | (go_region_with (first
            | (go_at_call 99; (with_reducible refine (bytesE_any _ f p hf1 (by omega) hf3).mono ?_); rintro y w2 ⟨v2, rfl, ho2, hb2⟩; obtain ⟨A2, c2, rfl, _, _, _⟩ := own_form ho2; have B2 := HBA.out.below hb2 (by simp); have G2 := HGA.out.below hb2 (by simp; omega); have z0 := B2.cell 0; have z3 := G2.cell 3; simp at z0 z3; have P2 := HPA.out.below hb2; have HP2 := Lib.hid P2; have HO2 := Lib.hid ho2; have HB2 := Lib.hid hb2; clear ho2 hb2 P2 B2 G2)
            | (go_at_call 56; (with_reducible refine (packPut_any _ _ _ _ _ (ss, 0, d) _ _ _ _ _ HP2.out HO2.out ?_ ?_ ?_ ?_).mono ?_); (first | omega | (simp only; omega)); (first | omega | (simp only; omega)); (first | omega | (simp only; omega)); (first | omega | (simp only; omega)); rintro y w3 ⟨rfl, hp3, hb3⟩))) | fail
          all_goals
            go_wp2
            go_roundw
            case rel => exact ⟨k + 1, by omega, by go_num, by rw [HST.out]; unfold nstep; simp only; rw [HBK.out]; exact hp3, hb.trans ((((belA (belR wr) _).drew.trans (HB2.out.mono (by simp))).mono hz).trans hb3)⟩
            case measure => simp [intOf]; omega
        · have hbk : (decide (2 ≤ 1) && brkB f lv) = false := rfl
          have HBK := Lib.hid hbk; clear hbk hn2
          simp only [Int.natCast_one] at x3 HGA
          go_wp2_with fail
          first | (go_region_with (first
            | (go_at_call 99; (with_reducible refine (bytesE_any _ f p hf1 (by omega) hf3).mono ?_); rintro y w2 ⟨v2, rfl, ho2, hb2⟩; obtain ⟨A2, c2, rfl, _, _, _⟩ := own_form ho2; have B2 := HBA.out.below hb2 (by simp); have G2 := HGA.out.below hb2 (by simp; omega); have z0 := B2.cell 0; have z3 := G2.cell 3; simp at z0 z3; have P2 := HPA.out.below hb2; have HP2 := Lib.hid P2; have HO2 := Lib.hid ho2; have HB2 := Lib.hid hb2; clear ho2 hb2 P2 B2 G2)
            | (go_at_call 56; (with_reducible refine (packPut_any _ _ _ _ _ (ss, 1, d) _ _ _ _ _ HP2.out HO2.out ?_ ?_ ?_ ?_).mono ?_); (first | omega | (simp only; omega)); (first | omega | (simp only; omega)); (first | omega | (simp only; omega)); (first | omega | (simp only; omega)); rintro y w3 ⟨rfl, hp3, hb3⟩))) | fail
          all_goals
            go_wp2
            go_roundw
            case rel => exact ⟨k + 1, by omega, by go_num, by rw [HST.out]; unfold nstep; simp only; rw [HBK.out]; exact hp3, hb.trans ((((belA (belR wr) _).drew.trans (HB2.out.mono (by simp))).mono hz).trans hb3)⟩
            case measure => simp [intOf]; omega
    · obtain rfl : k = l.length := by omega
      rw [List.take_length] at hp hbd
      have he := packEnd_any wr w.heap.size w1.heap.size lv 4 (nst lv l) hp (by omega) (by omega)
      have HE := Lib.hid he; clear he hp
      go_wp2_with fail
      (with_reducible refine HE.out.mono ?_); rintro y w2 ⟨rfl, hp2, hb2⟩
      obtain ⟨_, bv, ov, Bd, xs, hB2, _, _, _, h4, h5⟩ := hp2
      obtain ⟨A2, c2, rfl, _, _, _⟩ := own_form h4
      have x4 := hB2.cell 4
      simp at x4
      have H4 := Lib.hid h4; have H5 := Lib.hid h5; have HB2 := Lib.hid hB2; clear h4 h5 hB2
      go_wp2
      go_ret2
      exact ⟨_, xs, rfl, H4.out, H5.out.reads, hb.trans hb2⟩
end Go.Proofs.Ytfhmaincnlaapaa
