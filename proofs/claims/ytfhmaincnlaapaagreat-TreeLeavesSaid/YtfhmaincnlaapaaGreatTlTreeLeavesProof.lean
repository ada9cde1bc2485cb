/-
  bushellaw25.TreeLeaves answers true for any schema, any set of dimensions and any list of cells, and leaves them as they were.
  Conditions: none beyond the statement's own.
-/
import Derived.StillTailTactics
import Derived.Test.YtfhmaincnlaapaaGreatTlGetWalks
import Derived.Test.YtfhmaincnlaapaaGreatTlSchemaCheck
import Derived.Test.YtfhmaincnlaapaaGreatTlNumMath
import Derived.Test.YtfhmaincnlaapaaGreatTlRefKeys
import Derived.Test.YtfhmaincnlaapaaGreatTlLeafLaw
import Derived.Test.YtfhmaincnlaapaaGreatTlRefPutC
import Derived.Test.YtfhmaincnlaapaaGreatTlRefPages
import Derived.Test.YtfhmaincnlaapaaGreatTlRefRight
namespace Go.Proofs.YtfhmaincnlaapaaGreat
open Go.ChangeShapes Go.WideShapes Go.ChangeAt Go.RowKit
set_option linter.unusedVariables false

theorem keysOf_some {S : Sch} {mask : Nat} (h0 : checkN S = 0) (h1 : mask < p2 S.dims.length) : (keysOf S mask).isSome = true := by rw [keysOf_yes h0 h1]; rfl
theorem rightL_nk {S : Sch} {mask : Nat} {l : List CellS} (h : keysOf S mask = none) : rightL S mask l = false := rightL_no (.inl fun ⟨n, hn⟩ => by rw [h] at hn; cases hn)
set_option maxRecDepth 20000 in
set_option maxHeartbeats 8000000 in
theorem ref15Right_any (w : World) (B : Nat) (v : Value) (S : Sch) (A : Option Addr) (c : Nat) (l : List CellS) (mask : Nat) (h : SchAt w B v S) (ho : SchOk S) (g : SlR cellR w B l A c) (hB : B ≤ w.heap.size) (hm : mask < 4294967296) :
    Calls Tryz.prog 30 #[v, .int .u32 (mask : Int), .slice A l.length c] w fun y w' => y = .returned (.bool (rightL S mask l)) ∧ Below w.heap.size w w' := by
  have hml : l.length ≤ 9223372036854775807 := by have h1 := g.1; have h2 := g.2.1; unfold maxLen at h2; omega
  have hh := h
  obtain ⟨A0, c0, A1, c1, A2, c2, A3, c3, rfl, r0, r1, r2, r3, b0, b1, b2, b3⟩ := hh
  clear r0 r1 r2 r3 b0 b1 b2 b3
  obtain ⟨W0, hW0⟩ : ∃ W0, W0 = w.alloc (.cells #[.slice A0 S.dims.length c0, .slice A1 S.ints.length c1, .slice A2 S.nums.length c2, .slice A3 S.views.length c3] 26) := ⟨_, rfl⟩
  have hw : Below w.heap.size w W0 := by rw [hW0]; exact belA (belR w) _
  have hz0 : W0.heap.size = w.heap.size + 1 := by rw [hW0]; simp
  have ks : Blk W0 w.heap.size 26 #[.slice A0 S.dims.length c0, .slice A1 S.ints.length c1, .slice A2 S.nums.length c2, .slice A3 S.views.length c3] := by rw [hW0]; exact Blk.new w _ _
  have HKS := Lib.hid (fun W (hb : Below W0.heap.size W0 W) => ks.below hb (by omega))
  have HBV : Hid (∀ W', Below W0.heap.size W0 W' → Below w.heap.size w W') := Lib.hid fun W' hb => hw.trans (hb.mono (by omega))
  have HSC : Hid (∀ W', Below W0.heap.size W0 W' → SchAt W' B (.agg #[.slice A0 S.dims.length c0, .slice A1 S.ints.length c1, .slice A2 S.nums.length c2, .slice A3 S.views.length c3]) S) := Lib.hid fun W' hb => h.keep ((HBV.out W' hb).mono hB) (Nat.le_refl _)
  have HCK := Lib.hid (refCheck_any W0 B _ S (HSC.out _ (belR W0)) ho (by show B ≤ W0.heap.size; omega))
  have HZ := Lib.hid hz0; have HW0 := Lib.hid hW0; have G := Lib.hid g
  have s0 := ks.cell 0; have s1 := ks.cell 1; have s2 := ks.cell 2; have s3 := ks.cell 3
  simp at s0 s1 s2 s3
  clear hW0 hw ks h hz0 g
  go_enter Tryz.func30, Tryz.ntmps30
  go_wp2_with fail
  rw [← HW0.out]
  (with_reducible refine HCK.out.mono ?_); rintro y w1 ⟨rfl, hb1⟩
  have HB1 := Lib.hid hb1
  have k1 := HKS.out w1 hb1
  clear s0 s1 s2 s3 hb1
  have s0 := k1.cell 0; have s1 := k1.cell 1; have s2 := k1.cell 2; have s3 := k1.cell 3
  simp at s0 s1 s2 s3
  clear k1
  by_cases q0 : checkN S = 0
  case neg =>
    have t0 : ((checkN S : Int) != 0) = true := by rw [bne_iff_ne]; omega
    have HF := Lib.hid (rightL_nk (l := l) (keysOf_no (mask := mask) fun hh => q0 hh.1))
    clear q0
    generalize checkN S = ck at *
    go_wp2
    go_ret
    exact ⟨(by rw [HF.out] <;> rfl), HBV.out _ HB1.out⟩
  obtain ⟨hmo, p, hp⟩ := checkN_zero q0
  unfold manyOk at hmo
  obtain ⟨m1, m2, _⟩ := hmo
  have hfle := fullN_le m1 m2
  have HFU := Lib.hid (refFull_any w1 B _ S (HSC.out _ HB1.out) (by have := HB1.out.size; have := HZ.out; omega) m1 m2)
  have HSU := Lib.hid (fun W => sub_any W mask (fullN S) hm (by omega))
  have hsub : subB mask (fullN S) = decide (mask < p2 S.dims.length) := sub_full mask S.dims.length (by omega) hm
  rw [hsub] at HSU
  have HQ0 := Lib.hid q0
  rw [q0]
  clear hp hsub q0
  by_cases q1 : mask < p2 S.dims.length
  case neg =>
    have HF := Lib.hid (rightL_nk (l := l) (keysOf_no (S := S) (mask := mask) fun hh => q1 hh.2))
    rw [decide_eq_false q1] at HSU
    clear q1 hfle
    generalize fullN S = fn at *
    go_wp2_with (first
      | (go_at_call 60; (with_reducible refine HFU.out.mono ?_); rintro y w2 ⟨rfl, hb2⟩; have HB2 := Lib.hid (HB1.out.trans (hb2.mono HB1.out.size)); clear hb2)
      | (go_at_call 59; (with_reducible refine (HSU.out _).mono ?_); rintro y w3 ⟨rfl, rfl⟩))
    go_ret
    exact ⟨(by rw [HF.out] <;> rfl), HBV.out _ HB2.out⟩
  have HK := Lib.hid (keysOf_some HQ0.out q1)
  rw [decide_eq_true q1] at HSU
  clear q1 hfle
  generalize fullN S = fn at *
  have HRS := Lib.hid (fun W (hb : Below W0.heap.size W0 W) => rising15_any W B A c l (G.out.keep ((HBV.out W hb).mono hB) (Nat.le_refl _)))
  cases hr : risingC l with
  | false =>
    rw [hr] at HRS
    have HF := Lib.hid (rightL_no (S := S) (mask := mask) (.inr (.inl hr)))
    clear hr
    go_wp2_with (first
      | (go_at_call 60; (with_reducible refine HFU.out.mono ?_); rintro y w2 ⟨rfl, hb2⟩; have HB2 := Lib.hid (HB1.out.trans (hb2.mono HB1.out.size)); clear hb2)
      | (go_at_call 59; (with_reducible refine (HSU.out _).mono ?_); rintro y w3 ⟨rfl, rfl⟩)
      | (go_at_call 61; (with_reducible refine (HRS.out _ HB2.out).mono ?_); rintro y w4 ⟨rfl, hd4⟩; have HB4 := Lib.hid (hd4.below HB2.out); clear hd4))
    go_ret
    exact ⟨(by rw [HF.out] <;> rfl), HBV.out _ HB4.out⟩
  | true =>
    rw [hr] at HRS
    have HR := Lib.hid hr
    clear hr
    go_wp2_with (first
      | (go_at_call 60; (with_reducible refine HFU.out.mono ?_); rintro y w2 ⟨rfl, hb2⟩; have HB2 := Lib.hid (HB1.out.trans (hb2.mono HB1.out.size)); clear hb2)
      | (go_at_call 59; (with_reducible refine (HSU.out _).mono ?_); rintro y w3 ⟨rfl, rfl⟩)
      | (go_at_call 61; (with_reducible refine (HRS.out _ HB2.out).mono ?_); rintro y w4 ⟨rfl, hd4⟩; have HB4 := Lib.hid (hd4.below HB2.out); clear hd4))
    clear s0 s1 s2 s3
    go_loopw [7] (fun i wr => ∃ k : Nat, k ≤ l.length ∧ i = .int .i64 (k : Int) ∧ Hid ((l.take k).all (rightC S mask) = true) ∧ Hid (Below W0.heap.size W0 wr)) (fun i _ => l.length - (intOf i).toNat)
    case atStart => exact ⟨0, by omega, rfl, Lib.hid rfl, HB4⟩
    case round =>
      obtain ⟨k, hk, rfl, HA, HBl⟩ := hrel
      by_cases hlt : k < l.length
      · obtain ⟨a, D2, d2, D3, d3, ea, hab, x0, x1, x2, x3, hv⟩ := (G.out.keep ((HBV.out _ HBl.out).mono hB) (Nat.le_refl _)).cellAt hlt
        have q1 : (0 : Int) ≤ (k : Int) := by omega
        have q2 : (k : Int) < (l.length : Int) := by omega
        have hts := all_take_succ (rightC S mask) l k hlt
        rw [HA.out, Bool.true_and] at hts
        have HN1 := Lib.hid fun (hf : rightC S mask l[k] = false) => rightL_no (S := S) (mask := mask) (.inr (.inr (all_no _ l k hlt hf)))
        subst ea
        generalize l[k] = C at *
        have hzr : W0.heap.size ≤ wr.heap.size := HBl.out.size
        have hk0 : wr.cell? ⟨w.heap.size, 0, none⟩ = some (.slice A0 S.dims.length c0) ∧ wr.cell? ⟨w.heap.size, 1, none⟩ = some (.slice A1 S.ints.length c1) ∧ wr.cell? ⟨w.heap.size, 2, none⟩ = some (.slice A2 S.nums.length c2) ∧ wr.cell? ⟨w.heap.size, 3, none⟩ = some (.slice A3 S.views.length c3) ∧ wr.cell? (a.add (k * 4)) = some (.int .u64 (C.key : Int)) ∧ wr.cell? ⟨(a.add (k * 4)).block, (a.add (k * 4)).off + 1, none⟩ = some (.int .i64 C.count) ∧ wr.cell? ⟨(a.add (k * 4)).block, (a.add (k * 4)).off + 2, none⟩ = some (.slice D2 C.ints.length d2) ∧ wr.cell? ⟨(a.add (k * 4)).block, (a.add (k * 4)).off + 3, none⟩ = some (.slice D3 C.nums.length d3) := by
          have a := HKS.out wr HBl.out
          exact ⟨a.cell 0, a.cell 1, a.cell 2, a.cell 3, x0, x1, x2, x3⟩
        have har := ref14Right_any wr.drew B _ S mask C D2 d2 D3 d3 (HSC.out _ HBl.out.drew) ho (hv.keep ((belR wr).drew.mono (show B ≤ wr.heap.size by have := HZ.out; omega)) (Nat.le_refl _)) (by show B ≤ wr.heap.size; have := HZ.out; omega) hm
        have HK8 : Hid (∀ W, Below W0.heap.size W0 W → Below wr.drew.heap.size wr.drew W → W.cell? ⟨w.heap.size, 0, none⟩ = some (.slice A0 S.dims.length c0) ∧ W.cell? ⟨w.heap.size, 1, none⟩ = some (.slice A1 S.ints.length c1) ∧ W.cell? ⟨w.heap.size, 2, none⟩ = some (.slice A2 S.nums.length c2) ∧ W.cell? ⟨w.heap.size, 3, none⟩ = some (.slice A3 S.views.length c3) ∧ W.cell? (a.add (k * 4)) = some (.int .u64 (C.key : Int)) ∧ W.cell? ⟨(a.add (k * 4)).block, (a.add (k * 4)).off + 1, none⟩ = some (.int .i64 C.count) ∧ W.cell? ⟨(a.add (k * 4)).block, (a.add (k * 4)).off + 2, none⟩ = some (.slice D2 C.ints.length d2) ∧ W.cell? ⟨(a.add (k * 4)).block, (a.add (k * 4)).off + 3, none⟩ = some (.slice D3 C.nums.length d3)) := Lib.hid fun W hb hw => by
          have a' := HKS.out W hb
          have e : ∀ j, W.cell? ⟨(a.add (k * 4)).block, (a.add (k * 4)).off + j, none⟩ = wr.cell? ⟨(a.add (k * 4)).block, (a.add (k * 4)).off + j, none⟩ := fun j => hw.cell (p := ⟨(a.add (k * 4)).block, (a.add (k * 4)).off + j, none⟩) (by show (a.add (k * 4)).block < wr.heap.size; rw [block_add]; have := HZ.out; omega)
          have e0 : W.cell? (a.add (k * 4)) = wr.cell? (a.add (k * 4)) := hw.cell (by rw [block_add]; show a.block < wr.heap.size; have := HZ.out; omega)
          exact ⟨a'.cell 0, a'.cell 1, a'.cell 2, a'.cell 3, e0.trans x0, (e 1).trans x1, (e 2).trans x2, (e 3).trans x3⟩
        cases hr : rightC S mask C with
        | false =>
          rw [hr] at har
          have HF := Lib.hid (HN1.out hr)
          have HAR := Lib.hid har
          clear har hr hts hv x0 x1 x2 x3
          go_wp2
          refine wp_region_held_drew (S := (fun W => W.cell? ⟨w.heap.size, 0, none⟩ = some (.slice A0 S.dims.length c0) ∧ W.cell? ⟨w.heap.size, 1, none⟩ = some (.slice A1 S.ints.length c1) ∧ W.cell? ⟨w.heap.size, 2, none⟩ = some (.slice A2 S.nums.length c2) ∧ W.cell? ⟨w.heap.size, 3, none⟩ = some (.slice A3 S.views.length c3) ∧ W.cell? (a.add (k * 4)) = some (.int .u64 (C.key : Int)) ∧ W.cell? ⟨(a.add (k * 4)).block, (a.add (k * 4)).off + 1, none⟩ = some (.int .i64 C.count) ∧ W.cell? ⟨(a.add (k * 4)).block, (a.add (k * 4)).off + 2, none⟩ = some (.slice D2 C.ints.length d2) ∧ W.cell? ⟨(a.add (k * 4)).block, (a.add (k * 4)).off + 3, none⟩ = some (.slice D3 C.nums.length d3))) (by kernel_rfl) (hk0) (fun hHeld => ?_)
          refine rh_take 0 (some 29) (v := ?_) rfl rfl (by kernel_rfl) (by kernel_rfl) (by kernel_rfl) (by kernel_rfl) (fun _ _ _ h => h) hHeld ?_ ?_
          rotate_left
          · (intro w hSw; (try dsimp only at hSw); go_simp; try with_reducible rfl)
          try simp only [Act.put, List.setIfInBounds_toArray, List.set_cons_zero, List.set_cons_succ]
          refine rh_take 1 (some 30) (v := ?_) rfl rfl (by kernel_rfl) (by kernel_rfl) (by kernel_rfl) (by kernel_rfl) (fun _ _ _ h => h) hHeld ?_ ?_
          rotate_left
          · (intro w hSw; (try dsimp only at hSw); go_simp; try with_reducible rfl)
          try simp only [Act.put, List.setIfInBounds_toArray, List.set_cons_zero, List.set_cons_succ]
          refine rh_take 2 (some 31) (v := ?_) rfl rfl (by kernel_rfl) (by kernel_rfl) (by kernel_rfl) (by kernel_rfl) (fun _ _ _ h => h) hHeld ?_ ?_
          rotate_left
          · (intro w hSw; (try dsimp only at hSw); go_simp; try with_reducible rfl)
          try simp only [Act.put, List.setIfInBounds_toArray, List.set_cons_zero, List.set_cons_succ]
          refine rh_take 3 (some 32) (v := ?_) rfl rfl (by kernel_rfl) (by kernel_rfl) (by kernel_rfl) (by kernel_rfl) (fun _ _ _ h => h) hHeld ?_ ?_
          rotate_left
          · (intro w hSw; (try dsimp only at hSw); go_simp; try with_reducible rfl)
          try simp only [Act.put, List.setIfInBounds_toArray, List.set_cons_zero, List.set_cons_succ]
          refine rh_take 4 (some 33) (v := ?_) rfl rfl (by kernel_rfl) (by kernel_rfl) (by kernel_rfl) (by kernel_rfl) (fun _ _ _ h => h) hHeld ?_ ?_
          rotate_left
          · (intro w hSw; (try dsimp only at hSw); go_simp; try with_reducible rfl)
          try simp only [Act.put, List.setIfInBounds_toArray, List.set_cons_zero, List.set_cons_succ]
          refine rh_take 5 (some 34) (v := ?_) rfl rfl (by kernel_rfl) (by kernel_rfl) (by kernel_rfl) (by kernel_rfl) (fun _ _ _ h => h) hHeld ?_ ?_
          rotate_left
          · (intro w hSw; (try dsimp only at hSw); go_simp; try with_reducible rfl)
          try simp only [Act.put, List.setIfInBounds_toArray, List.set_cons_zero, List.set_cons_succ]
          refine rh_call 6 (some 35) (by kernel_rfl) rfl rfl (by kernel_rfl) (fun K hK => ?_)
          clear hHeld
          go_simp
          (go_at_call 25; (with_reducible refine HAR.out.mono ?_); rintro y w2 ⟨rfl, hb2⟩; have HB3 := Lib.hid (HBl.out.drew.trans (hb2.mono hzr)); have hk3 := HK8.out w2 HB3.out hb2; clear hb2)
          refine hK.out _ _ (hk3) (fun hHeld => ?_)
          clear hK K
          try simp only [Act.put, List.setIfInBounds_toArray, List.set_cons_zero, List.set_cons_succ]
          refine rh_take 7 (some 36) (v := ?_) rfl rfl (by kernel_rfl) (by kernel_rfl) (by kernel_rfl) (by kernel_rfl) (fun _ _ _ h => h) hHeld ?_ ?_
          rotate_left
          · (intro w hSw; (try dsimp only at hSw); go_simp; try with_reducible rfl)
          try simp only [Act.put, List.setIfInBounds_toArray, List.set_cons_zero, List.set_cons_succ]
          refine wpAnyH_done (by kernel_rfl) ?_ _
          clear hHeld
          go_wp2
          go_ret
          exact ⟨(by rw [HF.out] <;> rfl), HBV.out _ HB3.out⟩
        | true =>
          rw [hr] at har
          have HT := Lib.hid (hts.trans hr)
          have HAR := Lib.hid har
          clear har hr hts hv x0 x1 x2 x3
          go_wp2
          refine wp_region_held_drew (S := (fun W => W.cell? ⟨w.heap.size, 0, none⟩ = some (.slice A0 S.dims.length c0) ∧ W.cell? ⟨w.heap.size, 1, none⟩ = some (.slice A1 S.ints.length c1) ∧ W.cell? ⟨w.heap.size, 2, none⟩ = some (.slice A2 S.nums.length c2) ∧ W.cell? ⟨w.heap.size, 3, none⟩ = some (.slice A3 S.views.length c3) ∧ W.cell? (a.add (k * 4)) = some (.int .u64 (C.key : Int)) ∧ W.cell? ⟨(a.add (k * 4)).block, (a.add (k * 4)).off + 1, none⟩ = some (.int .i64 C.count) ∧ W.cell? ⟨(a.add (k * 4)).block, (a.add (k * 4)).off + 2, none⟩ = some (.slice D2 C.ints.length d2) ∧ W.cell? ⟨(a.add (k * 4)).block, (a.add (k * 4)).off + 3, none⟩ = some (.slice D3 C.nums.length d3))) (by kernel_rfl) (hk0) (fun hHeld => ?_)
          refine rh_take 0 (some 29) (v := ?_) rfl rfl (by kernel_rfl) (by kernel_rfl) (by kernel_rfl) (by kernel_rfl) (fun _ _ _ h => h) hHeld ?_ ?_
          rotate_left
          · (intro w hSw; (try dsimp only at hSw); go_simp; try with_reducible rfl)
          try simp only [Act.put, List.setIfInBounds_toArray, List.set_cons_zero, List.set_cons_succ]
          refine rh_take 1 (some 30) (v := ?_) rfl rfl (by kernel_rfl) (by kernel_rfl) (by kernel_rfl) (by kernel_rfl) (fun _ _ _ h => h) hHeld ?_ ?_
          rotate_left
          · (intro w hSw; (try dsimp only at hSw); go_simp; try with_reducible rfl)
          try simp only [Act.put, List.setIfInBounds_toArray, List.set_cons_zero, List.set_cons_succ]
          refine rh_take 2 (some 31) (v := ?_) rfl rfl (by kernel_rfl) (by kernel_rfl) (by kernel_rfl) (by kernel_rfl) (fun _ _ _ h => h) hHeld ?_ ?_
          rotate_left
          · (intro w hSw; (try dsimp only at hSw); go_simp; try with_reducible rfl)
          try simp only [Act.put, List.setIfInBounds_toArray, List.set_cons_zero, List.set_cons_succ]
          refine rh_take 3 (some 32) (v := ?_) rfl rfl (by kernel_rfl) (by kernel_rfl) (by kernel_rfl) (by kernel_rfl) (fun _ _ _ h => h) hHeld ?_ ?_
          rotate_left
          · (intro w hSw; (try dsimp only at hSw); go_simp; try with_reducible rfl)
          try simp only [Act.put, List.setIfInBounds_toArray, List.set_cons_zero, List.set_cons_succ]
          refine rh_take 4 (some 33) (v := ?_) rfl rfl (by kernel_rfl) (by kernel_rfl) (by kernel_rfl) (by kernel_rfl) (fun _ _ _ h => h) hHeld ?_ ?_
          rotate_left
          · (intro w hSw; (try dsimp only at hSw); go_simp; try with_reducible rfl)
          try simp only [Act.put, List.setIfInBounds_toArray, List.set_cons_zero, List.set_cons_succ]
          refine rh_take 5 (some 34) (v := ?_) rfl rfl (by kernel_rfl) (by kernel_rfl) (by kernel_rfl) (by kernel_rfl) (fun _ _ _ h => h) hHeld ?_ ?_
          rotate_left
          · (intro w hSw; (try dsimp only at hSw); go_simp; try with_reducible rfl)
          try simp only [Act.put, List.setIfInBounds_toArray, List.set_cons_zero, List.set_cons_succ]
          refine rh_call 6 (some 35) (by kernel_rfl) rfl rfl (by kernel_rfl) (fun K hK => ?_)
          clear hHeld
          go_simp
          (go_at_call 25; (with_reducible refine HAR.out.mono ?_); rintro y w2 ⟨rfl, hb2⟩; have HB3 := Lib.hid (HBl.out.drew.trans (hb2.mono hzr)); have hk3 := HK8.out w2 HB3.out hb2; clear hb2)
          refine hK.out _ _ (hk3) (fun hHeld => ?_)
          clear hK K
          try simp only [Act.put, List.setIfInBounds_toArray, List.set_cons_zero, List.set_cons_succ]
          refine rh_take 7 (some 36) (v := ?_) rfl rfl (by kernel_rfl) (by kernel_rfl) (by kernel_rfl) (by kernel_rfl) (fun _ _ _ h => h) hHeld ?_ ?_
          rotate_left
          · (intro w hSw; (try dsimp only at hSw); go_simp; try with_reducible rfl)
          try simp only [Act.put, List.setIfInBounds_toArray, List.set_cons_zero, List.set_cons_succ]
          refine wpAnyH_done (by kernel_rfl) ?_ _
          clear hHeld
          go_wp2
          go_roundw
          case rel => exact ⟨k + 1, by omega, by go_num, HT, HB3⟩
          case measure => simp [intOf]; omega
      · obtain rfl : k = l.length := by omega
        rw [List.take_length] at HA
        have HT : Hid (rightL S mask l = true) := Lib.hid (by unfold rightL; rw [HK.out, HR.out, HA.out]; rfl)
        go_wp2
        go_ret
        exact ⟨(by rw [HT.out] <;> rfl), HBV.out _ HBl.out⟩
end Go.Proofs.YtfhmaincnlaapaaGreat
namespace Go.Proofs.YtfhmaincnlaapaaGreat
open Go.ChangeShapes Go.WideShapes Go.ChangeAt Go.RowKit
set_option linter.unusedVariables false

/-- a schema's i-th view -/
def viewN (S : Sch) (i : Nat) : Nat := ((viewsL S).getD i 0).toNat
theorem viewsL_ok {S : Sch} (ho : SchOk S) (h0 : checkN S = 0) : ∀ x ∈ viewsL S, 0 ≤ x ∧ x ≤ 4294967295 := by
  obtain ⟨hm, _⟩ := checkN_zero h0
  unfold manyOk at hm
  have := fullN_le hm.1 hm.2.1
  intro x hx
  rcases List.mem_cons.1 hx with rfl | hx
  · omega
  · exact ho.views x hx
theorem Rd.viewAt {w : World} {B : Nat} {A : Option Addr} {S : Sch} (h : Rd w B 1 A (viewsL S).length (u32s (viewsL S))) (ho : SchOk S) (h0 : checkN S = 0) {k : Nat} (hk : k < (viewsL S).length) :
    ∃ a, A = some a ∧ a.block < B ∧ w.cell? (a.add k) = some (.int .u32 ((viewN S k : Nat) : Int)) ∧ viewN S k < 4294967296 := by
  obtain ⟨a, e, hb, hc⟩ := h.2 (by omega)
  have hx := viewsL_ok ho h0 _ (List.getElem_mem hk)
  have hv : ((viewN S k : Nat) : Int) = (viewsL S)[k] := by
    unfold viewN
    rw [List.getD_eq_getElem?_getD, List.getElem?_eq_getElem hk, Option.getD_some]; omega
  refine ⟨a, e, hb, ?_, by omega⟩
  have := hc k (.int .u32 (viewsL S)[k]) (by simp [u32s, List.getElem?_map, List.getElem?_eq_getElem hk])
  rw [this, hv]
end Go.Proofs.YtfhmaincnlaapaaGreat
namespace Go.Proofs.YtfhmaincnlaapaaGreat
open Go.ChangeShapes Go.WideShapes Go.ChangeAt Go.RowKit
set_option linter.unusedVariables false

theorem lightL_pt {l : List CellS} (h : lightL l = true) : l.length ≤ 60 ∧ ∀ C ∈ l, lightC C = true := by
  unfold lightL at h
  rw [Bool.and_eq_true, decide_eq_true_iff, List.all_eq_true] at h
  exact h
theorem rows_sh {w w' : World} {base n c D : Nat} {A : Option Addr} {L : List Sht} {xs : List Value} (h : w.ownsRow base 42 4 (.slice A n c) n xs) (hs : ShR w w.heap.size L xs) (hb : Below w.heap.size w w') (hD : w.heap.size ≤ D) : Rd w' D 4 A n xs ∧ ShR w' D L xs :=
  ⟨((Rd.own h).below hb).more hD, hs.keep hb hD⟩
/-- what was read, put together -/
structure AllR (w3 wr : World) (ov : Value) (l : List CellS) (acc : List CellS) (xs : List Value) : Prop where
  o : wr.ownsRow w3.heap.size 53 4 ov acc.length xs
  c : CeO wr w3.heap.size acc xs
  s : sameL l acc = true
  n : Below w3.heap.size w3 wr
theorem AllR.below {w3 wr w5 : World} {ov : Value} {l acc : List CellS} {xs : List Value} (h : AllR w3 wr ov l acc xs) (hb : Below wr.heap.size wr w5) : AllR w3 w5 ov l acc xs :=
  ⟨own_below h.o hb (Nat.le_refl _), h.c.below hb, h.s, belT h.n hb⟩
theorem AllR.put {w3 w5 w6 : World} {ov v' v5 : Value} {l acc m p : List CellS} {xs ys : List Value} {b : Nat} (h : AllR w3 w5 ov l acc xs) (hb : w3.heap.size ≤ b) (ho : w5.ownsRow b 53 4 v5 m.length ys) (hc : CeO w5 b m ys) (hs : sameL p m = true)
    (h6 : w6.ownsRow w3.heap.size 53 4 v' (acc.length + m.length) (xs ++ ys)) (k : Appd w5 w6 ov v') : AllR w3 w6 v' (l ++ p) (acc ++ m) (xs ++ ys) := by
  have hbel : Below w3.heap.size w5 w6 := (Below.refl _ _).grown k.1 h.n.size fun j hj => (h.o.lt j hj).1
  exact ⟨by rw [List.length_append]; exact h6, (h.c.appd k h.o).app ((hc.map hb fun _ _ _ _ _ _ o => o).appd k h.o), sameL_app h.s hs, h.n.trans hbel⟩
theorem parts_take {ps : List (List CellS)} {k : Nat} (h : k < ps.length) : (ps.take (k + 1)).flatten = (ps.take k).flatten ++ ps[k] := by
  rw [List.take_succ_eq_append_getElem h, List.flatten_append, List.flatten_cons, List.flatten_nil, List.append_nil]
theorem take_len_le (ps : List (List CellS)) (k : Nat) : (ps.take k).flatten.length ≤ ps.flatten.length := by
  conv => rhs; rw [← List.take_append_drop k ps, List.flatten_append, List.length_append]
  omega
set_option maxRecDepth 20000 in
set_option maxHeartbeats 16000000 in
theorem lawTreeLeaves_any (w : World) (B : Nat) (v : Value) (S : Sch) (A : Option Addr) (c : Nat) (l : List CellS) (mask : Nat) (h : SchAt w B v S) (ho : SchOk S) (g : SlR cellR w B l A c) (hB : B ≤ w.heap.size) (hm : mask < 4294967296) :
    Calls Tryz.prog 6 #[v, .int .u32 (mask : Int), .slice A l.length c] w fun y w' => y = .returned (.bool true) ∧ Below w.heap.size w w' := by
  have hh := h
  obtain ⟨A0, c0, A1, c1, A2, c2, A3, c3, rfl, r0, r1, r2, r3, b0, b1, b2, b3⟩ := hh
  clear r0 r1 r2 r3 b0 b1 b2 b3
  have hw0 := belA (belR w) (.cells #[.slice A0 S.dims.length c0, .slice A1 S.ints.length c1, .slice A2 S.nums.length c2, .slice A3 S.views.length c3] 26)
  have hl := light_any (w.alloc (.cells #[.slice A0 S.dims.length c0, .slice A1 S.ints.length c1, .slice A2 S.nums.length c2, .slice A3 S.views.length c3] 26)) B _ S (h.keep (hw0.mono hB) (Nat.le_refl _)) (by simp; omega)
  have K0 := Lib.hid (Blk.new w 26 #[.slice A0 S.dims.length c0, .slice A1 S.ints.length c1, .slice A2 S.nums.length c2, .slice A3 S.views.length c3])
  have hok := cells_ok g
  have HW0 := Lib.hid hw0; have HL := Lib.hid hl; have H := Lib.hid h; have G := Lib.hid g; have HOK := Lib.hid hok
  clear hw0 hl h g hok
  go_enter Tryz.func6, Tryz.ntmps6
  go_wp2_with fail
  (with_reducible refine HL.out.mono ?_); rintro y w1 ⟨rfl, hb1⟩
  have HB1 := Lib.hid (HW0.out.trans (hb1.mono (show w.heap.size ≤ _ by simp)))
  have KS1 := Lib.hid (K0.out.below hb1 (by simp))
  clear hb1 HW0 HL K0
  cases h0 : lightB S with
  | false =>
    clear h0
    go_wp2_with fail
    (with_reducible refine (awake25_any _).mono ?_); rintro y w9 ⟨rfl, hb9⟩
    go_wp2
    go_ret
    exact ⟨rfl, belT HB1.out hb9⟩
  | true =>
  have hll := lightL_any w1 B A c l (G.out.keep (HB1.out.mono hB) (Nat.le_refl _)) (Nat.le_trans hB HB1.out.size)
  have HLL := Lib.hid hll
  clear hll h0
  go_wp2_with fail
  (with_reducible refine HLL.out.mono ?_); rintro y w2 ⟨rfl, hb2⟩
  have HB2 := Lib.hid (belT HB1.out hb2)
  have KS2 := Lib.hid (KS1.out.below hb2 KS1.out.lt)
  clear hb2 HB1 HLL KS1
  cases h0 : lightL l with
  | false =>
    clear h0
    go_wp2_with fail
    (with_reducible refine (awake25_any _).mono ?_); rintro y w9 ⟨rfl, hb9⟩
    go_wp2
    go_ret
    exact ⟨rfl, belT HB2.out hb9⟩
  | true =>
  obtain ⟨hl60, hlc⟩ := lightL_pt h0
  have HLC := Lib.hid hlc
  have k0 := KS2.out.cell 0; have k1 := KS2.out.cell 1; have k2 := KS2.out.cell 2; have k3 := KS2.out.cell 3
  simp at k0 k1 k2 k3
  have hz2 := KS2.out.lt
  clear h0 hlc
  cases hr : rightL S mask l with
  | false =>
    have hlv := leaves_arg w2 B _ S A c l mask (H.out.keep (HB2.out.mono hB) (Nat.le_refl _)) ho (G.out.keep (HB2.out.mono hB) (Nat.le_refl _)) (Nat.le_trans hB HB2.out.size) hm hr
    have HLV := Lib.hid hlv; have HR := Lib.hid hr
    clear hlv hr
    go_wp2_with fail
    (with_reducible refine HLV.out.mono ?_); rintro y w3 ⟨rfl, hb3⟩
    have KS3 := KS2.out.below hb3 KS2.out.lt
    have HB3 := Lib.hid (belT HB2.out hb3)
    have hrt := ref15Right_any w3 B _ S A c l mask (H.out.keep (HB3.out.mono hB) (Nat.le_refl _)) ho (G.out.keep (HB3.out.mono hB) (Nat.le_refl _)) (Nat.le_trans hB HB3.out.size) hm
    rw [HR.out] at hrt
    have HRT := Lib.hid hrt
    clear k0 k1 k2 k3 hb3 hrt
    have k0 := KS3.cell 0; have k1 := KS3.cell 1; have k2 := KS3.cell 2; have k3 := KS3.cell 3
    simp at k0 k1 k2 k3
    clear KS3
    go_wp2_with fail
    (with_reducible refine HRT.out.mono ?_); rintro y w4 ⟨rfl, hb4⟩
    have HB4 := Lib.hid (belT HB3.out hb4)
    clear hb4
    go_wp2_with fail
    (with_reducible refine (awake25_any _).mono ?_); rintro y w9 ⟨rfl, hb9⟩
    go_wp2
    go_ret
    exact ⟨rfl, belT HB4.out hb9⟩
  | true =>
  have hlv := leaves_ok w2 B _ S A c l mask (H.out.keep (HB2.out.mono hB) (Nat.le_refl _)) ho (G.out.keep (HB2.out.mono hB) (Nat.le_refl _)) (Nat.le_trans hB HB2.out.size) hm hr HLC.out (by omega)
  obtain ⟨ps, hps⟩ := leaf_all hr HOK.out
  have hlvl : (leaves mask l).length = ps.length := by rw [hps.lv, List.length_map]
  have HLV := Lib.hid hlv; have HR := Lib.hid hr; have HPS := Lib.hid hps; have HLN := Lib.hid hlvl
  clear hlv hr hps hlvl
  go_wp2_with fail
  (with_reducible refine HLV.out.mono ?_); rintro y w3 ⟨v', xs', rfl, ho3, hs3, hb3⟩
  obtain ⟨A', c', rfl, hc3, hcm3, hnm3⟩ := own_form ho3
  have KS3 := KS2.out.below hb3 KS2.out.lt
  have HB3 := Lib.hid (belT HB2.out hb3)
  have HO3 := Lib.hid ho3; have HS3 := Lib.hid hs3
  have hrt := ref15Right_any w3 B _ S A c l mask (H.out.keep (HB3.out.mono hB) (Nat.le_refl _)) ho (G.out.keep (HB3.out.mono hB) (Nat.le_refl _)) (Nat.le_trans hB HB3.out.size) hm
  rw [HR.out] at hrt
  have HRT := Lib.hid hrt
  clear k0 k1 k2 k3 hb3 hrt ho3 hs3
  have k0 := KS3.cell 0; have k1 := KS3.cell 1; have k2 := KS3.cell 2; have k3 := KS3.cell 3
  simp at k0 k1 k2 k3
  have HK3 := Lib.hid KS3
  clear KS3
  unfold maxLen at hcm3 hnm3
  rw [HLN.out] at hnm3 hc3
  rw [HLN.out] at HO3
  rw [HLN.out]
  go_wp2_with fail
  (with_reducible refine HRT.out.mono ?_); rintro y w4 ⟨rfl, hb4⟩
  have HB4 := Lib.hid (belT HB3.out hb4); have HB34 := Lib.hid hb4
  have hrl := refLeaves_any w4 mask A c B l (G.out.keep (HB4.out.mono hB) (Nat.le_refl _)) hm HLC.out hl60 (Nat.le_trans hB HB4.out.size)
  have HRL := Lib.hid hrl
  clear hb4 hrl
  go_wp2_with fail
  (with_reducible refine HRL.out.mono ?_); rintro y w5 ⟨v5, xs5, rfl, ho5, hs5, hb5⟩
  obtain ⟨A5, c5, rfl, _, _, _⟩ := own_form ho5
  have HB35 := Lib.hid (belT HB34.out hb5)
  obtain ⟨hx1, hx2⟩ := rows_sh HO3.out HS3.out HB35.out (Nat.le_refl _)
  rw [← HLN.out] at hx1
  have hsh := sheets_any A' A5 c' c5 w3.heap.size w5.heap.size w3.heap.size w5.heap.size (leaves mask l) xs' xs5 w5 hx1 hx2 (Rd.own ho5) hs5 (by rw [HLN.out]; have := HPS.out.few; omega)
  have HSH := Lib.hid hsh
  have HB5 := Lib.hid (belT HB4.out hb5)
  have HK5 := Lib.hid (HK3.out.below HB35.out HK3.out.lt)
  clear hb5 hsh ho5 hs5 hx1 hx2
  rw [HLN.out] at HSH
  rw [HLN.out]
  go_wp2_with fail
  (with_reducible refine HSH.out.mono ?_); rintro y w6 ⟨rfl, hd6⟩
  have HB6 := Lib.hid (Drw.below hd6 HB5.out); have HB36 := Lib.hid (Drw.below hd6 HB35.out)
  clear hd6 k0 k1 k2 k3
  go_wp2
  have hz3 : w.heap.size < w3.heap.size := HK3.out.lt
  go_loopw [9, 10] (fun ov i wr => ∃ (k : Nat) (acc : List CellS) (xs : List Value), k ≤ ps.length ∧ i = .int .i64 (k : Int) ∧ Hid (AllR w3 wr ov (ps.take k).flatten acc xs)) (fun _ i _ => ps.length - (intOf i).toNat)
  case atStart => exact ⟨0, [], [], by omega, rfl, World.ownsRow_nil _ _ _ 4, rfl, rfl, HB36.out⟩
  case round =>
    obtain ⟨k, acc, xs, hk, rfl, HR⟩ := hrel
    obtain ⟨A9, c9, rfl, _, _, _⟩ := own_form HR.out.o
    have hal : acc.length ≤ 60 := by
      have h1 := sameL_len HR.out.s
      have h2 := take_len_le ps k
      rw [HPS.out.all] at h2
      omega
    have HBW := Lib.hid (HB3.out.trans (HR.out.n.mono (show w.heap.size ≤ w3.heap.size by omega)))
    by_cases hlt : k < ps.length
    · obtain ⟨hpl, m, hrd, hsm, hne⟩ := HPS.out.rd ps[k] (List.getElem_mem hlt)
      obtain ⟨hx1, hx2⟩ := rows_sh HO3.out HS3.out HR.out.n (Nat.le_refl _)
      have hlk : (leaves mask l)[k]'(by rw [HLN.out]; exact hlt) = leafOf mask ps[k] := by
        have := List.getElem_of_eq HPS.out.lv (by rw [HLN.out]; exact hlt : k < (leaves mask l).length)
        rw [this]; simp
      obtain ⟨a, Ad, cd, rfl, hab, x0, x1, x2, x3, hRd, hd1, hd2⟩ := hx1.sht hx2 k (by rw [HLN.out]; exact hlt)
      rw [hlk] at x0 x1 x2 x3 hRd hd1
      have hds : (leafOf mask ps[k]).d.length ≤ 1001 := hpl
      have hml : m.length ≤ 1001 := by
        have h1 := sameL_len hsm
        have h2 := flat_ge ps[k]
        omega
      have hm0 : m.length ≠ 0 := fun e => hne (List.eq_nil_of_length_eq_zero e)
      generalize leafOf mask ps[k] = s at *
      have hrl := readLeaf_any wr.drew wr.heap.size _ S mask s Ad cd ((H.out.keep (HBW.out.mono hB) (Nat.le_refl _)).keep (w' := wr.drew) (belR wr |>.drew.mono (Nat.le_trans hB HBW.out.size)) (Nat.le_trans hB HBW.out.size)) ho (hRd.more HR.out.n.size) hd1 hd2 (Nat.le_refl _) (by omega) hm
      unfold RetLeaf at hrl
      rw [hrd] at hrl
      simp only at hrl
      have hks := HK3.out.below HR.out.n HK3.out.lt
      have k0 := hks.cell 0; have k1 := hks.cell 1; have k2 := hks.cell 2; have k3 := hks.cell 3
      simp at k0 k1 k2 k3
      have q1 : (0 : Int) ≤ (k : Int) := by omega
      have q2 : (k : Int) < (ps.length : Int) := by omega
      have HRL2 := Lib.hid hrl; have HSM := Lib.hid hsm; have HM0 := Lib.hid hm0
      have hzr : w.heap.size < wr.heap.size := by have := HR.out.n.size; omega
      have hza : (a.add (k * 4)).block < wr.heap.size := by rw [block_add]; have := HR.out.n.size; omega
      clear hrl hsm hne hrd hks hx1 hx2 hlk hRd hm0
      go_upto_region 12 with (fail)
      have HKP : Hid (∀ W, Below wr.heap.size wr W → W.cell? ⟨w.heap.size, 0, none⟩ = some (.slice A0 S.dims.length c0) ∧ W.cell? ⟨w.heap.size, 1, none⟩ = some (.slice A1 S.ints.length c1) ∧ W.cell? ⟨w.heap.size, 2, none⟩ = some (.slice A2 S.nums.length c2) ∧ W.cell? ⟨w.heap.size, 3, none⟩ = some (.slice A3 S.views.length c3) ∧ W.cell? (a.add (k * 4)) = some (.int .i64 s.k) ∧ W.cell? ⟨(a.add (k * 4)).block, (a.add (k * 4)).off + 1, none⟩ = some (.int .u64 (s.a : Int)) ∧ W.cell? ⟨(a.add (k * 4)).block, (a.add (k * 4)).off + 2, none⟩ = some (.int .u64 (s.b : Int)) ∧ W.cell? ⟨(a.add (k * 4)).block, (a.add (k * 4)).off + 3, none⟩ = some (.slice Ad s.d.length cd)) := Lib.hid fun W hb => ⟨(hb.cell (p := ⟨w.heap.size, 0, none⟩) hzr).trans k0, (hb.cell (p := ⟨w.heap.size, 1, none⟩) hzr).trans k1, (hb.cell (p := ⟨w.heap.size, 2, none⟩) hzr).trans k2, (hb.cell (p := ⟨w.heap.size, 3, none⟩) hzr).trans k3, (hb.cell (p := (a.add (k * 4))) hza).trans x0, (hb.cell (p := ⟨(a.add (k * 4)).block, (a.add (k * 4)).off + 1, none⟩) hza).trans x1, (hb.cell (p := ⟨(a.add (k * 4)).block, (a.add (k * 4)).off + 2, none⟩) hza).trans x2, (hb.cell (p := ⟨(a.add (k * 4)).block, (a.add (k * 4)).off + 3, none⟩) hza).trans x3⟩
      clear x0 x1 x2 x3 k0 k1 k2 k3
      refine wp_region_held_drew (S := (fun W => W.cell? ⟨w.heap.size, 0, none⟩ = some (.slice A0 S.dims.length c0) ∧ W.cell? ⟨w.heap.size, 1, none⟩ = some (.slice A1 S.ints.length c1) ∧ W.cell? ⟨w.heap.size, 2, none⟩ = some (.slice A2 S.nums.length c2) ∧ W.cell? ⟨w.heap.size, 3, none⟩ = some (.slice A3 S.views.length c3) ∧ W.cell? (a.add (k * 4)) = some (.int .i64 s.k) ∧ W.cell? ⟨(a.add (k * 4)).block, (a.add (k * 4)).off + 1, none⟩ = some (.int .u64 (s.a : Int)) ∧ W.cell? ⟨(a.add (k * 4)).block, (a.add (k * 4)).off + 2, none⟩ = some (.int .u64 (s.b : Int)) ∧ W.cell? ⟨(a.add (k * 4)).block, (a.add (k * 4)).off + 3, none⟩ = some (.slice Ad s.d.length cd))) (by kernel_rfl) (HKP.out _ (belR wr).drew) (fun hHeld => ?_)
      refine rh_take 0 (some 61) (v := ?_) rfl rfl (by kernel_rfl) (by kernel_rfl) (by kernel_rfl) (by kernel_rfl) (fun _ _ _ h => h) hHeld ?_ ?_
      rotate_left
      · (intro w hSw; (try dsimp only at hSw); go_simp; try with_reducible rfl)
      try simp only [Act.put, List.setIfInBounds_toArray, List.set_cons_zero, List.set_cons_succ]
      refine rh_take 1 (some 62) (v := ?_) rfl rfl (by kernel_rfl) (by kernel_rfl) (by kernel_rfl) (by kernel_rfl) (fun _ _ _ h => h) hHeld ?_ ?_
      rotate_left
      · (intro w hSw; (try dsimp only at hSw); go_simp; try with_reducible rfl)
      try simp only [Act.put, List.setIfInBounds_toArray, List.set_cons_zero, List.set_cons_succ]
      refine rh_take 2 (some 63) (v := ?_) rfl rfl (by kernel_rfl) (by kernel_rfl) (by kernel_rfl) (by kernel_rfl) (fun _ _ _ h => h) hHeld ?_ ?_
      rotate_left
      · (intro w hSw; (try dsimp only at hSw); go_simp; try with_reducible rfl)
      try simp only [Act.put, List.setIfInBounds_toArray, List.set_cons_zero, List.set_cons_succ]
      refine rh_take 3 (some 64) (v := ?_) rfl rfl (by kernel_rfl) (by kernel_rfl) (by kernel_rfl) (by kernel_rfl) (fun _ _ _ h => h) hHeld ?_ ?_
      rotate_left
      · (intro w hSw; (try dsimp only at hSw); go_simp; try with_reducible rfl)
      try simp only [Act.put, List.setIfInBounds_toArray, List.set_cons_zero, List.set_cons_succ]
      refine rh_take 4 (some 65) (v := ?_) rfl rfl (by kernel_rfl) (by kernel_rfl) (by kernel_rfl) (by kernel_rfl) (fun _ _ _ h => h) hHeld ?_ ?_
      rotate_left
      · (intro w hSw; (try dsimp only at hSw); go_simp; try with_reducible rfl)
      try simp only [Act.put, List.setIfInBounds_toArray, List.set_cons_zero, List.set_cons_succ]
      refine rh_take 5 (some 66) (v := ?_) rfl rfl (by kernel_rfl) (by kernel_rfl) (by kernel_rfl) (by kernel_rfl) (fun _ _ _ h => h) hHeld ?_ ?_
      rotate_left
      · (intro w hSw; (try dsimp only at hSw); go_simp; try with_reducible rfl)
      try simp only [Act.put, List.setIfInBounds_toArray, List.set_cons_zero, List.set_cons_succ]
      refine rh_call 6 (some 67) (by kernel_rfl) rfl rfl (by kernel_rfl) (fun K hK => ?_)
      clear hHeld
      go_simp
      (go_at_call 16; (with_reducible refine HRL2.out.mono ?_); rintro y w7 ⟨v7, ys, rfl, ho7, hc7, hb7⟩; obtain ⟨A7, c7, rfl, _, _, _⟩ := own_form ho7; have hb7' : Below wr.heap.size wr w7 := (belR wr).drew.trans hb7; have HB7 := Lib.hid hb7'; have HO7 := Lib.hid ho7; have HC7 := Lib.hid hc7; clear ho7 hc7 hb7 hb7')
      refine hK.out _ _ (HKP.out _ HB7.out) (fun hHeld => ?_)
      clear hK K
      try simp only [Act.put, List.setIfInBounds_toArray, List.set_cons_zero, List.set_cons_succ]
      refine rh_take 7 (some 60) (v := ?_) rfl rfl (by kernel_rfl) (by kernel_rfl) (by kernel_rfl) (by kernel_rfl) (fun _ _ _ h => h) hHeld ?_ ?_
      rotate_left
      · (intro w hSw; (try dsimp only at hSw); go_simp; try with_reducible rfl)
      try simp only [Act.put, List.setIfInBounds_toArray, List.set_cons_zero, List.set_cons_succ]
      refine rh_take 8 (some 68) (v := ?_) rfl rfl (by kernel_rfl) (by kernel_rfl) (by kernel_rfl) (by kernel_rfl) (fun _ _ _ h => h) hHeld ?_ ?_
      rotate_left
      · (intro w hSw; (try dsimp only at hSw); go_simp; try with_reducible rfl)
      try simp only [Act.put, List.setIfInBounds_toArray, List.set_cons_zero, List.set_cons_succ]
      refine rh_take 9 (some 69) (v := ?_) rfl rfl (by kernel_rfl) (by kernel_rfl) (by kernel_rfl) (by kernel_rfl) (fun _ _ _ h => h) hHeld ?_ ?_
      rotate_left
      · (intro w hSw; (try dsimp only at hSw); go_simp; try with_reducible rfl)
      try simp only [Act.put, List.setIfInBounds_toArray, List.set_cons_zero, List.set_cons_succ]
      refine rh_take 10 (some 11) (v := ?_) rfl rfl (by kernel_rfl) (by kernel_rfl) (by kernel_rfl) (by kernel_rfl) (fun _ _ _ h => h) hHeld ?_ ?_
      rotate_left
      · (intro w hSw; (try dsimp only at hSw); go_simp; try with_reducible rfl)
      try simp only [Act.put, List.setIfInBounds_toArray, List.set_cons_zero, List.set_cons_succ]
      refine rh_take 11 (some 12) (v := ?_) rfl rfl (by kernel_rfl) (by kernel_rfl) (by kernel_rfl) (by kernel_rfl) (fun _ _ _ h => h) hHeld ?_ ?_
      rotate_left
      · (intro w hSw; (try dsimp only at hSw); go_simp; try with_reducible rfl)
      try simp only [Act.put, List.setIfInBounds_toArray, List.set_cons_zero, List.set_cons_succ]
      refine wpAnyH_done (by kernel_rfl) ?_ _
      clear hHeld
      obtain ⟨_, _, _, _, _, _, _, y3⟩ := HKP.out w7 HB7.out
      have t1 : ((m.length : Int) == 0) = false := by rw [beq_eq_false_iff_ne]; have := HM0.out; omega
      have t2 : decide ((1001 : Int) < (s.d.length : Int)) = false := decide_eq_false (by omega)
      have HR7 := Lib.hid (HR.out.below HB7.out)
      have HU := Lib.hid HC7.out.chunk.one
      have hz7 := HR7.out.n.size
      have hzw : w3.heap.size ≤ wr.heap.size := HR.out.n.size
      go_wp2_with (at_builtin; refine wpList_appS w7 rfl (.tmp 86) (.tmp 87) 43 rfl w3.heap.size 53 (.agg #[.int .u64 0, .int .i64 0, .slice none 0 0, .slice none 0 0]) 4 64 info_cell4 rfl (by decide) Tryz.underlying43 _ acc.length xs HR7.out.o rfl _ A7 m.length c7 ys (Rd.own HO7.out) rfl HU.out ?_ ?_ ?_ ?_; omega; omega; exact hz7; intro v8 w8 ho8 hap8; have HR8 := Lib.hid (HR7.out.put hzw HO7.out HC7.out HSM.out ho8 hap8); clear ho8 hap8)
      go_roundw
      case rel => exact ⟨k + 1, acc ++ m, xs ++ ys, by omega, by go_num, by rw [parts_take hlt]; exact HR8.out⟩
      case measure => simp [intOf]; omega
    · obtain rfl : k = ps.length := by omega
      have hsm := HR.out.s
      rw [List.take_length, HPS.out.all] at hsm
      have hsame := same15_any wr wr.heap.size A9 c9 acc A c l (SlR.own (R := cellR) HR.out.o HR.out.c.chunk) ((G.out.keep (HBW.out.mono hB) (Nat.le_refl _)).mono (Nat.le_trans hB HBW.out.size)) (Nat.le_refl _)
      rw [sameL_symm hsm] at hsame
      have HS9 := Lib.hid hsame
      have q2 : ¬ (ps.length : Int) < (ps.length : Int) := by omega
      clear hsm hsame
      go_wp2_with fail
      (with_reducible refine HS9.out.mono ?_); rintro y w7 ⟨rfl, hb7⟩
      have HB7 := Lib.hid (belT HBW.out hb7)
      clear hb7
      go_wp2_with fail
      (with_reducible refine (awake25_any _).mono ?_); rintro y w9 ⟨rfl, hb9⟩
      go_wp2
      go_ret
      exact ⟨rfl, belT HB7.out hb9⟩
end Go.Proofs.YtfhmaincnlaapaaGreat
namespace Go.Proofs.YtfhmaincnlaapaaGreat.treeLeaves
open Go.ChangeShapes Go.WideShapes Go.ChangeAt Go.RowKit Go.Joins Go.Deep
open Go.ChangeMaps (open_string shut_string)
set_option linter.unusedVariables false

set_option maxRecDepth 100000 in
theorem lifted (os : Os) (started : os.Started) (H : Type) (enc : TypeId × Value → H) :
    ReturnsInHanded {} Tryz.checked os 6 .any (Rows.treeLeavesSpec.pre6 enc Tryz.prog Tryz.f6 Rows.treeLeavesRow.domain false) (Rows.treeLeavesSpec.post enc Tryz.prog Tryz.f6 false true false false) := by
  refine returnsInHanded_of_change (C := Tryz.checked) own started (by kernel_rfl) Tryz.func6
    (ChangeSpec.witness6 (enc := enc) (C := Tryz.checked) false ⟨#[], #[.agg #[.slice none 0 0, .slice none 0 0, .slice none 0 0, .slice none 0 0], .int .u32 0, .slice none 0 0], []⟩ 8 (by kernel_rfl) (by kernel_rfl) (by kernel_rfl) (by kernel_rfl)) ?_
  intro W base args ds gs before hval0 hW hcnd _
  have hval : ∀ (j : Nat) t v, Tryz.f6.params[j]? = some t → args[j]? = some v → Value.okWide Tryz.prog W .any base t v := hval0
  have hW' := hW
  obtain ⟨p, q, hA0, hV, rfl, hfz, hnd⟩ := hW
  have hA : DataW.TrodAll enc Tryz.prog W 0 (fun _ => true) true Tryz.f6.params.toList args.toList ds p := hA0
  rw [Tryz.params6] at hA hval
  obtain ⟨v0, vs0, d0, ds0, p0, q0, hargs, rfl, rfl, h0, r0⟩ := trodAll_cons hA
  obtain ⟨v1, vs1, d1, ds1, p1, q1, rfl, rfl, rfl, h1, r1⟩ := trodAll_cons r0
  obtain ⟨v2, vs2, d2, ds2, p2, q2, rfl, rfl, rfl, h2, r2⟩ := trodAll_cons r1
  obtain ⟨rfl, rfl, rfl⟩ := trodAll_nil r2
  obtain rfl : args = #[v0, v1, v2] := by cases args; simp_all
  obtain ⟨rfl, rfl⟩ := trodVars_none hV
  have k0 := h0
  have lt0 : ∀ x ∈ p0, x.block < W.heap.size := by obtain ⟨m, hm⟩ := k0; exact DataW.trod_lt m _ _ _ hm
  have k1 := h1
  have lt1 : ∀ x ∈ p1, x.block < W.heap.size := by obtain ⟨m, hm⟩ := k1; exact DataW.trod_lt m _ _ _ hm
  have k2 := h2
  have lt2 : ∀ x ∈ p2, x.block < W.heap.size := by obtain ⟨m, hm⟩ := k2; exact DataW.trod_lt m _ _ _ hm
  obtain ⟨S0, hS0, oS0⟩ := open_schema (hval 0 26 v0 rfl rfl) h0
  obtain ⟨a1, e1, _, _, w1⟩ := open_int Tryz.underlying39 (hval 1 39 v1 rfl rfl) h1
  subst e1
  obtain ⟨l2, A2, c2, rfl, R2⟩ := open_arg_sl Tryz.underlying43 (by kernel_rfl) (by decide) opens_cell (hval 2 43 v2 rfl rfl) h2
  have b1 := bounds_u32 w1
  obtain ⟨m1, rfl⟩ : ∃ m1 : Nat, a1 = (m1 : Int) := ⟨a1.toNat, by omega⟩
  clear hA0 hval0
  refine (lawTreeLeaves_any W _ v0 S0 A2 c2 l2 m1 hS0 oS0 R2 (Nat.le_refl _) (by omega)).mono fun e W' ⟨he, bel⟩ => ?_
  subst he
  exact ⟨_, rfl, _, _, _, [], _, [], hW', trodAll_mk1 (shut_bool Tryz.underlying4 _), (trodAll_cons_mk (Below.trod laidOut (by kernel_rfl) (of_decide_eq_true (by kernel_rfl)) k0 bel lt0) (trodAll_cons_mk (Below.trod laidOut (by kernel_rfl) (of_decide_eq_true (by kernel_rfl)) k1 bel lt1) (trodAll_cons_mk (Below.trod laidOut (by kernel_rfl) (of_decide_eq_true (by kernel_rfl)) k2 bel lt2) trodAll_mk0))), rfl, bel.frame _, fun h => by cases h⟩

theorem over : Rows.treeLeavesRow.holds Tryz.pinned (OpenSpec.ofChange Rows.treeLeavesSpec) :=
  OpenClaim.holds_of_wide 6 Tryz.f6 rfl rfl rfl rfl rfl rfl rfl ⟨rfl, rfl, rfl, rfl, rfl⟩ rfl rfl rfl rfl rfl (by kernel_rfl) Tryz.func6 (by kernel_rfl)
    (of_decide_eq_true (by kernel_rfl)) (by unfold Func.isWrapper; first | (rw [if_pos (by decide +kernel)]; kernel_rfl) | (rw [if_neg (by decide +kernel)]; exact ⟨rfl, rfl⟩))
    (fun os started H enc _ => lifted os started H enc)

theorem proved : Rows.TreeLeavesSaid := over
#print axioms proved
end Go.Proofs.YtfhmaincnlaapaaGreat.treeLeaves
