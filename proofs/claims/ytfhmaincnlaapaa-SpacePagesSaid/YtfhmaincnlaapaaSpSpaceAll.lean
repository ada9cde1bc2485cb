/-
  bushelref31.Light, space.All, bushelref39.All.
  bushelref15.Right.
-/
import Derived.Test.YtfhmaincnlaapaaSpRefRight
import Derived.Test.YtfhmaincnlaapaaSpRefPages
namespace Go.Proofs.Ytfhmaincnlaapaa
open Go.ChangeShapes Go.WideShapes Go.ChangeAt Go.RowKit
set_option linter.unusedVariables false

theorem keysOf_some {S : Sch} {mask : Nat} (h0 : checkN S = 0) (h1 : mask < p2 S.dims.length) : (keysOf S mask).isSome = true := by rw [keysOf_yes h0 h1]; rfl
theorem rightL_nk {S : Sch} {mask : Nat} {l : List CellS} (h : keysOf S mask = none) : rightL S mask l = false := rightL_no (.inl fun ⟨n, hn⟩ => by rw [h] at hn; cases hn)
set_option maxRecDepth 20000 in
set_option maxHeartbeats 8000000 in
theorem ref15Right_any (w : World) (B : Nat) (v : Value) (S : Sch) (A : Option Addr) (c : Nat) (l : List CellS) (mask : Nat) (h : SchAt w B v S) (ho : SchOk S) (g : SlR cellR w B l A c) (hB : B ≤ w.heap.size) (hm : mask < 4294967296) :
    Calls Try.prog 17 #[v, .int .u32 (mask : Int), .slice A l.length c] w fun y w' => y = .returned (.bool (rightL S mask l)) ∧ Below w.heap.size w w' := by
  have hml : l.length ≤ 9223372036854775807 := by have h1 := g.1; have h2 := g.2.1; unfold maxLen at h2; omega
  have hh := h
  obtain ⟨A0, c0, A1, c1, A2, c2, A3, c3, rfl, r0, r1, r2, r3, b0, b1, b2, b3⟩ := hh
  clear r0 r1 r2 r3 b0 b1 b2 b3
  obtain ⟨W0, hW0⟩ : ∃ W0, W0 = w.alloc (.cells #[.slice A0 S.dims.length c0, .slice A1 S.ints.length c1, .slice A2 S.nums.length c2, .slice A3 S.views.length c3] 26) := ⟨_, rfl⟩
  have hw : Below w.heap.size w W0 := by rw [hW0]; exact belA (belR w) _
  have hz0 : W0.heap.size = w.heap.size + 1 := by rw [hW0]; simp
  have ks : Blk W0 w.heap.size 26 #[.slice A0 S.dims.length c0, .slice A1 S.ints.length c1, .slice A2 S.nums.length c2, .slice A3 S.views.length c3] := by rw [hW0]; exact Blk.new w _ _
  have HKS := Lib.hid (fun W (hb : Below W0.heap.size W0 W) => ks.below hb (by omega))
  have HBV : Hid (∀ W', Below W0.heap.size W0 W' → Below w.heap.size w W') := Lib.hid fun W' hb => hw.trans (hb.mono (by omega))
  have HSC : Hid (∀ W', Below W0.heap.size W0 W' → SchAt W' B (.agg #[.slice A0 S.dims.length c0, .slice A1 S.ints.length c1, .slice A2 S.nums.length c2, .slice A3 S.views.length c3]) S) := Lib.hid fun W' hb => h.keep ((HBV.out W' hb).mono hB) (Nat.le_refl _)
  have HCK := Lib.hid (refCheck_any W0 B _ S (HSC.out _ (belR W0)) ho (by show B ≤ W0.heap.size; omega))
  have HZ := Lib.hid hz0; have HW0 := Lib.hid hW0; have G := Lib.hid g
  have s0 := ks.cell 0; have s1 := ks.cell 1; have s2 := ks.cell 2; have s3 := ks.cell 3
  simp at s0 s1 s2 s3
  clear hW0 hw ks h hz0 g
  go_enter Try.func17, Try.ntmps17
  go_wp2_with fail
  rw [← HW0.out]
  (with_reducible refine HCK.out.mono ?_); rintro y w1 ⟨rfl, hb1⟩
  have HB1 := Lib.hid hb1
  have k1 := HKS.out w1 hb1
  clear s0 s1 s2 s3 hb1
  have s0 := k1.cell 0; have s1 := k1.cell 1; have s2 := k1.cell 2; have s3 := k1.cell 3
  simp at s0 s1 s2 s3
  clear k1
  by_cases q0 : checkN S = 0
  case neg =>
    have t0 : ((checkN S : Int) != 0) = true := by rw [bne_iff_ne]; omega
    have HF := Lib.hid (rightL_nk (l := l) (keysOf_no (mask := mask) fun hh => q0 hh.1))
    clear q0
    generalize checkN S = ck at *
    go_wp2
    go_ret
    exact ⟨(by rw [HF.out] <;> rfl), HBV.out _ HB1.out⟩
  obtain ⟨hmo, p, hp⟩ := checkN_zero q0
  unfold manyOk at hmo
  obtain ⟨m1, m2, _⟩ := hmo
  have hfle := fullN_le m1 m2
  have HFU := Lib.hid (refFull_any w1 B _ S (HSC.out _ HB1.out) (by have := HB1.out.size; have := HZ.out; omega) m1 m2)
  have HSU := Lib.hid (fun W => sub_any W mask (fullN S) hm (by omega))
  have hsub : subB mask (fullN S) = decide (mask < p2 S.dims.length) := sub_full mask S.dims.length (by omega) hm
  rw [hsub] at HSU
  have HQ0 := Lib.hid q0
  rw [q0]
  clear hp hsub q0
  by_cases q1 : mask < p2 S.dims.length
  case neg =>
    have HF := Lib.hid (rightL_nk (l := l) (keysOf_no (S := S) (mask := mask) fun hh => q1 hh.2))
    rw [decide_eq_false q1] at HSU
    clear q1 hfle
    generalize fullN S = fn at *
    go_wp2_with (first
      | (go_at_call 13; (with_reducible refine HFU.out.mono ?_); rintro y w2 ⟨rfl, hb2⟩; have HB2 := Lib.hid (HB1.out.trans (hb2.mono HB1.out.size)); clear hb2)
      | (go_at_call 40; (with_reducible refine (HSU.out _).mono ?_); rintro y w3 ⟨rfl, rfl⟩))
    go_ret
    exact ⟨(by rw [HF.out] <;> rfl), HBV.out _ HB2.out⟩
  have HK := Lib.hid (keysOf_some HQ0.out q1)
  rw [decide_eq_true q1] at HSU
  clear q1 hfle
  generalize fullN S = fn at *
  have HRS := Lib.hid (fun W (hb : Below W0.heap.size W0 W) => rising15_any W B A c l (G.out.keep ((HBV.out W hb).mono hB) (Nat.le_refl _)))
  cases hr : risingC l with
  | false =>
    rw [hr] at HRS
    have HF := Lib.hid (rightL_no (S := S) (mask := mask) (.inr (.inl hr)))
    clear hr
    go_wp2_with (first
      | (go_at_call 13; (with_reducible refine HFU.out.mono ?_); rintro y w2 ⟨rfl, hb2⟩; have HB2 := Lib.hid (HB1.out.trans (hb2.mono HB1.out.size)); clear hb2)
      | (go_at_call 40; (with_reducible refine (HSU.out _).mono ?_); rintro y w3 ⟨rfl, rfl⟩)
      | (go_at_call 49; (with_reducible refine (HRS.out _ HB2.out).mono ?_); rintro y w4 ⟨rfl, hd4⟩; have HB4 := Lib.hid (hd4.below HB2.out); clear hd4))
    go_ret
    exact ⟨(by rw [HF.out] <;> rfl), HBV.out _ HB4.out⟩
  | true =>
    rw [hr] at HRS
    have HR := Lib.hid hr
    clear hr
    go_wp2_with (first
      | (go_at_call 13; (with_reducible refine HFU.out.mono ?_); rintro y w2 ⟨rfl, hb2⟩; have HB2 := Lib.hid (HB1.out.trans (hb2.mono HB1.out.size)); clear hb2)
      | (go_at_call 40; (with_reducible refine (HSU.out _).mono ?_); rintro y w3 ⟨rfl, rfl⟩)
      | (go_at_call 49; (with_reducible refine (HRS.out _ HB2.out).mono ?_); rintro y w4 ⟨rfl, hd4⟩; have HB4 := Lib.hid (hd4.below HB2.out); clear hd4))
    clear s0 s1 s2 s3
    go_loopw [7] (fun i wr => ∃ k : Nat, k ≤ l.length ∧ i = .int .i64 (k : Int) ∧ Hid ((l.take k).all (rightC S mask) = true) ∧ Hid (Below W0.heap.size W0 wr)) (fun i _ => l.length - (intOf i).toNat)
    case atStart => exact ⟨0, by omega, rfl, Lib.hid rfl, HB4⟩
    case round =>
      obtain ⟨k, hk, rfl, HA, HBl⟩ := hrel
      by_cases hlt : k < l.length
      · obtain ⟨a, D2, d2, D3, d3, ea, hab, x0, x1, x2, x3, hv⟩ := (G.out.keep ((HBV.out _ HBl.out).mono hB) (Nat.le_refl _)).cellAt hlt
        have q1 : (0 : Int) ≤ (k : Int) := by omega
        have q2 : (k : Int) < (l.length : Int) := by omega
        have hts := all_take_succ (rightC S mask) l k hlt
        rw [HA.out, Bool.true_and] at hts
        have HN1 := Lib.hid fun (hf : rightC S mask l[k] = false) => rightL_no (S := S) (mask := mask) (.inr (.inr (all_no _ l k hlt hf)))
        subst ea
        generalize l[k] = C at *
        have hzr : W0.heap.size ≤ wr.heap.size := HBl.out.size
        have hk0 : wr.cell? ⟨w.heap.size, 0, none⟩ = some (.slice A0 S.dims.length c0) ∧ wr.cell? ⟨w.heap.size, 1, none⟩ = some (.slice A1 S.ints.length c1) ∧ wr.cell? ⟨w.heap.size, 2, none⟩ = some (.slice A2 S.nums.length c2) ∧ wr.cell? ⟨w.heap.size, 3, none⟩ = some (.slice A3 S.views.length c3) ∧ wr.cell? (a.add (k * 4)) = some (.int .u64 (C.key : Int)) ∧ wr.cell? ⟨(a.add (k * 4)).block, (a.add (k * 4)).off + 1, none⟩ = some (.int .i64 C.count) ∧ wr.cell? ⟨(a.add (k * 4)).block, (a.add (k * 4)).off + 2, none⟩ = some (.slice D2 C.ints.length d2) ∧ wr.cell? ⟨(a.add (k * 4)).block, (a.add (k * 4)).off + 3, none⟩ = some (.slice D3 C.nums.length d3) := by
          have a := HKS.out wr HBl.out
          exact ⟨a.cell 0, a.cell 1, a.cell 2, a.cell 3, x0, x1, x2, x3⟩
        have har := ref14Right_any wr.drew B _ S mask C D2 d2 D3 d3 (HSC.out _ HBl.out.drew) ho (hv.keep ((belR wr).drew.mono (show B ≤ wr.heap.size by have := HZ.out; omega)) (Nat.le_refl _)) (by show B ≤ wr.heap.size; have := HZ.out; omega) hm
        have HK8 : Hid (∀ W, Below W0.heap.size W0 W → Below wr.drew.heap.size wr.drew W → W.cell? ⟨w.heap.size, 0, none⟩ = some (.slice A0 S.dims.length c0) ∧ W.cell? ⟨w.heap.size, 1, none⟩ = some (.slice A1 S.ints.length c1) ∧ W.cell? ⟨w.heap.size, 2, none⟩ = some (.slice A2 S.nums.length c2) ∧ W.cell? ⟨w.heap.size, 3, none⟩ = some (.slice A3 S.views.length c3) ∧ W.cell? (a.add (k * 4)) = some (.int .u64 (C.key : Int)) ∧ W.cell? ⟨(a.add (k * 4)).block, (a.add (k * 4)).off + 1, none⟩ = some (.int .i64 C.count) ∧ W.cell? ⟨(a.add (k * 4)).block, (a.add (k * 4)).off + 2, none⟩ = some (.slice D2 C.ints.length d2) ∧ W.cell? ⟨(a.add (k * 4)).block, (a.add (k * 4)).off + 3, none⟩ = some (.slice D3 C.nums.length d3)) := Lib.hid fun W hb hw => by
          have a' := HKS.out W hb
          have e : ∀ j, W.cell? ⟨(a.add (k * 4)).block, (a.add (k * 4)).off + j, none⟩ = wr.cell? ⟨(a.add (k * 4)).block, (a.add (k * 4)).off + j, none⟩ := fun j => hw.cell (p := ⟨(a.add (k * 4)).block, (a.add (k * 4)).off + j, none⟩) (by show (a.add (k * 4)).block < wr.heap.size; rw [block_add]; have := HZ.out; omega)
          have e0 : W.cell? (a.add (k * 4)) = wr.cell? (a.add (k * 4)) := hw.cell (by rw [block_add]; show a.block < wr.heap.size; have := HZ.out; omega)
          exact ⟨a'.cell 0, a'.cell 1, a'.cell 2, a'.cell 3, e0.trans x0, (e 1).trans x1, (e 2).trans x2, (e 3).trans x3⟩
        cases hr : rightC S mask C with
        | false =>
          rw [hr] at har
          have HF := Lib.hid (HN1.out hr)
          have HAR := Lib.hid har
          clear har hr hts hv x0 x1 x2 x3
          go_wp2
          refine wp_region_held_drew (S := (fun W => W.cell? ⟨w.heap.size, 0, none⟩ = some (.slice A0 S.dims.length c0) ∧ W.cell? ⟨w.heap.size, 1, none⟩ = some (.slice A1 S.ints.length c1) ∧ W.cell? ⟨w.heap.size, 2, none⟩ = some (.slice A2 S.nums.length c2) ∧ W.cell? ⟨w.heap.size, 3, none⟩ = some (.slice A3 S.views.length c3) ∧ W.cell? (a.add (k * 4)) = some (.int .u64 (C.key : Int)) ∧ W.cell? ⟨(a.add (k * 4)).block, (a.add (k * 4)).off + 1, none⟩ = some (.int .i64 C.count) ∧ W.cell? ⟨(a.add (k * 4)).block, (a.add (k * 4)).off + 2, none⟩ = some (.slice D2 C.ints.length d2) ∧ W.cell? ⟨(a.add (k * 4)).block, (a.add (k * 4)).off + 3, none⟩ = some (.slice D3 C.nums.length d3))) (by kernel_rfl) (hk0) (fun hHeld => ?_)
          refine rh_take 0 (some 29) (v := ?_) rfl rfl (by kernel_rfl) (by kernel_rfl) (by kernel_rfl) (by kernel_rfl) (fun _ _ _ h => h) hHeld ?_ ?_
          rotate_left
          · (intro w hSw; (try dsimp only at hSw); go_simp; try with_reducible rfl)
          try simp only [Act.put, List.setIfInBounds_toArray, List.set_cons_zero, List.set_cons_succ]
          refine rh_take 1 (some 30) (v := ?_) rfl rfl (by kernel_rfl) (by kernel_rfl) (by kernel_rfl) (by kernel_rfl) (fun _ _ _ h => h) hHeld ?_ ?_
          rotate_left
          · (intro w hSw; (try dsimp only at hSw); go_simp; try with_reducible rfl)
          try simp only [Act.put, List.setIfInBounds_toArray, List.set_cons_zero, List.set_cons_succ]
          refine rh_take 2 (some 31) (v := ?_) rfl rfl (by kernel_rfl) (by kernel_rfl) (by kernel_rfl) (by kernel_rfl) (fun _ _ _ h => h) hHeld ?_ ?_
          rotate_left
          · (intro w hSw; (try dsimp only at hSw); go_simp; try with_reducible rfl)
          try simp only [Act.put, List.setIfInBounds_toArray, List.set_cons_zero, List.set_cons_succ]
          refine rh_take 3 (some 32) (v := ?_) rfl rfl (by kernel_rfl) (by kernel_rfl) (by kernel_rfl) (by kernel_rfl) (fun _ _ _ h => h) hHeld ?_ ?_
          rotate_left
          · (intro w hSw; (try dsimp only at hSw); go_simp; try with_reducible rfl)
          try simp only [Act.put, List.setIfInBounds_toArray, List.set_cons_zero, List.set_cons_succ]
          refine rh_take 4 (some 33) (v := ?_) rfl rfl (by kernel_rfl) (by kernel_rfl) (by kernel_rfl) (by kernel_rfl) (fun _ _ _ h => h) hHeld ?_ ?_
          rotate_left
          · (intro w hSw; (try dsimp only at hSw); go_simp; try with_reducible rfl)
          try simp only [Act.put, List.setIfInBounds_toArray, List.set_cons_zero, List.set_cons_succ]
          refine rh_take 5 (some 34) (v := ?_) rfl rfl (by kernel_rfl) (by kernel_rfl) (by kernel_rfl) (by kernel_rfl) (fun _ _ _ h => h) hHeld ?_ ?_
          rotate_left
          · (intro w hSw; (try dsimp only at hSw); go_simp; try with_reducible rfl)
          try simp only [Act.put, List.setIfInBounds_toArray, List.set_cons_zero, List.set_cons_succ]
          refine rh_call 6 (some 35) (by kernel_rfl) rfl rfl (by kernel_rfl) (fun K hK => ?_)
          clear hHeld
          go_simp
          (go_at_call 50; (with_reducible refine HAR.out.mono ?_); rintro y w2 ⟨rfl, hb2⟩; have HB3 := Lib.hid (HBl.out.drew.trans (hb2.mono hzr)); have hk3 := HK8.out w2 HB3.out hb2; clear hb2)
          refine hK.out _ _ (hk3) (fun hHeld => ?_)
          clear hK K
          try simp only [Act.put, List.setIfInBounds_toArray, List.set_cons_zero, List.set_cons_succ]
          refine rh_take 7 (some 36) (v := ?_) rfl rfl (by kernel_rfl) (by kernel_rfl) (by kernel_rfl) (by kernel_rfl) (fun _ _ _ h => h) hHeld ?_ ?_
          rotate_left
          · (intro w hSw; (try dsimp only at hSw); go_simp; try with_reducible rfl)
          try simp only [Act.put, List.setIfInBounds_toArray, List.set_cons_zero, List.set_cons_succ]
          refine wpAnyH_done (by kernel_rfl) ?_ _
          clear hHeld
          go_wp2
          go_ret
          exact ⟨(by rw [HF.out] <;> rfl), HBV.out _ HB3.out⟩
        | true =>
          rw [hr] at har
          have HT := Lib.hid (hts.trans hr)
          have HAR := Lib.hid har
          clear har hr hts hv x0 x1 x2 x3
          go_wp2
          refine wp_region_held_drew (S := (fun W => W.cell? ⟨w.heap.size, 0, none⟩ = some (.slice A0 S.dims.length c0) ∧ W.cell? ⟨w.heap.size, 1, none⟩ = some (.slice A1 S.ints.length c1) ∧ W.cell? ⟨w.heap.size, 2, none⟩ = some (.slice A2 S.nums.length c2) ∧ W.cell? ⟨w.heap.size, 3, none⟩ = some (.slice A3 S.views.length c3) ∧ W.cell? (a.add (k * 4)) = some (.int .u64 (C.key : Int)) ∧ W.cell? ⟨(a.add (k * 4)).block, (a.add (k * 4)).off + 1, none⟩ = some (.int .i64 C.count) ∧ W.cell? ⟨(a.add (k * 4)).block, (a.add (k * 4)).off + 2, none⟩ = some (.slice D2 C.ints.length d2) ∧ W.cell? ⟨(a.add (k * 4)).block, (a.add (k * 4)).off + 3, none⟩ = some (.slice D3 C.nums.length d3))) (by kernel_rfl) (hk0) (fun hHeld => ?_)
          refine rh_take 0 (some 29) (v := ?_) rfl rfl (by kernel_rfl) (by kernel_rfl) (by kernel_rfl) (by kernel_rfl) (fun _ _ _ h => h) hHeld ?_ ?_
          rotate_left
          · (intro w hSw; (try dsimp only at hSw); go_simp; try with_reducible rfl)
          try simp only [Act.put, List.setIfInBounds_toArray, List.set_cons_zero, List.set_cons_succ]
          refine rh_take 1 (some 30) (v := ?_) rfl rfl (by kernel_rfl) (by kernel_rfl) (by kernel_rfl) (by kernel_rfl) (fun _ _ _ h => h) hHeld ?_ ?_
          rotate_left
          · (intro w hSw; (try dsimp only at hSw); go_simp; try with_reducible rfl)
          try simp only [Act.put, List.setIfInBounds_toArray, List.set_cons_zero, List.set_cons_succ]
          refine rh_take 2 (some 31) (v := ?_) rfl rfl (by kernel_rfl) (by kernel_rfl) (by kernel_rfl) (by kernel_rfl) (fun _ _ _ h => h) hHeld ?_ ?_
          rotate_left
          · (intro w hSw; (try dsimp only at hSw); go_simp; try with_reducible rfl)
          try simp only [Act.put, List.setIfInBounds_toArray, List.set_cons_zero, List.set_cons_succ]
          refine rh_take 3 (some 32) (v := ?_) rfl rfl (by kernel_rfl) (by kernel_rfl) (by kernel_rfl) (by kernel_rfl) (fun _ _ _ h => h) hHeld ?_ ?_
          rotate_left
          · (intro w hSw; (try dsimp only at hSw); go_simp; try with_reducible rfl)
          try simp only [Act.put, List.setIfInBounds_toArray, List.set_cons_zero, List.set_cons_succ]
          refine rh_take 4 (some 33) (v := ?_) rfl rfl (by kernel_rfl) (by kernel_rfl) (by kernel_rfl) (by kernel_rfl) (fun _ _ _ h => h) hHeld ?_ ?_
          rotate_left
          · (intro w hSw; (try dsimp only at hSw); go_simp; try with_reducible rfl)
          try simp only [Act.put, List.setIfInBounds_toArray, List.set_cons_zero, List.set_cons_succ]
          refine rh_take 5 (some 34) (v := ?_) rfl rfl (by kernel_rfl) (by kernel_rfl) (by kernel_rfl) (by kernel_rfl) (fun _ _ _ h => h) hHeld ?_ ?_
          rotate_left
          · (intro w hSw; (try dsimp only at hSw); go_simp; try with_reducible rfl)
          try simp only [Act.put, List.setIfInBounds_toArray, List.set_cons_zero, List.set_cons_succ]
          refine rh_call 6 (some 35) (by kernel_rfl) rfl rfl (by kernel_rfl) (fun K hK => ?_)
          clear hHeld
          go_simp
          (go_at_call 50; (with_reducible refine HAR.out.mono ?_); rintro y w2 ⟨rfl, hb2⟩; have HB3 := Lib.hid (HBl.out.drew.trans (hb2.mono hzr)); have hk3 := HK8.out w2 HB3.out hb2; clear hb2)
          refine hK.out _ _ (hk3) (fun hHeld => ?_)
          clear hK K
          try simp only [Act.put, List.setIfInBounds_toArray, List.set_cons_zero, List.set_cons_succ]
          refine rh_take 7 (some 36) (v := ?_) rfl rfl (by kernel_rfl) (by kernel_rfl) (by kernel_rfl) (by kernel_rfl) (fun _ _ _ h => h) hHeld ?_ ?_
          rotate_left
          · (intro w hSw; (try dsimp only at hSw); go_simp; try with_reducible rfl)
          try simp only [Act.put, List.setIfInBounds_toArray, List.set_cons_zero, List.set_cons_succ]
          refine wpAnyH_done (by kernel_rfl) ?_ _
          clear hHeld
          go_wp2
          go_roundw
          case rel => exact ⟨k + 1, by omega, by go_num, HT, HB3⟩
          case measure => simp [intOf]; omega
      · obtain rfl : k = l.length := by omega
        rw [List.take_length] at HA
        have HT : Hid (rightL S mask l = true) := Lib.hid (by unfold rightL; rw [HK.out, HR.out, HA.out]; rfl)
        go_wp2
        go_ret
        exact ⟨(by rw [HT.out] <;> rfl), HBV.out _ HBl.out⟩
end Go.Proofs.Ytfhmaincnlaapaa
namespace Go.Proofs.Ytfhmaincnlaapaa
open Go.ChangeShapes Go.WideShapes Go.ChangeAt Go.RowKit
set_option linter.unusedVariables false

theorem SlR.tableAt {w : World} {B c : Nat} {T : List (List CellS)} {A : Option Addr} (h : SlR cellR.sl w B T A c) {k : Nat} (hk : k < T.length) :
    ∃ a A2 c2, A = some a ∧ a.block < B ∧ w.cell? (a.add k) = some (.slice A2 T[k].length c2) ∧ SlR cellR w B T[k] A2 c2 := by
  obtain ⟨a, cs, rfl, hb, hr, hc⟩ := h.get hk
  obtain ⟨A2, c2, xs, rfl, h1, h2, h3, h4⟩ := hr
  have := hc 0 (by decide)
  rw [show k * (cellR.sl).size + 0 = k from by show k * 1 + 0 = k; omega] at this
  exact ⟨a, A2, c2, rfl, hb, this, h1, h2, xs, h3, h4⟩
def lightT (T : List (List CellS)) : Bool := decide (T.length ≤ 20) && T.all lightL
set_option maxRecDepth 20000 in
theorem lightT_any (w : World) (B : Nat) (A : Option Addr) (c : Nat) (T : List (List CellS)) (g : SlR cellR.sl w B T A c) (hB : B ≤ w.heap.size) :
    Calls Try.prog 11 #[.slice A T.length c] w fun y w' => y = .returned (.bool (lightT T)) ∧ Below w.heap.size w w' := by
  have G := Lib.hid g
  clear g
  by_cases g1 : T.length ≤ 20
  case neg =>
    have t1 : decide ((20 : Int) < (T.length : Int)) = true := decide_eq_true (by omega)
    have e : lightT T = false := by unfold lightT; rw [decide_eq_false g1]; rfl
    rw [e]
    clear e
    go_enter Try.func11, Try.ntmps11
    go_wp2
    go_ret
    exact ⟨rfl, belR w⟩
  have t1 : decide ((20 : Int) < (T.length : Int)) = false := decide_eq_false (by omega)
  have e : lightT T = T.all lightL := by unfold lightT; rw [decide_eq_true g1, Bool.true_and]
  rw [e]
  clear e
  go_enter Try.func11, Try.ntmps11
  go_wp2
  go_loopw [3] (fun i wr => ∃ k : Nat, k ≤ T.length ∧ i = .int .i64 (k : Int) ∧ Hid ((T.take k).all lightL = true) ∧ Hid (Below w.heap.size w wr)) (fun i _ => T.length - (intOf i).toNat)
  case atStart => exact ⟨0, by omega, rfl, rfl, belR w⟩
  case round =>
    obtain ⟨k, hk, rfl, HA, HB⟩ := hrel
    by_cases hlt : k < T.length
    · obtain ⟨a, A2, c2, ea, hab, x0, hl⟩ := (G.out.keep (HB.out.mono hB) (Nat.le_refl _)).tableAt hlt
      have q1 : (0 : Int) ≤ (k : Int) := by omega
      have q2 : (k : Int) < (T.length : Int) := by omega
      have hts := all_take_succ lightL T k hlt
      rw [HA.out, Bool.true_and] at hts
      have HN1 := Lib.hid fun (hf : lightL T[k] = false) => all_no lightL T k hlt hf
      subst ea
      generalize T[k] = l at *
      have hcl := lightL_any wr B A2 c2 l hl (by have := HB.out.size; omega)
      cases hr : lightL l with
      | false =>
        rw [hr] at hcl
        have HCL := Lib.hid hcl; have HF := Lib.hid (HN1.out hr)
        clear hcl hr hts hl
        go_wp2_with (go_at_call 10; (with_reducible refine HCL.out.mono ?_); rintro y w2 ⟨rfl, hb2⟩; have HB2 := Lib.hid (belT HB.out hb2); clear hb2)
        go_ret
        exact ⟨(by rw [HF.out] <;> rfl), HB2.out⟩
      | true =>
        rw [hr] at hcl
        have HCL := Lib.hid hcl; have HT := Lib.hid (hts.trans hr)
        clear hcl hr hts hl
        go_wp2_with (go_at_call 10; (with_reducible refine HCL.out.mono ?_); rintro y w2 ⟨rfl, hb2⟩; have HB2 := Lib.hid (belT HB.out hb2); clear hb2)
        go_roundw
        case rel => exact ⟨k + 1, by omega, by go_num, HT.out, HB2.out⟩
        case measure => simp [intOf]; omega
    · obtain rfl : k = T.length := by omega
      rw [List.take_length] at HA
      go_wp2
      go_ret
      exact ⟨(by rw [HA.out] <;> rfl), HB.out⟩
theorem own_rd {w : World} {base size : Nat} {e : TypeId} {n : Nat} {v : Value} {xs : List Value} (h : w.ownsRow base e size v n xs) : ∃ A c, v = .slice A n c ∧ Rd w w.heap.size size A n xs ∧ n ≤ c ∧ c ≤ maxLen := by
  obtain ⟨A, c, rfl, h1, h2, _⟩ := own_form h
  exact ⟨A, c, rfl, Rd.own h, h1, h2⟩
/-- a schema's i-th view -/
def viewN (S : Sch) (i : Nat) : Nat := ((viewsL S).getD i 0).toNat
def tOk (S : Sch) (T : List (List CellS)) (k : Nat) : Bool := (List.range k).all fun i => rightL S (viewN S i) (T.getD i [])
def tSum (S : Sch) (T : List (List CellS)) (k : Nat) : Nat := ((List.range k).map fun i => pagesN (viewN S i) (T.getD i [])).sum
theorem tOk_succ (S : Sch) (T : List (List CellS)) (k : Nat) : tOk S T (k + 1) = (tOk S T k && rightL S (viewN S k) (T.getD k [])) := by
  unfold tOk; rw [List.range_succ, List.all_append]; simp
theorem tSum_succ (S : Sch) (T : List (List CellS)) (k : Nat) : tSum S T (k + 1) = tSum S T k + pagesN (viewN S k) (T.getD k []) := by
  unfold tSum; rw [List.range_succ, List.map_append, List.sum_append]; simp
theorem tOk_no {S : Sch} {T : List (List CellS)} {k : Nat} (h : k < T.length) (hr : rightL S (viewN S k) (T.getD k []) = false) : tOk S T T.length = false := by
  unfold tOk
  rw [List.all_eq_false]
  exact ⟨k, List.mem_range.2 h, by rw [hr]; decide⟩
/-- how many pages all tables' trees have, and the error -/
def allR (S : Sch) (T : List (List CellS)) : Nat × Nat :=
  if checkN S = 0 then (if T.length = (viewsL S).length then (if tOk S T T.length = true then (1 + tSum S T T.length, 0) else (0, 1)) else (0, 3)) else (0, 1)
theorem viewsL_ok {S : Sch} (ho : SchOk S) (h0 : checkN S = 0) : ∀ x ∈ viewsL S, 0 ≤ x ∧ x ≤ 4294967295 := by
  obtain ⟨hm, _⟩ := checkN_zero h0
  unfold manyOk at hm
  have := fullN_le hm.1 hm.2.1
  intro x hx
  rcases List.mem_cons.1 hx with rfl | hx
  · omega
  · exact ho.views x hx
theorem Rd.viewAt {w : World} {B : Nat} {A : Option Addr} {S : Sch} (h : Rd w B 1 A (viewsL S).length (u32s (viewsL S))) (ho : SchOk S) (h0 : checkN S = 0) {k : Nat} (hk : k < (viewsL S).length) :
    ∃ a, A = some a ∧ a.block < B ∧ w.cell? (a.add k) = some (.int .u32 ((viewN S k : Nat) : Int)) ∧ viewN S k < 4294967296 := by
  obtain ⟨a, e, hb, hc⟩ := h.2 (by omega)
  have hx := viewsL_ok ho h0 _ (List.getElem_mem hk)
  have hv : ((viewN S k : Nat) : Int) = (viewsL S)[k] := by
    unfold viewN
    rw [List.getD_eq_getElem?_getD, List.getElem?_eq_getElem hk, Option.getD_some]; omega
  refine ⟨a, e, hb, ?_, by omega⟩
  have := hc k (.int .u32 (viewsL S)[k]) (by simp [u32s, List.getElem?_map, List.getElem?_eq_getElem hk])
  rw [this, hv]
theorem tSum_le {S : Sch} {T : List (List CellS)} (hl : lightT T = true) (k : Nat) (hk : k ≤ T.length) : tSum S T k ≤ 180 * k := by
  induction k with
  | zero => simp [tSum]
  | succ k ih =>
    rw [tSum_succ]
    have := ih (by omega)
    have h1 := pagesN_le (viewN S k) (T.getD k [])
    unfold lightT at hl
    simp only [Bool.and_eq_true, decide_eq_true_iff, List.all_eq_true] at hl
    have h2 := hl.2 T[k] (List.getElem_mem (by omega))
    unfold lightL at h2
    simp only [Bool.and_eq_true, decide_eq_true_iff] at h2
    have h3 : T.getD k [] = T[k] := by rw [List.getD_eq_getElem?_getD, List.getElem?_eq_getElem (by omega), Option.getD_some]
    rw [h3] at h1 ⊢
    omega
theorem lightT_get {T : List (List CellS)} (hl : lightT T = true) {k : Nat} (hk : k < T.length) : (∀ C ∈ T[k], lightC C = true) ∧ T[k].length ≤ 60 := by
  unfold lightT at hl
  simp only [Bool.and_eq_true, decide_eq_true_iff, List.all_eq_true] at hl
  have h2 := hl.2 T[k] (List.getElem_mem hk)
  unfold lightL at h2
  simp only [Bool.and_eq_true, decide_eq_true_iff, List.all_eq_true] at h2
  exact ⟨h2.2, h2.1⟩
theorem lightT_len {T : List (List CellS)} (hl : lightT T = true) : T.length ≤ 20 := by
  unfold lightT at hl
  simp only [Bool.and_eq_true, decide_eq_true_iff] at hl
  exact hl.1
set_option maxRecDepth 20000 in
set_option maxHeartbeats 4000000 in
theorem spaceAll_any (w : World) (B : Nat) (v : Value) (S : Sch) (A : Option Addr) (c : Nat) (T : List (List CellS)) (h : SchAt w B v S) (ho : SchOk S) (g : SlR cellR.sl w B T A c) (hB : B ≤ w.heap.size) (hl : lightT T = true) :
    Calls Try.prog 15 #[v, .slice A T.length c] w fun y w' => y = .returned (.tuple #[.int .i64 ((allR S T).1 : Int), .int .i64 ((allR S T).2 : Int)]) ∧ Below w.heap.size w w' := by
  have hh := h
  obtain ⟨A0, c0, A1, c1, A2, c2, A3, c3, rfl, r0, r1, r2, r3, b0, b1, b2, b3⟩ := hh
  clear r0 r1 r2 r3 b0 b1 b2 b3
  have hw := belA (belR w) (.cells #[.slice A0 S.dims.length c0, .slice A1 S.ints.length c1, .slice A2 S.nums.length c2, .slice A3 S.views.length c3] 26)
  have kk := Blk.new w 26 #[.slice A0 S.dims.length c0, .slice A1 S.ints.length c1, .slice A2 S.nums.length c2, .slice A3 S.views.length c3]
  obtain ⟨W0, hW0⟩ : ∃ W0, W0 = w.alloc (.cells #[.slice A0 S.dims.length c0, .slice A1 S.ints.length c1, .slice A2 S.nums.length c2, .slice A3 S.views.length c3] 26) := ⟨_, rfl⟩
  rw [← hW0] at hw kk
  have HW0 := Lib.hid hW0; have HW := Lib.hid hw; have HKK := Lib.hid kk
  have HSC : Hid (∀ W', Below w.heap.size w W' → SchAt W' B (.agg #[.slice A0 S.dims.length c0, .slice A1 S.ints.length c1, .slice A2 S.nums.length c2, .slice A3 S.views.length c3]) S) := Lib.hid fun W' hb => h.keep (hb.mono hB) (Nat.le_refl _)
  have HCK := Lib.hid (schemaCheck_any W0 B _ S (HSC.out _ HW.out) ho (Nat.le_trans hB HW.out.size))
  have G := Lib.hid g; have HL := Lib.hid hl
  have hlen := lightT_len hl
  clear h g hl hw kk hW0
  by_cases q0 : checkN S = 0
  case neg =>
    have t0 : ((checkN S : Int) != 0) = true := by rw [bne_iff_ne]; omega
    have HF : Hid (allR S T = (0, 1)) := Lib.hid (if_neg q0)
    clear q0
    generalize checkN S = ck at *
    go_enter Try.func15, Try.ntmps15
    go_wp2_with fail
    rw [← HW0.out]
    go_wp2_with (go_at_call 46; (with_reducible refine HCK.out.mono ?_); rintro y w1 ⟨rfl, hb1⟩; have HB1 := Lib.hid (HW.out.trans (hb1.mono HW.out.size)); clear hb1)
    go_ret2
    exact ⟨by rw [HF.out]; rfl, HB1.out⟩
  rw [q0] at HCK
  have HV := Lib.hid (fun W (hb : Below w.heap.size w W) => views_any W B _ S (HSC.out W hb) ho (Nat.le_trans hB hb.size) q0)
  have HQ0 := Lib.hid q0
  have hvl : (viewsL S).length = S.views.length + 1 := viewsL_len S
  have hvb : S.views.length + 1 ≤ 9223372036854775807 := by
    have := (checkN_zero q0).1
    unfold manyOk at this
    omega
  clear q0
  by_cases q1 : T.length = (viewsL S).length
  case neg =>
    have t1 : ((T.length : Int) != ((viewsL S).length : Int)) = true := by rw [bne_iff_ne]; omega
    have HF : Hid (allR S T = (0, 3)) := Lib.hid ((if_pos HQ0.out).trans (if_neg q1))
    clear q1
    rw [hvl] at t1 HV
    go_enter Try.func15, Try.ntmps15
    go_wp2_with fail
    rw [← HW0.out]
    (with_reducible refine HCK.out.mono ?_); rintro y w1 ⟨rfl, hb1⟩
    have HB1 := Lib.hid (HW.out.trans (hb1.mono HW.out.size))
    have k1 := HKK.out.below hb1 HKK.out.lt
    have x0 := k1.cell 0; have x1 := k1.cell 1; have x2 := k1.cell 2; have x3 := k1.cell 3
    simp at x0 x1 x2 x3
    clear hb1 k1
    go_wp2_with (go_at_call 47; (with_reducible refine (HV.out _ HB1.out).mono ?_); rintro y w2 ⟨v2, rfl, hv2, hb2⟩; obtain ⟨A5, c5, rfl, hR5, _, hc5⟩ := own_rd hv2; have HB2 := Lib.hid (HB1.out.trans (hb2.mono HB1.out.size)); clear hb2 hv2 hR5 x0 x1 x2 x3)
    go_ret2
    exact ⟨by rw [HF.out]; rfl, HB2.out⟩
  have HNO := Lib.hid fun (hf : tOk S T T.length = false) => show allR S T = (0, 1) from (if_pos HQ0.out).trans ((if_pos q1).trans (if_neg (by rw [hf]; decide)))
  have HYES := Lib.hid fun (hf : tOk S T T.length = true) => show allR S T = (1 + tSum S T T.length, 0) from (if_pos HQ0.out).trans ((if_pos q1).trans (if_pos hf))
  have hTv : T.length = S.views.length + 1 := by omega
  have t1 : ((T.length : Int) != ((S.views.length + 1 : Nat) : Int)) = false := by rw [bne_eq_false_iff_eq]; omega
  rw [hvl] at HV
  clear q1
  go_enter Try.func15, Try.ntmps15
  go_wp2_with fail
  rw [← HW0.out]
  (with_reducible refine HCK.out.mono ?_); rintro y w1 ⟨rfl, hb1⟩
  have HB1 := Lib.hid (HW.out.trans (hb1.mono HW.out.size))
  have k1 := HKK.out.below hb1 HKK.out.lt
  have x0 := k1.cell 0; have x1 := k1.cell 1; have x2 := k1.cell 2; have x3 := k1.cell 3
  simp at x0 x1 x2 x3
  have HK1 := Lib.hid k1
  clear hb1 k1
  go_wp2_with (go_at_call 47; (with_reducible refine (HV.out _ HB1.out).mono ?_); rintro y w2 ⟨v2, rfl, hv2, hb2⟩; obtain ⟨A5, c5, rfl, hR5, _, hc5⟩ := own_rd hv2; have HB2 := Lib.hid (HB1.out.trans (hb2.mono HB1.out.size)); have HK2 := Lib.hid (HK1.out.below hb2 HK1.out.lt); have HR5 := Lib.hid hR5; clear hb2 hv2 hR5 x0 x1 x2 x3)
  go_loopw [7, 24] (fun s i wr => ∃ k : Nat, k ≤ T.length ∧ i = .int .i64 (k : Int) ∧ s = .int .i64 ((1 + tSum S T k : Nat) : Int) ∧ Hid (tOk S T k = true) ∧ Hid (Below w2.heap.size w2 wr)) (fun _ i _ => T.length - (intOf i).toNat)
  case atStart => exact ⟨0, by omega, rfl, rfl, rfl, Lib.hid (belR w2)⟩
  case round =>
  obtain ⟨k, hk, rfl, rfl, HA, HBl⟩ := hrel
  by_cases hlt : k < T.length
  · obtain ⟨a5, rfl, ha5, z5, hm5⟩ := Rd.viewAt (S := S) (by rw [hvl]; exact HR5.out.below HBl.out) ho HQ0.out (k := k) (by omega)
    obtain ⟨a, D2, d2, ea, hab, y0, hg⟩ := (G.out.keep ((HB2.out.trans (HBl.out.mono HB2.out.size)).mono hB) (Nat.le_refl _)).tableAt hlt
    subst ea
    have kr := HK2.out.below HBl.out HK2.out.lt
    have x0 := kr.cell 0; have x1 := kr.cell 1; have x2 := kr.cell 2; have x3 := kr.cell 3
    simp at x0 x1 x2 x3
    have q1 : (0 : Int) ≤ (k : Int) := by omega
    have q2 : (k : Int) < (T.length : Int) := by omega
    have q3 : (k : Int) < ((S.views.length + 1 : Nat) : Int) := by omega
    have hgd : T.getD k [] = T[k] := by rw [List.getD_eq_getElem?_getD, List.getElem?_eq_getElem hlt, Option.getD_some]
    have hlk := lightT_get HL.out hlt
    have hts := tOk_succ S T k
    have hss := tSum_succ S T k
    have hno := Lib.hid fun (hr : rightL S (viewN S k) (T.getD k []) = false) => tOk_no (S := S) hlt hr
    have hsl := tSum_le HL.out (S := S) (k + 1) hlt
    rw [hgd] at hts hss hno
    rw [HA.out, Bool.true_and] at hts
    have hBr : B ≤ wr.heap.size := by have := HB2.out.size; have := HBl.out.size; omega
    have HBw := Lib.hid (HB2.out.trans (HBl.out.mono HB2.out.size))
    cases hr : rightL S (viewN S k) T[k] with
    | false =>
      have hpg := pages_arg wr.drew B _ S D2 d2 T[k] (viewN S k) (HSC.out _ HBw.out.drew) ho (hg.keep (belR wr |>.drew.mono hBr) (Nat.le_refl _)) hBr hm5 hr
      have HPG := Lib.hid hpg; have HF := Lib.hid (HNO.out (hno.out hr))
      clear hpg hr hts hss hlk hsl hg hgd
      generalize T[k] = l at *
      generalize viewN S k = m at *
      generalize tSum S T k = sm at *
      --REG10
      have HS8 : Hid (∀ W, Below wr.heap.size wr.drew W → W.cell? ⟨w.heap.size, 0, none⟩ = some (.slice A0 S.dims.length c0) ∧ W.cell? ⟨w.heap.size, 1, none⟩ = some (.slice A1 S.ints.length c1) ∧ W.cell? ⟨w.heap.size, 2, none⟩ = some (.slice A2 S.nums.length c2) ∧ W.cell? ⟨w.heap.size, 3, none⟩ = some (.slice A3 S.views.length c3) ∧ W.cell? (a5.add k) = some (.int .u32 (m : Int)) ∧ W.cell? (a.add k) = some (.slice D2 l.length d2)) := Lib.hid fun W hb => by
        have kw := kr.drew.below hb kr.lt
        exact ⟨kw.cell 0, kw.cell 1, kw.cell 2, kw.cell 3, (hb.cell (p := a5.add k) (by rw [block_add]; have := HBl.out.size; show a5.block < wr.heap.size; omega)).trans z5, (hb.cell (p := a.add k) (by rw [block_add]; show a.block < wr.heap.size; omega)).trans y0⟩
      have hs0 := HS8.out wr.drew (belR wr.drew)
      clear kr z5 x0 x1 x2 x3
      go_upto_region 10 with (fail)
      clear y0
      refine wp_region_held_drew (S := (fun W => W.cell? ⟨w.heap.size, 0, none⟩ = some (.slice A0 S.dims.length c0) ∧ W.cell? ⟨w.heap.size, 1, none⟩ = some (.slice A1 S.ints.length c1) ∧ W.cell? ⟨w.heap.size, 2, none⟩ = some (.slice A2 S.nums.length c2) ∧ W.cell? ⟨w.heap.size, 3, none⟩ = some (.slice A3 S.views.length c3) ∧ W.cell? (a5.add k) = some (.int .u32 (m : Int)) ∧ W.cell? (a.add k) = some (.slice D2 l.length d2))) (by kernel_rfl) (hs0) (fun hHeld => ?_)
      refine rh_take 0 (some 30) (v := ?_) rfl rfl (by kernel_rfl) (by kernel_rfl) (by kernel_rfl) (by kernel_rfl) (fun _ _ _ h => h) hHeld ?_ ?_
      rotate_left
      · (intro w hSw; (try dsimp only at hSw); go_simp; try with_reducible rfl)
      try simp only [Act.put, List.setIfInBounds_toArray, List.set_cons_zero, List.set_cons_succ]
      refine rh_take 1 (some 31) (v := ?_) rfl rfl (by kernel_rfl) (by kernel_rfl) (by kernel_rfl) (by kernel_rfl) (fun _ _ _ h => h) hHeld ?_ ?_
      rotate_left
      · (intro w hSw; (try dsimp only at hSw); go_simp; try with_reducible rfl)
      try simp only [Act.put, List.setIfInBounds_toArray, List.set_cons_zero, List.set_cons_succ]
      refine rh_take 2 (some 32) (v := ?_) rfl rfl (by kernel_rfl) (by kernel_rfl) (by kernel_rfl) (by kernel_rfl) (fun _ _ _ h => h) hHeld ?_ ?_
      rotate_left
      · (intro w hSw; (try dsimp only at hSw); go_simp; try with_reducible rfl)
      try simp only [Act.put, List.setIfInBounds_toArray, List.set_cons_zero, List.set_cons_succ]
      refine rh_take 3 (some 33) (v := ?_) rfl rfl (by kernel_rfl) (by kernel_rfl) (by kernel_rfl) (by kernel_rfl) (fun _ _ _ h => h) hHeld ?_ ?_
      rotate_left
      · (intro w hSw; (try dsimp only at hSw); go_simp; try with_reducible rfl)
      try simp only [Act.put, List.setIfInBounds_toArray, List.set_cons_zero, List.set_cons_succ]
      refine rh_take 4 (some 34) (v := ?_) rfl rfl (by kernel_rfl) (by kernel_rfl) (by kernel_rfl) (by kernel_rfl) (fun _ _ _ h => h) hHeld ?_ ?_
      rotate_left
      · (intro w hSw; (try dsimp only at hSw); go_simp; try with_reducible rfl)
      try simp only [Act.put, List.setIfInBounds_toArray, List.set_cons_zero, List.set_cons_succ]
      refine rh_take 5 (some 35) (v := ?_) rfl rfl (by kernel_rfl) (by kernel_rfl) (by kernel_rfl) (by kernel_rfl) (fun _ _ _ h => h) hHeld ?_ ?_
      rotate_left
      · (intro w hSw; (try dsimp only at hSw); go_simp; try with_reducible rfl)
      try simp only [Act.put, List.setIfInBounds_toArray, List.set_cons_zero, List.set_cons_succ]
      refine rh_call 6 (some 36) (by kernel_rfl) rfl rfl (by kernel_rfl) (fun K hK => ?_)
      clear hHeld
      go_simp
      (go_at_call 14; (with_reducible refine HPG.out.mono ?_); rintro y w3 ⟨rfl, hb3⟩; have HB3 := Lib.hid (HBl.out.drew.trans (hb3.mono HBl.out.size)); have HB4 := Lib.hid (HBw.out.drew.trans (hb3.mono HBw.out.size)); have hk3 := HS8.out w3 hb3; clear hb3)
      refine hK.out _ _ (hk3) (fun hHeld => ?_)
      clear hK K
      try simp only [Act.put, List.setIfInBounds_toArray, List.set_cons_zero, List.set_cons_succ]
      refine rh_take 7 (some 29) (v := ?_) rfl rfl (by kernel_rfl) (by kernel_rfl) (by kernel_rfl) (by kernel_rfl) (fun _ _ _ h => h) hHeld ?_ ?_
      rotate_left
      · (intro w hSw; (try dsimp only at hSw); go_simp; try with_reducible rfl)
      try simp only [Act.put, List.setIfInBounds_toArray, List.set_cons_zero, List.set_cons_succ]
      refine rh_take 8 (some 37) (v := ?_) rfl rfl (by kernel_rfl) (by kernel_rfl) (by kernel_rfl) (by kernel_rfl) (fun _ _ _ h => h) hHeld ?_ ?_
      rotate_left
      · (intro w hSw; (try dsimp only at hSw); go_simp; try with_reducible rfl)
      try simp only [Act.put, List.setIfInBounds_toArray, List.set_cons_zero, List.set_cons_succ]
      refine rh_take 10 (some 10) (v := ?_) rfl rfl (by kernel_rfl) (by kernel_rfl) (by kernel_rfl) (by kernel_rfl) (fun _ _ _ h => h) hHeld ?_ ?_
      rotate_left
      · (intro w hSw; (try dsimp only at hSw); go_simp; try with_reducible rfl)
      try simp only [Act.put, List.setIfInBounds_toArray, List.set_cons_zero, List.set_cons_succ]
      refine rh_take 9 (some 38) (v := ?_) rfl rfl (by kernel_rfl) (by kernel_rfl) (by kernel_rfl) (by kernel_rfl) (fun _ _ _ h => h) hHeld ?_ ?_
      rotate_left
      · (intro w hSw; (try dsimp only at hSw); go_simp; try with_reducible rfl)
      try simp only [Act.put, List.setIfInBounds_toArray, List.set_cons_zero, List.set_cons_succ]
      refine rh_take 11 (some 11) (v := ?_) rfl rfl (by kernel_rfl) (by kernel_rfl) (by kernel_rfl) (by kernel_rfl) (fun _ _ _ h => h) hHeld ?_ ?_
      rotate_left
      · (intro w hSw; (try dsimp only at hSw); go_simp; try with_reducible rfl)
      try simp only [Act.put, List.setIfInBounds_toArray, List.set_cons_zero, List.set_cons_succ]
      refine wpAnyH_done (by kernel_rfl) ?_ _
      clear hHeld
      go_wp2
      go_ret2
      exact ⟨by rw [HF.out]; rfl, HB4.out⟩
    | true =>
      have hpg := pages_ok wr.drew B _ S D2 d2 T[k] (viewN S k) (HSC.out _ HBw.out.drew) ho (hg.keep (belR wr |>.drew.mono hBr) (Nat.le_refl _)) hBr hm5 hr hlk.1 hlk.2
      have hpl := pagesN_le (viewN S k) T[k]
      have hl60 := hlk.2
      have HPG := Lib.hid hpg; have HT := Lib.hid (hts.trans hr)
      have HSS := Lib.hid hss
      rw [hss] at hsl
      clear hpg hr hts hss hlk hg hgd
      generalize T[k] = l at *
      generalize pagesN (viewN S k) l = pn at *
      generalize viewN S k = m at *
      generalize tSum S T k = sm at *
      --REG10
      have HS8 : Hid (∀ W, Below wr.heap.size wr.drew W → W.cell? ⟨w.heap.size, 0, none⟩ = some (.slice A0 S.dims.length c0) ∧ W.cell? ⟨w.heap.size, 1, none⟩ = some (.slice A1 S.ints.length c1) ∧ W.cell? ⟨w.heap.size, 2, none⟩ = some (.slice A2 S.nums.length c2) ∧ W.cell? ⟨w.heap.size, 3, none⟩ = some (.slice A3 S.views.length c3) ∧ W.cell? (a5.add k) = some (.int .u32 (m : Int)) ∧ W.cell? (a.add k) = some (.slice D2 l.length d2)) := Lib.hid fun W hb => by
        have kw := kr.drew.below hb kr.lt
        exact ⟨kw.cell 0, kw.cell 1, kw.cell 2, kw.cell 3, (hb.cell (p := a5.add k) (by rw [block_add]; have := HBl.out.size; show a5.block < wr.heap.size; omega)).trans z5, (hb.cell (p := a.add k) (by rw [block_add]; show a.block < wr.heap.size; omega)).trans y0⟩
      have hs0 := HS8.out wr.drew (belR wr.drew)
      clear kr z5 x0 x1 x2 x3
      go_upto_region 10 with (fail)
      clear y0
      refine wp_region_held_drew (S := (fun W => W.cell? ⟨w.heap.size, 0, none⟩ = some (.slice A0 S.dims.length c0) ∧ W.cell? ⟨w.heap.size, 1, none⟩ = some (.slice A1 S.ints.length c1) ∧ W.cell? ⟨w.heap.size, 2, none⟩ = some (.slice A2 S.nums.length c2) ∧ W.cell? ⟨w.heap.size, 3, none⟩ = some (.slice A3 S.views.length c3) ∧ W.cell? (a5.add k) = some (.int .u32 (m : Int)) ∧ W.cell? (a.add k) = some (.slice D2 l.length d2))) (by kernel_rfl) (hs0) (fun hHeld => ?_)
      refine rh_take 0 (some 30) (v := ?_) rfl rfl (by kernel_rfl) (by kernel_rfl) (by kernel_rfl) (by kernel_rfl) (fun _ _ _ h => h) hHeld ?_ ?_
      rotate_left
      · (intro w hSw; (try dsimp only at hSw); go_simp; try with_reducible rfl)
      try simp only [Act.put, List.setIfInBounds_toArray, List.set_cons_zero, List.set_cons_succ]
      refine rh_take 1 (some 31) (v := ?_) rfl rfl (by kernel_rfl) (by kernel_rfl) (by kernel_rfl) (by kernel_rfl) (fun _ _ _ h => h) hHeld ?_ ?_
      rotate_left
      · (intro w hSw; (try dsimp only at hSw); go_simp; try with_reducible rfl)
      try simp only [Act.put, List.setIfInBounds_toArray, List.set_cons_zero, List.set_cons_succ]
      refine rh_take 2 (some 32) (v := ?_) rfl rfl (by kernel_rfl) (by kernel_rfl) (by kernel_rfl) (by kernel_rfl) (fun _ _ _ h => h) hHeld ?_ ?_
      rotate_left
      · (intro w hSw; (try dsimp only at hSw); go_simp; try with_reducible rfl)
      try simp only [Act.put, List.setIfInBounds_toArray, List.set_cons_zero, List.set_cons_succ]
      refine rh_take 3 (some 33) (v := ?_) rfl rfl (by kernel_rfl) (by kernel_rfl) (by kernel_rfl) (by kernel_rfl) (fun _ _ _ h => h) hHeld ?_ ?_
      rotate_left
      · (intro w hSw; (try dsimp only at hSw); go_simp; try with_reducible rfl)
      try simp only [Act.put, List.setIfInBounds_toArray, List.set_cons_zero, List.set_cons_succ]
      refine rh_take 4 (some 34) (v := ?_) rfl rfl (by kernel_rfl) (by kernel_rfl) (by kernel_rfl) (by kernel_rfl) (fun _ _ _ h => h) hHeld ?_ ?_
      rotate_left
      · (intro w hSw; (try dsimp only at hSw); go_simp; try with_reducible rfl)
      try simp only [Act.put, List.setIfInBounds_toArray, List.set_cons_zero, List.set_cons_succ]
      refine rh_take 5 (some 35) (v := ?_) rfl rfl (by kernel_rfl) (by kernel_rfl) (by kernel_rfl) (by kernel_rfl) (fun _ _ _ h => h) hHeld ?_ ?_
      rotate_left
      · (intro w hSw; (try dsimp only at hSw); go_simp; try with_reducible rfl)
      try simp only [Act.put, List.setIfInBounds_toArray, List.set_cons_zero, List.set_cons_succ]
      refine rh_call 6 (some 36) (by kernel_rfl) rfl rfl (by kernel_rfl) (fun K hK => ?_)
      clear hHeld
      go_simp
      (go_at_call 14; (with_reducible refine HPG.out.mono ?_); rintro y w3 ⟨rfl, hb3⟩; have HB3 := Lib.hid (HBl.out.drew.trans (hb3.mono HBl.out.size)); have HB4 := Lib.hid (HBw.out.drew.trans (hb3.mono HBw.out.size)); have hk3 := HS8.out w3 hb3; clear hb3)
      refine hK.out _ _ (hk3) (fun hHeld => ?_)
      clear hK K
      try simp only [Act.put, List.setIfInBounds_toArray, List.set_cons_zero, List.set_cons_succ]
      refine rh_take 7 (some 29) (v := ?_) rfl rfl (by kernel_rfl) (by kernel_rfl) (by kernel_rfl) (by kernel_rfl) (fun _ _ _ h => h) hHeld ?_ ?_
      rotate_left
      · (intro w hSw; (try dsimp only at hSw); go_simp; try with_reducible rfl)
      try simp only [Act.put, List.setIfInBounds_toArray, List.set_cons_zero, List.set_cons_succ]
      refine rh_take 8 (some 37) (v := ?_) rfl rfl (by kernel_rfl) (by kernel_rfl) (by kernel_rfl) (by kernel_rfl) (fun _ _ _ h => h) hHeld ?_ ?_
      rotate_left
      · (intro w hSw; (try dsimp only at hSw); go_simp; try with_reducible rfl)
      try simp only [Act.put, List.setIfInBounds_toArray, List.set_cons_zero, List.set_cons_succ]
      refine rh_take 10 (some 10) (v := ?_) rfl rfl (by kernel_rfl) (by kernel_rfl) (by kernel_rfl) (by kernel_rfl) (fun _ _ _ h => h) hHeld ?_ ?_
      rotate_left
      · (intro w hSw; (try dsimp only at hSw); go_simp; try with_reducible rfl)
      try simp only [Act.put, List.setIfInBounds_toArray, List.set_cons_zero, List.set_cons_succ]
      refine rh_take 9 (some 38) (v := ?_) rfl rfl (by kernel_rfl) (by kernel_rfl) (by kernel_rfl) (by kernel_rfl) (fun _ _ _ h => h) hHeld ?_ ?_
      rotate_left
      · (intro w hSw; (try dsimp only at hSw); go_simp; try with_reducible rfl)
      try simp only [Act.put, List.setIfInBounds_toArray, List.set_cons_zero, List.set_cons_succ]
      refine rh_take 11 (some 11) (v := ?_) rfl rfl (by kernel_rfl) (by kernel_rfl) (by kernel_rfl) (by kernel_rfl) (fun _ _ _ h => h) hHeld ?_ ?_
      rotate_left
      · (intro w hSw; (try dsimp only at hSw); go_simp; try with_reducible rfl)
      try simp only [Act.put, List.setIfInBounds_toArray, List.set_cons_zero, List.set_cons_succ]
      refine wpAnyH_done (by kernel_rfl) ?_ _
      clear hHeld
      go_wp2
      go_roundw
      case rel => exact ⟨k + 1, by omega, by go_num, by rw [HSS.out]; congr 1; omega, HT, HB3⟩
      case measure => simp [intOf]; omega
  · obtain rfl : k = T.length := by omega
    have HF := Lib.hid (HYES.out HA.out)
    have HBw := Lib.hid (HB2.out.trans (HBl.out.mono HB2.out.size))
    generalize tSum S T T.length = sm at *
    go_wp2
    go_ret2
    exact ⟨by rw [HF.out]; rfl, HBw.out⟩
set_option maxRecDepth 20000 in
set_option maxHeartbeats 4000000 in
theorem ref39All_any (w : World) (B : Nat) (v : Value) (S : Sch) (A : Option Addr) (c : Nat) (T : List (List CellS)) (h : SchAt w B v S) (ho : SchOk S) (g : SlR cellR.sl w B T A c) (hB : B ≤ w.heap.size) (hl : lightT T = true) :
    Calls Try.prog 16 #[v, .slice A T.length c] w fun y w' => y = .returned (.tuple #[.int .i64 ((allR S T).1 : Int), .int .i64 ((allR S T).2 : Int)]) ∧ Below w.heap.size w w' := by
  have hh := h
  obtain ⟨A0, c0, A1, c1, A2, c2, A3, c3, rfl, r0, r1, r2, r3, b0, b1, b2, b3⟩ := hh
  clear r0 r1 r2 r3 b0 b1 b2 b3
  have hw := belA (belR w) (.cells #[.slice A0 S.dims.length c0, .slice A1 S.ints.length c1, .slice A2 S.nums.length c2, .slice A3 S.views.length c3] 26)
  have kk := Blk.new w 26 #[.slice A0 S.dims.length c0, .slice A1 S.ints.length c1, .slice A2 S.nums.length c2, .slice A3 S.views.length c3]
  obtain ⟨W0, hW0⟩ : ∃ W0, W0 = w.alloc (.cells #[.slice A0 S.dims.length c0, .slice A1 S.ints.length c1, .slice A2 S.nums.length c2, .slice A3 S.views.length c3] 26) := ⟨_, rfl⟩
  rw [← hW0] at hw kk
  have HW0 := Lib.hid hW0; have HW := Lib.hid hw; have HKK := Lib.hid kk
  have HSC : Hid (∀ W', Below w.heap.size w W' → SchAt W' B (.agg #[.slice A0 S.dims.length c0, .slice A1 S.ints.length c1, .slice A2 S.nums.length c2, .slice A3 S.views.length c3]) S) := Lib.hid fun W' hb => h.keep (hb.mono hB) (Nat.le_refl _)
  have HCK := Lib.hid (refCheck_any W0 B _ S (HSC.out _ HW.out) ho (Nat.le_trans hB HW.out.size))
  have G := Lib.hid g; have HL := Lib.hid hl
  have hlen := lightT_len hl
  clear h g hl hw kk hW0
  by_cases q0 : checkN S = 0
  case neg =>
    have t0 : ((checkN S : Int) != 0) = true := by rw [bne_iff_ne]; omega
    have HF : Hid (allR S T = (0, 1)) := Lib.hid (if_neg q0)
    clear q0
    generalize checkN S = ck at *
    go_enter Try.func16, Try.ntmps16
    go_wp2_with fail
    rw [← HW0.out]
    go_wp2_with (go_at_call 38; (with_reducible refine HCK.out.mono ?_); rintro y w1 ⟨rfl, hb1⟩; have HB1 := Lib.hid (HW.out.trans (hb1.mono HW.out.size)); clear hb1)
    go_ret2
    exact ⟨by rw [HF.out]; rfl, HB1.out⟩
  rw [q0] at HCK
  have HV := Lib.hid (fun W (hb : Below w.heap.size w W) => refViews_any W B _ S (HSC.out W hb) ho (Nat.le_trans hB hb.size) q0)
  have HQ0 := Lib.hid q0
  have hvl : (viewsL S).length = S.views.length + 1 := viewsL_len S
  have hvb : S.views.length + 1 ≤ 9223372036854775807 := by
    have := (checkN_zero q0).1
    unfold manyOk at this
    omega
  clear q0
  by_cases q1 : T.length = (viewsL S).length
  case neg =>
    have t1 : ((T.length : Int) != ((viewsL S).length : Int)) = true := by rw [bne_iff_ne]; omega
    have HF : Hid (allR S T = (0, 3)) := Lib.hid ((if_pos HQ0.out).trans (if_neg q1))
    clear q1
    rw [hvl] at t1 HV
    go_enter Try.func16, Try.ntmps16
    go_wp2_with fail
    rw [← HW0.out]
    (with_reducible refine HCK.out.mono ?_); rintro y w1 ⟨rfl, hb1⟩
    have HB1 := Lib.hid (HW.out.trans (hb1.mono HW.out.size))
    have k1 := HKK.out.below hb1 HKK.out.lt
    have x0 := k1.cell 0; have x1 := k1.cell 1; have x2 := k1.cell 2; have x3 := k1.cell 3
    simp at x0 x1 x2 x3
    clear hb1 k1
    go_wp2_with (go_at_call 48; (with_reducible refine (HV.out _ HB1.out).mono ?_); rintro y w2 ⟨v2, rfl, hv2, hb2⟩; obtain ⟨A5, c5, rfl, hR5, _, hc5⟩ := own_rd hv2; have HB2 := Lib.hid (HB1.out.trans (hb2.mono HB1.out.size)); clear hb2 hv2 hR5 x0 x1 x2 x3)
    go_ret2
    exact ⟨by rw [HF.out]; rfl, HB2.out⟩
  have HNO := Lib.hid fun (hf : tOk S T T.length = false) => show allR S T = (0, 1) from (if_pos HQ0.out).trans ((if_pos q1).trans (if_neg (by rw [hf]; decide)))
  have HYES := Lib.hid fun (hf : tOk S T T.length = true) => show allR S T = (1 + tSum S T T.length, 0) from (if_pos HQ0.out).trans ((if_pos q1).trans (if_pos hf))
  have hTv : T.length = S.views.length + 1 := by omega
  have t1 : ((T.length : Int) != ((S.views.length + 1 : Nat) : Int)) = false := by rw [bne_eq_false_iff_eq]; omega
  rw [hvl] at HV
  clear q1
  go_enter Try.func16, Try.ntmps16
  go_wp2_with fail
  rw [← HW0.out]
  (with_reducible refine HCK.out.mono ?_); rintro y w1 ⟨rfl, hb1⟩
  have HB1 := Lib.hid (HW.out.trans (hb1.mono HW.out.size))
  have k1 := HKK.out.below hb1 HKK.out.lt
  have x0 := k1.cell 0; have x1 := k1.cell 1; have x2 := k1.cell 2; have x3 := k1.cell 3
  simp at x0 x1 x2 x3
  have HK1 := Lib.hid k1
  clear hb1 k1
  go_wp2_with (go_at_call 48; (with_reducible refine (HV.out _ HB1.out).mono ?_); rintro y w2 ⟨v2, rfl, hv2, hb2⟩; obtain ⟨A5, c5, rfl, hR5, _, hc5⟩ := own_rd hv2; have HB2 := Lib.hid (HB1.out.trans (hb2.mono HB1.out.size)); have HK2 := Lib.hid (HK1.out.below hb2 HK1.out.lt); have HR5 := Lib.hid hR5; clear hb2 hv2 hR5 x0 x1 x2 x3)
  go_loopw [7, 8] (fun s i wr => ∃ k : Nat, k ≤ T.length ∧ i = .int .i64 (k : Int) ∧ s = .int .i64 ((1 + tSum S T k : Nat) : Int) ∧ Hid (tOk S T k = true) ∧ Hid (Below w2.heap.size w2 wr)) (fun _ i _ => T.length - (intOf i).toNat)
  case atStart => exact ⟨0, by omega, rfl, rfl, rfl, Lib.hid (belR w2)⟩
  case round =>
  obtain ⟨k, hk, rfl, rfl, HA, HBl⟩ := hrel
  by_cases hlt : k < T.length
  · obtain ⟨a5, rfl, ha5, z5, hm5⟩ := Rd.viewAt (S := S) (by rw [hvl]; exact HR5.out.below HBl.out) ho HQ0.out (k := k) (by omega)
    obtain ⟨a, D2, d2, ea, hab, y0, hg⟩ := (G.out.keep ((HB2.out.trans (HBl.out.mono HB2.out.size)).mono hB) (Nat.le_refl _)).tableAt hlt
    subst ea
    have kr := HK2.out.below HBl.out HK2.out.lt
    have x0 := kr.cell 0; have x1 := kr.cell 1; have x2 := kr.cell 2; have x3 := kr.cell 3
    simp at x0 x1 x2 x3
    have q1 : (0 : Int) ≤ (k : Int) := by omega
    have q2 : (k : Int) < (T.length : Int) := by omega
    have q3 : (k : Int) < ((S.views.length + 1 : Nat) : Int) := by omega
    have hgd : T.getD k [] = T[k] := by rw [List.getD_eq_getElem?_getD, List.getElem?_eq_getElem hlt, Option.getD_some]
    have hlk := lightT_get HL.out hlt
    have hts := tOk_succ S T k
    have hss := tSum_succ S T k
    have hno := Lib.hid fun (hr : rightL S (viewN S k) (T.getD k []) = false) => tOk_no (S := S) hlt hr
    have hsl := tSum_le HL.out (S := S) (k + 1) hlt
    rw [hgd] at hts hss hno
    rw [HA.out, Bool.true_and] at hts
    have hBr : B ≤ wr.heap.size := by have := HB2.out.size; have := HBl.out.size; omega
    have HBw := Lib.hid (HB2.out.trans (HBl.out.mono HB2.out.size))
    have hrt := ref15Right_any wr.drew B _ S D2 d2 T[k] (viewN S k) (HSC.out _ HBw.out.drew) ho (hg.keep ((belR wr).drew.mono hBr) (Nat.le_refl _)) hBr hm5
    have HS8 : Hid (∀ W, Below wr.heap.size wr.drew W → Blk W w.heap.size 26 #[.slice A0 S.dims.length c0, .slice A1 S.ints.length c1, .slice A2 S.nums.length c2, .slice A3 S.views.length c3] ∧ W.cell? (a5.add k) = some (.int .u32 ((viewN S k : Nat) : Int)) ∧ W.cell? (a.add k) = some (.slice D2 T[k].length d2)) := Lib.hid fun W hb => by
      have kw := kr.drew.below hb kr.lt
      exact ⟨kw, (hb.cell (p := a5.add k) (by rw [block_add]; have := HBl.out.size; show a5.block < wr.heap.size; omega)).trans z5, (hb.cell (p := a.add k) (by rw [block_add]; show a.block < wr.heap.size; omega)).trans y0⟩
    cases hr : rightL S (viewN S k) T[k] with
    | false =>
      rw [hr] at hrt
      have HPG := Lib.hid hrt; have HF := Lib.hid (HNO.out (hno.out hr))
      clear hrt hr hts hss hlk hsl hg hgd kr
      generalize T[k] = l at *
      generalize viewN S k = m at *
      generalize tSum S T k = sm at *
      go_upto_region 10 with (fail)
      go_still_tail 9, (by kernel_rfl)
      go_wp2_with (go_at_call 17; (with_reducible refine HPG.out.mono ?_); rintro y w3 ⟨rfl, hb3⟩; have HB3 := Lib.hid (HBw.out.drew.trans (hb3.mono HBw.out.size)); clear hb3)
      go_ret2
      exact ⟨by rw [HF.out]; rfl, HB3.out⟩
    | true =>
      rw [hr] at hrt
      have hpl := pagesN_le (viewN S k) T[k]
      have hl60 := hlk.2
      have hlc := Lib.hid hlk.1
      have HPG := Lib.hid hrt; have HT := Lib.hid (hts.trans hr); have HRR := Lib.hid (right_rising hr)
      have HSS := Lib.hid hss; have HG := Lib.hid hg
      rw [hss] at hsl
      clear hrt hr hts hss hlk hg hgd kr
      generalize T[k] = l at *
      generalize hpn : pagesN (viewN S k) l = pn at *
      have HPN := Lib.hid hpn
      clear hpn
      generalize viewN S k = m at *
      generalize tSum S T k = sm at *
      go_upto_region 10 with (fail)
      go_still_tail 9, (by kernel_rfl)
      go_upto_region 12 with (go_at_call 17; (with_reducible refine HPG.out.mono ?_); rintro y w3 ⟨rfl, hb3⟩; have HB3 := Lib.hid (HBl.out.drew.trans (hb3.mono HBl.out.size)); have HBw3 := Lib.hid (HBw.out.drew.trans (hb3.mono HBw.out.size)); have hq := HS8.out w3 hb3; have HKR := Lib.hid hq.1; have x0 := hq.1.cell 0; have x1 := hq.1.cell 1; have x2 := hq.1.cell 2; have x3 := hq.1.cell 3; have z5 := hq.2.1; have y0 := hq.2.2; simp at x0 x1 x2 x3; have hpg := ref39Pages_any w3.drew B D2 d2 l m (HG.out.keep (((belR wr).drew.trans hb3).drew.mono hBr) (Nat.le_refl _)) (show B ≤ w3.heap.size by have := hb3.size; simp at this; omega) hm5 HRR.out hlc.out hl60; rw [HPN.out] at hpg; have HPQ := Lib.hid hpg; have hz3 := Lib.hid (show wr.heap.size ≤ w3.heap.size from hb3.size); clear hb3 hq hpg)
      --REG12
      have HS9 : Hid (∀ W, Below w3.drew.heap.size w3.drew W → W.cell? (a5.add k) = some (.int .u32 (m : Int)) ∧ W.cell? (a.add k) = some (.slice D2 l.length d2)) := Lib.hid fun W hb => ⟨(hb.cell (p := a5.add k) (by rw [block_add]; have := hz3.out; have := HBl.out.size; show a5.block < w3.heap.size; omega)).trans z5, (hb.cell (p := a.add k) (by rw [block_add]; have := hz3.out; show a.block < w3.heap.size; omega)).trans y0⟩
      have hs0 := HS9.out w3.drew (belR w3.drew)
      clear z5 y0 x0 x1 x2 x3
      refine wp_region_held_drew (S := (fun W => W.cell? (a5.add k) = some (.int .u32 (m : Int)) ∧ W.cell? (a.add k) = some (.slice D2 l.length d2))) (by kernel_rfl) (hs0) (fun hHeld => ?_)
      refine rh_take 0 (some 36) (v := ?_) rfl rfl (by kernel_rfl) (by kernel_rfl) (by kernel_rfl) (by kernel_rfl) (fun _ _ _ h => h) hHeld ?_ ?_
      rotate_left
      · (intro w hSw; (try dsimp only at hSw); go_simp; try with_reducible rfl)
      try simp only [Act.put, List.setIfInBounds_toArray, List.set_cons_zero, List.set_cons_succ]
      refine rh_take 1 (some 37) (v := ?_) rfl rfl (by kernel_rfl) (by kernel_rfl) (by kernel_rfl) (by kernel_rfl) (fun _ _ _ h => h) hHeld ?_ ?_
      rotate_left
      · (intro w hSw; (try dsimp only at hSw); go_simp; try with_reducible rfl)
      try simp only [Act.put, List.setIfInBounds_toArray, List.set_cons_zero, List.set_cons_succ]
      refine rh_take 2 (some 38) (v := ?_) rfl rfl (by kernel_rfl) (by kernel_rfl) (by kernel_rfl) (by kernel_rfl) (fun _ _ _ h => h) hHeld ?_ ?_
      rotate_left
      · (intro w hSw; (try dsimp only at hSw); go_simp; try with_reducible rfl)
      try simp only [Act.put, List.setIfInBounds_toArray, List.set_cons_zero, List.set_cons_succ]
      refine rh_take 3 (some 39) (v := ?_) rfl rfl (by kernel_rfl) (by kernel_rfl) (by kernel_rfl) (by kernel_rfl) (fun _ _ _ h => h) hHeld ?_ ?_
      rotate_left
      · (intro w hSw; (try dsimp only at hSw); go_simp; try with_reducible rfl)
      try simp only [Act.put, List.setIfInBounds_toArray, List.set_cons_zero, List.set_cons_succ]
      refine rh_take 4 (some 40) (v := ?_) rfl rfl (by kernel_rfl) (by kernel_rfl) (by kernel_rfl) (by kernel_rfl) (fun _ _ _ h => h) hHeld ?_ ?_
      rotate_left
      · (intro w hSw; (try dsimp only at hSw); go_simp; try with_reducible rfl)
      try simp only [Act.put, List.setIfInBounds_toArray, List.set_cons_zero, List.set_cons_succ]
      refine rh_take 5 (some 41) (v := ?_) rfl rfl (by kernel_rfl) (by kernel_rfl) (by kernel_rfl) (by kernel_rfl) (fun _ _ _ h => h) hHeld ?_ ?_
      rotate_left
      · (intro w hSw; (try dsimp only at hSw); go_simp; try with_reducible rfl)
      try simp only [Act.put, List.setIfInBounds_toArray, List.set_cons_zero, List.set_cons_succ]
      refine rh_take 6 (some 42) (v := ?_) rfl rfl (by kernel_rfl) (by kernel_rfl) (by kernel_rfl) (by kernel_rfl) (fun _ _ _ h => h) hHeld ?_ ?_
      rotate_left
      · (intro w hSw; (try dsimp only at hSw); go_simp; try with_reducible rfl)
      try simp only [Act.put, List.setIfInBounds_toArray, List.set_cons_zero, List.set_cons_succ]
      refine rh_take 7 (some 43) (v := ?_) rfl rfl (by kernel_rfl) (by kernel_rfl) (by kernel_rfl) (by kernel_rfl) (fun _ _ _ h => h) hHeld ?_ ?_
      rotate_left
      · (intro w hSw; (try dsimp only at hSw); go_simp; try with_reducible rfl)
      try simp only [Act.put, List.setIfInBounds_toArray, List.set_cons_zero, List.set_cons_succ]
      refine rh_take 8 (some 44) (v := ?_) rfl rfl (by kernel_rfl) (by kernel_rfl) (by kernel_rfl) (by kernel_rfl) (fun _ _ _ h => h) hHeld ?_ ?_
      rotate_left
      · (intro w hSw; (try dsimp only at hSw); go_simp; try with_reducible rfl)
      try simp only [Act.put, List.setIfInBounds_toArray, List.set_cons_zero, List.set_cons_succ]
      refine rh_call 9 (some 45) (by kernel_rfl) rfl rfl (by kernel_rfl) (fun K hK => ?_)
      clear hHeld
      go_simp
      (go_at_call 19; (with_reducible refine HPQ.out.mono ?_); rintro y w4 ⟨rfl, hb4⟩; have HB4 := Lib.hid (HB3.out.drew.trans (hb4.mono HB3.out.size)); have hk4 := HS9.out w4 hb4; clear hb4)
      refine hK.out _ _ (hk4) (fun hHeld => ?_)
      clear hK K
      try simp only [Act.put, List.setIfInBounds_toArray, List.set_cons_zero, List.set_cons_succ]
      refine rh_take 10 (some 46) (v := ?_) rfl rfl (by kernel_rfl) (by kernel_rfl) (by kernel_rfl) (by kernel_rfl) (fun _ _ _ h => h) hHeld ?_ ?_
      rotate_left
      · (intro w hSw; (try dsimp only at hSw); go_simp; try with_reducible rfl)
      try simp only [Act.put, List.setIfInBounds_toArray, List.set_cons_zero, List.set_cons_succ]
      refine rh_take 11 (some 7) (v := ?_) rfl rfl (by kernel_rfl) (by kernel_rfl) (by kernel_rfl) (by kernel_rfl) (fun _ _ _ h => h) hHeld ?_ ?_
      rotate_left
      · (intro w hSw; (try dsimp only at hSw); go_simp; try with_reducible rfl)
      try simp only [Act.put, List.setIfInBounds_toArray, List.set_cons_zero, List.set_cons_succ]
      refine wpAnyH_done (by kernel_rfl) ?_ _
      clear hHeld
      go_wp2
      go_roundw
      case rel => exact ⟨k + 1, by omega, by go_num, by rw [HSS.out]; congr 1; first | omega | (rw [IntWalk.i64_in _ (by omega)]; omega) | (rw [IntWalk.wrap64_in _ (by omega)]; omega), HT, HB4⟩
      case measure => simp [intOf]; omega
  · obtain rfl : k = T.length := by omega
    have HF := Lib.hid (HYES.out HA.out)
    have HBw := Lib.hid (HB2.out.trans (HBl.out.mono HB2.out.size))
    generalize tSum S T T.length = sm at *
    go_wp2
    go_ret2
    exact ⟨by rw [HF.out]; rfl, HBw.out⟩
end Go.Proofs.Ytfhmaincnlaapaa
