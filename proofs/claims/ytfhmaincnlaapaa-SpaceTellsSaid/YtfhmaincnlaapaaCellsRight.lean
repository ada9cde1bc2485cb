/-
  cells.rising, cells.Right.
-/
import Derived.Test.YtfhmaincnlaapaaAggRight
namespace Go.Proofs.Ytfhmaincnlaapaa
open Go.ChangeShapes Go.WideShapes Go.ChangeAt Go.RowKit
set_option linter.unusedVariables false

theorem risingC_no {l : List CellS} {k : Nat} (hk : k + 1 < l.length) (h : ¬ kyC l k < kyC l (k + 1)) : risingC l = false := by
  rw [← Bool.not_eq_true, risingC_iff]; intro hh; exact h (hh k hk)
set_option maxRecDepth 20000 in
theorem risingC_any (w : World) (B : Nat) (A : Option Addr) (c : Nat) (l : List CellS) (g : SlR cellR w B l A c) :
    Calls Try.prog 113 #[.slice A l.length c] w fun y w' => y = .returned (.bool (risingC l)) ∧ Drw w w' := by
  have hml : l.length ≤ 9223372036854775807 := by have h1 := g.1; have h2 := g.2.1; unfold maxLen at h2; omega
  have G := Lib.hid g
  clear g
  go_enter Try.func113, Try.ntmps113
  go_wp2
  go_loopw [3] (fun i wr => ∃ n k : Nat, k + 1 = n ∧ i = .int .i64 (n : Int) ∧ k ≤ l.length ∧ Hid (∀ j, j < k → j + 1 < l.length → kyC l j < kyC l (j + 1)) ∧ Hid (Drw w wr)) (fun i _ => l.length + 1 - (intOf i).toNat)
  case atStart => exact ⟨1, 0, rfl, rfl, by omega, fun j hj => absurd hj (by omega), Drw.refl w⟩
  case round =>
    obtain ⟨n, k, hn, rfl, hk, HU, HD⟩ := hrel
    by_cases hlt : n < l.length
    · obtain ⟨j, rfl⟩ := HD.out
      obtain ⟨a, A2, c2, A3, c3, rfl, hab, x0, _, _, _, hv⟩ := G.out.cellAt hlt
      obtain ⟨a', A2', c2', A3', c3', ea, _, y0, _, _, _, hv'⟩ := G.out.cellAt (k := k) (by omega)
      injection ea with ea; subst ea
      have w1 : IntKind.i64.wrap ((n : Int) - 1) = (k : Int) := by rw [IntWalk.i64_in _ (by omega)]; omega
      have q1 : (0 : Int) ≤ (n : Int) := by omega
      have q2 : (n : Int) < (l.length : Int) := by omega
      have q3 : (0 : Int) ≤ (k : Int) := by omega
      have q4 : (k : Int) < (l.length : Int) := by omega
      have z0 : w.cell? (a.add (n * 4)) = some (.int .u64 (l[n].key : Int)) := x0
      have z1 : w.cell? (a.add (k * 4)) = some (.int .u64 (l[k].key : Int)) := y0
      rw [kyC_get] at z0 z1
      have hno := risingC_no (l := l) (k := k) (by omega)
      rw [hn] at hno
      by_cases hc : kyC l n ≤ kyC l k
      · have t1 : decide ((kyC l n : Int) ≤ (kyC l k : Int)) = true := decide_eq_true (by omega)
        have t1n : decide (kyC l n ≤ kyC l k) = true := decide_eq_true (by omega)
        have HN := Lib.hid (hno (by omega))
        have HNN := Lib.hid hn
        clear hno hc x0 y0 hv hv'
        generalize kyC l n = p at *
        generalize kyC l k = q at *
        go_wp2
        go_quiet (fail)
        go_wp2
        go_ret
        first | exact ⟨(by rw [HN.out] <;> rfl), HD.out.drewN _⟩ | exact ⟨(by rw [HN.out] <;> rfl), ⟨_, rfl⟩⟩
      · have t1 : decide ((kyC l n : Int) ≤ (kyC l k : Int)) = false := decide_eq_false (by omega)
        have t1n : decide (kyC l n ≤ kyC l k) = false := decide_eq_false (by omega)
        have HN : Hid (∀ j, j < n → j + 1 < l.length → kyC l j < kyC l (j + 1)) := Lib.hid fun j hj hjl => by
          by_cases e : j = k
          · subst e; rw [hn]; omega
          · exact HU.out j (by omega) hjl
        have HNN := Lib.hid hn
        clear hno hc x0 y0 hv hv'
        generalize kyC l n = p at *
        generalize kyC l k = q at *
        go_wp2
        go_quiet (fail)
        go_wp2
        go_roundw
        case rel => exact ⟨n + 1, n, rfl, by go_num, by omega, HN.out, Lib.hid ⟨_, rfl⟩⟩
        case measure => simp [intOf]; omega
    · have HT := Lib.hid ((risingC_iff l).2 fun j hj => HU.out j (by omega) hj)
      skip
      go_wp2
      go_ret
      exact ⟨(by rw [HT.out] <;> rfl), HD.out⟩
theorem rightL_no {S : Sch} {mask : Nat} {l : List CellS} (h : ¬ (∃ n, keysOf S mask = some n) ∨ risingC l = false ∨ l.all (rightC S mask) = false) : rightL S mask l = false := by
  unfold rightL
  rcases h with h | h | h
  · cases hk : keysOf S mask with
    | none => simp
    | some n => exact absurd ⟨n, hk⟩ h
  · rw [h]; simp
  · rw [h]; simp
set_option maxRecDepth 20000 in
set_option maxHeartbeats 8000000 in
theorem cellsRight_any (w : World) (B : Nat) (v : Value) (S : Sch) (A : Option Addr) (c : Nat) (l : List CellS) (mask : Nat) (h : SchAt w B v S) (ho : SchOk S) (g : SlR cellR w B l A c) (hB : B ≤ w.heap.size) (hm : mask < 4294967296) :
    Calls Try.prog 55 #[v, .int .u32 (mask : Int), .slice A l.length c] w fun y w' => y = .returned (.bool (rightL S mask l)) ∧ Below w.heap.size w w' := by
  have hml : l.length ≤ 9223372036854775807 := by have h1 := g.1; have h2 := g.2.1; unfold maxLen at h2; omega
  have hh := h
  obtain ⟨A0, c0, A1, c1, A2, c2, A3, c3, rfl, r0, r1, r2, r3, b0, b1, b2, b3⟩ := hh
  clear r0 r1 r2 r3 b0 b1 b2 b3
  have hw0 := belA (belR w) (.cells #[.slice A0 S.dims.length c0, .slice A1 S.ints.length c1, .slice A2 S.nums.length c2, .slice A3 S.views.length c3] 26)
  have ks := Blk.new w 26 #[.slice A0 S.dims.length c0, .slice A1 S.ints.length c1, .slice A2 S.nums.length c2, .slice A3 S.views.length c3]
  have hc := keys_any (w.alloc (.cells #[.slice A0 S.dims.length c0, .slice A1 S.ints.length c1, .slice A2 S.nums.length c2, .slice A3 S.views.length c3] 26)) B _ S mask (h.keep (hw0.mono hB) (Nat.le_refl _)) ho (by simp; omega) hm
  have HC := Lib.hid hc; have HW0 := Lib.hid hw0; have KS := Lib.hid ks; have G := Lib.hid g; have H := Lib.hid h
  clear hc hw0 ks g h
  go_enter Try.func55, Try.ntmps55
  go_wp2_with fail
  (with_reducible refine HC.out.mono ?_); rintro y w1 ⟨rfl, hb1⟩
  generalize hW : w.alloc (.cells #[.slice A0 S.dims.length c0, .slice A1 S.ints.length c1, .slice A2 S.nums.length c2, .slice A3 S.views.length c3] 26) = W at *
  have hWz : W.heap.size = w.heap.size + 1 := by rw [← hW]; simp
  clear hW
  have HB1 := Lib.hid hb1
  have HBV : Hid (∀ W', Below W.heap.size W W' → Below w.heap.size w W') := Lib.hid fun W' hb => HW0.out.trans (hb.mono (show w.heap.size ≤ _ by omega))
  clear hb1 HC
  cases hk : keysOf S mask with
  | none =>
    have HF := Lib.hid (rightL_no (S := S) (mask := mask) (l := l) (.inl fun ⟨n, hn⟩ => by rw [hk] at hn; cases hn))
    simp only [Option.isSome_none, Option.getD_none]
    clear hk
    go_wp2
    go_ret
    exact ⟨(by rw [HF.out] <;> rfl), HBV.out _ HB1.out⟩
  | some n =>
    simp only [Option.isSome_some, Option.getD_some]
    have HK := Lib.hid hk
    clear hk
    have hri := risingC_any w1 B A c l (G.out.keep ((HBV.out _ HB1.out).mono hB) (Nat.le_refl _))
    cases hr : risingC l with
    | false =>
      rw [hr] at hri
      have HF := Lib.hid (rightL_no (S := S) (mask := mask) (.inr (.inl hr)))
      have HRI := Lib.hid hri
      clear hri hr
      go_wp2_with (go_at_call 113; (with_reducible refine HRI.out.mono ?_); rintro y w2 ⟨rfl, hd2⟩)
      go_ret
      exact ⟨(by rw [HF.out] <;> rfl), hd2.below (HBV.out _ HB1.out)⟩
    | true =>
      rw [hr] at hri
      have HRI := Lib.hid hri; have HR := Lib.hid hr
      clear hri hr
      go_wp2_with (go_at_call 113; (with_reducible refine HRI.out.mono ?_); rintro y w2 ⟨rfl, hd2⟩; have HB2 := Lib.hid (hd2.below HB1.out); clear hd2)
      go_loopw [26] (fun i wr => ∃ k : Nat, k ≤ l.length ∧ i = .int .i64 (k : Int) ∧ Hid ((l.take k).all (rightC S mask) = true) ∧ Hid (Below W.heap.size W wr)) (fun i _ => l.length - (intOf i).toNat)
      case atStart => exact ⟨0, by omega, rfl, rfl, HB2.out⟩
      case round =>
        obtain ⟨k, hk, rfl, HA, HBl⟩ := hrel
        by_cases hlt : k < l.length
        · obtain ⟨a, D2, d2, D3, d3, ea, hab, x0, x1, x2, x3, hv⟩ := (G.out.keep ((HBV.out _ HBl.out).mono hB) (Nat.le_refl _)).cellAt hlt
          have q1 : (0 : Int) ≤ (k : Int) := by omega
          have q2 : (k : Int) < (l.length : Int) := by omega
          have hts := all_take_succ (rightC S mask) l k hlt
          rw [HA.out, Bool.true_and] at hts
          have HN1 := Lib.hid fun (hf : rightC S mask l[k] = false) => rightL_no (S := S) (mask := mask) (.inr (.inr (all_no _ l k hlt hf)))
          subst ea
          generalize l[k] = C at *
          have hbx := belA (belR wr) (.cells #[.int .u64 (C.key : Int), .int .i64 C.count, .slice D2 C.ints.length d2, .slice D3 C.nums.length d3] 52)
          have hzr : W.heap.size ≤ wr.heap.size := HBl.out.size
          have hkx := KS.out.below (HBl.out.trans (hbx.mono hzr)) (by omega)
          have s0 := hkx.cell 0; have s1 := hkx.cell 1; have s2 := hkx.cell 2; have s3 := hkx.cell 3
          simp at s0 s1 s2 s3
          have har := aggRight_any (wr.alloc (.cells #[.int .u64 (C.key : Int), .int .i64 C.count, .slice D2 C.ints.length d2, .slice D3 C.nums.length d3] 52)) B _ S mask C D2 d2 D3 d3 (H.out.keep ((HBV.out _ (HBl.out.trans (hbx.mono hzr))).mono hB) (Nat.le_refl _)) ho (hv.keep (hbx.mono (show B ≤ wr.heap.size by omega)) (Nat.le_refl _)) (by simp; omega) hm
          have HBX := Lib.hid (HBl.out.trans (hbx.mono hzr))
          have k0 := (KS.out.below HBl.out (by omega)).cell 0; have k1 := (KS.out.below HBl.out (by omega)).cell 1; have k2 := (KS.out.below HBl.out (by omega)).cell 2; have k3 := (KS.out.below HBl.out (by omega)).cell 3
          simp at k0 k1 k2 k3
          cases hr : rightC S mask C with
          | false =>
            rw [hr] at har
            have HF := Lib.hid (HN1.out hr)
            have HAR := Lib.hid har
            clear har hr hbx hkx hts hv
            go_wp2_with (go_at_call 42; (with_reducible refine HAR.out.mono ?_); rintro y w2 ⟨rfl, hb2⟩; have HB3 := Lib.hid (HBX.out.trans (hb2.mono (by simp; omega))); clear hb2)
            go_ret
            exact ⟨(by rw [HF.out] <;> rfl), HBV.out _ HB3.out⟩
          | true =>
            rw [hr] at har
            have HT := Lib.hid (hts.trans hr)
            have HAR := Lib.hid har
            clear har hr hbx hkx hts hv
            go_wp2_with (go_at_call 42; (with_reducible refine HAR.out.mono ?_); rintro y w2 ⟨rfl, hb2⟩; have HB3 := Lib.hid (HBX.out.trans (hb2.mono (by simp; omega))); clear hb2)
            go_roundw
            case rel => exact ⟨k + 1, by omega, by go_num, HT.out, HB3.out⟩
            case measure => simp [intOf]; omega
        · obtain rfl : k = l.length := by omega
          rw [List.take_length] at HA
          have HT : Hid (rightL S mask l = true) := Lib.hid (by unfold rightL; rw [HK.out, HR.out, HA.out]; rfl)
          go_wp2
          go_ret
          exact ⟨(by rw [HT.out] <;> rfl), HBV.out _ HBl.out⟩
end Go.Proofs.Ytfhmaincnlaapaa
