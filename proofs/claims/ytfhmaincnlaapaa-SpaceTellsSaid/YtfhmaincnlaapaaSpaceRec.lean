/-
  space.Record, space.Bound; the document's.
-/
import Derived.Test.YtfhmaincnlaapaaSpaceViews
import Derived.Test.YtfhmaincnlaapaaSpacePure
import Derived.Test.YtfhmaincnlaapaaFactPut
import Derived.Test.YtfhmaincnlaapaaRefPutFacts
namespace Go.Proofs.Ytfhmaincnlaapaa
open Go.ChangeShapes Go.WideShapes Go.ChangeAt Go.RowKit
set_option linter.unusedVariables false

theorem frameSize_any (w : World) (n : Nat) (hn : n ≤ 60000) : Calls Try.prog 62 #[.int .i64 (n : Int)] w fun y w' => y = .returned (.int .i64 ((n + 8 : Nat) : Int)) ∧ w = w' := by
  have t1 : decide ((n : Int) < 0) = false := decide_eq_false (by omega)
  have t2 : decide ((60000 : Int) < (n : Int)) = false := decide_eq_false (by omega)
  go_enter Try.func62, Try.ntmps62
  go_wp2
  go_ret
  exact ⟨congrArg (fun z => Ending.returned (.int .i64 z)) (by omega), rfl⟩
theorem encBatch_le {S : Sch} {l : List FactS} (h : (batchN S l).2 = 0) : (encBatch l).length ≤ 60000 := by
  obtain ⟨h0, h1, h2, h3⟩ := batchN_zero h
  have := encTo_le h0 h3 l.length (Nat.le_refl _)
  rw [encTo_all] at this
  omega
/-- how many bytes a batch takes, and the error -/
def recN (S : Sch) (l : List FactS) : Nat := if (batchN S l).2 = 0 then (encBatch l).length + 8 else 0
set_option maxRecDepth 20000 in
set_option maxHeartbeats 4000000 in
theorem record_any (w : World) (B : Nat) (v : Value) (S : Sch) (A : Option Addr) (c : Nat) (l : List FactS) (h : SchAt w B v S) (ho : SchOk S) (g : SlR factR w B l A c) (hB : B ≤ w.heap.size) :
    Calls Try.prog 25 #[v, .slice A l.length c] w fun y w' => y = .returned (.tuple #[.int .i64 (recN S l : Int), .int .i64 ((batchN S l).2 : Int)]) ∧ Below w.heap.size w w' := by
  have hh := h
  obtain ⟨A0, c0, A1, c1, A2, c2, A3, c3, rfl, r0, r1, r2, r3, b0, b1, b2, b3⟩ := hh
  clear r0 r1 r2 r3 b0 b1 b2 b3
  have hw0 := belA (belR w) (.cells #[.slice A0 S.dims.length c0, .slice A1 S.ints.length c1, .slice A2 S.nums.length c2, .slice A3 S.views.length c3] 26)
  have hc := batch_any (w.alloc (.cells #[.slice A0 S.dims.length c0, .slice A1 S.ints.length c1, .slice A2 S.nums.length c2, .slice A3 S.views.length c3] 26)) B _ S A c l (h.keep (hw0.mono hB) (Nat.le_refl _)) ho (g.keep (hw0.mono hB) (Nat.le_refl _)) (by simp; omega)
  have K0 := Lib.hid (Blk.new w 26 #[.slice A0 S.dims.length c0, .slice A1 S.ints.length c1, .slice A2 S.nums.length c2, .slice A3 S.views.length c3])
  have HW0 := Lib.hid hw0; have H := Lib.hid h; have G := Lib.hid g; have HC := Lib.hid hc
  clear hw0 h g hc
  by_cases he : (batchN S l).2 = 0
  · have e : recN S l = (encBatch l).length + 8 := if_pos he
    have HLE := encBatch_le he
    have HPUT := Lib.hid (fun W (hW : Below w.heap.size w W) => put_any W B _ S A c l (H.out.keep (hW.mono hB) (Nat.le_refl _)) ho (G.out.keep (hW.mono hB) (Nat.le_refl _)) (Nat.le_trans hB hW.size) he)
    rw [e, he]
    have HC2 := HC.out
    rw [he] at HC2
    have HC3 := Lib.hid HC2
    have HFS := Lib.hid (fun W => frameSize_any W (encBatch l).length HLE)
    clear e HC HC2 he
    generalize encBatch l = L at *
    obtain ⟨z, hz⟩ : ∃ z, L.length + 8 = z := ⟨_, rfl⟩
    rw [hz] at HFS ⊢
    clear hz
    go_enter Try.func25, Try.ntmps25
    go_wp2_with (first
      | (go_at_call 60; (with_reducible refine HC3.out.mono ?_); rintro y w1 ⟨rfl, hb1⟩; have HB1 := Lib.hid (HW0.out.trans (hb1.mono (show w.heap.size ≤ _ by simp))); have K1 := K0.out.below hb1 (by simp); have k0 := K1.cell 0; have k1 := K1.cell 1; have k2 := K1.cell 2; have k3 := K1.cell 3; simp at k0 k1 k2 k3; clear hb1)
      | (go_at_call 61; (with_reducible refine (HPUT.out _ HB1.out).mono ?_); rintro y w2 ⟨v2, rfl, ho2, hb2⟩; have HB2 := Lib.hid (belT HB1.out hb2); obtain ⟨A2', c2', rfl, _, _, _⟩ := own_form ho2; clear ho2 hb2)
      | (go_at_call 62; (with_reducible refine (HFS.out _).mono ?_); rintro y w3 ⟨rfl, rfl⟩))
    go_ret2
    exact ⟨rfl, HB2.out⟩
  · have e : recN S l = 0 := if_neg he
    rw [e]
    generalize (batchN S l).2 = er at *
    have t0 := i64_ne0 he
    have HE := Lib.hid he
    clear e he
    go_enter Try.func25, Try.ntmps25
    go_wp2_with (go_at_call 60; (with_reducible refine HC.out.mono ?_); rintro y w1 ⟨rfl, hb1⟩; have HB1 := Lib.hid (HW0.out.trans (hb1.mono (show w.heap.size ≤ _ by simp))); clear hb1)
    go_ret2
    exact ⟨rfl, HB1.out⟩
set_option maxRecDepth 20000 in
set_option maxHeartbeats 4000000 in
theorem refRecord_any (w : World) (B : Nat) (v : Value) (S : Sch) (A : Option Addr) (c : Nat) (l : List FactS) (h : SchAt w B v S) (ho : SchOk S) (g : SlR factR w B l A c) (hB : B ≤ w.heap.size) :
    Calls Try.prog 26 #[v, .slice A l.length c] w fun y w' => y = .returned (.tuple #[.int .i64 (recN S l : Int), .int .i64 ((batchN S l).2 : Int)]) ∧ Below w.heap.size w w' := by
  have hh := h
  obtain ⟨A0, c0, A1, c1, A2, c2, A3, c3, rfl, r0, r1, r2, r3, b0, b1, b2, b3⟩ := hh
  clear r0 r1 r2 r3 b0 b1 b2 b3
  have hw0 := belA (belR w) (.cells #[.slice A0 S.dims.length c0, .slice A1 S.ints.length c1, .slice A2 S.nums.length c2, .slice A3 S.views.length c3] 26)
  have hc := refBatch_any (w.alloc (.cells #[.slice A0 S.dims.length c0, .slice A1 S.ints.length c1, .slice A2 S.nums.length c2, .slice A3 S.views.length c3] 26)) B _ S A c l (h.keep (hw0.mono hB) (Nat.le_refl _)) ho (g.keep (hw0.mono hB) (Nat.le_refl _)) (by simp; omega)
  have HW0 := Lib.hid hw0; have G := Lib.hid g; have HC := Lib.hid hc
  clear hw0 h g hc
  by_cases he : (batchN S l).2 = 0
  · have e : recN S l = (encBatch l).length + 8 := if_pos he
    have HLE := encBatch_le he
    have HPUT := Lib.hid (fun W (hW : Below w.heap.size w W) => refPut_any W B S A c l (G.out.keep (hW.mono hB) (Nat.le_refl _)) (Nat.le_trans hB hW.size) he)
    rw [e, he]
    have HC2 := HC.out
    rw [he] at HC2
    have HC3 := Lib.hid HC2
    clear e HC HC2 he
    generalize encBatch l = L at *
    go_enter Try.func26, Try.ntmps26
    go_wp2_with (first
      | (go_at_call 63; (with_reducible refine HC3.out.mono ?_); rintro y w1 ⟨rfl, hb1⟩; have HB1 := Lib.hid (HW0.out.trans (hb1.mono (show w.heap.size ≤ _ by simp))); clear hb1)
      | (go_at_call 64; (with_reducible refine (HPUT.out _ HB1.out).mono ?_); rintro y w2 ⟨v2, rfl, ho2, hb2⟩; have HB2 := Lib.hid (belT HB1.out hb2); obtain ⟨A2', c2', rfl, _, _, _⟩ := own_form ho2; clear ho2 hb2))
    go_ret2
    exact ⟨rfl, HB2.out⟩
  · have e : recN S l = 0 := if_neg he
    rw [e]
    generalize (batchN S l).2 = er at *
    have t0 := i64_ne0 he
    have HE := Lib.hid he
    clear e he
    go_enter Try.func26, Try.ntmps26
    go_wp2_with (go_at_call 63; (with_reducible refine HC.out.mono ?_); rintro y w1 ⟨rfl, hb1⟩; have HB1 := Lib.hid (HW0.out.trans (hb1.mono (show w.heap.size ≤ _ by simp))); clear hb1)
    go_ret2
    exact ⟨rfl, HB1.out⟩
theorem boundP_chk {S : Sch} {cs : List Int} {x : Int} (h : checkN S ≠ 0) : boundP S cs x = (0, 1) := if_pos h
theorem boundP_len {S : Sch} {cs : List Int} {x : Int} (h : checkN S = 0) (h1 : cs.length ≠ S.views.length + 1) : boundP S cs x = (0, 3) := by unfold boundP; rw [if_neg (by omega), if_pos h1]
theorem boundP_cell {S : Sch} {cs : List Int} {x : Int} (h : checkN S = 0) (h1 : cs.length = S.views.length + 1) (h2 : cs.all mostOk = false) : boundP S cs x = (0, 2) := by unfold boundP; rw [if_neg (by omega), if_neg (by omega), if_pos h2]
theorem boundP_byte {S : Sch} {cs : List Int} {x : Int} (h : checkN S = 0) (h1 : cs.length = S.views.length + 1) (h2 : mostOk x = false) : boundP S cs x = (0, 2) := by unfold boundP; rw [if_neg (by omega), if_neg (by omega)]; split <;> simp [h2]
theorem boundP_ok {S : Sch} {cs : List Int} {x : Int} (h : checkN S = 0) (h1 : cs.length = S.views.length + 1) (h2 : cs.all mostOk = true) (h3 : mostOk x = true) : boundP S cs x = (pagesTo cs cs.length + secN x, 0) := by unfold boundP; rw [if_neg (by omega), if_neg (by omega), if_neg (by simp [h2]), if_neg (by simp [h3])]
def PairRet (w : World) (r : Int × Nat) (y : Ending) (w' : World) : Prop := y = .returned (.tuple #[.int .i64 r.1, .int .i64 (r.2 : Int)]) ∧ Below w.heap.size w w'
set_option maxRecDepth 20000 in
set_option maxHeartbeats 8000000 in
theorem bound_any (w : World) (B : Nat) (v : Value) (S : Sch) (A : Option Addr) (c : Nat) (cs : List Int) (x : Int) (h : SchAt w B v S) (ho : SchOk S) (hR : Rd w B 1 A cs.length (i64s cs)) (hx : ∀ z ∈ cs, -9223372036854775808 ≤ z ∧ z ≤ 9223372036854775807) (hB : B ≤ w.heap.size) (hl : cs.length ≤ 1000000) (hx1 : -9223372036854775808 ≤ x) (hx2 : x ≤ 9223372036854775807) :
    Calls Try.prog 30 #[v, .slice A cs.length c, .int .i64 x] w fun y w' => PairRet w (boundP S cs x) y w' := by
  have hh := h
  obtain ⟨A0, c0, A1, c1, A2, c2, A3, c3, rfl, r0, r1, r2, r3, b0, b1, b2, b3⟩ := hh
  clear r0 r1 r2 r3 b0 b1 b2 b3
  have hw0 := belA (belR w) (.cells #[.slice A0 S.dims.length c0, .slice A1 S.ints.length c1, .slice A2 S.nums.length c2, .slice A3 S.views.length c3] 26)
  have hc := schemaCheck_any (w.alloc (.cells #[.slice A0 S.dims.length c0, .slice A1 S.ints.length c1, .slice A2 S.nums.length c2, .slice A3 S.views.length c3] 26)) B _ S (h.keep (hw0.mono hB) (Nat.le_refl _)) ho (by simp; omega)
  have K0 := Lib.hid (Blk.new w 26 #[.slice A0 S.dims.length c0, .slice A1 S.ints.length c1, .slice A2 S.nums.length c2, .slice A3 S.views.length c3])
  have HW0 := Lib.hid hw0; have H := Lib.hid h; have HR := Lib.hid hR; have HX := Lib.hid hx
  clear hw0 h hR hx
  by_cases he : checkN S = 0
  case neg =>
    rw [boundP_chk he]
    generalize checkN S = er at *
    have t0 := i64_ne0 he
    have HE := Lib.hid he; have HC := Lib.hid hc
    clear he hc
    go_enter Try.func30, Try.ntmps30
    go_wp2_with (go_at_call 46; (with_reducible refine HC.out.mono ?_); rintro y w1 ⟨rfl, hb1⟩; have HB1 := Lib.hid (HW0.out.trans (hb1.mono (show w.heap.size ≤ _ by simp))); clear hb1)
    go_ret2
    exact ⟨rfl, HB1.out⟩
  rw [he] at hc
  have HVW := Lib.hid (fun W (hW : Below w.heap.size w W) => views_any W B _ S (H.out.keep (hW.mono hB) (Nat.le_refl _)) ho (Nat.le_trans hB hW.size) he)
  have HC := Lib.hid hc
  clear hc
  by_cases hlen : cs.length = S.views.length + 1
  case neg =>
    rw [boundP_len he hlen]
    have t1 : ((cs.length : Int) != ((S.views.length + 1 : Nat) : Int)) = true := by rw [bne_iff_ne]; omega
    rw [viewsL_len] at HVW
    generalize S.views.length + 1 = nv at *
    have HE := Lib.hid he; have HL := Lib.hid hlen
    clear he hlen
    go_enter Try.func30, Try.ntmps30
    go_wp2_with (first
      | (go_at_call 46; (with_reducible refine HC.out.mono ?_); rintro y w1 ⟨rfl, hb1⟩; have HB1 := Lib.hid (HW0.out.trans (hb1.mono (show w.heap.size ≤ _ by simp))); have K1 := K0.out.below hb1 (by simp); have k0 := K1.cell 0; have k1 := K1.cell 1; have k2 := K1.cell 2; have k3 := K1.cell 3; simp at k0 k1 k2 k3; clear hb1)
      | (go_at_call 47; (with_reducible refine (HVW.out _ HB1.out).mono ?_); rintro y w2 ⟨v2, rfl, ho2, hb2⟩; have HB2 := Lib.hid (belT HB1.out hb2); obtain ⟨A2', c2', rfl, _, _, _⟩ := own_form ho2; clear ho2 hb2))
    go_ret2
    exact ⟨rfl, HB2.out⟩
  have t1 : ((cs.length : Int) != (((viewsL S).length : Nat) : Int)) = false := by rw [bne_eq_false_iff_eq, viewsL_len]; omega
  have HCELL := Lib.hid (fun h2 => boundP_cell (x := x) he hlen h2)
  have HBYTE := Lib.hid (fun h2 => boundP_byte (cs := cs) (x := x) he hlen h2)
  have HOK := Lib.hid (fun h2 h3 => boundP_ok (x := x) he hlen h2 h3)
  obtain ⟨bp, hbp⟩ : ∃ bp, boundP S cs x = bp := ⟨_, rfl⟩
  rw [hbp] at HCELL HBYTE HOK ⊢
  clear he hlen hbp
  go_enter Try.func30, Try.ntmps30
  go_wp2_with (first
    | (go_at_call 46; (with_reducible refine HC.out.mono ?_); rintro y w1 ⟨rfl, hb1⟩; have HB1 := Lib.hid (HW0.out.trans (hb1.mono (show w.heap.size ≤ _ by simp))); have K1 := K0.out.below hb1 (by simp); have k0 := K1.cell 0; have k1 := K1.cell 1; have k2 := K1.cell 2; have k3 := K1.cell 3; simp at k0 k1 k2 k3; clear hb1)
    | (go_at_call 47; (with_reducible refine (HVW.out _ HB1.out).mono ?_); rintro y w2 ⟨v2, rfl, ho2, hb2⟩; have HB2 := Lib.hid (belT HB1.out hb2); obtain ⟨A2', c2', rfl, _, _, _⟩ := own_form ho2; clear ho2 hb2))
  go_loop [8, 24] (fun va vi => ∃ k : Nat, k ≤ cs.length ∧ vi = .int .i64 (k : Int) ∧ va = .int .i64 (pagesTo cs k) ∧ Hid (mostTo cs k)) (fun _ vi => cs.length - (intOf vi).toNat)
  case atStart => exact ⟨0, by omega, rfl, by rw [pagesTo_zero], Lib.hid fun j hj => absurd hj (by omega)⟩
  case round =>
    obtain ⟨k, hk, rfl, rfl, HM⟩ := hrel
    have hbd := mostTo_bd k hk HM.out
    by_cases hlt : k < cs.length
    · obtain ⟨a, rfl, hab, x0⟩ := (HR.out.below (HB2.out.mono hB)).i64 hlt
      have hps := pagesTo_succ cs k hlt
      have hno := most_no (cs := cs) k hlt
      have hsn := fun h => HM.out.snoc (cs := cs) h
      have hzb : -9223372036854775808 ≤ cs.getD k 0 ∧ cs.getD k 0 ≤ 9223372036854775807 := by
        have : cs.getD k 0 = cs[k] := by simp [List.getD, hlt]
        rw [this]; exact HX.out _ (List.getElem_mem hlt)
      have q1 : (0 : Int) ≤ (k : Int) := by omega
      have q2 : (k : Int) < (cs.length : Int) := by omega
      generalize cs.getD k 0 = z at *
      obtain ⟨z1, z2⟩ := hzb
      generalize hpg : pagesTo cs k = pg at *
      have HMO := Lib.hid (fun W => most_any W z z1 z2)
      cases hm : mostOk z
      · have HM2 := HMO.out
        rw [hm] at HM2
        simp only [Bool.false_eq_true, if_false] at HM2
        have HM3 := Lib.hid HM2
        have HF := Lib.hid (HCELL.out (hno hm))
        clear HM2 HMO hno hsn hps hm hpg
        go_wp2_with (go_at_call 18; (with_reducible refine (HM3.out _).mono ?_); rintro y w3 ⟨rfl, rfl⟩)
        go_ret2
        rw [HF.out]
        exact ⟨rfl, HB2.out⟩
      · have HM2 := HMO.out
        rw [hm] at HM2
        simp only [if_true] at HM2
        have HM3 := Lib.hid HM2
        have hmb := (mostOk_iff z).1 hm
        have HSN := Lib.hid (hsn hm); have HPS := Lib.hid hps
        have ws : IntKind.i64.wrap (pg + 3 * z) = pg + 3 * z := IntWalk.i64_in _ (by omega)
        have HPG := Lib.hid hpg
        clear HM2 HMO hno hsn hps hm hpg
        go_wp2_with (go_at_call 18; (with_reducible refine (HM3.out _).mono ?_); rintro y w3 ⟨rfl, rfl⟩)
        go_round
        case rel => exact ⟨k + 1, by omega, by go_num, by rw [HPS.out], HSN⟩
        case measure => simp [intOf]; omega
    · obtain rfl : k = cs.length := by omega
      have q2 : ¬ (cs.length : Int) < (cs.length : Int) := by omega
      have hal := mostTo_all HM.out
      by_cases c1 : x < 0
      · have t2 : decide (x < 0) = true := decide_eq_true c1
        have HF := Lib.hid (HBYTE.out (by unfold mostOk; rw [decide_eq_false (by omega)]; rfl))
        clear hal c1
        go_wp2
        go_ret2
        rw [HF.out]
        exact ⟨rfl, HB2.out⟩
      · have t2 : decide (x < 0) = false := decide_eq_false c1
        by_cases c2 : 2147483647 < x
        · have t3 : decide (2147483647 < x) = true := decide_eq_true c2
          have HF := Lib.hid (HBYTE.out (by unfold mostOk; rw [decide_eq_false (show ¬ x ≤ 2147483647 by omega), Bool.and_false]))
          clear hal
          go_wp2
          go_ret2
          rw [HF.out]
          exact ⟨rfl, HB2.out⟩
        · have t3 : decide (2147483647 < x) = false := decide_eq_false c2
          have HF := Lib.hid (HOK.out hal ((mostOk_iff x).2 ⟨by omega, by omega⟩))
          have hsb := secN_le x (by omega) (by omega)
          have HSE := Lib.hid (fun W => sectors_any W x hx1 hx2)
          generalize pagesTo cs cs.length = pg at *
          generalize secN x = sc at *
          have ws : IntKind.i64.wrap (pg + sc) = pg + sc := IntWalk.i64_in _ (by omega)
          clear hal
          go_wp2_with (go_at_call 27; (with_reducible refine (HSE.out _).mono ?_); rintro y w3 ⟨rfl, rfl⟩)
          go_ret2
          rw [HF.out]
          exact ⟨rfl, HB2.out⟩
set_option maxRecDepth 20000 in
set_option maxHeartbeats 8000000 in
theorem refBound_any (w : World) (B : Nat) (v : Value) (S : Sch) (A : Option Addr) (c : Nat) (cs : List Int) (x : Int) (h : SchAt w B v S) (ho : SchOk S) (hR : Rd w B 1 A cs.length (i64s cs)) (hx : ∀ z ∈ cs, -9223372036854775808 ≤ z ∧ z ≤ 9223372036854775807) (hB : B ≤ w.heap.size) (hl : cs.length ≤ 1000000) (hx1 : -9223372036854775808 ≤ x) (hx2 : x ≤ 9223372036854775807) :
    Calls Try.prog 31 #[v, .slice A cs.length c, .int .i64 x] w fun y w' => PairRet w (boundP S cs x) y w' := by
  have hh := h
  obtain ⟨A0, c0, A1, c1, A2, c2, A3, c3, rfl, r0, r1, r2, r3, b0, b1, b2, b3⟩ := hh
  clear r0 r1 r2 r3 b0 b1 b2 b3
  have hw0 := belA (belR w) (.cells #[.slice A0 S.dims.length c0, .slice A1 S.ints.length c1, .slice A2 S.nums.length c2, .slice A3 S.views.length c3] 26)
  have hc := refCheck_any (w.alloc (.cells #[.slice A0 S.dims.length c0, .slice A1 S.ints.length c1, .slice A2 S.nums.length c2, .slice A3 S.views.length c3] 26)) B _ S (h.keep (hw0.mono hB) (Nat.le_refl _)) ho (by simp; omega)
  have K0 := Lib.hid (Blk.new w 26 #[.slice A0 S.dims.length c0, .slice A1 S.ints.length c1, .slice A2 S.nums.length c2, .slice A3 S.views.length c3])
  have HW0 := Lib.hid hw0; have H := Lib.hid h; have HR := Lib.hid hR; have HX := Lib.hid hx
  clear hw0 h hR hx
  by_cases he : checkN S = 0
  case neg =>
    rw [boundP_chk he]
    generalize checkN S = er at *
    have t0 := i64_ne0 he
    have HE := Lib.hid he; have HC := Lib.hid hc
    clear he hc
    go_enter Try.func31, Try.ntmps31
    go_wp2_with (go_at_call 38; (with_reducible refine HC.out.mono ?_); rintro y w1 ⟨rfl, hb1⟩; have HB1 := Lib.hid (HW0.out.trans (hb1.mono (show w.heap.size ≤ _ by simp))); clear hb1)
    go_ret2
    exact ⟨rfl, HB1.out⟩
  rw [he] at hc
  have HVW := Lib.hid (fun W (hW : Below w.heap.size w W) => refViews_any W B _ S (H.out.keep (hW.mono hB) (Nat.le_refl _)) ho (Nat.le_trans hB hW.size) he)
  have HC := Lib.hid hc
  clear hc
  by_cases hlen : cs.length = S.views.length + 1
  case neg =>
    rw [boundP_len he hlen]
    have t1 : ((cs.length : Int) != ((S.views.length + 1 : Nat) : Int)) = true := by rw [bne_iff_ne]; omega
    rw [viewsL_len] at HVW
    generalize S.views.length + 1 = nv at *
    have HE := Lib.hid he; have HL := Lib.hid hlen
    clear he hlen
    go_enter Try.func31, Try.ntmps31
    go_wp2_with (first
      | (go_at_call 38; (with_reducible refine HC.out.mono ?_); rintro y w1 ⟨rfl, hb1⟩; have HB1 := Lib.hid (HW0.out.trans (hb1.mono (show w.heap.size ≤ _ by simp))); have K1 := K0.out.below hb1 (by simp); have k0 := K1.cell 0; have k1 := K1.cell 1; have k2 := K1.cell 2; have k3 := K1.cell 3; simp at k0 k1 k2 k3; clear hb1)
      | (go_at_call 48; (with_reducible refine (HVW.out _ HB1.out).mono ?_); rintro y w2 ⟨v2, rfl, ho2, hb2⟩; have HB2 := Lib.hid (belT HB1.out hb2); obtain ⟨A2', c2', rfl, _, _, _⟩ := own_form ho2; clear ho2 hb2))
    go_ret2
    exact ⟨rfl, HB2.out⟩
  have t1 : ((cs.length : Int) != (((viewsL S).length : Nat) : Int)) = false := by rw [bne_eq_false_iff_eq, viewsL_len]; omega
  have HCELL := Lib.hid (fun h2 => boundP_cell (x := x) he hlen h2)
  have HBYTE := Lib.hid (fun h2 => boundP_byte (cs := cs) (x := x) he hlen h2)
  have HOK := Lib.hid (fun h2 h3 => boundP_ok (x := x) he hlen h2 h3)
  obtain ⟨bp, hbp⟩ : ∃ bp, boundP S cs x = bp := ⟨_, rfl⟩
  rw [hbp] at HCELL HBYTE HOK ⊢
  clear he hlen hbp
  go_enter Try.func31, Try.ntmps31
  go_wp2_with (first
    | (go_at_call 38; (with_reducible refine HC.out.mono ?_); rintro y w1 ⟨rfl, hb1⟩; have HB1 := Lib.hid (HW0.out.trans (hb1.mono (show w.heap.size ≤ _ by simp))); have K1 := K0.out.below hb1 (by simp); have k0 := K1.cell 0; have k1 := K1.cell 1; have k2 := K1.cell 2; have k3 := K1.cell 3; simp at k0 k1 k2 k3; clear hb1)
    | (go_at_call 48; (with_reducible refine (HVW.out _ HB1.out).mono ?_); rintro y w2 ⟨v2, rfl, ho2, hb2⟩; have HB2 := Lib.hid (belT HB1.out hb2); obtain ⟨A2', c2', rfl, _, _, _⟩ := own_form ho2; clear ho2 hb2))
  go_loop [8, 9] (fun va vi => ∃ k : Nat, k ≤ cs.length ∧ vi = .int .i64 (k : Int) ∧ va = .int .i64 (pagesTo cs k) ∧ Hid (mostTo cs k)) (fun _ vi => cs.length - (intOf vi).toNat)
  case atStart => exact ⟨0, by omega, rfl, by rw [pagesTo_zero], Lib.hid fun j hj => absurd hj (by omega)⟩
  case round =>
    obtain ⟨k, hk, rfl, rfl, HM⟩ := hrel
    have hbd := mostTo_bd k hk HM.out
    by_cases hlt : k < cs.length
    · obtain ⟨a, rfl, hab, x0⟩ := (HR.out.below (HB2.out.mono hB)).i64 hlt
      have hps := pagesTo_succ cs k hlt
      have hno := most_no (cs := cs) k hlt
      have hsn := fun h => HM.out.snoc (cs := cs) h
      have hzb : -9223372036854775808 ≤ cs.getD k 0 ∧ cs.getD k 0 ≤ 9223372036854775807 := by
        have : cs.getD k 0 = cs[k] := by simp [List.getD, hlt]
        rw [this]; exact HX.out _ (List.getElem_mem hlt)
      have q1 : (0 : Int) ≤ (k : Int) := by omega
      have q2 : (k : Int) < (cs.length : Int) := by omega
      generalize cs.getD k 0 = z at *
      obtain ⟨z1, z2⟩ := hzb
      generalize hpg : pagesTo cs k = pg at *
      by_cases c1 : z < 0
      · have t2 : decide (z < 0) = true := decide_eq_true c1
        have HF := Lib.hid (HCELL.out (hno (by unfold mostOk; rw [decide_eq_false (by omega)]; rfl)))
        clear hno hsn hps hpg c1
        go_wp2
        go_ret2
        rw [HF.out]
        exact ⟨rfl, HB2.out⟩
      · have t2 : decide (z < 0) = false := decide_eq_false c1
        by_cases c2 : 2147483647 < z
        · have t3 : decide (2147483647 < z) = true := decide_eq_true c2
          have HF := Lib.hid (HCELL.out (hno (by unfold mostOk; rw [decide_eq_false (show ¬ z ≤ 2147483647 by omega), Bool.and_false])))
          clear hno hsn hps hpg
          go_wp2
          go_ret2
          rw [HF.out]
          exact ⟨rfl, HB2.out⟩
        · have t3 : decide (2147483647 < z) = false := decide_eq_false c2
          have HMO := Lib.hid (fun W => refMost_any W z (by omega) (by omega))
          have HSN := Lib.hid (hsn ((mostOk_iff z).2 ⟨by omega, by omega⟩)); have HPS := Lib.hid hps; have HPG := Lib.hid hpg
          have ws : IntKind.i64.wrap (pg + 3 * z) = pg + 3 * z := IntWalk.i64_in _ (by omega)
          clear hno hsn hps hpg
          go_wp2_with (go_at_call 29; (with_reducible refine (HMO.out _).mono ?_); rintro y w3 ⟨rfl, rfl⟩)
          go_round
          case rel => exact ⟨k + 1, by omega, by go_num, by rw [HPS.out], HSN⟩
          case measure => simp [intOf]; omega
    · obtain rfl : k = cs.length := by omega
      have q2 : ¬ (cs.length : Int) < (cs.length : Int) := by omega
      have hal := mostTo_all HM.out
      by_cases c1 : x < 0
      · have t2 : decide (x < 0) = true := decide_eq_true c1
        have HF := Lib.hid (HBYTE.out (by unfold mostOk; rw [decide_eq_false (by omega)]; rfl))
        clear hal c1
        go_wp2
        go_ret2
        rw [HF.out]
        exact ⟨rfl, HB2.out⟩
      · have t2 : decide (x < 0) = false := decide_eq_false c1
        by_cases c2 : 2147483647 < x
        · have t3 : decide (2147483647 < x) = true := decide_eq_true c2
          have HF := Lib.hid (HBYTE.out (by unfold mostOk; rw [decide_eq_false (show ¬ x ≤ 2147483647 by omega), Bool.and_false]))
          clear hal
          go_wp2
          go_ret2
          rw [HF.out]
          exact ⟨rfl, HB2.out⟩
        · have t3 : decide (2147483647 < x) = false := decide_eq_false c2
          have HF := Lib.hid (HOK.out hal ((mostOk_iff x).2 ⟨by omega, by omega⟩))
          have hsb := secN_le x (by omega) (by omega)
          have HSE := Lib.hid (fun W => refSectors_any W x hx1 hx2)
          generalize pagesTo cs cs.length = pg at *
          generalize secN x = sc at *
          have ws : IntKind.i64.wrap (pg + sc) = pg + sc := IntWalk.i64_in _ (by omega)
          clear hal
          go_wp2_with (go_at_call 28; (with_reducible refine (HSE.out _).mono ?_); rintro y w3 ⟨rfl, rfl⟩)
          go_ret2
          rw [HF.out]
          exact ⟨rfl, HB2.out⟩
end Go.Proofs.Ytfhmaincnlaapaa
