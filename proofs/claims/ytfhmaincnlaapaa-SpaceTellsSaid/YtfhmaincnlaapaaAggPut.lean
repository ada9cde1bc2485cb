/-
  agg.Put.
-/
import Derived.Test.YtfhmaincnlaapaaCellPure
import Derived.Test.YtfhmaincnlaapaaBufOutKeep
import Derived.Test.YtfhmaincnlaapaaSchemaKeys
namespace Go.Proofs.Ytfhmaincnlaapaa
open Go.ChangeShapes Go.WideShapes Go.ChangeAt Go.RowKit
set_option linter.unusedVariables false

theorem flat_take_le {α : Type} (f : α → List UInt8) (c : Nat) (l : List α) (h : ∀ x ∈ l, (f x).length ≤ c) (k m : Nat) (hk : l.length ≤ m) : ((l.take k).flatMap f).length ≤ c * m := by
  have h1 := flat_le f c (l.take k) fun x hx => h x (List.mem_of_mem_take hx)
  have h2 : (l.take k).length ≤ m := by rw [List.length_take]; omega
  exact Nat.le_trans h1 (Nat.mul_le_mul_left c h2)
theorem lightC_parts {C : CellS} (h : lightC C = true) : C.ints.length ≤ 10 ∧ C.nums.length ≤ 10 ∧ (∀ x ∈ C.ints, x.sq.length ≤ 20) ∧ ∀ x ∈ C.nums, x.sum.length ≤ 300 := by
  unfold lightC lightW lightR at h
  simp only [Bool.and_eq_true, decide_eq_true_iff, List.all_eq_true] at h
  exact ⟨h.1.1.1, h.1.1.2, h.1.2, h.2⟩
def putW (C : CellS) (k : Nat) : List UInt8 := encU C.key ++ encI C.count ++ encWholes (C.ints.take k)
def putR (C : CellS) (k : Nat) : List UInt8 := encU C.key ++ encI C.count ++ encWholes C.ints ++ encReals (C.nums.take k)
theorem putW_zero (C : CellS) : putW C 0 = encU C.key ++ encI C.count := by unfold putW encWholes; simp
theorem putW_all (C : CellS) : putW C C.ints.length = putR C 0 := by unfold putW putR encReals; rw [List.take_length]; simp
theorem putR_all (C : CellS) : putR C C.nums.length = encCell C := by unfold putR encCell; rw [List.take_length]
theorem putW_succ (C : CellS) (k : Nat) (hk : k < C.ints.length) : putW C (k + 1) = putW C k ++ encI C.ints[k].sum ++ encI C.ints[k].abs ++ encU C.ints[k].sq.length ++ encSq C.ints[k].sq ++ encI C.ints[k].mn ++ encI C.ints[k].mx := by
  unfold putW encWholes
  rw [List.take_succ_eq_append_getElem hk, List.flatMap_append, List.flatMap_singleton]
  unfold encWhole
  simp only [List.append_assoc]
theorem putR_succ (C : CellS) (k : Nat) (hk : k < C.nums.length) : putR C (k + 1) = putR C k ++ encU C.nums[k].sum.length ++ C.nums[k].sum ++ be 8 (keyB C.nums[k].mn) ++ be 8 (keyB C.nums[k].mx) := by
  unfold putR encReals
  rw [List.take_succ_eq_append_getElem hk, List.flatMap_append, List.flatMap_singleton]
  unfold encReal
  simp only [List.append_assoc]
theorem putW_le {C : CellS} (h : lightC C = true) (k : Nat) : (putW C k).length ≤ 3000 := by
  obtain ⟨h1, h2, h3, h4⟩ := lightC_parts h
  have := flat_take_le encWhole 225 C.ints (fun x hx => encWhole_le (decide_eq_true (h3 x hx))) k 10 h1
  have := encU_9 C.key; have := encI_9 C.count
  unfold putW encWholes; simp only [List.length_append]; omega
theorem putR_le {C : CellS} (h : lightC C = true) (k : Nat) : (putR C k).length ≤ 7000 := by
  obtain ⟨h1, h2, h3, h4⟩ := lightC_parts h
  have hw := putW_le h C.ints.length
  have := flat_take_le encReal 325 C.nums (fun x hx => encReal_le (decide_eq_true (h4 x hx))) k 10 h2
  rw [putW_all] at hw
  unfold putR encReals at hw ⊢
  simp only [List.length_append] at hw ⊢; omega
theorem run_store_fA {P : Program} {w : World} {a : Addr} {m : Mode} (k : FloatKind) (b : Nat) : (store a (.float k b) m).run P w = stored P w a (.float k b) m := run_store P w a _ m rfl
attribute [local go_sem] run_store_fA
theorem encSq_succ (l : List Nat) (k : Nat) (hk : k < l.length) : encSq (l.take (k + 1)) = encSq (l.take k) ++ encU (l.getD k 0) := flat_snoc encU 0 l k hk
set_option maxRecDepth 20000 in
set_option maxHeartbeats 8000000 in
theorem aggPut_any (w : World) (B : Nat) (C : CellS) (A2 : Option Addr) (c2 : Nat) (A3 : Option Addr) (c3 : Nat) (hv : CellV w B C A2 c2 A3 c3) (hl : lightC C = true) (hB : B ≤ w.heap.size) :
    Calls Try.prog 57 #[.agg #[.int .u64 (C.key : Int), .int .i64 C.count, .slice A2 C.ints.length c2, .slice A3 C.nums.length c3]] w fun y w' => ∃ v', y = .returned v' ∧ w'.ownsRow w.heap.size 5 1 v' (encCell C).length (u8s (encCell C)) ∧ Below w.heap.size w w' := by
  have hw0 := belA (belR w) (.cells #[.int .u64 (C.key : Int), .int .i64 C.count, .slice A2 C.ints.length c2, .slice A3 C.nums.length c3] 52)
  have hbk := Blk.new w 52 #[.int .u64 (C.key : Int), .int .i64 C.count, .slice A2 C.ints.length c2, .slice A3 C.nums.length c3]
  obtain ⟨hk1, hk2, hsi, hsn⟩ := hv.keep (hw0.mono hB) (Nat.le_refl _)
  obtain ⟨l1, l2, l3, l4⟩ := lightC_parts hl
  have HWL := Lib.hid (putW_le hl); have HRL := Lib.hid (putR_le hl); have HL3 := Lib.hid l3; have HL4 := Lib.hid l4
  have HW0 := Lib.hid hw0; have HBK := Lib.hid hbk; have G1 := Lib.hid hsi; have G2 := Lib.hid hsn
  clear hw0 hbk hsi hsn hv hl l3 l4
  go_enter Try.func57, Try.ntmps57
  go_wp2_with fail
  (with_reducible refine (newOut_any _).mono ?_); rintro y w2 ⟨rfl, ho2, hb2⟩
  generalize hW : w.alloc (.cells #[.int .u64 (C.key : Int), .int .i64 C.count, .slice A2 C.ints.length c2, .slice A3 C.nums.length c3] 52) = W at *
  have hzW : W.heap.size = w.heap.size + 1 := by rw [← hW]; simp
  clear hW
  rw [hzW] at ho2 hb2
  generalize hbase : w.heap.size + 1 = base at *
  generalize hgb : w.heap.size = gb at *
  have hkb := HBK.out.below hb2 (by omega)
  have k0 := hkb.cell 0
  simp at k0
  have HB2 := Lib.hid hb2
  have hc := outUK_any w2 base base C.key [] ho2 hk1 (by simp)
  have HC := Lib.hid hc; have HKB := Lib.hid hkb
  clear hc hkb hb2 ho2 HBK
  go_wp2_with fail
  (with_reducible refine HC.out.mono ?_); rintro y w3 ⟨rfl, ho3, hb3, hk3⟩
  have hkb := hk3 _ _ _ HKB.out (by decide) (by decide)
  have k1 := hkb.cell 1
  simp at k1
  have h9 := encU_9 C.key
  have HB3 := Lib.hid (HB2.out.trans hb3)
  have hc := outIK_any w3 base base C.count _ ho3 hk2.1 hk2.2 (by rw [List.nil_append]; omega)
  have HC4 := Lib.hid hc; have HKB3 := Lib.hid hkb
  clear hc hkb hb3 ho3 hk3 HKB HC HB2 k0
  go_wp2_with fail
  (with_reducible refine HC4.out.mono ?_); rintro y w4 ⟨rfl, ho4, hb4, hk4⟩
  have hkb := hk4 _ _ _ HKB3.out (by decide) (by decide)
  have k2 := hkb.cell 2
  simp at k2
  have HB4 := Lib.hid (HB3.out.trans hb4)
  have HO4 : Hid (OutS w4 base base (putW C 0)) := Lib.hid (by rw [putW_zero]; exact ho4)
  have HKB4 := Lib.hid hkb
  clear hkb hb4 ho4 hk4 HKB3 HC4 HB3 k1
  go_wp2
  go_loopw [22] (fun i wr => ∃ k : Nat, k ≤ C.ints.length ∧ i = .int .i64 (k : Int) ∧ Hid (OutS wr base base (putW C k)) ∧ Hid (Below base W wr) ∧ Hid (Blk wr gb 52 #[.int .u64 (C.key : Int), .int .i64 C.count, .slice A2 C.ints.length c2, .slice A3 C.nums.length c3])) (fun i _ => C.ints.length - (intOf i).toNat)
  case atStart => exact ⟨0, by omega, rfl, HO4.out, HB4.out, HKB4.out⟩
  case round =>
    obtain ⟨k, hk, rfl, HO, HBl, HKC⟩ := hrel
    have hzr : base ≤ wr.heap.size := by rw [← hzW]; exact HBl.out.size
    clear k2 HO4 HB4 HKB4
    by_cases hlt : k < C.ints.length
    · obtain ⟨a, Aq, cq, ea, hab, x0, x1, x2, x3, x4, hRq, hq1, hq2, hq3, hs, ha, hmn, hmx⟩ := (G1.out.keep (HBl.out.mono (show B ≤ base by omega)) (Nat.le_refl _)).wholeAt hlt
      have q1 : (0 : Int) ≤ (k : Int) := by omega
      have q2 : (k : Int) < (C.ints.length : Int) := by omega
      have hsn := putW_succ C k hlt
      have hll := HWL.out k
      have hq20 := HL3.out _ (List.getElem_mem hlt)
      subst ea
      generalize C.ints[k] = X at *
      have hbx := belA (belR wr) (.cells #[.int .i64 X.sum, .int .i64 X.abs, .slice Aq X.sq.length cq, .int .i64 X.mn, .int .i64 X.mx] 114)
      have hbk := Blk.new wr 114 #[.int .i64 X.sum, .int .i64 X.abs, .slice Aq X.sq.length cq, .int .i64 X.mn, .int .i64 X.mx]
      have HKX := Lib.hid hbk; have HKC2 := Lib.hid (HKC.out.below hbx HKC.out.lt)
      have SQ := Lib.hid (hRq.below (hbx.mono (show B ≤ wr.heap.size by omega)))
      have HOX := Lib.hid (HO.out.below hbx); have HBX := Lib.hid (HBl.out.trans (hbx.mono hzr)); have HSN := Lib.hid hsn; have HQ3 := Lib.hid hq3
      generalize putW C k = L at *
      clear hbx hbk hRq hsn HO HKC hq3
      have e1 := encI_9 X.sum; have e2 := encI_9 X.abs; have e3 := encU_9 X.sq.length; have e4 := encI_9 X.mn; have e5 := encSq_le X.sq
      have hc := outIK_any (wr.alloc (.cells #[.int .i64 X.sum, .int .i64 X.abs, .slice Aq X.sq.length cq, .int .i64 X.mn, .int .i64 X.mx] 114)) base base X.sum L HOX.out hs.1 hs.2 (by omega)
      have HC := Lib.hid hc
      clear hc
      go_wp2_with fail
      (with_reducible refine HC.out.mono ?_)
      generalize hX : wr.alloc (.cells #[.int .i64 X.sum, .int .i64 X.abs, .slice Aq X.sq.length cq, .int .i64 X.mn, .int .i64 X.mx] 114) = Wx at *
      rintro y w5 ⟨rfl, ho5, hb5, hk5⟩
      clear x0 x1 x2 x3 x4 HC hX
      generalize hbn : wr.heap.size = bn at *
      have hkx := hk5 _ _ _ HKX.out (by decide) (by decide); have hkc := hk5 _ _ _ HKC2.out (by decide) (by decide)
      have HBA := Lib.hid (HBX.out.trans hb5)
      have y1 := hkx.cell 1
      simp at y1
      have hc := outIK_any w5 base base X.abs _ ho5 ha.1 ha.2 (by rw [List.length_append]; omega)
      have HC := Lib.hid hc; have HKX5 := Lib.hid hkx; have HKC5 := Lib.hid hkc; have HB5 := Lib.hid hb5
      clear hc hkx hkc ho5 hb5 hk5 HKX HKC2 HBX HOX
      go_wp2_with fail
      (with_reducible refine HC.out.mono ?_); rintro y w6 ⟨rfl, ho6, hb6, hk6⟩
      have hkx := hk6 _ _ _ HKX5.out (by decide) (by decide); have hkc := hk6 _ _ _ HKC5.out (by decide) (by decide)
      have HBB := Lib.hid (HBA.out.trans hb6)
      have HB6 := Lib.hid (HB5.out.trans hb6)
      have y2 := hkx.cell 2
      simp at y2
      have wl : IntKind.u64.wrap (X.sq.length : Int) = (X.sq.length : Int) := by rw [IntKind.wrap_u64]; omega
      have hc := outUK_any w6 base base X.sq.length _ ho6 (by omega) (by rw [List.length_append, List.length_append]; omega)
      clear HC
      have HC := Lib.hid hc; have HKX6 := Lib.hid hkx; have HKC6 := Lib.hid hkc
      clear hc hkx hkc ho6 hb6 hk6 HKX5 HKC5 HBA HB5 y1
      go_wp2_with fail
      (with_reducible refine HC.out.mono ?_); rintro y w7 ⟨rfl, ho7, hb7, hk7⟩
      have hkx := hk7 _ _ _ HKX6.out (by decide) (by decide); have hkc := hk7 _ _ _ HKC6.out (by decide) (by decide)
      have y2 := hkx.cell 2
      simp at y2
      have HB7 := Lib.hid (HB6.out.trans hb7)
      have HBC := Lib.hid (HBB.out.trans hb7)
      have hl7 : (L ++ encI X.sum ++ encI X.abs ++ encU X.sq.length).length ≤ 3030 := by simp only [List.length_append]; omega
      have HO7 := Lib.hid ho7; have HKX7 := Lib.hid hkx; have HKC7 := Lib.hid hkc
      have HSQ7 := Lib.hid (SQ.out.below (HB7.out.mono (show B ≤ base by omega)))
      clear hkx hkc ho7 hb7 hk7 HKX6 HKC6 HC HB6 HBB HB7 SQ
      generalize L ++ encI X.sum ++ encI X.abs ++ encU X.sq.length = L7 at *
      go_wp2
      go_loopw [43] (fun i ws => ∃ j : Nat, j ≤ X.sq.length ∧ i = .int .i64 (j : Int) ∧ Hid (OutS ws base base (L7 ++ encSq (X.sq.take j))) ∧ Hid (Below base w7 ws) ∧ Hid (Blk ws bn 114 #[.int .i64 X.sum, .int .i64 X.abs, .slice Aq X.sq.length cq, .int .i64 X.mn, .int .i64 X.mx]) ∧ Hid (Blk ws gb 52 #[.int .u64 (C.key : Int), .int .i64 C.count, .slice (some a) C.ints.length c2, .slice A3 C.nums.length c3])) (fun i _ => X.sq.length - (intOf i).toNat)
      case atStart => exact ⟨0, by omega, rfl, by show OutS w7 base base (L7 ++ []); rw [List.append_nil]; exact HO7.out, Below.refl _ _, HKX7.out, HKC7.out⟩
      case round =>
        obtain ⟨j, hj, rfl, HO, HBs, HKXs, HKCs⟩ := hrel
        by_cases hjl : j < X.sq.length
        · obtain ⟨a', ea', hab', z0⟩ := (HSQ7.out.below (HBs.out.mono (show B ≤ base by omega))).u32n hjl
          subst ea'
          have p1 : (0 : Int) ≤ (j : Int) := by omega
          have p2 : (j : Int) < (X.sq.length : Int) := by omega
          have hcs := encSq_succ X.sq j hjl
          have hle := encSq_le (X.sq.take j)
          rw [List.length_take, Nat.min_eq_left (by omega)] at hle
          have hx := HQ3.out (X.sq.getD j 0) (by rw [List.getD_eq_getElem?_getD, List.getElem?_eq_getElem hjl]; exact List.getElem_mem hjl)
          generalize X.sq.getD j 0 = x at *
          have hcc := outUK_any wr base base x (L7 ++ encSq (X.sq.take j)) HO.out (by omega) (by rw [List.length_append]; omega)
          have wx : IntKind.u64.wrap (x : Int) = (x : Int) := by rw [IntKind.wrap_u64]; omega
          have HCS := Lib.hid hcs; have HCC := Lib.hid hcc
          clear hcs hle hcc hx
          go_wp2_with (go_at_call 115; (with_reducible refine HCC.out.mono ?_); rintro y w8 ⟨rfl, ho8, hb8, hk8⟩; have HO8 := Lib.hid ho8; have HB8 := Lib.hid hb8; have HK8 := Lib.hid hk8; clear ho8 hb8 hk8)
          go_roundw
          case rel => exact ⟨j + 1, by omega, by go_num, by show OutS _ base base (L7 ++ encSq (X.sq.take (j + 1))); rw [HCS.out, ← List.append_assoc]; exact HO8.out, HBs.out.trans HB8.out, HK8.out _ _ _ HKXs.out (by decide) (by decide), HK8.out _ _ _ HKCs.out (by decide) (by decide)⟩
          case measure => simp [intOf]; omega
        · obtain rfl : j = X.sq.length := by omega
          rw [List.take_length] at HO
          have hkb := HKXs.out
          have y3 := hkb.cell 3
          simp at y3
          have hc := outIK_any wr base base X.mn _ HO.out hmn.1 hmn.2 (by rw [List.length_append]; omega)
          have HC := Lib.hid hc
          clear hc hkb
          go_wp2_with fail
          (with_reducible refine HC.out.mono ?_); rintro y w9 ⟨rfl, ho9, hb9, hk9⟩
          have hkx := hk9 _ _ _ HKXs.out (by decide) (by decide); have hkc := hk9 _ _ _ HKCs.out (by decide) (by decide)
          have y4 := hkx.cell 4
          simp at y4
          have HB9 := Lib.hid (HBC.out.trans (HBs.out.trans hb9))
          have hc := outIK_any w9 base base X.mx _ ho9 hmx.1 hmx.2 (by rw [List.length_append, List.length_append]; omega)
          clear HC
          have HC := Lib.hid hc; have HKC9 := Lib.hid hkc
          clear hc hkx hkc ho9 hb9 hk9 y3 y2
          go_wp2_with (go_at_call 116; (with_reducible refine HC.out.mono ?_); rintro y w10 ⟨rfl, ho10, hb10, hk10⟩; have HO10 := Lib.hid ho10; have HB10 := Lib.hid (HB9.out.trans hb10); have HKC10 := Lib.hid (hk10 _ _ _ HKC9.out (by decide) (by decide)); clear ho10 hb10 hk10)
          go_roundw
          case rel => exact ⟨k + 1, by omega, by go_num, by show OutS _ base base (putW C (k + 1)); rw [HSN.out]; exact HO10.out, HB10.out, HKC10.out⟩
          case measure => simp [intOf]; omega
    · obtain rfl : k = C.ints.length := by omega
      rw [putW_all] at HO
      have hkb := HKC.out
      have k3 := hkb.cell 3
      simp at k3
      clear hkb
      have HBl0 := HBl; have HO0 := HO; have HKC0 := HKC
      have hlt2 : decide ((C.ints.length : Int) < (C.ints.length : Int)) = false := decide_eq_false (by omega)
      clear HBl HO HKC
      go_wp2
      go_loopw [64] (fun i ws => ∃ k : Nat, k ≤ C.nums.length ∧ i = .int .i64 (k : Int) ∧ Hid (OutS ws base base (putR C k)) ∧ Hid (Below base W ws)) (fun i _ => C.nums.length - (intOf i).toNat)
      case atStart => exact ⟨0, by omega, rfl, HO0.out, HBl0.out⟩
      case round =>
        obtain ⟨k, hk, rfl, HO, HBl⟩ := hrel
        have hzr : base ≤ wr.heap.size := by rw [← hzW]; exact HBl.out.size
        clear k3 HO0
        by_cases hlt : k < C.nums.length
        · obtain ⟨a, Aq, cq, ea, hab, x0, x1, x2, hRq, hq1, hq2, hmn, hmx⟩ := (G2.out.keep (HBl.out.mono (show B ≤ base by omega)) (Nat.le_refl _)).realAt hlt
          have q1 : (0 : Int) ≤ (k : Int) := by omega
          have q2 : (k : Int) < (C.nums.length : Int) := by omega
          have hsn := putR_succ C k hlt
          have hll := HRL.out k
          have hq20 := HL4.out _ (List.getElem_mem hlt)
          subst ea
          generalize C.nums[k] = X at *
          have hbx := belA (belR wr) (.cells #[.slice Aq X.sum.length cq, .float .f64 X.mn, .float .f64 X.mx] 117)
          have hbk := Blk.new wr 117 #[.slice Aq X.sum.length cq, .float .f64 X.mn, .float .f64 X.mx]
          have HKX := Lib.hid hbk
          have SQ := hRq.below (hbx.mono (show B ≤ wr.heap.size by omega))
          have HOX := Lib.hid (HO.out.below hbx); have HBX := Lib.hid (HBl.out.trans (hbx.mono hzr)); have HSN := Lib.hid hsn
          have e3 := encU_9 X.sum.length
          have hc := outBK_any (wr.alloc (.cells #[.slice Aq X.sum.length cq, .float .f64 X.mn, .float .f64 X.mx] 117)) base base X.sum (putR C k) Aq X.sum.length cq B HOX.out SQ (by omega) (by omega) (by omega)
          have HC := Lib.hid hc
          generalize putR C k = L at *
          clear hbx hbk hRq hsn HO SQ hc
          go_wp2_with fail
          (with_reducible refine HC.out.mono ?_)
          generalize hX : wr.alloc (.cells #[.slice Aq X.sum.length cq, .float .f64 X.mn, .float .f64 X.mx] 117) = Wx at *
          rintro y w5 ⟨rfl, ho5, hb5, hk5⟩
          clear x0 x1 x2 HC hX
          generalize hbn : wr.heap.size = bn at *
          have hkx := hk5 _ _ _ HKX.out (by decide) (by decide)
          have HBA := Lib.hid (HBX.out.trans hb5)
          have y1 := hkx.cell 1
          simp at y1
          have hc := outFK_any w5 base base X.mn _ ho5 hmn (by simp only [List.length_append]; omega)
          have HC := Lib.hid hc; have HKX5 := Lib.hid hkx
          clear hc hkx ho5 hb5 hk5 HKX HBX HOX
          go_wp2_with fail
          (with_reducible refine HC.out.mono ?_); rintro y w6 ⟨rfl, ho6, hb6, hk6⟩
          have hkx := hk6 _ _ _ HKX5.out (by decide) (by decide)
          have HBB := Lib.hid (HBA.out.trans hb6)
          have y2 := hkx.cell 2
          simp at y2
          have hc := outFK_any w6 base base X.mx _ ho6 hmx (by simp only [List.length_append, be_length]; omega)
          clear HC
          have HC := Lib.hid hc
          clear hc hkx ho6 hb6 hk6 HKX5 HBA y1
          go_wp2_with (go_at_call 118; (with_reducible refine HC.out.mono ?_); rintro y w10 ⟨rfl, ho10, hb10, hk10⟩; have HO10 := Lib.hid ho10; have HB10 := Lib.hid (HBB.out.trans hb10); clear ho10 hb10 hk10)
          go_roundw
          case rel => exact ⟨k + 1, by omega, by go_num, by show OutS _ base base (putR C (k + 1)); rw [HSN.out]; exact HO10.out, HB10.out⟩
          case measure => simp [intOf]; omega
        · obtain rfl : k = C.nums.length := by omega
          have hll := HRL.out C.nums.length
          rw [putR_all] at HO hll
          have hc7 := outBytes_any wr base base (encCell C) HO.out (by omega)
          have HC7 := Lib.hid hc7; have HBW := Lib.hid (HW0.out.trans (HBl.out.mono (show gb ≤ base by omega)))
          clear hc7 hll
          go_wp2_with (go_at_call 119; (with_reducible refine HC7.out.mono ?_); rintro y w8 ⟨v8, rfl, ho8, hb8⟩; have HO8 := Lib.hid ho8; have HB8 := Lib.hid hb8; clear ho8 hb8)
          subst hgb
          go_ret
          exact ⟨_, rfl, own_mono HO8.out (by omega), HBW.out.trans (HB8.out.mono (by omega))⟩
end Go.Proofs.Ytfhmaincnlaapaa
