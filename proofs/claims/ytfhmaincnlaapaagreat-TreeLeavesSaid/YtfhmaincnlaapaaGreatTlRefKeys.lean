/-
  bushelref11.Keys, bushelref15.Rising.
  A region that draws its order, its steps written out (reg.py): an operation taken first, one left out by its guard, a call.
  schema.Views, bushelref11.Views.
  What is got has the bytes that it is put as.
  tree.Leaves.
  LEAVES being filled, without the program.
  LEAVES OF CELLS, without the program: a list one of whose cells is another one.
  tree.Nodes.
  agg.Put.
-/
import Derived.Deep.RegionLawGrows
import Derived.Test.YtfhmaincnlaapaaGreatTlGetWalks
import Derived.Test.YtfhmaincnlaapaaGreatTlBufOutKeep
import Derived.Test.YtfhmaincnlaapaaGreatTlRefNodesW
import Derived.Test.YtfhmaincnlaapaaGreatTlNumMath
import Derived.Test.YtfhmaincnlaapaaGreatTlExactHead
import Derived.Test.YtfhmaincnlaapaaGreatTlExactRead
import Derived.Test.YtfhmaincnlaapaaGreatTlAggGet
namespace Go.Proofs.YtfhmaincnlaapaaGreat
open Go.ChangeShapes Go.WideShapes Go.ChangeAt Go.RowKit
set_option linter.unusedVariables false

theorem flat_take_le {α : Type} (f : α → List UInt8) (c : Nat) (l : List α) (h : ∀ x ∈ l, (f x).length ≤ c) (k m : Nat) (hk : l.length ≤ m) : ((l.take k).flatMap f).length ≤ c * m := by
  have h1 := flat_le f c (l.take k) fun x hx => h x (List.mem_of_mem_take hx)
  have h2 : (l.take k).length ≤ m := by rw [List.length_take]; omega
  exact Nat.le_trans h1 (Nat.mul_le_mul_left c h2)
theorem lightC_parts {C : CellS} (h : lightC C = true) : C.ints.length ≤ 10 ∧ C.nums.length ≤ 10 ∧ (∀ x ∈ C.ints, x.sq.length ≤ 20) ∧ ∀ x ∈ C.nums, x.sum.length ≤ 300 := by
  unfold lightC lightW lightR at h
  simp only [Bool.and_eq_true, decide_eq_true_iff, List.all_eq_true] at h
  exact ⟨h.1.1.1, h.1.1.2, h.1.2, h.2⟩
def putW (C : CellS) (k : Nat) : List UInt8 := encU C.key ++ encI C.count ++ encWholes (C.ints.take k)
def putR (C : CellS) (k : Nat) : List UInt8 := encU C.key ++ encI C.count ++ encWholes C.ints ++ encReals (C.nums.take k)
theorem putW_zero (C : CellS) : putW C 0 = encU C.key ++ encI C.count := by unfold putW encWholes; simp
theorem putW_all (C : CellS) : putW C C.ints.length = putR C 0 := by unfold putW putR encReals; rw [List.take_length]; simp
theorem putR_all (C : CellS) : putR C C.nums.length = encCell C := by unfold putR encCell; rw [List.take_length]
theorem putW_succ (C : CellS) (k : Nat) (hk : k < C.ints.length) : putW C (k + 1) = putW C k ++ encI C.ints[k].sum ++ encI C.ints[k].abs ++ encU C.ints[k].sq.length ++ encSq C.ints[k].sq ++ encI C.ints[k].mn ++ encI C.ints[k].mx := by
  unfold putW encWholes
  rw [List.take_succ_eq_append_getElem hk, List.flatMap_append, List.flatMap_singleton]
  unfold encWhole
  simp only [List.append_assoc]
theorem putR_succ (C : CellS) (k : Nat) (hk : k < C.nums.length) : putR C (k + 1) = putR C k ++ encU C.nums[k].sum.length ++ C.nums[k].sum ++ be 8 (keyB C.nums[k].mn) ++ be 8 (keyB C.nums[k].mx) := by
  unfold putR encReals
  rw [List.take_succ_eq_append_getElem hk, List.flatMap_append, List.flatMap_singleton]
  unfold encReal
  simp only [List.append_assoc]
theorem putW_le {C : CellS} (h : lightC C = true) (k : Nat) : (putW C k).length ≤ 3000 := by
  obtain ⟨h1, h2, h3, h4⟩ := lightC_parts h
  have := flat_take_le encWhole 225 C.ints (fun x hx => encWhole_le (decide_eq_true (h3 x hx))) k 10 h1
  have := encU_9 C.key; have := encI_9 C.count
  unfold putW encWholes; simp only [List.length_append]; omega
theorem putR_le {C : CellS} (h : lightC C = true) (k : Nat) : (putR C k).length ≤ 7000 := by
  obtain ⟨h1, h2, h3, h4⟩ := lightC_parts h
  have hw := putW_le h C.ints.length
  have := flat_take_le encReal 325 C.nums (fun x hx => encReal_le (decide_eq_true (h4 x hx))) k 10 h2
  rw [putW_all] at hw
  unfold putR encReals at hw ⊢
  simp only [List.length_append] at hw ⊢; omega
theorem run_store_fA {P : Program} {w : World} {a : Addr} {m : Mode} (k : FloatKind) (b : Nat) : (store a (.float k b) m).run P w = stored P w a (.float k b) m := run_store P w a _ m rfl
attribute [local go_sem] run_store_fA
theorem encSq_succ (l : List Nat) (k : Nat) (hk : k < l.length) : encSq (l.take (k + 1)) = encSq (l.take k) ++ encU (l.getD k 0) := flat_snoc encU 0 l k hk
set_option maxRecDepth 20000 in
set_option maxHeartbeats 8000000 in
theorem aggPut_any (w : World) (B : Nat) (C : CellS) (A2 : Option Addr) (c2 : Nat) (A3 : Option Addr) (c3 : Nat) (hv : CellV w B C A2 c2 A3 c3) (hl : lightC C = true) (hB : B ≤ w.heap.size) :
    Calls Tryz.prog 36 #[.agg #[.int .u64 (C.key : Int), .int .i64 C.count, .slice A2 C.ints.length c2, .slice A3 C.nums.length c3]] w fun y w' => ∃ v', y = .returned v' ∧ w'.ownsRow w.heap.size 5 1 v' (encCell C).length (u8s (encCell C)) ∧ Below w.heap.size w w' := by
  have hw0 := belA (belR w) (.cells #[.int .u64 (C.key : Int), .int .i64 C.count, .slice A2 C.ints.length c2, .slice A3 C.nums.length c3] 53)
  have hbk := Blk.new w 53 #[.int .u64 (C.key : Int), .int .i64 C.count, .slice A2 C.ints.length c2, .slice A3 C.nums.length c3]
  obtain ⟨hk1, hk2, hsi, hsn⟩ := hv.keep (hw0.mono hB) (Nat.le_refl _)
  obtain ⟨l1, l2, l3, l4⟩ := lightC_parts hl
  have HWL := Lib.hid (putW_le hl); have HRL := Lib.hid (putR_le hl); have HL3 := Lib.hid l3; have HL4 := Lib.hid l4
  have HW0 := Lib.hid hw0; have HBK := Lib.hid hbk; have G1 := Lib.hid hsi; have G2 := Lib.hid hsn
  clear hw0 hbk hsi hsn hv hl l3 l4
  go_enter Tryz.func36, Tryz.ntmps36
  go_wp2_with fail
  (with_reducible refine (newOut_any _).mono ?_); rintro y w2 ⟨rfl, ho2, hb2⟩
  generalize hW : w.alloc (.cells #[.int .u64 (C.key : Int), .int .i64 C.count, .slice A2 C.ints.length c2, .slice A3 C.nums.length c3] 53) = W at *
  have hzW : W.heap.size = w.heap.size + 1 := by rw [← hW]; simp
  clear hW
  rw [hzW] at ho2 hb2
  generalize hbase : w.heap.size + 1 = base at *
  generalize hgb : w.heap.size = gb at *
  have hkb := HBK.out.below hb2 (by omega)
  have k0 := hkb.cell 0
  simp at k0
  have HB2 := Lib.hid hb2
  have hc := outUK_any w2 base base C.key [] ho2 hk1 (by simp)
  have HC := Lib.hid hc; have HKB := Lib.hid hkb
  clear hc hkb hb2 ho2 HBK
  go_wp2_with fail
  (with_reducible refine HC.out.mono ?_); rintro y w3 ⟨rfl, ho3, hb3, hk3⟩
  have hkb := hk3 _ _ _ HKB.out (by decide) (by decide)
  have k1 := hkb.cell 1
  simp at k1
  have h9 := encU_9 C.key
  have HB3 := Lib.hid (HB2.out.trans hb3)
  have hc := outIK_any w3 base base C.count _ ho3 hk2.1 hk2.2 (by rw [List.nil_append]; omega)
  have HC4 := Lib.hid hc; have HKB3 := Lib.hid hkb
  clear hc hkb hb3 ho3 hk3 HKB HC HB2 k0
  go_wp2_with fail
  (with_reducible refine HC4.out.mono ?_); rintro y w4 ⟨rfl, ho4, hb4, hk4⟩
  have hkb := hk4 _ _ _ HKB3.out (by decide) (by decide)
  have k2 := hkb.cell 2
  simp at k2
  have HB4 := Lib.hid (HB3.out.trans hb4)
  have HO4 : Hid (OutS w4 base base (putW C 0)) := Lib.hid (by rw [putW_zero]; exact ho4)
  have HKB4 := Lib.hid hkb
  clear hkb hb4 ho4 hk4 HKB3 HC4 HB3 k1
  go_wp2
  go_loopw [22] (fun i wr => ∃ k : Nat, k ≤ C.ints.length ∧ i = .int .i64 (k : Int) ∧ Hid (OutS wr base base (putW C k)) ∧ Hid (Below base W wr) ∧ Hid (Blk wr gb 53 #[.int .u64 (C.key : Int), .int .i64 C.count, .slice A2 C.ints.length c2, .slice A3 C.nums.length c3])) (fun i _ => C.ints.length - (intOf i).toNat)
  case atStart => exact ⟨0, by omega, rfl, HO4.out, HB4.out, HKB4.out⟩
  case round =>
    obtain ⟨k, hk, rfl, HO, HBl, HKC⟩ := hrel
    have hzr : base ≤ wr.heap.size := by rw [← hzW]; exact HBl.out.size
    clear k2 HO4 HB4 HKB4
    by_cases hlt : k < C.ints.length
    · obtain ⟨a, Aq, cq, ea, hab, x0, x1, x2, x3, x4, hRq, hq1, hq2, hq3, hs, ha, hmn, hmx⟩ := (G1.out.keep (HBl.out.mono (show B ≤ base by omega)) (Nat.le_refl _)).wholeAt hlt
      have q1 : (0 : Int) ≤ (k : Int) := by omega
      have q2 : (k : Int) < (C.ints.length : Int) := by omega
      have hsn := putW_succ C k hlt
      have hll := HWL.out k
      have hq20 := HL3.out _ (List.getElem_mem hlt)
      subst ea
      generalize C.ints[k] = X at *
      have hbx := belA (belR wr) (.cells #[.int .i64 X.sum, .int .i64 X.abs, .slice Aq X.sq.length cq, .int .i64 X.mn, .int .i64 X.mx] 122)
      have hbk := Blk.new wr 122 #[.int .i64 X.sum, .int .i64 X.abs, .slice Aq X.sq.length cq, .int .i64 X.mn, .int .i64 X.mx]
      have HKX := Lib.hid hbk; have HKC2 := Lib.hid (HKC.out.below hbx HKC.out.lt)
      have SQ := Lib.hid (hRq.below (hbx.mono (show B ≤ wr.heap.size by omega)))
      have HOX := Lib.hid (HO.out.below hbx); have HBX := Lib.hid (HBl.out.trans (hbx.mono hzr)); have HSN := Lib.hid hsn; have HQ3 := Lib.hid hq3
      generalize putW C k = L at *
      clear hbx hbk hRq hsn HO HKC hq3
      have e1 := encI_9 X.sum; have e2 := encI_9 X.abs; have e3 := encU_9 X.sq.length; have e4 := encI_9 X.mn; have e5 := encSq_le X.sq
      have hc := outIK_any (wr.alloc (.cells #[.int .i64 X.sum, .int .i64 X.abs, .slice Aq X.sq.length cq, .int .i64 X.mn, .int .i64 X.mx] 122)) base base X.sum L HOX.out hs.1 hs.2 (by omega)
      have HC := Lib.hid hc
      clear hc
      go_wp2_with fail
      (with_reducible refine HC.out.mono ?_)
      generalize hX : wr.alloc (.cells #[.int .i64 X.sum, .int .i64 X.abs, .slice Aq X.sq.length cq, .int .i64 X.mn, .int .i64 X.mx] 122) = Wx at *
      rintro y w5 ⟨rfl, ho5, hb5, hk5⟩
      clear x0 x1 x2 x3 x4 HC hX
      generalize hbn : wr.heap.size = bn at *
      have hkx := hk5 _ _ _ HKX.out (by decide) (by decide); have hkc := hk5 _ _ _ HKC2.out (by decide) (by decide)
      have HBA := Lib.hid (HBX.out.trans hb5)
      have y1 := hkx.cell 1
      simp at y1
      have hc := outIK_any w5 base base X.abs _ ho5 ha.1 ha.2 (by rw [List.length_append]; omega)
      have HC := Lib.hid hc; have HKX5 := Lib.hid hkx; have HKC5 := Lib.hid hkc; have HB5 := Lib.hid hb5
      clear hc hkx hkc ho5 hb5 hk5 HKX HKC2 HBX HOX
      go_wp2_with fail
      (with_reducible refine HC.out.mono ?_); rintro y w6 ⟨rfl, ho6, hb6, hk6⟩
      have hkx := hk6 _ _ _ HKX5.out (by decide) (by decide); have hkc := hk6 _ _ _ HKC5.out (by decide) (by decide)
      have HBB := Lib.hid (HBA.out.trans hb6)
      have HB6 := Lib.hid (HB5.out.trans hb6)
      have y2 := hkx.cell 2
      simp at y2
      have wl : IntKind.u64.wrap (X.sq.length : Int) = (X.sq.length : Int) := by rw [IntKind.wrap_u64]; omega
      have hc := outUK_any w6 base base X.sq.length _ ho6 (by omega) (by rw [List.length_append, List.length_append]; omega)
      clear HC
      have HC := Lib.hid hc; have HKX6 := Lib.hid hkx; have HKC6 := Lib.hid hkc
      clear hc hkx hkc ho6 hb6 hk6 HKX5 HKC5 HBA HB5 y1
      go_wp2_with fail
      (with_reducible refine HC.out.mono ?_); rintro y w7 ⟨rfl, ho7, hb7, hk7⟩
      have hkx := hk7 _ _ _ HKX6.out (by decide) (by decide); have hkc := hk7 _ _ _ HKC6.out (by decide) (by decide)
      have y2 := hkx.cell 2
      simp at y2
      have HB7 := Lib.hid (HB6.out.trans hb7)
      have HBC := Lib.hid (HBB.out.trans hb7)
      have hl7 : (L ++ encI X.sum ++ encI X.abs ++ encU X.sq.length).length ≤ 3030 := by simp only [List.length_append]; omega
      have HO7 := Lib.hid ho7; have HKX7 := Lib.hid hkx; have HKC7 := Lib.hid hkc
      have HSQ7 := Lib.hid (SQ.out.below (HB7.out.mono (show B ≤ base by omega)))
      clear hkx hkc ho7 hb7 hk7 HKX6 HKC6 HC HB6 HBB HB7 SQ
      generalize L ++ encI X.sum ++ encI X.abs ++ encU X.sq.length = L7 at *
      go_wp2
      go_loopw [43] (fun i ws => ∃ j : Nat, j ≤ X.sq.length ∧ i = .int .i64 (j : Int) ∧ Hid (OutS ws base base (L7 ++ encSq (X.sq.take j))) ∧ Hid (Below base w7 ws) ∧ Hid (Blk ws bn 122 #[.int .i64 X.sum, .int .i64 X.abs, .slice Aq X.sq.length cq, .int .i64 X.mn, .int .i64 X.mx]) ∧ Hid (Blk ws gb 53 #[.int .u64 (C.key : Int), .int .i64 C.count, .slice (some a) C.ints.length c2, .slice A3 C.nums.length c3])) (fun i _ => X.sq.length - (intOf i).toNat)
      case atStart => exact ⟨0, by omega, rfl, by show OutS w7 base base (L7 ++ []); rw [List.append_nil]; exact HO7.out, Below.refl _ _, HKX7.out, HKC7.out⟩
      case round =>
        obtain ⟨j, hj, rfl, HO, HBs, HKXs, HKCs⟩ := hrel
        by_cases hjl : j < X.sq.length
        · obtain ⟨a', ea', hab', z0⟩ := (HSQ7.out.below (HBs.out.mono (show B ≤ base by omega))).u32n hjl
          subst ea'
          have p1 : (0 : Int) ≤ (j : Int) := by omega
          have p2 : (j : Int) < (X.sq.length : Int) := by omega
          have hcs := encSq_succ X.sq j hjl
          have hle := encSq_le (X.sq.take j)
          rw [List.length_take, Nat.min_eq_left (by omega)] at hle
          have hx := HQ3.out (X.sq.getD j 0) (by rw [List.getD_eq_getElem?_getD, List.getElem?_eq_getElem hjl]; exact List.getElem_mem hjl)
          generalize X.sq.getD j 0 = x at *
          have hcc := outUK_any wr base base x (L7 ++ encSq (X.sq.take j)) HO.out (by omega) (by rw [List.length_append]; omega)
          have wx : IntKind.u64.wrap (x : Int) = (x : Int) := by rw [IntKind.wrap_u64]; omega
          have HCS := Lib.hid hcs; have HCC := Lib.hid hcc
          clear hcs hle hcc hx
          go_wp2_with (go_at_call 94; (with_reducible refine HCC.out.mono ?_); rintro y w8 ⟨rfl, ho8, hb8, hk8⟩; have HO8 := Lib.hid ho8; have HB8 := Lib.hid hb8; have HK8 := Lib.hid hk8; clear ho8 hb8 hk8)
          go_roundw
          case rel => exact ⟨j + 1, by omega, by go_num, by show OutS _ base base (L7 ++ encSq (X.sq.take (j + 1))); rw [HCS.out, ← List.append_assoc]; exact HO8.out, HBs.out.trans HB8.out, HK8.out _ _ _ HKXs.out (by decide) (by decide), HK8.out _ _ _ HKCs.out (by decide) (by decide)⟩
          case measure => simp [intOf]; omega
        · obtain rfl : j = X.sq.length := by omega
          rw [List.take_length] at HO
          have hkb := HKXs.out
          have y3 := hkb.cell 3
          simp at y3
          have hc := outIK_any wr base base X.mn _ HO.out hmn.1 hmn.2 (by rw [List.length_append]; omega)
          have HC := Lib.hid hc
          clear hc hkb
          go_wp2_with fail
          (with_reducible refine HC.out.mono ?_); rintro y w9 ⟨rfl, ho9, hb9, hk9⟩
          have hkx := hk9 _ _ _ HKXs.out (by decide) (by decide); have hkc := hk9 _ _ _ HKCs.out (by decide) (by decide)
          have y4 := hkx.cell 4
          simp at y4
          have HB9 := Lib.hid (HBC.out.trans (HBs.out.trans hb9))
          have hc := outIK_any w9 base base X.mx _ ho9 hmx.1 hmx.2 (by rw [List.length_append, List.length_append]; omega)
          clear HC
          have HC := Lib.hid hc; have HKC9 := Lib.hid hkc
          clear hc hkx hkc ho9 hb9 hk9 y3 y2
          go_wp2_with (go_at_call 95; (with_reducible refine HC.out.mono ?_); rintro y w10 ⟨rfl, ho10, hb10, hk10⟩; have HO10 := Lib.hid ho10; have HB10 := Lib.hid (HB9.out.trans hb10); have HKC10 := Lib.hid (hk10 _ _ _ HKC9.out (by decide) (by decide)); clear ho10 hb10 hk10)
          go_roundw
          case rel => exact ⟨k + 1, by omega, by go_num, by show OutS _ base base (putW C (k + 1)); rw [HSN.out]; exact HO10.out, HB10.out, HKC10.out⟩
          case measure => simp [intOf]; omega
    · obtain rfl : k = C.ints.length := by omega
      rw [putW_all] at HO
      have hkb := HKC.out
      have k3 := hkb.cell 3
      simp at k3
      clear hkb
      have HBl0 := HBl; have HO0 := HO; have HKC0 := HKC
      have hlt2 : decide ((C.ints.length : Int) < (C.ints.length : Int)) = false := decide_eq_false (by omega)
      clear HBl HO HKC
      go_wp2
      go_loopw [64] (fun i ws => ∃ k : Nat, k ≤ C.nums.length ∧ i = .int .i64 (k : Int) ∧ Hid (OutS ws base base (putR C k)) ∧ Hid (Below base W ws)) (fun i _ => C.nums.length - (intOf i).toNat)
      case atStart => exact ⟨0, by omega, rfl, HO0.out, HBl0.out⟩
      case round =>
        obtain ⟨k, hk, rfl, HO, HBl⟩ := hrel
        have hzr : base ≤ wr.heap.size := by rw [← hzW]; exact HBl.out.size
        clear k3 HO0
        by_cases hlt : k < C.nums.length
        · obtain ⟨a, Aq, cq, ea, hab, x0, x1, x2, hRq, hq1, hq2, hmn, hmx⟩ := (G2.out.keep (HBl.out.mono (show B ≤ base by omega)) (Nat.le_refl _)).realAt hlt
          have q1 : (0 : Int) ≤ (k : Int) := by omega
          have q2 : (k : Int) < (C.nums.length : Int) := by omega
          have hsn := putR_succ C k hlt
          have hll := HRL.out k
          have hq20 := HL4.out _ (List.getElem_mem hlt)
          subst ea
          generalize C.nums[k] = X at *
          have hbx := belA (belR wr) (.cells #[.slice Aq X.sum.length cq, .float .f64 X.mn, .float .f64 X.mx] 60)
          have hbk := Blk.new wr 60 #[.slice Aq X.sum.length cq, .float .f64 X.mn, .float .f64 X.mx]
          have HKX := Lib.hid hbk
          have SQ := hRq.below (hbx.mono (show B ≤ wr.heap.size by omega))
          have HOX := Lib.hid (HO.out.below hbx); have HBX := Lib.hid (HBl.out.trans (hbx.mono hzr)); have HSN := Lib.hid hsn
          have e3 := encU_9 X.sum.length
          have hc := outBK_any (wr.alloc (.cells #[.slice Aq X.sum.length cq, .float .f64 X.mn, .float .f64 X.mx] 60)) base base X.sum (putR C k) Aq X.sum.length cq B HOX.out SQ (by omega) (by omega) (by omega)
          have HC := Lib.hid hc
          generalize putR C k = L at *
          clear hbx hbk hRq hsn HO SQ hc
          go_wp2_with fail
          (with_reducible refine HC.out.mono ?_)
          generalize hX : wr.alloc (.cells #[.slice Aq X.sum.length cq, .float .f64 X.mn, .float .f64 X.mx] 60) = Wx at *
          rintro y w5 ⟨rfl, ho5, hb5, hk5⟩
          clear x0 x1 x2 HC hX
          generalize hbn : wr.heap.size = bn at *
          have hkx := hk5 _ _ _ HKX.out (by decide) (by decide)
          have HBA := Lib.hid (HBX.out.trans hb5)
          have y1 := hkx.cell 1
          simp at y1
          have hc := outFK_any w5 base base X.mn _ ho5 hmn (by simp only [List.length_append]; omega)
          have HC := Lib.hid hc; have HKX5 := Lib.hid hkx
          clear hc hkx ho5 hb5 hk5 HKX HBX HOX
          go_wp2_with fail
          (with_reducible refine HC.out.mono ?_); rintro y w6 ⟨rfl, ho6, hb6, hk6⟩
          have hkx := hk6 _ _ _ HKX5.out (by decide) (by decide)
          have HBB := Lib.hid (HBA.out.trans hb6)
          have y2 := hkx.cell 2
          simp at y2
          have hc := outFK_any w6 base base X.mx _ ho6 hmx (by simp only [List.length_append, be_length]; omega)
          clear HC
          have HC := Lib.hid hc
          clear hc hkx ho6 hb6 hk6 HKX5 HBA y1
          go_wp2_with (go_at_call 97; (with_reducible refine HC.out.mono ?_); rintro y w10 ⟨rfl, ho10, hb10, hk10⟩; have HO10 := Lib.hid ho10; have HB10 := Lib.hid (HBB.out.trans hb10); clear ho10 hb10 hk10)
          go_roundw
          case rel => exact ⟨k + 1, by omega, by go_num, by show OutS _ base base (putR C (k + 1)); rw [HSN.out]; exact HO10.out, HB10.out⟩
          case measure => simp [intOf]; omega
        · obtain rfl : k = C.nums.length := by omega
          have hll := HRL.out C.nums.length
          rw [putR_all] at HO hll
          have hc7 := outBytes_any wr base base (encCell C) HO.out (by omega)
          have HC7 := Lib.hid hc7; have HBW := Lib.hid (HW0.out.trans (HBl.out.mono (show gb ≤ base by omega)))
          clear hc7 hll
          go_wp2_with (go_at_call 98; (with_reducible refine HC7.out.mono ?_); rintro y w8 ⟨v8, rfl, ho8, hb8⟩; have HO8 := Lib.hid ho8; have HB8 := Lib.hid hb8; clear ho8 hb8)
          subst hgb
          go_ret
          exact ⟨_, rfl, own_mono HO8.out (by omega), HBW.out.trans (HB8.out.mono (by omega))⟩
end Go.Proofs.YtfhmaincnlaapaaGreat
namespace Go.Proofs.YtfhmaincnlaapaaGreat
open Go.ChangeShapes Go.WideShapes Go.ChangeAt Go.RowKit
set_option linter.unusedVariables false

theorem two_le {m : Nat} (h : 2 ≤ m) : decide ((2 : Int) ≤ (m : Int)) = true := decide_eq_true (by omega)
set_option maxRecDepth 20000 in
set_option maxHeartbeats 2000000 in
theorem nodes_ok (w : World) (lv : Nat) (A : Option Addr) (n c B : Nat) (l : List (Nat × Int)) (h1 : 1 ≤ lv) (h2 : lv ≤ 60) (h : Rd w B 2 A n (entC l)) (hn : n ≤ 1000) (hB : B ≤ w.heap.size) (hr : riseB l = true)
    (hf : ∀ k (hk : k < l.length), l[k].1 < 18446744073709551616 ∧ 1 ≤ l[k].2 ∧ l[k].2 ≤ 8192) :
    Calls Tryz.prog 54 #[.int .i64 (lv : Int), .slice A n c] w fun y w' => ∃ v xs, y = .returned (.tuple #[v, .int .i64 0]) ∧ w'.ownsRow w.heap.size 42 4 v (nodes lv l).length xs ∧ ShR w' w'.heap.size (nodes lv l) xs ∧ Below w.heap.size w w' := by
  obtain rfl : n = l.length := h.ent_len
  have hc := rising_any A l.length c B l w h (by omega) hB
  rw [hr] at hc
  have HC := Lib.hid hc; have HR := Lib.hid hr; have H := Lib.hid h; have HF := Lib.hid hf; clear hc hr h hf
  go_enter Tryz.func54, Tryz.ntmps54
  go_wp2_with (go_at_call 117; (with_reducible refine HC.out.mono ?_); rintro y w1 ⟨rfl, hb1⟩)
  have hz1 := hb1.size
  have hp0 : PkS (w1.alloc (.cells #[.int .i64 4, .int .u64 (lv : Int), .slice none 0 0, .int .u64 0, .slice none 0 0] 149)) w.heap.size w1.heap.size 4 lv [] 0 [] :=
    ⟨hz1, .slice none 0 0, .slice none 0 0, w.heap.size, [], Blk.new _ _ _, Nat.le_refl _, by simp; omega, World.ownsRow_nil _ _ _ 1, World.ownsRow_nil _ _ _ 4, rfl⟩
  have HP0 := Lib.hid hp0; have HB1 := Lib.hid hb1; clear hp0 hb1
  go_loopw [8, 24] (fun v8 i wr => ∃ k : Nat, k ≤ l.length ∧ i = .int .i64 (k : Int) ∧ PkS wr w.heap.size w1.heap.size 4 lv (nst lv (l.take k)).1 (nst lv (l.take k)).2.1 (nst lv (l.take k)).2.2 ∧ Below w.heap.size w wr) (fun _ i _ => l.length - (intOf i).toNat)
  case atStart => exact ⟨0, by omega, rfl, by simpa [nst] using HP0.out, belA HB1.out _⟩
  case round =>
    obtain ⟨k, hk, rfl, hp, hb⟩ := hrel
    have hz := hb.size
    have hbd := nst_bd lv (l.take k)
    have hlk : (l.take k).length ≤ 1000 := by rw [List.length_take]; omega
    by_cases hlt : k < l.length
    · obtain ⟨a, rfl, hab, x0, x1⟩ := (H.out.below (hb.mono hB)).ent hlt
      obtain ⟨hf1, hf2, hf3⟩ := HF.out k hlt
      have hst := nst_take lv l k hlt
      generalize hx : l[k] = x at *
      obtain ⟨f, p⟩ := x
      generalize hs : nst lv (l.take k) = st at *
      obtain ⟨ss, m, d⟩ := st
      simp only at x0 x1 hf1 hf2 hf3 hbd hp
      have HST := Lib.hid hst; have HX := Lib.hid hx; have HS := Lib.hid hs; have HP := Lib.hid hp; clear hst hx hs hp
      obtain ⟨_, bv, ov, Bd, xs, hB, _⟩ := HP.out
      have x3 := hB.cell 3
      simp at x3
      have hgl : w1.heap.size < wr.heap.size := hB.lt
      have hpa : PkS (wr.alloc (.cells #[.int .u64 (f : Int), .int .i64 p] 112)).drew w.heap.size w1.heap.size 4 lv ss m d := HP.out.below (belA (belR _) _).drew
      have hba : Blk (wr.alloc (.cells #[.int .u64 (f : Int), .int .i64 p] 112)).drew wr.heap.size 112 #[.int .u64 (f : Int), .int .i64 p] := Blk.new _ _ _
      have hga : Blk (wr.alloc (.cells #[.int .u64 (f : Int), .int .i64 p] 112)).drew w1.heap.size 149 #[.int .i64 4, .int .u64 (lv : Int), bv, .int .u64 (m : Int), ov] := hB.alloc _
      have he := encE_len (f, p)
      have HB := Lib.hid hB; have HPA := Lib.hid hpa; have HBA := Lib.hid hba; have HGA := Lib.hid hga; clear hB hpa hba hga
      by_cases hn2 : 2 ≤ m
      · have t1 : decide (2 ≤ m) = true := decide_eq_true hn2
        have t1' : decide ((2 : Int) ≤ (m : Int)) = true := two_le hn2
        have hbk : (decide (2 ≤ m) && brkB f lv) = brkB f lv := by rw [t1, Bool.true_and]
        have HBK := Lib.hid hbk; clear hbk
        go_wp2_with fail
        go_region_with (first
          | (go_at_call 118; (with_reducible refine (bytesE_any _ f p hf1 (by omega) hf3).mono ?_); rintro y w2 ⟨v2, rfl, ho2, hb2⟩; obtain ⟨A2, c2, rfl, _, _, _⟩ := own_form ho2; have B2 := HBA.out.below hb2 (by simp); have G2 := HGA.out.below hb2 (by simp; omega); have z0 := B2.cell 0; have z3 := G2.cell 3; simp at z0 z3; have P2 := HPA.out.below hb2; have HP2 := Lib.hid P2; have HO2 := Lib.hid ho2; have HB2 := Lib.hid hb2; clear ho2 hb2 P2 B2 G2)
          | (go_at_call 84; (with_reducible refine (break_any f (lv : Int) _).mono ?_); rintro y w' ⟨rfl, rfl⟩)
          | (go_at_call 83; (with_reducible refine (packPut_any _ _ _ _ _ (ss, m, d) _ _ _ _ _ HP2.out HO2.out ?_ ?_ ?_ ?_).mono ?_); (first | omega | (simp only; omega)); (first | omega | (simp only; omega)); (first | omega | (simp only; omega)); (first | omega | (simp only; omega)); rintro y w3 ⟨rfl, hp3, hb3⟩))
        all_goals
          go_wp2
          go_roundw
          case rel => exact ⟨k + 1, by omega, by go_num, by rw [HST.out]; unfold nstep; simp only; rw [HBK.out]; exact hp3, hb.trans ((((belA (belR wr) _).drew.trans (HB2.out.mono (by simp))).mono hz).trans hb3)⟩
          case measure => simp [intOf]; omega
      · have hm : m = 0 ∨ m = 1 := by omega
        rcases hm with rfl | rfl
        · have hbk : (decide (2 ≤ 0) && brkB f lv) = false := rfl
          have HBK := Lib.hid hbk; clear hbk hn2
          simp only [Int.cast_ofNat_Int] at x3 HGA
          go_wp2_with fail
          first | (go_region_with (first
            | (go_at_call 118; (with_reducible refine (bytesE_any _ f p hf1 (by omega) hf3).mono ?_); rintro y w2 ⟨v2, rfl, ho2, hb2⟩; obtain ⟨A2, c2, rfl, _, _, _⟩ := own_form ho2; have B2 := HBA.out.below hb2 (by simp); have G2 := HGA.out.below hb2 (by simp; omega); have z0 := B2.cell 0; have z3 := G2.cell 3; simp at z0 z3; have P2 := HPA.out.below hb2; have HP2 := Lib.hid P2; have HO2 := Lib.hid ho2; have HB2 := Lib.hid hb2; clear ho2 hb2 P2 B2 G2)
            | (go_at_call 83; (with_reducible refine (packPut_any _ _ _ _ _ (ss, 0, d) _ _ _ _ _ HP2.out HO2.out ?_ ?_ ?_ ?_).mono ?_); (first | omega | (simp only; omega)); (first | omega | (simp only; omega)); (first | omega | (simp only; omega)); (first | omega | (simp only; omega)); rintro y w3 ⟨rfl, hp3, hb3⟩))) | fail
          all_goals
            go_wp2
            go_roundw
            case rel => exact ⟨k + 1, by omega, by go_num, by rw [HST.out]; unfold nstep; simp only; rw [HBK.out]; exact hp3, hb.trans ((((belA (belR wr) _).drew.trans (HB2.out.mono (by simp))).mono hz).trans hb3)⟩
            case measure => simp [intOf]; omega
        · have hbk : (decide (2 ≤ 1) && brkB f lv) = false := rfl
          have HBK := Lib.hid hbk; clear hbk hn2
          simp only [Int.natCast_one] at x3 HGA
          go_wp2_with fail
          first | (go_region_with (first
            | (go_at_call 118; (with_reducible refine (bytesE_any _ f p hf1 (by omega) hf3).mono ?_); rintro y w2 ⟨v2, rfl, ho2, hb2⟩; obtain ⟨A2, c2, rfl, _, _, _⟩ := own_form ho2; have B2 := HBA.out.below hb2 (by simp); have G2 := HGA.out.below hb2 (by simp; omega); have z0 := B2.cell 0; have z3 := G2.cell 3; simp at z0 z3; have P2 := HPA.out.below hb2; have HP2 := Lib.hid P2; have HO2 := Lib.hid ho2; have HB2 := Lib.hid hb2; clear ho2 hb2 P2 B2 G2)
            | (go_at_call 83; (with_reducible refine (packPut_any _ _ _ _ _ (ss, 1, d) _ _ _ _ _ HP2.out HO2.out ?_ ?_ ?_ ?_).mono ?_); (first | omega | (simp only; omega)); (first | omega | (simp only; omega)); (first | omega | (simp only; omega)); (first | omega | (simp only; omega)); rintro y w3 ⟨rfl, hp3, hb3⟩))) | fail
          all_goals
            go_wp2
            go_roundw
            case rel => exact ⟨k + 1, by omega, by go_num, by rw [HST.out]; unfold nstep; simp only; rw [HBK.out]; exact hp3, hb.trans ((((belA (belR wr) _).drew.trans (HB2.out.mono (by simp))).mono hz).trans hb3)⟩
            case measure => simp [intOf]; omega
    · obtain rfl : k = l.length := by omega
      rw [List.take_length] at hp hbd
      have he := packEnd_any wr w.heap.size w1.heap.size lv 4 (nst lv l) hp (by omega) (by omega)
      have HE := Lib.hid he; clear he hp
      go_wp2_with fail
      (with_reducible refine HE.out.mono ?_); rintro y w2 ⟨rfl, hp2, hb2⟩
      obtain ⟨_, bv, ov, Bd, xs, hB2, _, _, _, h4, h5⟩ := hp2
      obtain ⟨A2, c2, rfl, _, _, _⟩ := own_form h4
      have x4 := hB2.cell 4
      simp at x4
      have H4 := Lib.hid h4; have H5 := Lib.hid h5; have HB2 := Lib.hid hB2; clear h4 h5 hB2
      go_wp2
      go_ret2
      exact ⟨_, xs, rfl, H4.out, H5.out.reads, hb.trans hb2⟩
end Go.Proofs.YtfhmaincnlaapaaGreat
namespace Go.Proofs.YtfhmaincnlaapaaGreat
open Go.ChangeShapes Go.WideShapes Go.ChangeAt Go.RowKit
set_option linter.unusedVariables false

theorem sumA_take (l : List Sht) (i : Nat) (s : Sht) (h : l[i]? = some s) : sumA (l.take (i + 1)) = sumA (l.take i) + s.a := by
  have hlt := (List.getElem?_eq_some_iff.1 h).1
  have he := (List.getElem?_eq_some_iff.1 h).2
  rw [List.take_succ_eq_append_getElem hlt, sumA_app, sumA_cons, he]
  rfl
end Go.Proofs.YtfhmaincnlaapaaGreat
namespace Go.Proofs.YtfhmaincnlaapaaGreat
open Go.ChangeShapes Go.WideShapes Go.ChangeAt Go.RowKit
set_option linter.unusedVariables false

def pkC (b : Nat) (l : List CellS) (k : Nat) : Pst := pk 3 b ([], 0, []) ((l.take k).map itemC)
theorem pkC_zero (b : Nat) (l : List CellS) : pkC b l 0 = ([], 0, []) := rfl
theorem pk_one (kd : Int) (b : Nat) (st : Pst) (x : List UInt8 × Bool) : pk kd b st [x] = pput kd b st x.1 x.2 := by
  rw [pk_cons]; rfl
theorem fst_mk {α β : Type} (x : α) (y : β) : (x, y).1 = x := rfl
theorem snd_mk {α β : Type} (x : α) (y : β) : (x, y).2 = y := rfl
theorem item_eq (C : CellS) : itemC C = (encCell C, brkB C.key 0) := rfl
theorem item_1 (C : CellS) : (itemC C).1 = encCell C := Eq.trans (congrArg Prod.fst (item_eq C)) (fst_mk _ _)
theorem item_2 (C : CellS) : (itemC C).2 = brkB C.key 0 := Eq.trans (congrArg Prod.snd (item_eq C)) (snd_mk _ _)
theorem pkC_succ (b : Nat) (l : List CellS) (k : Nat) (h : k < l.length) : pkC b l (k + 1) = pput 3 b (pkC b l k) (encCell l[k]) (brkB l[k].key 0) := by
  unfold pkC
  rw [List.take_succ_eq_append_getElem h, List.map_append, pk_app, List.map_cons, List.map_nil, pk_one, item_1, item_2]
theorem pkC_all (b : Nat) (l : List CellS) : pend 3 b (pkC b l l.length) = leaves b l := by
  unfold pkC leaves; rw [List.take_length]
theorem pput_bd (kd : Int) (b : Nat) (st : Pst) (x : List UInt8) (br : Bool) (m : Nat) (h : st.1.length ≤ m ∧ st.2.1 ≤ m ∧ st.2.2.length ≤ 6000) (hx : x.length ≤ 6000) :
    (pput kd b st x br).1.length ≤ m + 1 ∧ (pput kd b st x br).2.1 ≤ m + 1 ∧ (pput kd b st x br).2.2.length ≤ 6000 := by
  obtain ⟨ss, n, d⟩ := st
  simp only at h
  unfold pput
  simp only
  split
  · refine ⟨?_, by simp only; omega, hx⟩
    simp only
    split
    · rw [List.length_append, List.length_singleton]; omega
    · omega
  · rename_i hc
    simp only [not_or, Nat.not_lt] at hc
    refine ⟨by simp only; omega, by simp only; omega, ?_⟩
    simp only [List.length_append]; omega
theorem pkC_bd (b : Nat) (l : List CellS) (hl : ∀ C ∈ l, lightC C = true) (k : Nat) (hk : k ≤ l.length) : (pkC b l k).1.length ≤ k ∧ (pkC b l k).2.1 ≤ k ∧ (pkC b l k).2.2.length ≤ 6000 := by
  induction k with
  | zero => simp [pkC_zero]
  | succ k ih =>
    rw [pkC_succ b l k (by omega)]
    exact pput_bd 3 b _ _ _ k (ih (by omega)) (encCell_le (hl _ (List.getElem_mem _)))
theorem leaves_sum (b : Nat) (l : List CellS) : sumA (leaves b l) = l.length := by
  have h := pk_sum 3 b (l.map itemC) [] 0 []
  unfold leaves
  generalize pk 3 b ([], 0, []) (l.map itemC) = r at *
  obtain ⟨ss, n, d⟩ := r
  simp only [List.length_map] at h
  have e0 : sumA ([] : List Sht) = 0 := rfl
  unfold pend
  split
  · rw [sumA_app, sumA_cons]; simp only; omega
  · simp only at *; omega
theorem leaves_len (b : Nat) (l : List CellS) : (leaves b l).length ≤ l.length := by
  have h := pk_pos 3 b (l.map itemC) [] 0 [] (fun s hs => by cases hs)
  have hs := leaves_sum b l
  have h1 : ∀ s ∈ leaves b l, 1 ≤ s.a := by
    unfold leaves
    generalize pk 3 b ([], 0, []) (l.map itemC) = r at *
    obtain ⟨ss, n, d⟩ := r
    intro s hs
    unfold pend at hs
    split at hs
    · rename_i hn
      rcases List.mem_append.1 hs with hs | hs
      · exact h.1 s hs
      · obtain rfl := List.mem_singleton.1 hs; exact hn
    · exact h.1 s hs
  rw [← hs]
  generalize leaves b l = L at *
  clear h hs
  induction L with
  | nil => simp
  | cons x L ih =>
    have := h1 x (by simp)
    have := ih fun s hs => h1 s (by simp [hs])
    rw [sumA_cons, List.length_cons]; omega
end Go.Proofs.YtfhmaincnlaapaaGreat
namespace Go.Proofs.YtfhmaincnlaapaaGreat
open Go.ChangeShapes Go.WideShapes Go.ChangeAt Go.RowKit
set_option linter.unusedVariables false

set_option maxRecDepth 20000 in
theorem leaves_arg (w : World) (B : Nat) (v : Value) (S : Sch) (A : Option Addr) (c : Nat) (l : List CellS) (mask : Nat) (h : SchAt w B v S) (ho : SchOk S) (g : SlR cellR w B l A c) (hB : B ≤ w.heap.size) (hm : mask < 4294967296) (hr : rightL S mask l = false) :
    Calls Tryz.prog 29 #[v, .int .u32 (mask : Int), .slice A l.length c] w fun y w' => y = .returned (.tuple #[.slice none 0 0, .int .i64 1]) ∧ Below w.heap.size w w' := by
  have hh := h
  obtain ⟨A0, c0, A1, c1, A2, c2, A3, c3, rfl, r0, r1, r2, r3, b0, b1, b2, b3⟩ := hh
  clear r0 r1 r2 r3 b0 b1 b2 b3
  have hw0 := belA (belR w) (.cells #[.slice A0 S.dims.length c0, .slice A1 S.ints.length c1, .slice A2 S.nums.length c2, .slice A3 S.views.length c3] 26)
  have hc := cellsRight_any (w.alloc (.cells #[.slice A0 S.dims.length c0, .slice A1 S.ints.length c1, .slice A2 S.nums.length c2, .slice A3 S.views.length c3] 26)) B _ S A c l mask (h.keep (hw0.mono hB) (Nat.le_refl _)) ho (g.keep (hw0.mono hB) (Nat.le_refl _)) (by simp; omega) hm
  rw [hr] at hc
  have HC := Lib.hid hc; have HW0 := Lib.hid hw0
  clear hc hr hw0 h g
  go_enter Tryz.func29, Tryz.ntmps29
  go_wp2_with (go_at_call 82; (with_reducible refine HC.out.mono ?_); rintro y w1 ⟨rfl, hb1⟩; have HB1 := Lib.hid (HW0.out.trans (hb1.mono (show w.heap.size ≤ _ by simp))); clear hb1)
  go_ret2
  exact ⟨rfl, HB1.out⟩
set_option maxRecDepth 20000 in
set_option maxHeartbeats 8000000 in
theorem leaves_ok (w : World) (B : Nat) (v : Value) (S : Sch) (A : Option Addr) (c : Nat) (l : List CellS) (mask : Nat) (h : SchAt w B v S) (ho : SchOk S) (g : SlR cellR w B l A c) (hB : B ≤ w.heap.size) (hm : mask < 4294967296) (hr : rightL S mask l = true)
    (hl : ∀ C ∈ l, lightC C = true) (hn : l.length ≤ 1000) :
    Calls Tryz.prog 29 #[v, .int .u32 (mask : Int), .slice A l.length c] w fun y w' => ∃ v' xs, y = .returned (.tuple #[v', .int .i64 0]) ∧ w'.ownsRow w.heap.size 42 4 v' (leaves mask l).length xs ∧ ShR w' w'.heap.size (leaves mask l) xs ∧ Below w.heap.size w w' := by
  have hh := h
  obtain ⟨A0, c0, A1, c1, A2, c2, A3, c3, rfl, r0, r1, r2, r3, b0, b1, b2, b3⟩ := hh
  clear r0 r1 r2 r3 b0 b1 b2 b3
  have hw0 := belA (belR w) (.cells #[.slice A0 S.dims.length c0, .slice A1 S.ints.length c1, .slice A2 S.nums.length c2, .slice A3 S.views.length c3] 26)
  have hc := cellsRight_any (w.alloc (.cells #[.slice A0 S.dims.length c0, .slice A1 S.ints.length c1, .slice A2 S.nums.length c2, .slice A3 S.views.length c3] 26)) B _ S A c l mask (h.keep (hw0.mono hB) (Nat.le_refl _)) ho (g.keep (hw0.mono hB) (Nat.le_refl _)) (by simp; omega) hm
  rw [hr] at hc
  have HC := Lib.hid hc; have HW0 := Lib.hid hw0; have G := Lib.hid g; have HL := Lib.hid hl; have HBD := Lib.hid (pkC_bd mask l hl)
  have wm : IntKind.u64.wrap (mask : Int) = (mask : Int) := by rw [IntKind.wrap_u64]; omega
  clear hc hr hw0 h g hl
  go_enter Tryz.func29, Tryz.ntmps29
  go_wp2_with (go_at_call 82; (with_reducible refine HC.out.mono ?_); rintro y w1 ⟨rfl, hb1⟩; have HB1 := Lib.hid (HW0.out.trans (hb1.mono (show w.heap.size ≤ _ by simp))); clear hb1)
  have hz1 := HB1.out.size
  have hp0 : PkS (w1.alloc (.cells #[.int .i64 3, .int .u64 (mask : Int), .slice none 0 0, .int .u64 0, .slice none 0 0] 149)) w.heap.size w1.heap.size 3 mask [] 0 [] :=
    ⟨hz1, .slice none 0 0, .slice none 0 0, w.heap.size, [], Blk.new _ _ _, Nat.le_refl _, by simp; omega, World.ownsRow_nil _ _ _ 1, World.ownsRow_nil _ _ _ 4, rfl⟩
  have HP0 := Lib.hid hp0; clear hp0
  go_loopw [22] (fun i wr => ∃ k : Nat, k ≤ l.length ∧ i = .int .i64 (k : Int) ∧ Hid (PkS wr w.heap.size w1.heap.size 3 mask (pkC mask l k).1 (pkC mask l k).2.1 (pkC mask l k).2.2) ∧ Hid (Below w.heap.size w wr)) (fun i _ => l.length - (intOf i).toNat)
  case atStart => exact ⟨0, by omega, rfl, by rw [pkC_zero]; exact HP0.out, belA HB1.out _⟩
  case round =>
    obtain ⟨k, hk, rfl, HP, HB⟩ := hrel
    have hz := HB.out.size
    have hbd := HBD.out k hk
    by_cases hlt : k < l.length
    · obtain ⟨a, D2, d2, D3, d3, rfl, hab, x0, x1, x2, x3, hv⟩ := (G.out.keep (HB.out.mono hB) (Nat.le_refl _)).cellAt hlt
      have q1 : (0 : Int) ≤ (k : Int) := by omega
      have q2 : (k : Int) < (l.length : Int) := by omega
      have hst := pkC_succ mask l k hlt
      have hlc := HL.out _ (List.getElem_mem hlt)
      have hle := encCell_le hlc
      generalize l[k] = C at *
      generalize pkC mask l k = st at *
      obtain ⟨ss, m, d⟩ := st
      simp only at hbd HP
      have hbx := belA (belR wr) (.cells #[.int .u64 (C.key : Int), .int .i64 C.count, .slice D2 C.ints.length d2, .slice D3 C.nums.length d3] 53)
      have hap := aggPut_any (wr.alloc (.cells #[.int .u64 (C.key : Int), .int .i64 C.count, .slice D2 C.ints.length d2, .slice D3 C.nums.length d3] 53)).drew B C D2 d2 D3 d3 (hv.keep (hbx.drew.mono (by omega)) (Nat.le_refl _)) hlc (by simp; omega)
      have hpa : PkS (wr.alloc (.cells #[.int .u64 (C.key : Int), .int .i64 C.count, .slice D2 C.ints.length d2, .slice D3 C.nums.length d3] 53)).drew w.heap.size w1.heap.size 3 mask ss m d := HP.out.below hbx.drew
      have hba : Blk (wr.alloc (.cells #[.int .u64 (C.key : Int), .int .i64 C.count, .slice D2 C.ints.length d2, .slice D3 C.nums.length d3] 53)).drew wr.heap.size 53 #[.int .u64 (C.key : Int), .int .i64 C.count, .slice D2 C.ints.length d2, .slice D3 C.nums.length d3] := Blk.new _ _ _
      have HST := Lib.hid hst; have HPA := Lib.hid hpa; have HBA := Lib.hid hba; have HAP := Lib.hid hap
      clear hst hpa hba hap hbx hv HP
      go_wp2_with fail
      go_region_with (first
        | (go_at_call 36; (with_reducible refine HAP.out.mono ?_); rintro y w2 ⟨v2, rfl, ho2, hb2⟩; obtain ⟨A2', c2', rfl, _, _, _⟩ := own_form ho2; have B2 := HBA.out.below hb2 (by simp); have z0 := B2.cell 0; simp at z0; have P2 := HPA.out.below hb2; have HP2 := Lib.hid P2; have HO2 := Lib.hid ho2; have HB2 := Lib.hid hb2; clear ho2 hb2 P2 B2)
        | (go_at_call 84; (with_reducible refine (break_any C.key 0 _).mono ?_); rintro y w' ⟨rfl, rfl⟩)
        | (go_at_call 83; (with_reducible refine (packPut_any _ _ _ _ _ (ss, m, d) _ _ _ _ _ HP2.out HO2.out ?_ ?_ ?_ ?_).mono ?_); (first | omega | (simp only; omega)); (first | omega | (simp only; omega)); (first | omega | (simp only; omega)); (first | omega | (simp only; omega)); rintro y w3 ⟨rfl, hp3, hb3⟩; have HP3 := Lib.hid hp3; have HB3 := Lib.hid hb3; clear hp3 hb3))
      all_goals
        go_wp2
        go_roundw
        case rel => exact ⟨k + 1, by omega, by go_num, by rw [HST.out]; exact HP3.out, HB.out.trans ((((belA (belR wr) _).drew.trans (HB2.out.mono (by simp))).mono hz).trans HB3.out)⟩
        case measure => simp [intOf]; omega
    · obtain rfl : k = l.length := by omega
      have he := packEnd_any wr w.heap.size w1.heap.size mask 3 (pkC mask l l.length) HP.out (by omega) (by omega)
      obtain ⟨R, hRR⟩ : ∃ R, leaves mask l = R := ⟨_, rfl⟩
      rw [pkC_all, hRR] at he
      have HRR := Lib.hid hRR
      have HE := Lib.hid he; clear he HP hRR
      go_wp2_with fail
      (with_reducible refine HE.out.mono ?_); rintro y w2 ⟨rfl, hp2, hb2⟩
      obtain ⟨_, bv, ov, Bd, xs, hB2, _, _, _, h4, h5⟩ := hp2
      obtain ⟨A2, c2, rfl, _, _, _⟩ := own_form h4
      have x4 := hB2.cell 4
      simp at x4
      have H4 := Lib.hid h4; have H5 := Lib.hid h5; have HB2 := Lib.hid hB2; clear h4 h5 hB2
      go_wp2
      go_ret2
      rw [HRR.out]
      exact ⟨_, xs, rfl, H4.out, H5.out.reads, HB.out.trans hb2⟩
end Go.Proofs.YtfhmaincnlaapaaGreat
namespace Go.Proofs.YtfhmaincnlaapaaGreat
open Go.ChangeShapes Go.WideShapes Go.ChangeAt Go.RowKit
set_option linter.unusedVariables false

/-- one thing read without a fault: the bytes behind the place are its bytes -/
structure Back {V : Type} (t : List UInt8) (g : V → List UInt8) (f : Nat → Nat → Nat → List V × Nat × Nat) : Prop where
  inb : ∀ k p e, p ≤ t.length → (f k p e).2.1 ≤ t.length
  bk : ∀ k p e, p ≤ t.length → (f k p e).2.2 = 0 → e = 0 ∧ t.take (f k p e).2.1 = t.take p ++ (f k p e).1.flatMap g
theorem Back.runI {V : Type} {t : List UInt8} {g : V → List UInt8} {f : Nat → Nat → Nat → List V × Nat × Nat} (h : Back t g f) (n p e : Nat) (hp : p ≤ t.length) : (runN f p e n).2.1 ≤ t.length := by
  induction n with
  | zero => exact hp
  | succ n ih => rw [runN_succ]; exact h.inb _ _ _ ih
theorem Back.run {V : Type} {t : List UInt8} {g : V → List UInt8} {f : Nat → Nat → Nat → List V × Nat × Nat} (h : Back t g f) (n p e : Nat) (hp : p ≤ t.length) (he : (runN f p e n).2.2 = 0) :
    e = 0 ∧ t.take (runN f p e n).2.1 = t.take p ++ (runN f p e n).1.flatMap g := by
  induction n with
  | zero => exact ⟨he, by simp [runN]⟩
  | succ n ih =>
    rw [runN_succ] at he ⊢
    simp only at he ⊢
    obtain ⟨h0, d2⟩ := h.bk n _ _ (h.runI n p e hp) he
    obtain ⟨a, d⟩ := ih h0
    exact ⟨a, by rw [d2, d, List.flatMap_append, List.append_assoc]⟩
theorem stepE_zero {e a b : Nat} (h : stepE e a b = 0) : e = 0 ∧ a = 0 ∧ b = 0 := by
  unfold stepE at h
  split at h
  · omega
  · split at h
    · omega
    · exact ⟨by omega, by omega, h⟩
theorem stepP_in (t : List UInt8) (p n k : Nat) (hp : p ≤ t.length) (h : k = 0 → n ≤ (t.drop p).length) : stepP p n k ≤ t.length := by
  unfold stepP
  split
  · rename_i h0; have := h h0; rw [List.length_drop] at this; omega
  · exact hp
end Go.Proofs.YtfhmaincnlaapaaGreat
namespace Go.Proofs.YtfhmaincnlaapaaGreat
open Go.ChangeShapes Go.WideShapes Go.ChangeAt Go.RowKit
set_option linter.unusedVariables false

/-- the base, and the other views -/
def viewsL (S : Sch) : List Int := (fullN S : Int) :: S.views
set_option maxRecDepth 20000 in
theorem refFull_any (w : World) (B : Nat) (v : Value) (S : Sch) (h : SchAt w B v S) (hB : B ≤ w.heap.size) (h1 : 1 ≤ S.dims.length) (h6 : S.dims.length ≤ 6) :
    Calls Tryz.prog 60 #[v] w fun y w' => y = .returned (.int .u32 (fullN S : Int)) ∧ Below w.heap.size w w' := by
  have hle := fullN_le h1 h6
  have hh := h
  obtain ⟨A0, c0, A1, c1, A2, c2, A3, c3, rfl, r0, r1, r2, r3, b0, b1, b2, b3⟩ := hh
  clear r0 r1 r2 r3 h
  have hw0 := belA (belR w) (.cells #[.slice A0 S.dims.length c0, .slice A1 S.ints.length c1, .slice A2 S.nums.length c2, .slice A3 S.views.length c3] 26)
  have HW0 := Lib.hid hw0
  have HT := Lib.hid (fun W => two_any W S.dims.length (by omega))
  have hp2 : fullN S = p2 S.dims.length - 1 := rfl
  have e : IntKind.u32.wrap ((p2 S.dims.length : Int) - 1) = (fullN S : Int) := by rw [IntKind.wrap_u32]; omega
  have e2 : (p2 S.dims.length : Int) - 1 = (fullN S : Int) := by omega
  have e3 : IntKind.u32.wrap (fullN S : Int) = (fullN S : Int) := by rw [IntKind.wrap_u32]; omega
  generalize fullN S = f at *
  generalize p2 S.dims.length = q at *
  clear hw0 hp2
  go_enter Tryz.func60, Tryz.ntmps60
  go_wp2_with (go_at_call 111; (with_reducible refine (HT.out _).mono ?_); rintro y w1 ⟨rfl, rfl⟩)
  go_ret
  first
  | exact ⟨rfl, HW0.out⟩
  | exact ⟨by rw [e2], HW0.out⟩
end Go.Proofs.YtfhmaincnlaapaaGreat
namespace Go.Proofs.YtfhmaincnlaapaaGreat
open Go.ChangeShapes Go.WideShapes Go.ChangeAt Go.RowKit
set_option linter.unusedVariables false

section
variable {P : Program} {ops : Array Oper} {Q : Exit → Act → World → Prop} {md : Region.Mode} {S : World → Prop}
theorem rh_take (i : Nat) (d : Option Tmp) {oi : Oper} {v : Value} {fuel : Nat} {listed : Array Bool} {a : Act} {w : World} (hi : ops[i]? = some oi) (hd : oi.dst = d)
    (hs : Region.noSelect ops = true) (hf : Region.free md ops listed i = true) (hr : (Region.ready md ops listed).contains i = true) (hw : Region.wanted oi (yielded ops a.tmps) = true)
    (hQ : ∀ c a w, Q (.panic c) (a.put d v) w → Q (.panic c) a w) (hS : S w) (hy : ∀ w, S w → (execOp a.eval oi).run P w = .ok (.value v) w)
    (h : wpAnyH P md ops Q S fuel (listed.setIfInBounds i true) (a.put d v) w) : wpAnyH P md ops Q S (fuel + 1) listed a w := by
  subst hd
  exact wpAnyH_take hi hs hf hr hQ (.inl ⟨hw, hy⟩) hS h
theorem rh_skip (i : Nat) (d : Option Tmp) {oi : Oper} {fuel : Nat} {listed : Array Bool} {a : Act} {w : World} (hi : ops[i]? = some oi) (hd : oi.dst = d)
    (hs : Region.noSelect ops = true) (hf : Region.free md ops listed i = true) (hr : (Region.ready md ops listed).contains i = true) (hw : Region.wanted oi (yielded ops a.tmps) = false)
    (hQ : ∀ c a w, Q (.panic c) (a.put d undef) w → Q (.panic c) a w) (hS : S w)
    (h : wpAnyH P md ops Q S fuel (listed.setIfInBounds i true) (a.put d undef) w) : wpAnyH P md ops Q S (fuel + 1) listed a w := by
  subst hd
  exact wpAnyH_take hi hs hf hr hQ (.inr ⟨hw, rfl⟩) hS h
theorem rh_call (i : Nat) (d : Option Tmp) {o : Oper} {fuel : Nat} {listed : Array Bool} {a : Act} {w : World} (hr : Region.ready md ops listed = [i]) (ho : ops[i]? = some o) (hd : o.dst = d)
    (hw : Region.wanted o (yielded ops a.tmps) = true)
    (h : ∀ K' : Act → World → Prop, Shut (∀ a w, S w → (S w → wpAnyH P md ops Q S fuel (listed.setIfInBounds i true) a w) → K' a w) → Oper.wp P o a w K' Q) : wpAnyH P md ops Q S (fuel + 1) listed a w :=
  wpAnyH_ready hr (by simp) (AllReadyH.cons ho (fun K hK => by rw [if_pos hw]; exact h K hK) AllReadyH.nil)
end
end Go.Proofs.YtfhmaincnlaapaaGreat
namespace Go.Proofs.YtfhmaincnlaapaaGreat
open Go.ChangeShapes Go.WideShapes Go.ChangeAt Go.RowKit
set_option linter.unusedVariables false

set_option maxRecDepth 20000 in
theorem rising15_any (w : World) (B : Nat) (A : Option Addr) (c : Nat) (l : List CellS) (g : SlR cellR w B l A c) :
    Calls Tryz.prog 61 #[.slice A l.length c] w fun y w' => y = .returned (.bool (risingC l)) ∧ Drw w w' := by
  have hml : l.length ≤ 9223372036854775807 := by have h1 := g.1; have h2 := g.2.1; unfold maxLen at h2; omega
  have G := Lib.hid g
  clear g
  go_enter Tryz.func61, Tryz.ntmps61
  go_wp2
  go_loopw [3] (fun i wr => ∃ n k : Nat, k + 1 = n ∧ i = .int .i64 (n : Int) ∧ k ≤ l.length ∧ Hid (∀ j, j < k → j + 1 < l.length → kyC l j < kyC l (j + 1)) ∧ Hid (Drw w wr)) (fun i _ => l.length + 1 - (intOf i).toNat)
  case atStart => exact ⟨1, 0, rfl, rfl, by omega, fun j hj => absurd hj (by omega), Drw.refl w⟩
  case round =>
    obtain ⟨n, k, hn, rfl, hk, HU, HD⟩ := hrel
    by_cases hlt : n < l.length
    · obtain ⟨j, rfl⟩ := HD.out
      obtain ⟨a, A2, c2, A3, c3, rfl, hab, x0, _, _, _, hv⟩ := G.out.cellAt hlt
      obtain ⟨a', A2', c2', A3', c3', ea, _, y0, _, _, _, hv'⟩ := G.out.cellAt (k := k) (by omega)
      injection ea with ea; subst ea
      have w1 : IntKind.i64.wrap ((n : Int) - 1) = (k : Int) := by rw [IntWalk.i64_in _ (by omega)]; omega
      have q1 : (0 : Int) ≤ (n : Int) := by omega
      have q2 : (n : Int) < (l.length : Int) := by omega
      have q3 : (0 : Int) ≤ (k : Int) := by omega
      have q4 : (k : Int) < (l.length : Int) := by omega
      have z0 : w.cell? (a.add (n * 4)) = some (.int .u64 (l[n].key : Int)) := x0
      have z1 : w.cell? (a.add (k * 4)) = some (.int .u64 (l[k].key : Int)) := y0
      rw [kyC_get] at z0 z1
      have hno := risingC_no (l := l) (k := k) (by omega)
      rw [hn] at hno
      by_cases hc : kyC l n ≤ kyC l k
      · have t1 : decide ((kyC l n : Int) ≤ (kyC l k : Int)) = true := decide_eq_true (by omega)
        have t1n : decide (kyC l n ≤ kyC l k) = true := decide_eq_true (by omega)
        have HN := Lib.hid (hno (by omega))
        have HNN := Lib.hid hn
        clear hno hc x0 y0 hv hv'
        generalize kyC l n = p at *
        generalize kyC l k = q at *
        go_wp2
        go_quiet (fail)
        go_wp2
        go_ret
        first | exact ⟨(by rw [HN.out] <;> rfl), HD.out.drewN _⟩ | exact ⟨(by rw [HN.out] <;> rfl), ⟨_, rfl⟩⟩
      · have t1 : decide ((kyC l n : Int) ≤ (kyC l k : Int)) = false := decide_eq_false (by omega)
        have t1n : decide (kyC l n ≤ kyC l k) = false := decide_eq_false (by omega)
        have HN : Hid (∀ j, j < n → j + 1 < l.length → kyC l j < kyC l (j + 1)) := Lib.hid fun j hj hjl => by
          by_cases e : j = k
          · subst e; rw [hn]; omega
          · exact HU.out j (by omega) hjl
        have HNN := Lib.hid hn
        clear hno hc x0 y0 hv hv'
        generalize kyC l n = p at *
        generalize kyC l k = q at *
        go_wp2
        go_quiet (fail)
        go_wp2
        go_roundw
        case rel => exact ⟨n + 1, n, rfl, by go_num, by omega, HN.out, Lib.hid ⟨_, rfl⟩⟩
        case measure => simp [intOf]; omega
    · have HT := Lib.hid ((risingC_iff l).2 fun j hj => HU.out j (by omega) hj)
      skip
      go_wp2
      go_ret
      exact ⟨(by rw [HT.out] <;> rfl), HD.out⟩
set_option maxRecDepth 20000 in
set_option maxHeartbeats 4000000 in
theorem refKeys_any (w : World) (B : Nat) (v : Value) (S : Sch) (mask : Nat) (h : SchAt w B v S) (hB : B ≤ w.heap.size) (hm : mask < 4294967296) (h0 : checkN S = 0) :
    Calls Tryz.prog 73 #[v, .int .u32 (mask : Int)] w fun y w' => y = .returned (.int .u64 (keysP S mask S.dims.length : Int)) ∧ Below w.heap.size w w' := by
  have hh := h
  obtain ⟨A0, c0, A1, c1, A2, c2, A3, c3, rfl, r0, r1, r2, r3, b0, b1, b2, b3⟩ := hh
  clear r1 r2 r3 b0 b1 b2 b3
  obtain ⟨hmo, p, hp⟩ := checkN_zero h0
  unfold manyOk at hmo
  obtain ⟨m1, m2, _⟩ := hmo
  have hw0 := belA (belR w) (.cells #[.slice A0 S.dims.length c0, .slice A1 S.ints.length c1, .slice A2 S.nums.length c2, .slice A3 S.views.length c3] 26)
  have K0 := Lib.hid (Blk.new w 26 #[.slice A0 S.dims.length c0, .slice A1 S.ints.length c1, .slice A2 S.nums.length c2, .slice A3 S.views.length c3])
  have HW0 := Lib.hid hw0; have R0 := Lib.hid r0
  have HSZ := Lib.hid (keysTo_some S _ p hp)
  have HKP : Hid (∀ k, k ≤ S.dims.length → keysP S mask k ≤ 1099511627776) := Lib.hid fun k hk => by
    obtain ⟨q, hq⟩ := keysTo_part S _ p hp k hk
    exact Nat.le_trans (keysP_le S mask k q hq) (keysTo_le S k q hq).2
  have HIN := Lib.hid (fun W k (hk : k ≤ 31) => in_any W mask k hk hm)
  clear hw0 h r0 hp h0
  go_enter Tryz.func73, Tryz.ntmps73
  go_wp2
  go_loopw [5, 6] (fun kv i wr => ∃ k : Nat, k ≤ S.dims.length ∧ i = .int .i64 (k : Int) ∧ kv = .int .u64 (keysP S mask k : Int) ∧ Hid (Below w.heap.size w wr ∧ Blk wr w.heap.size 26 #[.slice A0 S.dims.length c0, .slice A1 S.ints.length c1, .slice A2 S.nums.length c2, .slice A3 S.views.length c3])) (fun _ i _ => S.dims.length - (intOf i).toNat)
  case atStart => exact ⟨0, by omega, rfl, rfl, HW0.out, K0.out⟩
  case round =>
    obtain ⟨k, hk, rfl, rfl, HB⟩ := hrel
    have s0 : wr.cell? ⟨w.heap.size, 0, none⟩ = some (.slice A0 S.dims.length c0) := HB.out.2.cell 0
    by_cases hlt : k < S.dims.length
    · obtain ⟨a, rfl, hab, x0, x1⟩ := (R0.out.below (HB.out.1.mono hB)).dim hlt
      have q1 : (0 : Int) ≤ (k : Int) := by omega
      have q2 : (k : Int) < (S.dims.length : Int) := by omega
      have hzk := HSZ.out k hlt
      have hsz : szAt S k = S.dims[k].2 := by unfold szAt; simp [List.getD, hlt]
      have hs := keysP_succ S mask k
      have hkp := HKP.out (k + 1) (by omega)
      have hkq := HKP.out k (by omega)
      have hin := fun W => HIN.out W k (by omega)
      rw [← hsz] at x1
      obtain ⟨z, hz⟩ : ∃ z : Nat, szAt S k = (z : Int) := ⟨(szAt S k).toNat, by omega⟩
      rw [hz] at x1 hs hzk
      rw [Int.toNat_natCast] at hs
      clear hsz
      generalize keysP S mask k = K at *
      have wz : IntKind.u64.wrap (z : Int) = (z : Int) := by rw [IntKind.wrap_u64]; omega
      rw [inB_bit] at hin
      cases hb : mask.testBit k with
      | true =>
        rw [hb] at hs hin
        simp only [if_true] at hs
        rw [hs] at hkp
        have wm : IntKind.u64.wrap ((K : Int) * (z : Int)) = ((K * z : Nat) : Int) := by rw [← Int.natCast_mul, IntKind.wrap_u64]; omega
        have HS := Lib.hid hs; have HI := Lib.hid hin
        clear hs hin hb hz
        go_wp2_with (go_at_call 120; (with_reducible refine (HI.out _).mono ?_); rintro y w1 ⟨rfl, rfl⟩)
        go_roundw
        case rel => exact ⟨k + 1, by omega, by go_num, by rw [HS.out] <;> (first | rfl | (rw [Int.natCast_mul])), HB.out⟩
        case measure => simp [intOf]; omega
      | false =>
        rw [hb] at hs hin
        have hs' : keysP S mask (k + 1) = K := hs
        have HS := Lib.hid hs'; have HI := Lib.hid hin
        clear hs hs' hin hb hz
        go_wp2_with (go_at_call 120; (with_reducible refine (HI.out _).mono ?_); rintro y w1 ⟨rfl, rfl⟩)
        go_roundw
        case rel => exact ⟨k + 1, by omega, by go_num, by rw [HS.out] <;> (first | rfl | (rw [Int.natCast_mul])), HB.out⟩
        case measure => simp [intOf]; omega
    · obtain rfl : k = S.dims.length := by omega
      go_wp2
      go_ret
      exact ⟨rfl, HB.out.1⟩
end Go.Proofs.YtfhmaincnlaapaaGreat
