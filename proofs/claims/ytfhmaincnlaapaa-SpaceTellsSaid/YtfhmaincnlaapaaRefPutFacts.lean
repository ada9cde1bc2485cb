/-
  bushelref12.Put.
-/
import Derived.Test.YtfhmaincnlaapaaFactOne
import Derived.Test.YtfhmaincnlaapaaRefCode
import Derived.Test.YtfhmaincnlaapaaGetFWalks
namespace Go.Proofs.Ytfhmaincnlaapaa
open Go.ChangeShapes Go.WideShapes Go.ChangeAt Go.RowKit
set_option linter.unusedVariables false

set_option maxRecDepth 20000 in
set_option maxHeartbeats 4000000 in
theorem refPut_any (w : World) (B : Nat) (S : Sch) (A : Option Addr) (c : Nat) (l : List FactS) (g : SlR factR w B l A c) (hB : B ≤ w.heap.size) (hok : (batchN S l).2 = 0) :
    Calls Try.prog 64 #[.slice A l.length c] w fun y w' => ∃ v', y = .returned v' ∧ w'.ownsRow w.heap.size 5 1 v' (encBatch l).length (u8s (encBatch l)) ∧ Below w.heap.size w w' := by
  obtain ⟨hc0, hl1, hl2, hfit⟩ := batchN_zero hok
  have G := Lib.hid g; have HLE := Lib.hid (encTo_le hc0 hfit); have HFIT := Lib.hid hfit; have HC0 := Lib.hid hc0
  have wl : IntKind.u64.wrap (l.length : Int) = (l.length : Int) := by rw [IntKind.wrap_u64]; omega
  have HU0 := Lib.hid (refU_any l.length w (by omega))
  have hwd : (encU l.length).length = wd l.length + 1 := encU_length _
  clear g hok hfit hc0
  go_enter Try.func64, Try.ntmps64
  go_wp2_with fail
  (with_reducible refine HU0.out.mono ?_); rintro y w1 ⟨v1, rfl, ho1, hb1⟩
  have ho1' : w1.ownsRow w.heap.size 5 1 v1 (encTo l 0).length (u8s (encTo l 0)) := by rw [encTo_zero, hwd]; exact ho1
  have HO1 := Lib.hid ho1'; have HB1 := Lib.hid hb1
  clear ho1 ho1' hb1 HU0
  go_wp2
  go_loopw [3, 4] (fun ov i wr => ∃ k : Nat, k ≤ l.length ∧ i = .int .i64 (k : Int) ∧ Hid (wr.ownsRow w.heap.size 5 1 ov (encTo l k).length (u8s (encTo l k))) ∧ Hid (Below w.heap.size w wr)) (fun _ i _ => l.length - (intOf i).toNat)
  case atStart => exact ⟨0, by omega, rfl, HO1.out, HB1.out⟩
  case round =>
    obtain ⟨k, hk, rfl, HO, HB⟩ := hrel
    by_cases hlt : k < l.length
    · obtain ⟨a, D0, d0, D1, d1, D2, d2, rfl, hab, x0, x1, x2, hf, hfo⟩ := G.out.fact3 hlt
      have q1 : (0 : Int) ≤ (k : Int) := by omega
      have q2 : (k : Int) < (l.length : Int) := by omega
      have hX : ∀ W, Below w.heap.size w W → W.cell? (a.add (k * 3)) = some (.slice D0 l[k].codes.length d0) ∧ W.cell? ⟨(a.add (k * 3)).block, (a.add (k * 3)).off + 1, none⟩ = some (.slice D1 l[k].ints.length d1) ∧ W.cell? ⟨(a.add (k * 3)).block, (a.add (k * 3)).off + 2, none⟩ = some (.slice D2 l[k].nums.length d2) := fun W hb =>
        ⟨(hb.cell (p := a.add (k * 3)) (by rw [block_add]; omega)).trans x0, (hb.cell (p := ⟨(a.add (k * 3)).block, (a.add (k * 3)).off + 1, none⟩) (by show (a.add (k * 3)).block < _; rw [block_add]; omega)).trans x1,
          (hb.cell (p := ⟨(a.add (k * 3)).block, (a.add (k * 3)).off + 2, none⟩) (by show (a.add (k * 3)).block < _; rw [block_add]; omega)).trans x2⟩
      have hf0 := HFIT.out k hlt
      rw [fitsAt_get S l k hlt] at hf0
      obtain ⟨f1, f2, f3, f4⟩ := fits_small HC0.out hf0
      have hsn := encTo_succ l k hlt
      have hll := HLE.out k hk
      generalize l[k] = F at *
      obtain ⟨s0, s1, s2⟩ := hf.rds
      have S0 := Lib.hid s0; have S1 := Lib.hid s1; have S2 := Lib.hid s2; have HX := Lib.hid hX
      have HSN := Lib.hid hsn; have HF4 := Lib.hid f4; have HFO := Lib.hid hfo
      have h9 := encCodes_le F.codes; have h10 := encIs_le F.ints; have h11 := encFs_le F.nums
      generalize encTo l k = L at *
      clear hf hf0 s0 s1 s2 hX hsn f4 hfo x0 x1 x2
      go_wp2
      go_loopw [3, 5] (fun ov i ws => ∃ j : Nat, j ≤ F.codes.length ∧ i = .int .i64 (j : Int) ∧ Hid (ws.ownsRow w.heap.size 5 1 ov (L ++ encCodes (F.codes.take j)).length (u8s (L ++ encCodes (F.codes.take j)))) ∧ Hid (Below w.heap.size w ws)) (fun _ i _ => F.codes.length - (intOf i).toNat)
      case atStart => exact ⟨0, by omega, rfl, by rw [List.take_zero, show encCodes [] = [] from rfl, List.append_nil]; exact HO.out, HB.out⟩
      case round =>
        obtain ⟨j, hj, rfl, HOs, HBs⟩ := hrel
        obtain ⟨x0, x1, x2⟩ := HX.out _ HBs.out
        by_cases hjl : j < F.codes.length
        · obtain ⟨a', rfl, hab', y0⟩ := (S0.out.below (HBs.out.mono hB)).i64 hjl
          have p1 : (0 : Int) ≤ (j : Int) := by omega
          have p2 : (j : Int) < (F.codes.length : Int) := by omega
          have hcs : encCodes (F.codes.take (j + 1)) = encCodes (F.codes.take j) ++ encU (F.codes.getD j 0).toNat := flat_snoc (fun c : Int => encU c.toNat) 0 F.codes j hjl
          have hle := encCodes_le (F.codes.take j)
          rw [List.length_take, Nat.min_eq_left (by omega)] at hle
          have hr := HF4.out j hjl
          unfold codeAt at hr
          generalize F.codes.getD j 0 = x at *
          obtain ⟨x, rfl⟩ : ∃ n : Nat, x = (n : Int) := ⟨x.toNat, by omega⟩
          rw [Int.toNat_natCast] at hcs
          have wx : IntKind.u64.wrap (x : Int) = (x : Int) := by rw [IntKind.wrap_u64]; omega
          have hcc := refU_any x wr (by omega)
          have hxl : (encU x).length = wd x + 1 := encU_length _
          have hxw := wd_le x
          have HCS := Lib.hid hcs; have HCC := Lib.hid hcc
          clear hcs hcc
          have hLn : (L ++ encCodes (F.codes.take j)).length ≤ 100000 := by simp only [List.length_append]; omega
          generalize hLL : L ++ encCodes (F.codes.take j) = LL at *
          go_wp2_with (first | (go_at_call 107; (with_reducible refine HCC.out.mono ?_); rintro y w4 ⟨v4, rfl, ho4, hb4⟩; obtain ⟨A4, c4, rfl, _, _, _⟩ := own_form ho4; have HOl := Lib.hid (own_below HOs.out hb4 (Nat.le_refl _)); have HR4 := Lib.hid (Rd.own ho4); have HB4 := Lib.hid (belT HBs.out hb4); have hz4 := HB4.out.size; clear ho4 hb4) | (at_builtin; refine wpList_appS _ rfl _ _ 53 rfl w.heap.size 5 _ 1 1 info_u8 rfl (by decide) Try.underlying53 _ LL.length (u8s LL) HOl.out rfl _ _ _ _ _ HR4.out rfl (u8s_one _) ?_ ?_ ?_ ?_; omega; omega; exact hz4; intro v5 w5 ho5 hap5; have HO5 := Lib.hid ho5; have HB5 := Lib.hid (HB4.out.trans (hap5.below hz4 HOl.out)); clear ho5 hap5))
          go_roundw
          case rel => exact ⟨j + 1, by omega, by go_num, by rw [HCS.out, ← List.append_assoc, hLL, u8s_append, List.length_append]; exact (by rw [hxl]; exact HO5.out), HB5.out⟩
          case measure => simp [intOf]; omega
        · obtain rfl : j = F.codes.length := by omega
          rw [List.take_length] at HOs
          go_wp2
          go_loopw [3, 6] (fun ov i ws => ∃ j : Nat, j ≤ F.ints.length ∧ i = .int .i64 (j : Int) ∧ Hid (ws.ownsRow w.heap.size 5 1 ov (L ++ encCodes F.codes ++ encIs (F.ints.take j)).length (u8s (L ++ encCodes F.codes ++ encIs (F.ints.take j)))) ∧ Hid (Below w.heap.size w ws)) (fun _ i _ => F.ints.length - (intOf i).toNat)
          case atStart => exact ⟨0, by omega, rfl, by rw [List.take_zero, show encIs [] = [] from rfl, List.append_nil]; exact HOs.out, HBs.out⟩
          case round =>
            obtain ⟨j, hj, rfl, HOs, HBs⟩ := hrel
            obtain ⟨x0, x1, x2⟩ := HX.out _ HBs.out
            by_cases hjl : j < F.ints.length
            · obtain ⟨a', rfl, hab', y0⟩ := (S1.out.below (HBs.out.mono hB)).i64 hjl
              have p1 : (0 : Int) ≤ (j : Int) := by omega
              have p2 : (j : Int) < (F.ints.length : Int) := by omega
              have hcs : encIs (F.ints.take (j + 1)) = encIs (F.ints.take j) ++ encI (F.ints.getD j 0) := flat_snoc encI 0 F.ints j hjl
              have hle := encIs_le (F.ints.take j)
              rw [List.length_take, Nat.min_eq_left (by omega)] at hle
              have hr := HFO.out.ints (F.ints.getD j 0) (getD_mem hjl)
              generalize F.ints.getD j 0 = x at *
              have hcc := refI_any x wr hr.1 hr.2
              have hxw := encI_9 x
              have HCS := Lib.hid hcs; have HCC := Lib.hid hcc
              clear hcs hcc
              have hLn : (L ++ encCodes F.codes ++ encIs (F.ints.take j)).length ≤ 100000 := by simp only [List.length_append]; omega
              generalize hLL : L ++ encCodes F.codes ++ encIs (F.ints.take j) = LL at *
              go_wp2_with (first | (go_at_call 123; (with_reducible refine HCC.out.mono ?_); rintro y w4 ⟨v4, rfl, ho4, hb4⟩; obtain ⟨A4, c4, rfl, _, _, _⟩ := own_form ho4; have HOl := Lib.hid (own_below HOs.out hb4 (Nat.le_refl _)); have HR4 := Lib.hid (Rd.own ho4); have HB4 := Lib.hid (belT HBs.out hb4); have hz4 := HB4.out.size; clear ho4 hb4) | (at_builtin; refine wpList_appS _ rfl _ _ 53 rfl w.heap.size 5 _ 1 1 info_u8 rfl (by decide) Try.underlying53 _ LL.length (u8s LL) HOl.out rfl _ _ _ _ _ HR4.out rfl (u8s_one _) ?_ ?_ ?_ ?_; omega; omega; exact hz4; intro v5 w5 ho5 hap5; have HO5 := Lib.hid ho5; have HB5 := Lib.hid (HB4.out.trans (hap5.below hz4 HOl.out)); clear ho5 hap5))
              go_roundw
              case rel => exact ⟨j + 1, by omega, by go_num, by rw [HCS.out, ← List.append_assoc, hLL, u8s_append, List.length_append]; exact HO5.out, HB5.out⟩
              case measure => simp [intOf]; omega
            · obtain rfl : j = F.ints.length := by omega
              rw [List.take_length] at HOs
              go_wp2
              go_loopw [3, 7] (fun ov i ws => ∃ j : Nat, j ≤ F.nums.length ∧ i = .int .i64 (j : Int) ∧ Hid (ws.ownsRow w.heap.size 5 1 ov (L ++ encCodes F.codes ++ encIs F.ints ++ encFs (F.nums.take j)).length (u8s (L ++ encCodes F.codes ++ encIs F.ints ++ encFs (F.nums.take j)))) ∧ Hid (Below w.heap.size w ws)) (fun _ i _ => F.nums.length - (intOf i).toNat)
              case atStart => exact ⟨0, by omega, rfl, by rw [List.take_zero, show encFs [] = [] from rfl, List.append_nil]; exact HOs.out, HBs.out⟩
              case round =>
                obtain ⟨j, hj, rfl, HOs, HBs⟩ := hrel
                obtain ⟨x0, x1, x2⟩ := HX.out _ HBs.out
                by_cases hjl : j < F.nums.length
                · obtain ⟨a', rfl, hab', y0⟩ := (S2.out.below (HBs.out.mono hB)).f64 hjl
                  have p1 : (0 : Int) ≤ (j : Int) := by omega
                  have p2 : (j : Int) < (F.nums.length : Int) := by omega
                  have hcs : encFs (F.nums.take (j + 1)) = encFs (F.nums.take j) ++ be 8 (keyB (F.nums.getD j 0)) := flat_snoc (fun b => be 8 (keyB b)) 0 F.nums j hjl
                  have hle := encFs_le (F.nums.take j)
                  rw [List.length_take, Nat.min_eq_left (by omega)] at hle
                  have hr := HFO.out.nums (F.nums.getD j 0) (getD_mem hjl)
                  generalize F.nums.getD j 0 = x at *
                  have hcc := refF_any x wr hr
                  have hxl : (be 8 (keyB x)).length = 8 := be_length _ _
                  have HCS := Lib.hid hcs; have HCC := Lib.hid hcc
                  clear hcs hcc
                  have hLn : (L ++ encCodes F.codes ++ encIs F.ints ++ encFs (F.nums.take j)).length ≤ 100000 := by simp only [List.length_append]; omega
                  generalize hLL : L ++ encCodes F.codes ++ encIs F.ints ++ encFs (F.nums.take j) = LL at *
                  go_wp2_with (first | (go_at_call 124; (with_reducible refine HCC.out.mono ?_); rintro y w4 ⟨v4, rfl, ho4, hb4⟩; obtain ⟨A4, c4, rfl, _, _, _⟩ := own_form ho4; have HOl := Lib.hid (own_below HOs.out hb4 (Nat.le_refl _)); have HR4 := Lib.hid (Rd.own ho4); have HB4 := Lib.hid (belT HBs.out hb4); have hz4 := HB4.out.size; clear ho4 hb4) | (at_builtin; refine wpList_appS _ rfl _ _ 53 rfl w.heap.size 5 _ 1 1 info_u8 rfl (by decide) Try.underlying53 _ LL.length (u8s LL) HOl.out rfl _ _ _ _ _ HR4.out rfl (u8s_one _) ?_ ?_ ?_ ?_; omega; omega; exact hz4; intro v5 w5 ho5 hap5; have HO5 := Lib.hid ho5; have HB5 := Lib.hid (HB4.out.trans (hap5.below hz4 HOl.out)); clear ho5 hap5))
                  go_roundw
                  case rel => exact ⟨j + 1, by omega, by go_num, by rw [HCS.out, ← List.append_assoc, hLL, u8s_append, List.length_append]; exact (by rw [hxl]; exact HO5.out), HB5.out⟩
                  case measure => simp [intOf]; omega
                · obtain rfl : j = F.nums.length := by omega
                  rw [List.take_length] at HOs
                  go_wp2
                  rw [encFact_app] at HOs
                  go_roundw
                  case rel => exact ⟨k + 1, by omega, by go_num, by rw [HSN.out]; exact HOs.out, HBs.out⟩
                  case measure => simp [intOf]; omega
    · obtain rfl : k = l.length := by omega
      rw [encTo_all] at HO
      go_wp2
      go_ret
      exact ⟨_, rfl, HO.out, HB.out⟩
end Go.Proofs.Ytfhmaincnlaapaa
