/-
  The law TreeShares.
-/
import Derived.Test.YtfhmaincnlaapaaLeavesW
import Derived.Test.YtfhmaincnlaapaaRefCells
import Derived.Test.YtfhmaincnlaapaaRefCheck
import Derived.Test.YtfhmaincnlaapaaRefLight
import Derived.Test.YtfhmaincnlaapaaTreeAwake
import Derived.Test.YtfhmaincnlaapaaNodesPure
import Derived.Deep.CutBlock
namespace Go.Proofs.Ytfhmaincnlaapaa
open Go.ChangeShapes Go.WideShapes Go.ChangeAt Go.RowKit
set_option linter.unusedVariables false

theorem info_cell : (Try.prog.info? 52).map (fun i => (i.zero, i.size, i.bytes)) = some (some (.agg #[.int .u64 0, .int .i64 0, .slice none 0 0, .slice none 0 0]), 4, 64) := by kernel_rfl
theorem leaves_any (w : World) (B : Nat) (v : Value) (S : Sch) (A : Option Addr) (c : Nat) (l : List CellS) (mask : Nat) (h : SchAt w B v S) (ho : SchOk S) (g : SlR cellR w B l A c) (hB : B ≤ w.heap.size) (hm : mask < 4294967296) (hl : ∀ C ∈ l, lightC C = true) (hn : l.length ≤ 1000) :
    Calls Try.prog 21 #[v, .int .u32 (mask : Int), .slice A l.length c] w fun y w' => ∃ (e n : Nat) (A' : Option Addr) (c' : Nat), y = .returned (.tuple #[.slice A' n c', .int .i64 (e : Int)]) ∧
      (e = 0 → n = (leaves mask l).length ∧ ∃ xs, w'.ownsRow w.heap.size 55 4 (.slice A' n c') n xs ∧ ShR w' w'.heap.size (leaves mask l) xs) ∧ Below w.heap.size w w' := by
  cases hr : rightL S mask l with
  | false =>
    refine (leaves_arg w B v S A c l mask h ho g hB hm hr).mono ?_
    rintro y w' ⟨rfl, hb⟩
    exact ⟨1, 0, none, 0, rfl, fun h => absurd h (by decide), hb⟩
  | true =>
    refine (leaves_ok w B v S A c l mask h ho g hB hm hr hl hn).mono ?_
    rintro y w' ⟨v', xs, rfl, h1, h2, hb⟩
    obtain ⟨A', c', rfl, _, _, _⟩ := own_form h1
    exact ⟨0, _, A', c', rfl, fun _ => ⟨rfl, xs, h1, h2⟩, hb⟩
theorem lightL_parts {l : List CellS} (h : lightL l = true) : l.length ≤ 60 ∧ ∀ C ∈ l, lightC C = true := by
  unfold lightL at h
  rw [Bool.and_eq_true, decide_eq_true_iff, List.all_eq_true] at h
  exact h
theorem rows_at {w w' : World} {base n c D : Nat} {A : Option Addr} {L : List Sht} {xs : List Value} (h : w.ownsRow base 55 4 (.slice A n c) n xs) (hs : ShR w w.heap.size L xs) (hb : Below w.heap.size w w') (hD : w.heap.size ≤ D) : Rd w' D 4 A n xs ∧ ShR w' D L xs :=
  ⟨((Rd.own h).below hb).more hD, hs.keep hb hD⟩
theorem leftT_zero_of {T : List Sht} (h : ∀ s ∈ T, 1 ≤ s.a) {j : Nat} (hj : j ≤ T.length) (hp : 0 < leftT T j) : j < T.length := by
  rcases Nat.lt_or_ge j T.length with h1 | h1
  · exact h1
  · obtain rfl : j = T.length := by omega
    rw [leftT_all] at hp; omega
theorem leftT_le (T : List Sht) (j : Nat) : leftT T j ≤ sumA T := by
  unfold leftT
  have h := sumA_app (T.take (T.length - j)) (T.drop (T.length - j))
  rw [List.take_append_drop] at h
  omega
set_option maxRecDepth 20000 in
set_option maxHeartbeats 16000000 in
theorem lawTreeShares_any (w : World) (B : Nat) (v : Value) (S : Sch) (A : Option Addr) (c : Nat) (l : List CellS) (at_ : Int) (h : SchAt w B v S) (ho : SchOk S) (g : SlR cellR w B l A c) (hB : B ≤ w.heap.size) (ha1 : -9223372036854775808 ≤ at_) (ha2 : at_ ≤ 9223372036854775807) :
    Calls Try.prog 4 #[v, .slice A l.length c, .int .i64 at_] w fun y w' => y = .returned (.bool true) ∧ Below w.heap.size w w' := by
  have hh := h
  obtain ⟨A0, c0, A1, c1, A2, c2, A3, c3, rfl, r0, r1, r2, r3, b0, b1, b2, b3⟩ := hh
  clear r0 r1 r2 r3 b0 b1 b2 b3
  have hw0 := belA (belR w) (.cells #[.slice A0 S.dims.length c0, .slice A1 S.ints.length c1, .slice A2 S.nums.length c2, .slice A3 S.views.length c3] 26)
  have hl := light_any (w.alloc (.cells #[.slice A0 S.dims.length c0, .slice A1 S.ints.length c1, .slice A2 S.nums.length c2, .slice A3 S.views.length c3] 26)) B _ S (h.keep (hw0.mono hB) (Nat.le_refl _)) (by simp; omega)
  have K0 := Lib.hid (Blk.new w 26 #[.slice A0 S.dims.length c0, .slice A1 S.ints.length c1, .slice A2 S.nums.length c2, .slice A3 S.views.length c3])
  have HW0 := Lib.hid hw0; have HL := Lib.hid hl; have H := Lib.hid h; have G := Lib.hid g
  clear hw0 hl h g
  go_enter Try.func4, Try.ntmps4
  go_wp2_with fail
  (with_reducible refine HL.out.mono ?_); rintro y w1 ⟨rfl, hb1⟩
  have HB1 := Lib.hid (HW0.out.trans (hb1.mono (show w.heap.size ≤ _ by simp)))
  have KS1 := Lib.hid (K0.out.below hb1 (by simp))
  clear hb1 HW0 HL K0
  cases h0 : lightB S with
  | false =>
    clear h0
    go_wp2_with fail
    (with_reducible refine (awake25_any _).mono ?_); rintro y w9 ⟨rfl, hb9⟩
    go_wp2
    go_ret
    exact ⟨rfl, belT HB1.out hb9⟩
  | true =>
  have hdims : S.dims.length ≤ 1000000 := by
    rcases Nat.lt_or_ge 1000000 S.dims.length with hd | hd
    · rw [lightB_no S (by omega)] at h0; cases h0
    · exact hd
  have hll := lightL_any w1 B A c l (G.out.keep (HB1.out.mono hB) (Nat.le_refl _)) (Nat.le_trans hB HB1.out.size)
  have HLL := Lib.hid hll
  clear hll h0
  go_wp2_with fail
  (with_reducible refine HLL.out.mono ?_); rintro y w2 ⟨rfl, hb2⟩
  have HB2 := Lib.hid (belT HB1.out hb2)
  have KS2 := Lib.hid (KS1.out.below hb2 KS1.out.lt)
  clear hb2 HB1 HLL KS1
  cases h0 : lightL l with
  | false =>
    clear h0
    go_wp2_with fail
    (with_reducible refine (awake25_any _).mono ?_); rintro y w9 ⟨rfl, hb9⟩
    go_wp2
    go_ret
    exact ⟨rfl, belT HB2.out hb9⟩
  | true =>
  obtain ⟨hl60, hlc⟩ := lightL_parts h0
  have HLC := Lib.hid hlc
  clear h0 hlc
  by_cases ha0 : at_ < 0
  · go_wp2_with fail
    (with_reducible refine (awake25_any _).mono ?_); rintro y w9 ⟨rfl, hb9⟩
    go_wp2
    go_ret
    exact ⟨rfl, belT HB2.out hb9⟩
  obtain ⟨k, rfl⟩ : ∃ k : Nat, at_ = (k : Int) := ⟨at_.toNat, by omega⟩
  by_cases hk : k < l.length
  case neg =>
    have t1 : decide ((l.length : Int) ≤ (k : Int)) = true := decide_eq_true (by omega)
    go_wp2_with fail
    (with_reducible refine (awake25_any _).mono ?_); rintro y w9 ⟨rfl, hb9⟩
    go_wp2
    go_ret
    exact ⟨rfl, belT HB2.out hb9⟩
  have t1 : decide ((l.length : Int) ≤ (k : Int)) = false := decide_eq_false (by omega)
  have hf := fullW_any w2 B _ S (H.out.keep (HB2.out.mono hB) (Nat.le_refl _)) (Nat.le_trans hB HB2.out.size) hdims
  have s0 := KS2.out.cell 0; have s1 := KS2.out.cell 1; have s2 := KS2.out.cell 2; have s3 := KS2.out.cell 3
  simp at s0 s1 s2 s3
  have HF := Lib.hid hf
  clear hf ha1 ha2 ha0
  go_wp2_with fail
  (with_reducible refine HF.out.mono ?_); rintro y w3 ⟨m, hm, rfl, hb3⟩
  have HB3 := Lib.hid (belT HB2.out hb3)
  have KS3 := Lib.hid (KS2.out.below hb3 KS2.out.lt)
  clear s0 s1 s2 s3 hb3 HB2 KS2 HF t1
  have s0 := KS3.out.cell 0; have s1 := KS3.out.cell 1; have s2 := KS3.out.cell 2; have s3 := KS3.out.cell 3
  simp at s0 s1 s2 s3
  have hv := leaves_any w3 B _ S A c l m (H.out.keep (HB3.out.mono hB) (Nat.le_refl _)) ho (G.out.keep (HB3.out.mono hB) (Nat.le_refl _)) (Nat.le_trans hB HB3.out.size) hm HLC.out (by omega)
  have HV := Lib.hid hv
  clear hv
  go_wp2_with fail
  (with_reducible refine HV.out.mono ?_); rintro y w4 ⟨e, n, A4, c4, rfl, hok4, hb4⟩
  have HOK4 := Lib.hid hok4
  have HB4 := Lib.hid (belT HB3.out hb4)
  have KS4 := Lib.hid (KS3.out.below hb4 KS3.out.lt)
  clear s0 s1 s2 s3 hb4 HB3 KS3 HV hok4
  obtain ⟨hgl, hgm, xs, hrd, hch⟩ := G.out.keep (HB4.out.mono hB) (Nat.le_refl _)
  have hown : (w4.alloc (.cells #[] 52)).ownsRow w4.heap.size 52 4 (.slice (some ⟨w4.heap.size, 0, none⟩) 0 0) 0 [] := World.ownsRow_made w4 #[] 0 (Nat.le_refl _) (by simp [maxLen]) (by simp)
  have hone := hch.one
  have HOWN := Lib.hid hown; have HRD := Lib.hid (hrd.alloc (Nat.le_trans hB HB4.out.size) (.cells #[] 52)); have HCH := Lib.hid hch; have HONE := Lib.hid hone
  clear hown hone hrd hch
  go_upto_region 6 with (at_builtin; refine wpList_appS (w4.alloc (.cells #[] 52)) rfl _ _ 27 rfl w4.heap.size 52 _ 4 64 info_cell rfl (by decide) Try.underlying27 (.slice (some ⟨w4.heap.size, 0, none⟩) 0 0) 0 [] HOWN.out rfl B A l.length c xs HRD.out rfl HONE.out ?_ ?_ ?_ ?_; omega; omega; (simp); intro v5 w5 ho5 hap5; have HO5 := Lib.hid ho5; have HB5 := Lib.hid ((belA (belR w4) (.cells #[] 52)).trans (hap5.below (by simp) HOWN.out)); clear ho5 hap5)
  have ho5 := HO5.out
  rw [Nat.zero_add, List.nil_append] at ho5
  obtain ⟨A5, c5, rfl, hc5, hc5m, _⟩ := own_form ho5
  clear HO5 HOWN HRD HONE
  have hg5 : SlR cellR w5 w5.heap.size l A5 c5 := SlR.own ho5 (HCH.out.keep (HB5.out.mono (Nat.le_trans hB HB4.out.size)) (Nat.le_trans hB (Nat.le_trans HB4.out.size HB5.out.size)))
  obtain ⟨a5, D2, d2, D3, d3, rfl, hab5, x0, x1, x2, x3, hv5⟩ := hg5.cellAt hk
  obtain ⟨a5', ea5, hge5, hlt5, hob5, _, hj5⟩ := own_elem ho5 k hk
  injection ea5 with ea5; subst ea5
  obtain ⟨hx1, hfz, hset⟩ := hj5 1 (by decide)
  have hcnt := hv5.count
  have q1 : (0 : Int) ≤ (k : Int) := by omega
  have q2 : (k : Int) < (l.length : Int) := by omega
  obtain ⟨cnt, hcn⟩ : ∃ cnt, l[k].count = cnt := ⟨_, rfl⟩
  rw [hcn] at x1 hcnt
  by_cases hc1 : cnt < 1
  · clear x0 x2 x3 hx1 hfz hset hj5
    go_wp2_with fail
    (with_reducible refine (awake25_any _).mono ?_); rintro y w9 ⟨rfl, hb9⟩
    go_wp2
    go_ret
    exact ⟨rfl, HB4.out.trans ((HB5.out.mono HB4.out.size).trans (hb9.mono (Nat.le_trans HB4.out.size HB5.out.size)))⟩
  have t1 : decide (cnt < 1) = false := decide_eq_false hc1
  have hmod := Int.tmod_eq_emod_of_nonneg (a := cnt) (b := 5) (by omega)
  obtain ⟨r, hr⟩ : ∃ r, cnt % 5 = r := ⟨_, rfl⟩
  rw [hr] at hmod
  obtain ⟨q, hq⟩ : ∃ q, 1 + r = q := ⟨_, rfl⟩
  have wr1 : IntKind.i64.wrap r = r := IntWalk.i64_in _ (by omega)
  have wr2 : IntKind.i64.wrap (1 + r) = q := by rw [hq]; exact IntWalk.i64_in _ (by omega)
  have ho6 := hset (.int .i64 q)
  have hb6 : Below w4.heap.size w4 (w5.setCell ⟨(a5.add (k * 4)).block, (a5.add (k * 4)).off + 1, none⟩ (.int .i64 q)) := HB5.out.setCell (by rw [block_add]; exact hge5) _
  have hsz6 : w5.heap.size ≤ (w5.setCell ⟨(a5.add (k * 4)).block, (a5.add (k * 4)).off + 1, none⟩ (.int .i64 q)).heap.size := by simp
  have HO6 := Lib.hid ho6; have HB6 := Lib.hid hb6; have HSZ6 := Lib.hid hsz6
  clear ho6 hb6 hset hj5 x0 x2 x3 hx1 hv5 hg5 hob5 ho5 hsz6
  go_upto_region 9 with (fail)
  generalize w5.setCell ⟨(a5.add (k * 4)).block, (a5.add (k * 4)).off + 1, none⟩ (.int .i64 q) = w6 at *
  have KS6 := Lib.hid (KS4.out.below HB6.out KS4.out.lt)
  have s0 := KS6.out.cell 0; have s1 := KS6.out.cell 1; have s2 := KS6.out.cell 2; have s3 := KS6.out.cell 3
  simp at s0 s1 s2 s3
  have HBW6 := Lib.hid (belT HB4.out HB6.out)
  have hg6 : SlR cellR w6 w6.heap.size (l.set k (withCount l[k] q)) (some a5) c5 := by
    have h1 := cells_count (w := w6) (B := w6.heap.size) q (by omega) (by omega) l xs (HCH.out.keep (HB6.out.mono (Nat.le_trans hB HB4.out.size)) (Nat.le_trans hB HBW6.out.size)) k hk
    refine SlR.own (by rw [List.length_set]; exact HO6.out) h1
  have hlc' : ∀ C ∈ l.set k (withCount l[k] q), lightC C = true := fun C hC => by
    rcases List.mem_or_eq_of_mem_set hC with hC | rfl
    · exact HLC.out C hC
    · have he : lightC (withCount l[k] q) = lightC l[k] := rfl
      rw [he]; exact HLC.out _ (List.getElem_mem hk)
  have hv := leaves_any w6 w6.heap.size _ S (some a5) c5 (l.set k (withCount l[k] q)) m (H.out.keep (HBW6.out.mono hB) (Nat.le_trans hB HBW6.out.size)) ho hg6 (Nat.le_refl _) hm hlc' (by rw [List.length_set]; omega)
  rw [List.length_set] at hv
  have HV := Lib.hid hv
  clear hv hlc' hg6 x1 hfz
  go_wp2_with fail
  (with_reducible refine HV.out.mono ?_); rintro y w7 ⟨f, n7, A7, c7, rfl, hok7, hb7⟩
  have HBW7 := Lib.hid (belT HBW6.out hb7)
  have HB47 := Lib.hid (HB6.out.trans (hb7.mono HB6.out.size))
  have HOK7 := Lib.hid hok7
  clear hok7 hb7 HV s0 s1 s2 s3 KS6 KS4
  by_cases he : e = 0
  case neg =>
    have t2 := i64_ne0 he
    go_wp2_with fail
    (with_reducible refine (awake25_any _).mono ?_); rintro y w9 ⟨rfl, hb9⟩
    go_wp2
    go_ret
    exact ⟨rfl, belT HBW7.out hb9⟩
  subst he
  by_cases hf0 : f = 0
  case neg =>
    have t2 := i64_ne0 hf0
    simp only [show ((0 : Nat) : Int) = 0 from rfl]
    go_wp2_with fail
    (with_reducible refine (awake25_any _).mono ?_); rintro y w9 ⟨rfl, hb9⟩
    go_wp2
    go_ret
    exact ⟨rfl, belT HBW7.out hb9⟩
  subst hf0
  obtain ⟨en, xa, hoa, hsa⟩ := HOK4.out rfl
  obtain ⟨en7, xb, hob, hsb⟩ := HOK7.out rfl
  obtain ⟨hra, hsa⟩ := rows_at hoa hsa HB47.out (D := w7.heap.size) HB47.out.size
  obtain ⟨hrb, hsb⟩ := rows_at hob hsb (belR w7) (D := w7.heap.size) (Nat.le_refl _)
  have hfr := fun i hi hs => leaves_front m l k (withCount l[k] q) hk i hi hs
  have hbk := fun i h1 h2 h3 => leaves_back m l k (withCount l[k] q) i h1 h2 h3
  have hsum := leaves_sum m l
  have hlena := leaves_len m l
  have hlenb := leaves_len m (l.set k (withCount l[k] q))
  rw [List.length_set] at hlenb
  generalize hLa : leaves m l = La at *
  generalize hLb : leaves m (l.set k (withCount l[k] q)) = Lb at *
  subst en en7
  have HRA := Lib.hid hra; have HRB := Lib.hid hrb; have HSA := Lib.hid hsa; have HSB := Lib.hid hsb; have HFR := Lib.hid hfr; have HBK := Lib.hid hbk; have HSUM := Lib.hid hsum
  clear hra hrb hsa hsb hfr hbk hoa hob HOK4 HOK7 HO6 HB6 HB5 HBW6 HLC hLa hLb hsum HCH H
  have HG7 := Lib.hid (G.out.keep (HBW7.out.mono hB) (Nat.le_refl _))
  have hB7 : B ≤ w7.heap.size := Nat.le_trans hB HBW7.out.size
  simp only [show ((0 : Nat) : Int) = 0 from rfl]
  go_upto_block 0 with (fail)
  go_cut [13] (fun v13 wx => Hid (Below w7.heap.size w7 wx))
  case first =>
    go_wp2_with fail
    go_loopw [13, 14] (fun vn vi wr => ∃ i : Nat, i ≤ La.length ∧ vi = .int .i64 (i : Int) ∧ vn = .int .i64 (sumA (La.take i) : Int) ∧ Hid (Below w7.heap.size w7 wr)) (fun _ vi _ => La.length - (intOf vi).toNat)
    case atStart => exact ⟨0, by omega, rfl, rfl, belR w7⟩
    case round =>
      obtain ⟨i, hi, rfl, rfl, HBl⟩ := hrel
      have hbody : i < La.length ∧ sumA (La.take (i + 1)) < k ∨ (i < La.length ∧ ¬ sumA (La.take (i + 1)) < k) ∨ i = La.length := by omega
      rcases hbody with ⟨hlt, hz⟩ | hex
      · obtain ⟨s, ea, eb⟩ := HFR.out i hlt hz
        obtain ⟨hib, eb'⟩ := List.getElem?_eq_some_iff.1 eb
        obtain ⟨_, ea'⟩ := List.getElem?_eq_some_iff.1 ea
        have hsm := sumA_mem La s (List.mem_of_getElem? ea)
        rw [HSUM.out] at hsm
        have hst := sumA_take La i s ea
        obtain ⟨a, Ad, cd, rfl, hab, x0, x1, x2, x3, hR, hd1, hd2⟩ := (HRA.out.below HBl.out).sht (HSA.out.keep HBl.out (Nat.le_refl _)) i hlt
        obtain ⟨a', Ad', cd', rfl, hab', y0, y1, y2, y3, hR', hd1', hd2'⟩ := (HRB.out.below HBl.out).sht (HSB.out.keep HBl.out (Nat.le_refl _)) i hib
        rw [ea'] at x0 x1 x2 x3 hR
        rw [eb'] at y0 y1 y2 y3 hR'
        have hsame := same20_any wr.drew w7.heap.size s Ad Ad' cd cd' hR.drew hR'.drew HBl.out.size
        have q3 : (0 : Int) ≤ (i : Int) := by omega
        have q4 : (i : Int) < (La.length : Int) := by omega
        have q5 : (i : Int) < (Lb.length : Int) := by omega
        have t3 : decide ((Lb.length : Int) ≤ (i : Int)) = false := decide_eq_false (by omega)
        have wsa : IntKind.i64.wrap (s.a : Int) = (s.a : Int) := IntWalk.i64_in _ (by omega)
        obtain ⟨z, hzz⟩ : ∃ z, sumA (La.take (i + 1)) = z := ⟨_, rfl⟩
        rw [hzz] at hz hst
        have wz : IntKind.i64.wrap ((sumA (La.take i) : Int) + (s.a : Int)) = (z : Int) := by rw [IntWalk.i64_in _ (by omega)]; omega
        have t4 : decide ((z : Int) < (k : Int)) = true := decide_eq_true (by omega)
        have HSAME := Lib.hid hsame; have HZZ := Lib.hid hzz
        have HX1 : Hid (∀ W, Below w7.heap.size w7 W → W.cell? ⟨(a.add (i * 4)).block, (a.add (i * 4)).off + 1, none⟩ = some (.int .u64 (s.a : Int))) := Lib.hid fun W hW => by
          obtain ⟨a9, _, _, ea9, _, _, z1, _⟩ := (HRA.out.below hW).sht (HSA.out.keep hW (Nat.le_refl _)) i hlt
          injection ea9 with ea9; subst ea9
          rw [ea'] at z1; exact z1
        clear hsame hzz hR hR' ea eb ea' eb' hst hsm
        generalize sumA (La.take i) = z0 at *
        go_upto_region 16 with (fail)
        go_still_tail 13, (by kernel_rfl)
        go_wp2_with (go_at_call 22; (with_reducible refine HSAME.out.mono ?_); rintro y w8 ⟨rfl, hb8⟩; have HB8 := Lib.hid (HBl.out.drew.trans (hb8.mono HBl.out.drew.size)); have u1 := HX1.out _ HB8.out; clear hb8)
        go_roundw
        case rel => exact ⟨i + 1, by omega, by go_num, by rw [HZZ.out], HB8.out⟩
        case measure => simp [intOf]; omega
      · rcases hex with ⟨hlt, hz⟩ | rfl
        · obtain ⟨s, ea⟩ : ∃ s, La[i]? = some s := ⟨La[i], List.getElem?_eq_getElem hlt⟩
          obtain ⟨_, ea'⟩ := List.getElem?_eq_some_iff.1 ea
          have hsm := sumA_mem La s (List.mem_of_getElem? ea)
          rw [HSUM.out] at hsm
          have hst := sumA_take La i s ea
          obtain ⟨a, Ad, cd, rfl, hab, x0, x1, x2, x3, hR, hd1, hd2⟩ := (HRA.out.below HBl.out).sht (HSA.out.keep HBl.out (Nat.le_refl _)) i hlt
          rw [ea'] at x0 x1 x2 x3 hR
          have q3 : (0 : Int) ≤ (i : Int) := by omega
          have q4 : (i : Int) < (La.length : Int) := by omega
          have wsa : IntKind.i64.wrap (s.a : Int) = (s.a : Int) := IntWalk.i64_in _ (by omega)
          obtain ⟨z, hzz⟩ : ∃ z, sumA (La.take (i + 1)) = z := ⟨_, rfl⟩
          rw [hzz] at hz hst
          have hzb : z ≤ La.length + l.length + 1000 := by
            have := leaves_sum m l
            have hle := sumA_app (La.take (i + 1)) (La.drop (i + 1))
            rw [List.take_append_drop, HSUM.out, hzz] at hle
            omega
          have wz : IntKind.i64.wrap ((sumA (La.take i) : Int) + (s.a : Int)) = (z : Int) := by rw [IntWalk.i64_in _ (by omega)]; omega
          have t4 : decide ((z : Int) < (k : Int)) = false := decide_eq_false (by omega)
          clear hzz hR ea ea' hst hsm hzb
          generalize sumA (La.take i) = z0 at *
          go_wp2
          go_meet
          case rel => exact HBl
        · have q4 : ¬ (La.length : Int) < (La.length : Int) := by omega
          go_wp2
          go_meet
          case rel => exact HBl
  case rest =>
    have HB8 := hcut
    clear hcut
    have hle60 : l.length ≤ 60 := hl60
    go_wp2_with fail
    go_loopw [15] (fun vi wr => ∃ i : Nat, k + 1 ≤ i ∧ i ≤ l.length ∧ vi = .int .i64 (i : Int) ∧ Hid (Below w7.heap.size w7 wr)) (fun vi _ => l.length - (intOf vi).toNat)
    case atStart => exact ⟨k + 1, by omega, by omega, by go_num, HB8⟩
    case round =>
      obtain ⟨i, hi1, hi, rfl, HBl⟩ := hrel
      have hbw : Below w.heap.size w wr := HBW7.out.trans (HBl.out.mono HBW7.out.size)
      have HBWR := Lib.hid hbw
      clear hbw
      by_cases hlt : i < l.length
      · obtain ⟨a, D2, d2, D3, d3, rfl, hab, x0, _, _, _, _⟩ := (HG7.out.keep (HBl.out.mono hB7) (Nat.le_refl _)).cellAt hlt
        have hbk := HBK.out i (by omega) hlt
        have q3 : (0 : Int) ≤ (i : Int) := by omega
        have q4 : (i : Int) < (l.length : Int) := by omega
        obtain ⟨ky, hky⟩ : ∃ ky, l[i].key = ky := ⟨_, rfl⟩
        rw [hky] at x0 hbk
        have HBRK := Lib.hid (fun W => refBreak_any ky 0 W)
        clear hky
        cases hbr : brkB ky 0
        case false =>
          rw [hbr] at HBRK
          clear hbk hbr
          go_wp2_with (go_at_call 23; (with_reducible refine (HBRK.out _).mono ?_); rintro y w9 ⟨rfl, rfl⟩)
          go_roundw
          case rel => exact ⟨i + 1, by omega, by omega, by go_num, HBl⟩
          case measure => simp [intOf]; omega
        case true =>
          obtain ⟨T, ssA, ssB, eA, eB, hT, hpos⟩ := hbk hbr
          rw [hbr] at HBRK
          have HTA := Lib.hid (fun j (hj : j < T.length) => (show La[La.length - (j + 1)]? = T[T.length - (j + 1)]? by rw [eA]; exact tail_get ssA T j hj))
          have HTB := Lib.hid (fun j (hj : j < T.length) => (show Lb[Lb.length - (j + 1)]? = T[T.length - (j + 1)]? by rw [eB]; exact tail_get ssB T j hj))
          have hTa : T.length ≤ La.length := by rw [eA, List.length_append]; omega
          have hTb : T.length ≤ Lb.length := by rw [eB, List.length_append]; omega
          have hl0 := leftT_zero T
          rw [hT] at hl0
          have HL0 := Lib.hid hl0; have HPOS := Lib.hid hpos; have HTT := Lib.hid hT
          clear hbk hbr eA eB hT hpos hl0
          go_wp2_with (go_at_call 23; (with_reducible refine (HBRK.out _).mono ?_); rintro y w9 ⟨rfl, rfl⟩)
          go_loopw [16, 17] (fun vk vl ws => ∃ j left : Nat, j ≤ T.length ∧ vk = .int .i64 (j : Int) ∧ vl = .int .i64 (left : Int) ∧ Hid (leftT T j = left) ∧ Hid (Below w7.heap.size w7 ws)) (fun vk _ _ => T.length - (intOf vk).toNat)
          case atStart => exact ⟨0, l.length - i, by omega, rfl, (by congr 1; omega), Lib.hid HL0.out, HBl⟩
          case round =>
            obtain ⟨j, left, hj, rfl, rfl, HLF, HBs⟩ := hrel
            cases left with
            | zero =>
              have hbw : Below w.heap.size w wr := HBW7.out.trans (HBs.out.mono HBW7.out.size)
              have HBWS := Lib.hid hbw
              clear hbw
              simp only [show ((0 : Nat) : Int) = 0 from rfl]
              go_wp2_with (go_at_call 20; (with_reducible refine (awake25_any _).mono ?_); rintro y w9 ⟨rfl, hb9⟩; have HB9 := Lib.hid (belT HBWS.out hb9); clear hb9)
              go_ret
              exact ⟨rfl, HB9.out⟩
            | succ left =>
              have hjl : j < T.length := leftT_zero_of HPOS.out hj (by rw [HLF.out]; omega)
              obtain ⟨s, es, hst⟩ := leftT_succ T j hjl
              have hsum := leftT_le T j
              rw [HTT.out] at hsum
              rw [HLF.out] at hst hsum
              have ga := HTA.out j hjl
              have gb := HTB.out j hjl
              rw [es] at ga gb
              obtain ⟨p, hp⟩ : ∃ p : Nat, La.length = p + (j + 1) := ⟨La.length - (j + 1), by omega⟩
              obtain ⟨q, hq⟩ : ∃ q : Nat, Lb.length = q + (j + 1) := ⟨Lb.length - (j + 1), by omega⟩
              rw [show La.length - (j + 1) = p from by omega] at ga
              rw [show Lb.length - (j + 1) = q from by omega] at gb
              obtain ⟨hpl, ga'⟩ := List.getElem?_eq_some_iff.1 ga
              obtain ⟨hql, gb'⟩ := List.getElem?_eq_some_iff.1 gb
              obtain ⟨a1, Ad, cd, rfl, hab1, x1, x2, x3, x4, hR, hd1, hd2⟩ := (HRA.out.below HBs.out).sht (HSA.out.keep HBs.out (Nat.le_refl _)) p hpl
              obtain ⟨a2, Ad', cd', rfl, hab2, y1, y2, y3, y4, hR', hd1', hd2'⟩ := (HRB.out.below HBs.out).sht (HSB.out.keep HBs.out (Nat.le_refl _)) q hql
              rw [ga'] at x1 x2 x3 x4 hR
              rw [gb'] at y1 y2 y3 y4 hR'
              have hsame := same20_any wr.drew w7.heap.size s Ad Ad' cd cd' hR.drew hR'.drew HBs.out.size
              have wp : IntKind.i64.wrap ((La.length : Int) - ((j : Int) + 1)) = (p : Int) := by rw [IntWalk.i64_in _ (by omega)]; omega
              have wq : IntKind.i64.wrap ((Lb.length : Int) - ((j : Int) + 1)) = (q : Int) := by rw [IntWalk.i64_in _ (by omega)]; omega
              have wpb : (La.length : Int) - ((j : Int) + 1) = (p : Int) := by omega
              have wpp : IntKind.i64.wrap (p : Int) = (p : Int) := IntWalk.i64_in _ (by omega)
              have p1 : (0 : Int) ≤ (p : Int) := by omega
              have p2 : (p : Int) < (La.length : Int) := by omega
              have p3 : (0 : Int) ≤ (q : Int) := by omega
              have p4 : (q : Int) < (Lb.length : Int) := by omega
              have t3 : decide ((La.length : Int) < (j : Int) + 1) = false := decide_eq_false (by omega)
              have t4 : decide ((Lb.length : Int) < (j : Int) + 1) = false := decide_eq_false (by omega)
              have wra : IntKind.i64.wrap (s.a : Int) = (s.a : Int) := IntWalk.i64_in _ (by omega)
              obtain ⟨z, hzz⟩ : ∃ z, leftT T (j + 1) = z := ⟨_, rfl⟩
              rw [hzz] at hst
              have wz : IntKind.i64.wrap (((left + 1 : Nat) : Int) - (s.a : Int)) = (z : Int) := by rw [IntWalk.i64_in _ (by omega)]; omega
              have wzz : IntKind.i64.wrap (z : Int) = (z : Int) := IntWalk.i64_in _ (by omega)
              have wz2 : ((left + 1 : Nat) : Int) - (s.a : Int) = (z : Int) := by omega
              have HSAME := Lib.hid hsame; have HZZ := Lib.hid hzz
              have HX1 : Hid (∀ W, Below w7.heap.size w7 W → W.cell? ⟨(a1.add (p * 4)).block, (a1.add (p * 4)).off + 1, none⟩ = some (.int .u64 (s.a : Int))) := Lib.hid fun W hW => by
                obtain ⟨a9, _, _, ea9, _, _, z1, _⟩ := (HRA.out.below hW).sht (HSA.out.keep hW (Nat.le_refl _)) p hpl
                injection ea9 with ea9; subst ea9
                rw [ga'] at z1; exact z1
              have HP := Lib.hid hp; have HQ := Lib.hid hq; have HST := Lib.hid hst; have HSUM2 := Lib.hid hsum
              clear hsame hzz hR hR' ga gb ga' gb' hst es hsum hp hq
              go_upto_region 26 with (fail)
              skip
              go_still_tail 25, (by kernel_rfl)
              go_wp2_with (go_at_call 22; (with_reducible refine HSAME.out.mono ?_); rintro y w8 ⟨rfl, hb8⟩; have HB9 := Lib.hid (HBs.out.drew.trans (hb8.mono HBs.out.drew.size)); have u1 := HX1.out _ HB9.out; clear hb8)
              go_roundw
              case rel => exact ⟨j + 1, z, by omega, by go_num, by have g1 := HST.out; have g2 := HSUM2.out; congr 1; rw [IntWalk.wrap64_in _ (by omega)]; omega, HZZ, HB9⟩
              case measure => simp [intOf]; omega
      · go_wp2_with (go_at_call 20; (with_reducible refine (awake25_any _).mono ?_); rintro y w9 ⟨rfl, hb9⟩; have HB9 := Lib.hid (belT HBWR.out hb9); clear hb9)
        go_ret
        exact ⟨rfl, HB9.out⟩
end Go.Proofs.Ytfhmaincnlaapaa
