/-
  bushelref07.high, U, I, T: the document's codes are the same lists of bytes.
  bushelref07.GetU: the document's U of any bytes is the same.
-/
import Derived.Test.YtfhmaincnlaapaaGetWalks
import Derived.Test.YtfhmaincnlaapaaBlk
namespace Go.Proofs.Ytfhmaincnlaapaa
open Go.ChangeShapes Go.WideShapes Go.ChangeAt Go.RowKit
set_option linter.unusedVariables false

end Go.Proofs.Ytfhmaincnlaapaa
namespace Go.Proofs.Ytfhmaincnlaapaa
open Go.ChangeShapes Go.WideShapes Go.ChangeAt Go.RowKit
set_option linter.unusedVariables false

theorem wdF_div (f x k : Nat) (h : x < 256 ^ f) : (x / 256 ^ k = 0 ↔ wdF f x ≤ k) := by
  induction f generalizing x k with
  | zero => simp at h; subst h; simp [wdF]
  | succ f ih =>
    rw [wdF]
    by_cases h0 : x = 0
    · rw [if_pos h0, h0]; simp
    · rw [if_neg h0]
      cases k with
      | zero => simp; exact h0
      | succ k =>
        have := ih (x / 256) k (by rw [Nat.pow_succ] at h; omega)
        rw [Nat.pow_succ, Nat.mul_comm, ← Nat.div_div_eq_div_mul, this]; omega
theorem wd_div (x k : Nat) (h : x < 18446744073709551616) : (x / 256 ^ k = 0 ↔ wd x ≤ k) := wdF_div 8 x k (by simpa using h)
theorem div_step (x k : Nat) : x / 256 ^ k / 256 = x / 256 ^ (k + 1) := by rw [Nat.div_div_eq_div_mul, Nat.pow_succ]
/-- a slice of one byte that the call has just laid, with a slice of the call's own appended to it -/
theorem own_lit1n (w : World) (z : Int) (b : Nat) (base : Nat) (hbase : base ≤ w.heap.size) (hz : z = ((b % 256 : Nat) : Int)) : (w.alloc (.cells #[.int .u8 z] 5)).ownsRow base 5 1 (.slice (some ⟨w.heap.size, 0, none⟩) 1 1) 1 (u8s [UInt8.ofNat b]) := by
  have := own_lit1 w (.int .u8 z) base hbase 5
  have e : u8s [UInt8.ofNat b] = [.int .u8 z] := by
    simp only [u8s, List.map_cons, List.map_nil, UInt8.toNat_ofNat', hz]
  rw [e]; exact this
theorem appd_lit {B : Nat} {w w' : World} {o : Obj} {v' : Value} (hB : B ≤ w.heap.size) (h : Appd (w.alloc o) w' (.slice (some ⟨w.heap.size, 0, none⟩) 1 1) v') : Below B w w' :=
  (((Below.refl _ w).alloc (Nat.le_refl _) _).grown h.1 (by simp) (fun k hk => by cases hk; exact Nat.le_refl _)).mono hB

set_option maxRecDepth 20000 in
set_option maxHeartbeats 1000000 in
theorem high_any (x least : Nat) (w : World) (hx : x < 18446744073709551616) (hl : least ≤ 8) :
    Calls Try.prog 156 #[.int .u64 (x : Int), .int .i64 (least : Int)] w fun e w' => ∃ v, e = .returned v ∧ w'.ownsRow w.heap.size 5 1 v (max (wd x) least) (u8s (be (max (wd x) least) x)) ∧ Below w.heap.size w w' := by
  have hw := wd_le x
  go_enter Try.func156, Try.ntmps156
  go_wp2
  go_loopw [0, 5] (fun y v wr => ∃ k z : Nat, k ≤ max (wd x) least ∧ y = .int .u64 (z : Int) ∧ z < 18446744073709551616 ∧ Hid (z = x / 256 ^ k) ∧ wr.ownsRow w.heap.size 5 1 v k (u8s (be k x)) ∧ Below w.heap.size w wr) (fun _ v _ => max (wd x) least - lenOf v)
  case atStart => exact ⟨0, x, by omega, rfl, hx, by show x = _; simp, by simpa [be, u8s] using World.ownsRow_nil w w.heap.size _ 1, Below.refl _ _⟩
  case round =>
    obtain ⟨k, z, hk, rfl, hz, Z, ho, hb⟩ := hrel
    have hbz := hb.size
    obtain ⟨A, c, rfl, hc, _, _⟩ := own_form ho
    have hd := wd_div x k hx
    have hR := Rd.own ho
    by_cases hmore : 0 < z ∨ k < least
    · have hk2 : k + 1 ≤ max (wd x) least := by
        rcases hmore with h | h
        · have : ¬ wd x ≤ k := fun hh => by have := hd.2 hh; have := Z.out; omega
          omega
        · omega
      have hlit := own_lit1n wr ((z : Int) % 256) (x / 256 ^ k) w.heap.size hbz (by have := Z.out; omega)
      have hRa := hR.alloc (Nat.le_refl _) (.cells #[.int .u8 ((z : Int) % 256)] 5)
      have HLIT := Lib.hid hlit; have HRA := Lib.hid hRa; have HD := Lib.hid hd; clear hlit hRa hd
      by_cases hz0 : 0 < z
      all_goals
        go_wp2_with (at_builtin; refine wpList_appS _ rfl _ _ 53 rfl w.heap.size 5 _ 1 1 info_u8 rfl (by decide) Try.underlying53 _ _ _ HLIT.out rfl _ _ _ _ _ HRA.out rfl (u8s_one _) ?_ ?_ ?_ ?_; omega; omega; (simp only [World.size_alloc]; omega); intro v2 w2 ho2 hb2)
        obtain ⟨A2, c2, rfl, _⟩ := own_form ho2
        go_roundw
        case rel =>
          refine ⟨k + 1, z / 256, hk2, by go_num, by omega, by show _ = _; rw [← div_step, ← Z.out], ?_, hb.trans (appd_lit hbz hb2)⟩
          rw [show k + 1 = 1 + k by omega]
          have e : u8s [UInt8.ofNat (x / 256 ^ k)] ++ u8s (be k x) = u8s (be (1 + k) x) := by rw [← u8s_append, show 1 + k = k + 1 by omega]; rfl
          rw [← e]; exact ho2
        case measure => simp [lenOf]; omega
    · have hz0 : z = 0 := by omega
      have hk2 : max (wd x) least = k := by
        have := hd.1 (by rw [← Z.out]; exact hz0)
        omega
      have hk3 : ¬ k < least := by omega
      have HK := Lib.hid hk2; have HD := Lib.hid hd; clear hk2 hd hmore hk
      subst hz0
      rw [show ((0 : Nat) : Int) = 0 from rfl]
      go_wp2
      go_ret
      exact ⟨_, rfl, by rw [HK.out]; exact ho, hb⟩

theorem refU_any (x : Nat) (w : World) (hx : x < 18446744073709551616) :
    Calls Try.prog 107 #[.int .u64 (x : Int)] w fun e w' => ∃ v', e = .returned v' ∧ w'.ownsRow w.heap.size 5 1 v' (wd x + 1) (u8s (encU x)) ∧ Below w.heap.size w w' := by
  have hw := wd_le x
  have hh : Calls Try.prog 156 #[.int .u64 (x : Int), .int .i64 0] w fun e w' => ∃ v, e = .returned v ∧ w'.ownsRow w.heap.size 5 1 v (wd x) (u8s (be (wd x) x)) ∧ Below w.heap.size w w' := by
    have := high_any x 0 w hx (by omega)
    rwa [Nat.max_eq_left (Nat.zero_le _)] at this
  have HH := Lib.hid hh; clear hh
  go_enter Try.func107, Try.ntmps107
  go_wp2_with fail
  (with_reducible refine HH.out.mono ?_); rintro e w1 ⟨v1, rfl, ho1, hb1⟩
  obtain ⟨A, c, rfl, hc, _, _⟩ := own_form ho1
  have hbz := hb1.size
  have hR := Rd.own ho1
  have hlit := own_lit1n w1 (wd x : Int) (wd x) w.heap.size hbz (by omega)
  have hRa := hR.alloc (Nat.le_refl _) (.cells #[.int .u8 (wd x : Int)] 5)
  have HLIT := Lib.hid hlit; have HRA := Lib.hid hRa; clear hlit hRa
  go_wp2_with (at_builtin; refine wpList_appS _ rfl _ _ 53 rfl w.heap.size 5 _ 1 1 info_u8 rfl (by decide) Try.underlying53 _ _ _ HLIT.out rfl _ _ _ _ _ HRA.out rfl (u8s_one _) ?_ ?_ ?_ ?_; omega; omega; (simp only [World.size_alloc]; omega); intro v2 w2 ho2 hb2)
  go_ret
  exact ⟨_, rfl, by rw [Nat.add_comm]; rw [← u8s_append] at ho2; exact ho2, hb1.trans (appd_lit hbz hb2)⟩

/-- an owned row's head byte, its mark, and what a store there leaves -/
theorem own_head {w : World} {base n c : Nat} {A : Option Addr} {b : UInt8} {l : List UInt8} (h : w.ownsRow base 5 1 (.slice A n c) n (u8s (b :: l))) :
    ∃ g, A = some ⟨g, 0, none⟩ ∧ base ≤ g ∧ g < w.heap.size ∧ w.cell? ⟨g, 0, none⟩ = some (.int .u8 (b.toNat : Int)) ∧ w.frozen? ⟨g, 0, none⟩ = false ∧
      ∀ d : UInt8, (w.setCell ⟨g, 0, none⟩ (.int .u8 (d.toNat : Int))).ownsRow base 5 1 (.slice A n c) n (u8s (d :: l)) := by
  have hn : n = l.length + 1 := by have := h.1; rw [u8s_length] at this; simp at this; omega
  obtain ⟨g, cap, hv, hg, hgl⟩ := h.form (by omega)
  injection hv with hA _ hcap
  subst hA hcap
  refine ⟨g, rfl, hg, hgl, ?_, h.frozenAt 0, fun d => ?_⟩
  · rw [h.cellAt 0 (by omega)]; rfl
  · have := (h.stored 0 (.int .u8 (d.toNat : Int))).1
    exact this
theorem own_at {w : World} {base n c : Nat} {A : Option Addr} {l : List UInt8} (h : w.ownsRow base 5 1 (.slice A n c) n (u8s l)) (j : Nat) (hj : j < l.length) :
    ∃ g, A = some ⟨g, 0, none⟩ ∧ base ≤ g ∧ g < w.heap.size ∧ w.cell? ⟨g, j, none⟩ = some (.int .u8 ((l[j]'hj).toNat : Int)) ∧ w.frozen? ⟨g, j, none⟩ = false ∧
      ∀ d : UInt8, (w.setCell ⟨g, j, none⟩ (.int .u8 (d.toNat : Int))).ownsRow base 5 1 (.slice A n c) n (u8s (l.set j d)) := by
  have hn : n = l.length := by have := h.1; rw [u8s_length] at this; omega
  obtain ⟨g, cap, hv, hg, hgl⟩ := h.form (by omega)
  injection hv with hA _ hcap
  subst hA hcap
  refine ⟨g, rfl, hg, hgl, ?_, h.frozenAt j, fun d => ?_⟩
  · rw [h.cellAt j (by omega), u8s_get l j hj]
  · have := (h.stored j (.int .u8 (d.toNat : Int))).1
    have e : (u8s l).set j (.int .u8 (d.toNat : Int)) = u8s (l.set j d) := by unfold u8s; rw [List.map_set]
    rw [e] at this
    exact this
set_option maxHeartbeats 1000000 in
theorem refI_pos (x : Nat) (w : World) (hx : x < 9223372036854775808) :
    Calls Try.prog 123 #[.int .i64 (x : Int)] w fun e w' => ∃ v', e = .returned v' ∧ w'.ownsRow w.heap.size 5 1 v' (encI x).length (u8s (encI x)) ∧ Below w.heap.size w w' := by
  have hw := wd_le x
  have hu := refU_any x w (by omega)
  have he : encI (x : Int) = UInt8.ofNat (9 + wd x) :: be (wd x) x := by unfold encI; rw [if_pos (by omega)]; simp
  have hl : (encI (x : Int)).length = wd x + 1 := by rw [he]; simp [be_length]
  have HU := Lib.hid hu; have HE := Lib.hid he; have HL := Lib.hid hl; clear hu he hl
  go_enter Try.func123, Try.ntmps123
  go_wp2_with fail
  (with_reducible refine HU.out.mono ?_); rintro e w1 ⟨v1, rfl, ho1, hb1⟩
  obtain ⟨A, c, rfl, hc, _, _⟩ := own_form ho1
  obtain ⟨g, rfl, hg, hgl, hcell, hfr, hset⟩ := own_head (b := UInt8.ofNat (wd x)) (l := be (wd x) x) ho1
  have e1 : (UInt8.ofNat (wd x)).toNat = wd x := by rw [UInt8.toNat_ofNat']; omega
  rw [e1] at hcell
  have hs2 := hset (UInt8.ofNat (9 + wd x))
  have e2 : (UInt8.ofNat (9 + wd x)).toNat = wd x + 9 := by rw [UInt8.toNat_ofNat']; omega
  rw [e2] at hs2
  have HS := Lib.hid hs2; have HO := Lib.hid ho1; have E1 := Lib.hid e1; have E2 := Lib.hid e2; have HSET := Lib.hid hset; clear hs2 ho1 e1 e2 hset
  go_wp2
  go_ret
  exact ⟨_, rfl, by rw [HL.out, HE.out]; exact HS.out, hb1.setCell hg _⟩
/-- a list whose first j bytes are turned about -/
def fl (l : List UInt8) (j : Nat) : List UInt8 := (l.take j).map (255 - ·) ++ l.drop j
theorem fl_length (l : List UInt8) (j : Nat) (h : j ≤ l.length) : (fl l j).length = l.length := by simp [fl]; omega
theorem fl_zero (l : List UInt8) : fl l 0 = l := by simp [fl]
theorem fl_end (l : List UInt8) : fl l l.length = l.map (255 - ·) := by simp [fl]
theorem fl_get? (l : List UInt8) (j : Nat) (h : j < l.length) : (fl l j)[j]? = some l[j] := by
  unfold fl
  have hj : ((l.take j).map (255 - ·)).length = j := by simp; omega
  rw [List.getElem?_append_right (by omega), hj, Nat.sub_self, List.drop_eq_getElem_cons h]
  rfl
theorem fl_get (l : List UInt8) (j : Nat) (h : j < l.length) (h' : j < (fl l j).length) : (fl l j)[j] = l[j] := by
  have := fl_get? l j h
  rw [List.getElem?_eq_getElem h'] at this
  injection this
theorem fl_set (l : List UInt8) (j : Nat) (h : j < l.length) : (fl l j).set j (255 - l[j]) = fl l (j + 1) := by
  unfold fl
  have hj : ((l.take j).map (255 - ·)).length = j := by simp; omega
  rw [List.set_append_right _ _ (by omega), hj, Nat.sub_self, List.drop_eq_getElem_cons h, List.set_cons_zero, List.take_succ_eq_append_getElem h, List.map_append, List.append_assoc]
  rfl
theorem sub255 (b : UInt8) : (255 : Int) - (b.toNat : Int) = (((255 - b : UInt8)).toNat : Int) := by
  have hb := b.toNat_lt
  rw [UInt8.toNat_sub_of_le _ _ (by rw [UInt8.le_iff_toNat_le]; simp; omega)]
  simp; omega
set_option maxHeartbeats 1000000 in
theorem refI_neg (y : Nat) (w : World) (hy : y < 9223372036854775808) :
    Calls Try.prog 123 #[.int .i64 (-1 - (y : Int))] w fun e w' => ∃ v', e = .returned v' ∧ w'.ownsRow w.heap.size 5 1 v' (encI (-1 - (y : Int))).length (u8s (encI (-1 - (y : Int)))) ∧ Below w.heap.size w w' := by
  have hw := wd_le y
  have hh : Calls Try.prog 156 #[.int .u64 (y : Int), .int .i64 0] w fun e w' => ∃ v, e = .returned v ∧ w'.ownsRow w.heap.size 5 1 v (wd y) (u8s (be (wd y) y)) ∧ Below w.heap.size w w' := by
    have := high_any y 0 w (by omega) (by omega)
    rwa [Nat.max_eq_left (Nat.zero_le _)] at this
  have he : encI (-1 - (y : Int)) = UInt8.ofNat (8 - wd y) :: (be (wd y) y).map (255 - ·) := by
    unfold encI
    rw [if_neg (by omega)]
    have e : (-(-1 - (y : Int) + 1)).toNat = y := by omega
    rw [e, be_flip _ _ hw (by omega)]
  have hl : (encI (-1 - (y : Int))).length = 1 + wd y := by rw [he]; simp [be_length]; omega
  have hyy : (-1 : Int) - (-1 - (y : Int)) = (y : Int) := by omega
  have hneg : -1 - (y : Int) < 0 := by omega
  have hbl := be_length (wd y) y
  generalize be (wd y) y = l at *
  generalize hk : wd y = k at *
  have HH := Lib.hid hh; have HE := Lib.hid he; have HL := Lib.hid hl; have HBL := Lib.hid hbl; have HK := Lib.hid hk; clear hh he hl hbl hk
  go_enter Try.func123, Try.ntmps123
  go_wp2_with fail
  (with_reducible refine HH.out.mono ?_); rintro e w1 ⟨v1, rfl, ho1, hb1⟩
  obtain ⟨A, c, rfl, hc, _, _⟩ := own_form ho1
  have hbz := hb1.size
  have HO1 := Lib.hid ho1; have HC := Lib.hid hc; clear ho1 hc
  go_wp2
  go_loopw [5] (fun i wr => ∃ j : Nat, j ≤ k ∧ i = .int .i64 (j : Int) ∧ wr.ownsRow w.heap.size 5 1 (.slice A k c) k (u8s (fl l j)) ∧ Below w.heap.size w wr) (fun i _ => k - (intOf i).toNat)
  case atStart => exact ⟨0, by omega, rfl, by rw [fl_zero]; exact HO1.out, hb1⟩
  case round =>
    obtain ⟨j, hj, rfl, ho, hb⟩ := hrel
    by_cases hlt : j < k
    · have hjl : j < l.length := by rw [HBL.out]; exact hlt
      have hfl := fl_length l j (by omega)
      obtain ⟨g, rfl, hg, hgl, hcell, hfr, hset⟩ := own_at ho j (by omega)
      rw [fl_get l j hjl] at hcell
      have hs := sub255 l[j]
      have hs2 := hset (255 - l[j])
      rw [fl_set l j hjl] at hs2
      have hb8 := l[j].toNat_lt
      generalize l[j] = b at *
      have HS := Lib.hid hs; have HS2 := Lib.hid hs2; have HF := Lib.hid hfl; have HSET := Lib.hid hset; have HO := Lib.hid ho; clear hs hs2 hfl hset ho hjl
      go_wp2
      go_roundw
      case rel => exact ⟨j + 1, by omega, by go_num, by rw [HS.out]; exact HS2.out, hb.setCell hg _⟩
      case measure => simp [intOf]; omega
    · obtain rfl : k = j := by omega
      have efl : fl l k = l.map (255 - ·) := by rw [← HBL.out]; exact fl_end l
      rw [efl] at ho
      have hbz2 := hb.size
      have hR := Rd.own ho
      have hlit := own_lit1n wr (8 - (k : Int)) (8 - k) w.heap.size hbz2 (by omega)
      have hRa := hR.alloc (Nat.le_refl _) (.cells #[.int .u8 (8 - (k : Int))] 5)
      have HLIT := Lib.hid hlit; have HRA := Lib.hid hRa; have EFL := Lib.hid efl; clear hlit hRa hR efl
      go_wp2_with (at_builtin; refine wpList_appS _ rfl _ _ 53 rfl w.heap.size 5 _ 1 1 info_u8 rfl (by decide) Try.underlying53 _ _ _ HLIT.out rfl _ _ _ _ _ HRA.out rfl (u8s_one _) ?_ ?_ ?_ ?_; omega; omega; (simp only [World.size_alloc]; omega); intro v2 w2 ho2 hb2)
      go_ret
      exact ⟨_, rfl, by rw [HL.out, HE.out]; rw [← u8s_append] at ho2; exact ho2, hb.trans (appd_lit hbz2 hb2)⟩
theorem refI_any (z : Int) (w : World) (h1 : -9223372036854775808 ≤ z) (h2 : z ≤ 9223372036854775807) :
    Calls Try.prog 123 #[.int .i64 z] w fun e w' => ∃ v', e = .returned v' ∧ w'.ownsRow w.heap.size 5 1 v' (encI z).length (u8s (encI z)) ∧ Below w.heap.size w w' := by
  by_cases hz : 0 ≤ z
  · obtain ⟨x, rfl⟩ := Int.eq_ofNat_of_zero_le hz
    exact refI_pos x w (by omega)
  · obtain ⟨y, hy⟩ := Int.eq_ofNat_of_zero_le (show 0 ≤ -1 - z by omega)
    obtain rfl : z = -1 - (y : Int) := by omega
    exact refI_neg y w (by omega)
end Go.Proofs.Ytfhmaincnlaapaa
