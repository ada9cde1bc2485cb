/-
  WHAT code.wide, bytes, U, I, T GIVE: the codes of layer 7, in a slice of the call's own.
-/
import Derived.Test.YtpnolgghbenekaaCodePure
namespace Go.Proofs.Ytpnolgghbenekaa
open Go.ChangeShapes Go.WideShapes Go.ChangeAt Go.RowKit
set_option linter.unusedVariables false

theorem wide_any (x : Nat) (w : World) (hx : x < 18446744073709551616) :
    Calls Try.prog 126 #[.int .u64 (x : Int)] w fun e w' => e = .returned (.int .i64 (wd x : Nat)) ∧ w = w' := by
  go_enter Try.func126, Try.ntmps126
  go_wp2
  go_loop [0, 3] (fun v n => ∃ (y k : Nat), y < 18446744073709551616 ∧ v = .int .u64 (y : Int) ∧ n = .int .i64 (k : Int) ∧ k + wd y = wd x) (fun v _ => (intOf v).toNat)
  case atStart => exact ⟨x, 0, hx, rfl, rfl, by omega⟩
  case round =>
    obtain ⟨y, k, hy, rfl, rfl, hk⟩ := hrel
    have hw := wd_le x
    have hk2 : k ≤ 8 := by omega
    have K := Lib.hid hk; clear hk
    by_cases h0 : 0 < y
    · go_wp2
      go_round
      case rel => exact ⟨y / 256, k + 1, by omega, by go_num, by go_num, by have := K.out; have := wd_step y hy h0; omega⟩
      case measure => simp [intOf]; omega
    · obtain rfl : y = 0 := by omega
      go_wp2
      go_ret
      exact ⟨by have := K.out; rw [wd_zero] at this; simp at this; rw [← this]; rfl, rfl⟩

theorem info_u8 : (Try.prog.info? 5).map (fun i => (i.zero, i.size, i.bytes)) = some (some (.int .u8 0), 1, 1) := by kernel_rfl

set_option maxRecDepth 20000 in
theorem bytes_any (base n x k : Nat) (v : Value) (xs : List UInt8) (w : World) (hown : w.ownsRow base 5 1 v n (u8s xs)) (hbase : base ≤ w.heap.size) (hx : x < 18446744073709551616) (hk : k ≤ 8) (hn : n ≤ 1000000) :
    Calls Try.prog 127 #[v, .int .u64 (x : Int), .int .i64 (k : Int)] w fun e w' => ∃ v', e = .returned v' ∧ w'.ownsRow base 5 1 v' (n + k) (u8s (xs ++ be k x)) ∧ Appd w w' v v' := by
  go_enter Try.func127, Try.ntmps127
  go_wp2
  go_loopw [0, 7] (fun v1 i wr => ∃ j m : Nat, j + m = k ∧ i = .int .i64 ((j : Int) - 1) ∧ wr.ownsRow base 5 1 v1 (n + m) (u8s (xs ++ (be k x).take m)) ∧ Appd w wr v v1) (fun _ i _ => (intOf i + 1).toNat)
  case atStart => exact ⟨k, 0, by omega, rfl, by simpa using hown, Appd.refl _ _⟩
  case round =>
    obtain ⟨j, m, hj, rfl, ho, hb⟩ := hrel
    have hbz : base ≤ wr.heap.size := Nat.le_trans hbase hb.1.size
    have J := Lib.hid hj; clear hj
    cases j with
    | succ j =>
      rw [show ((j + 1 : Nat) : Int) - 1 = (j : Int) from by omega]
      have hm : 8 * (j : Int) ≤ 56 := by have := J.out; omega
      have hm2 : m ≤ 7 := by have := J.out; omega
      go_wp2_with (at_builtin; go_loud (refine wpList_app1 _ _ rfl rfl _ _ 36 rfl base 5 _ 1 info_u8 rfl Try.underlying36 _ _ _ ho rfl rfl ?_ ?_ ?_ ?_); omega; omega; exact hbz; intro v2 w2 ho2 hb2)
      go_roundw
      case rel => exact ⟨j, m + 1, by have := J.out; omega, rfl, by rw [be_take _ _ _ (by have := J.out; omega), ← List.append_assoc, ← u8s_snoc _ _ _ (be_cell x j m k J.out)]; exact ho2, hb.trans hb2⟩
      case measure => simp [intOf]
    | zero =>
      obtain rfl : m = k := by have := J.out; omega
      go_wp2
      go_ret
      exact ⟨_, rfl, by rw [List.take_of_length_le (by rw [be_length]; omega)] at ho; exact ho, hb⟩

/-- a slice of one byte that the call has just laid -/
theorem own_lit1 (w : World) (u : Value) (base : Nat) (hb : base ≤ w.heap.size) (e : TypeId) : (w.alloc (.cells #[u] e)).ownsRow base e 1 (.slice (some ⟨w.heap.size, 0, none⟩) 1 1) 1 [u] :=
  World.ownsRow_lit w #[u] 1 hb (by simp [maxLen]) (by simp)
theorem appd_lit1 {w w' : World} {u v' : Value} {e : TypeId} (h : Appd (w.alloc (.cells #[u] e)) w' (.slice (some ⟨w.heap.size, 0, none⟩) 1 1) v') : Below w.heap.size w w' ∧ ∀ k, v'.ownBlock = some k → w.heap.size ≤ k := by
  have hsz : (w.alloc (.cells #[u] e)).heap.size = w.heap.size + 1 := by simp
  refine ⟨((Below.refl _ w).alloc (Nat.le_refl _) _).grown h.1 (by omega) (fun k hk => by cases hk; exact Nat.le_refl _), fun k hk => ?_⟩
  rcases h.2 with e | ⟨i, e, hi⟩
  · rw [e] at hk; cases hk; exact Nat.le_refl _
  · rw [e] at hk; cases hk; omega

theorem own_lit1b (w : World) (z : Int) (b : Nat) (hz : z = (b : Int)) (hb : b < 256) : (w.alloc (.cells #[.int .u8 z] 5)).ownsRow w.heap.size 5 1 (.slice (some ⟨w.heap.size, 0, none⟩) 1 1) 1 (u8s [UInt8.ofNat b]) := by
  have := own_lit1 w (.int .u8 z) w.heap.size (Nat.le_refl _) 5
  have e : u8s [UInt8.ofNat b] = [.int .u8 z] := by
    simp only [u8s, List.map_cons, List.map_nil, UInt8.toNat_ofNat', hz]
    rw [Nat.mod_eq_of_lt (by omega)]
  rw [e]; exact this

theorem codeU_any (x : Nat) (w : World) (hx : x < 18446744073709551616) :
    Calls Try.prog 106 #[.int .u64 (x : Int)] w fun e w' => ∃ v', e = .returned v' ∧ w'.ownsRow w.heap.size 5 1 v' (wd x + 1) (u8s (encU x)) ∧ Below w.heap.size w w' := by
  have hw := wd_le x
  have hc := bytes_any w.heap.size 1 x (wd x) _ [UInt8.ofNat (wd x)] _ (own_lit1b w (wd x : Int) (wd x) rfl (by omega)) (by simp) hx hw (by omega)
  go_enter Try.func106, Try.ntmps106
  go_wp2_with (first | (go_at_call 126; (with_reducible refine (wide_any x _ hx).mono ?_); rintro e w' ⟨rfl, rfl⟩) | (go_at_call 127; (with_reducible refine hc.mono ?_); rintro e w' ⟨v', rfl, ho, hb⟩))
  go_ret
  exact ⟨_, rfl, by rw [Nat.add_comm]; exact ho, (appd_lit1 hb).1⟩

theorem codeI_any (z : Int) (w : World) (h1 : -9223372036854775808 ≤ z) (h2 : z ≤ 9223372036854775807) :
    Calls Try.prog 121 #[.int .i64 z] w fun e w' => ∃ v', e = .returned v' ∧ w'.ownsRow w.heap.size 5 1 v' (encI z).length (u8s (encI z)) ∧ Below w.heap.size w w' := by
  by_cases hz : 0 ≤ z
  · obtain ⟨x, rfl⟩ := Int.eq_ofNat_of_zero_le hz
    have hx : x < 18446744073709551616 := by omega
    have hw := wd_le x
    have he : encI (x : Int) = UInt8.ofNat (9 + wd x) :: be (wd x) x := by unfold encI; rw [if_pos hz]; simp
    have hc := bytes_any w.heap.size 1 x (wd x) _ [UInt8.ofNat (9 + wd x)] _ (own_lit1b w (9 + (wd x : Int)) (9 + wd x) (by omega) (by omega)) (by simp) hx hw (by omega)
    have hl : (encI (x : Int)).length = 1 + wd x := by rw [he]; simp [be_length]; omega
    have HE := Lib.hid he; clear he
    have HL := Lib.hid hl; clear hl
    go_enter Try.func121, Try.ntmps121
    go_wp2_with (first | (go_at_call 126; (with_reducible refine (wide_any x _ hx).mono ?_); rintro e w' ⟨rfl, rfl⟩) | (go_at_call 127; (with_reducible refine hc.mono ?_); rintro e w' ⟨v', rfl, ho, hb⟩))
    go_ret
    exact ⟨_, rfl, by rw [HL.out, HE.out]; exact ho, (appd_lit1 hb).1⟩
  · obtain ⟨y, hy⟩ := Int.eq_ofNat_of_zero_le (show 0 ≤ -(z + 1) by omega)
    have hx : y < 18446744073709551616 := by omega
    have hx2 : 18446744073709551615 - y < 18446744073709551616 := by omega
    have hw := wd_le y
    have he : encI z = UInt8.ofNat (8 - wd y) :: be (wd y) (18446744073709551615 - y) := by unfold encI; rw [if_neg hz, hy]; simp
    have hl : (encI z).length = 1 + wd y := by rw [he]; simp [be_length]; omega
    have hc := bytes_any w.heap.size 1 (18446744073709551615 - y) (wd y) _ [UInt8.ofNat (8 - wd y)] _ (own_lit1b w (8 - (wd y : Int)) (8 - wd y) (by omega) (by omega)) (by simp) hx2 hw (by omega)
    have hz0 : z < 0 := by omega
    have hyz : z = -1 - (y : Int) := by omega
    have HE := Lib.hid he; clear he
    have HL := Lib.hid hl; clear hl
    have HY := Lib.hid hy; clear hy
    subst hyz
    clear hz
    go_enter Try.func121, Try.ntmps121
    go_wp2_with fail
    rw [show -(-1 - (y : Int) + 1) = (y : Int) from by omega]
    (with_reducible refine (wide_any y _ hx).mono ?_); rintro e w' ⟨rfl, rfl⟩
    go_wp2_with fail
    rw [bits_not64 y hx]
    (with_reducible refine hc.mono ?_); rintro e w' ⟨v', rfl, ho, hb⟩
    go_wp2
    go_ret
    exact ⟨_, rfl, by rw [HL.out, HE.out]; exact ho, (appd_lit1 hb).1⟩

theorem keep_lit (w : World) (o : Obj) : Below w.heap.size w (w.alloc o) := (Below.refl _ w).alloc (Nat.le_refl _) _

set_option maxRecDepth 20000 in
set_option maxHeartbeats 800000 in
theorem codeT_any (s : ByteArray) (w : World) (hs : s.size ≤ 1000000) :
    Calls Try.prog 107 #[.string s] w fun e w' => ∃ v', e = .returned v' ∧ w'.ownsRow w.heap.size 5 1 v' (encT s.data.toList).length (u8s (encT s.data.toList)) ∧ Below w.heap.size w w' := by
  go_enter Try.func107, Try.ntmps107
  go_wp2
  go_loopw [3, 7] (fun v i wr => ∃ k n : Nat, k ≤ s.size ∧ i = .int .i64 (k : Int) ∧ n = (encT0 (s.data.toList.take k)).length ∧ wr.ownsRow w.heap.size 5 1 v n (u8s (encT0 (s.data.toList.take k))) ∧ Below w.heap.size w wr) (fun _ i _ => s.size - (intOf i).toNat)
  case atStart => exact ⟨0, 0, by omega, rfl, by simp [encT0], by simpa [encT0, u8s] using World.ownsRow_nil w w.heap.size _ 1, Below.refl _ _⟩
  case round =>
    obtain ⟨k, n, hk, rfl, hn, ho, hb⟩ := hrel
    have hnb : n ≤ 2 * s.size := by have := encT0_length (s.data.toList.take k); simp at this; omega
    have hbz := hb.size
    by_cases hlt : k < s.size
    · have hsn := encT0_snoc (s.data.toList.take k) s[k]
      have hts : s.data.toList.take (k + 1) = s.data.toList.take k ++ [s[k]] := by
        rw [List.take_succ_eq_append_getElem (by simpa using hlt)]; rfl
      have HS : Hid (encT0 (s.data.toList.take (k + 1)) = encT0 (s.data.toList.take k) ++ (if s[k] = 0 then [0, 1] else [s[k]])) := by rw [hts]; exact hsn
      clear hsn hts
      have HN := Lib.hid hn; clear hn
      by_cases hb0 : s[k] = 0
      · have t1 : ((s[k].toNat : Int) == 0) = true := by rw [hb0]; rfl
        have HB := Lib.hid hb0; clear hb0
        go_wp2_with (first
          | (at_builtin; refine wpList_app1 _ _ rfl rfl _ _ 36 rfl w.heap.size 5 _ 1 info_u8 rfl Try.underlying36 _ _ _ ho rfl rfl ?_ ?_ ?_ ?_; omega; omega; exact hbz; intro v2 w2 ho2 hb2; have hbz2 : w.heap.size ≤ w2.heap.size := Nat.le_trans hbz hb2.1.size)
          | (at_builtin; refine wpList_app1 _ _ rfl rfl _ _ 36 rfl w.heap.size 5 _ 1 info_u8 rfl Try.underlying36 _ _ _ ho2 rfl rfl ?_ ?_ ?_ ?_; omega; omega; exact hbz2; intro v3 w3 ho3 hb3))
        go_roundw
        case rel =>
          refine ⟨k + 1, n + 1 + 1, by omega, by go_num, by rw [HS.out, if_pos HB.out, HN.out]; simp, ?_, (hb.trans ((hb2.trans hb3).below hbz ho |>.mono (Nat.le_refl _)))⟩
          rw [HS.out, if_pos HB.out, show encT0 (List.take k s.data.toList) ++ [0, 1] = (encT0 (List.take k s.data.toList) ++ [0]) ++ [1] from by simp, ← u8s_snoc _ 1 _ rfl, ← u8s_snoc _ 0 _ rfl]
          rw [HB.out] at ho3
          exact ho3
        case measure => simp [intOf]; omega
      · have t1 : ((s[k].toNat : Int) == 0) = false := by
          rw [beq_eq_false_iff_ne]; intro h; exact hb0 (UInt8.toNat_inj.1 (by simp; omega))
        have HB := Lib.hid hb0; clear hb0
        go_wp2_with (at_builtin; refine wpList_app1 _ _ rfl rfl _ _ 36 rfl w.heap.size 5 _ 1 info_u8 rfl Try.underlying36 _ _ _ ho rfl rfl ?_ ?_ ?_ ?_; omega; omega; exact hbz; intro v2 w2 ho2 hb2)
        go_roundw
        case rel =>
          refine ⟨k + 1, n + 1, by omega, by go_num, by rw [HS.out, if_neg HB.out, HN.out]; simp, ?_, (hb.trans (hb2.below hbz ho |>.mono (Nat.le_refl _)))⟩
          rw [HS.out, if_neg HB.out, ← u8s_snoc _ _ _ rfl]
          exact ho2
        case measure => simp [intOf]; omega
    · obtain rfl : k = s.size := by omega
      rw [List.take_of_length_le (by simp)] at hn ho
      have HN := Lib.hid hn; clear hn
      go_wp2_with (at_builtin; refine wpList_appL _ [_, _] 2 rfl ?_ rfl _ _ 36 rfl w.heap.size 5 _ 1 info_u8 rfl Try.underlying36 _ _ _ ho rfl rfl ?_ ?_ ?_ ?_; simp [Value.oneCell']; omega; omega; exact hbz; intro v2 w2 ho2 hb2)
      go_ret
      refine ⟨_, rfl, ?_, hb.trans (hb2.below hbz ho)⟩
      have e : (encT s.data.toList).length = n + 2 := by rw [encT_eq, HN.out]; simp
      rw [e, encT_eq, show encT0 s.data.toList ++ [0, 0] = (encT0 s.data.toList ++ [0]) ++ [0] from by simp, ← u8s_snoc _ 0 _ rfl, ← u8s_snoc _ 0 _ rfl]
      simpa using ho2
end Go.Proofs.Ytpnolgghbenekaa
