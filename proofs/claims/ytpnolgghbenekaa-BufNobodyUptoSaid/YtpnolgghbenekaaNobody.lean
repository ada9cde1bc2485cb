/-
  Nobody's writer and reader: nil, or not made by New.
-/
import Derived.Test.YtpnolgghbenekaaAskBytes
import Derived.Test.YtpnolgghbenekaaBufAwake
namespace Go.Proofs.Ytpnolgghbenekaa
open Go.ChangeShapes Go.WideShapes Go.ChangeAt Go.RowKit
set_option linter.unusedVariables false

def NoIn (w : World) (v : Value) : Prop := v = .pointer none ∨ ∃ g, v = .pointer (some ⟨g, 0, none⟩) ∧ Blk w g 94 #[.bool false, .slice none 0 0, .int .i64 0, .int .i64 0]
def NoOut (w : World) (v : Value) : Prop := v = .pointer none ∨ ∃ g, v = .pointer (some ⟨g, 0, none⟩) ∧ Blk w g 92 #[.bool false, .slice none 0 0]
theorem NoIn.below {w w' : World} {v : Value} (h : NoIn w v) (hb : Below w.heap.size w w') : NoIn w' v := by
  rcases h with h | ⟨g, h, hB⟩
  · exact .inl h
  · exact .inr ⟨g, h, hB.below hb hB.lt⟩
theorem NoOut.below {w w' : World} {v : Value} (h : NoOut w v) (hb : Below w.heap.size w w') : NoOut w' v := by
  rcases h with h | ⟨g, h, hB⟩
  · exact .inl h
  · exact .inr ⟨g, h, hB.below hb hB.lt⟩
theorem NoIn.drewN {w : World} {v : Value} (h : NoIn w v) (n : Nat) : NoIn (w.drewN n) v := h.below (belD (belR w) n)
theorem NoIn.drew {w : World} {v : Value} (h : NoIn w v) : NoIn w.drew v := h.below (belR w).drew
set_option maxRecDepth 20000 in
set_option maxHeartbeats 800000 in
theorem codeTbig_any (s : ByteArray) (w : World) (hs : s.size ≤ 1048576) :
    Calls Try.prog 107 #[.string s] w fun e w' => ∃ v', e = .returned v' ∧ w'.ownsRow w.heap.size 5 1 v' (encT s.data.toList).length (u8s (encT s.data.toList)) ∧ Below w.heap.size w w' := by
  go_enter Try.func107, Try.ntmps107
  go_wp2
  go_loopw [3, 7] (fun v i wr => ∃ k n : Nat, k ≤ s.size ∧ i = .int .i64 (k : Int) ∧ n = (encT0 (s.data.toList.take k)).length ∧ wr.ownsRow w.heap.size 5 1 v n (u8s (encT0 (s.data.toList.take k))) ∧ Below w.heap.size w wr) (fun _ i _ => s.size - (intOf i).toNat)
  case atStart => exact ⟨0, 0, by omega, rfl, by simp [encT0], by simpa [encT0, u8s] using World.ownsRow_nil w w.heap.size _ 1, Below.refl _ _⟩
  case round =>
    obtain ⟨k, n, hk, rfl, hn, ho, hb⟩ := hrel
    have hnb : n ≤ 2 * s.size := by have := encT0_length (s.data.toList.take k); simp at this; omega
    have hbz := hb.size
    by_cases hlt : k < s.size
    · have hsn := encT0_snoc (s.data.toList.take k) s[k]
      have hts : s.data.toList.take (k + 1) = s.data.toList.take k ++ [s[k]] := by
        rw [List.take_succ_eq_append_getElem (by simpa using hlt)]; rfl
      have HS : Hid (encT0 (s.data.toList.take (k + 1)) = encT0 (s.data.toList.take k) ++ (if s[k] = 0 then [0, 1] else [s[k]])) := by rw [hts]; exact hsn
      clear hsn hts
      have HN := Lib.hid hn; clear hn
      by_cases hb0 : s[k] = 0
      · have t1 : ((s[k].toNat : Int) == 0) = true := by rw [hb0]; rfl
        have HB := Lib.hid hb0; clear hb0
        go_wp2_with (first
          | (at_builtin; refine wpList_app1 _ _ rfl rfl _ _ 36 rfl w.heap.size 5 _ 1 info_u8 rfl Try.underlying36 _ _ _ ho rfl rfl ?_ ?_ ?_ ?_; omega; omega; exact hbz; intro v2 w2 ho2 hb2; have hbz2 : w.heap.size ≤ w2.heap.size := Nat.le_trans hbz hb2.1.size)
          | (at_builtin; refine wpList_app1 _ _ rfl rfl _ _ 36 rfl w.heap.size 5 _ 1 info_u8 rfl Try.underlying36 _ _ _ ho2 rfl rfl ?_ ?_ ?_ ?_; omega; omega; exact hbz2; intro v3 w3 ho3 hb3))
        go_roundw
        case rel =>
          refine ⟨k + 1, n + 1 + 1, by omega, by go_num, by rw [HS.out, if_pos HB.out, HN.out]; simp, ?_, (hb.trans ((hb2.trans hb3).below hbz ho |>.mono (Nat.le_refl _)))⟩
          rw [HS.out, if_pos HB.out, show encT0 (List.take k s.data.toList) ++ [0, 1] = (encT0 (List.take k s.data.toList) ++ [0]) ++ [1] from by simp, ← u8s_snoc _ 1 _ rfl, ← u8s_snoc _ 0 _ rfl]
          rw [HB.out] at ho3
          exact ho3
        case measure => simp [intOf]; omega
      · have t1 : ((s[k].toNat : Int) == 0) = false := by
          rw [beq_eq_false_iff_ne]; intro h; exact hb0 (UInt8.toNat_inj.1 (by simp; omega))
        have HB := Lib.hid hb0; clear hb0
        go_wp2_with (at_builtin; refine wpList_app1 _ _ rfl rfl _ _ 36 rfl w.heap.size 5 _ 1 info_u8 rfl Try.underlying36 _ _ _ ho rfl rfl ?_ ?_ ?_ ?_; omega; omega; exact hbz; intro v2 w2 ho2 hb2)
        go_roundw
        case rel =>
          refine ⟨k + 1, n + 1, by omega, by go_num, by rw [HS.out, if_neg HB.out, HN.out]; simp, ?_, (hb.trans (hb2.below hbz ho |>.mono (Nat.le_refl _)))⟩
          rw [HS.out, if_neg HB.out, ← u8s_snoc _ _ _ rfl]
          exact ho2
        case measure => simp [intOf]; omega
    · obtain rfl : k = s.size := by omega
      rw [List.take_of_length_le (by simp)] at hn ho
      have HN := Lib.hid hn; clear hn
      go_wp2_with (at_builtin; refine wpList_appL _ [_, _] 2 rfl ?_ rfl _ _ 36 rfl w.heap.size 5 _ 1 info_u8 rfl Try.underlying36 _ _ _ ho rfl rfl ?_ ?_ ?_ ?_; simp [Value.oneCell']; omega; omega; exact hbz; intro v2 w2 ho2 hb2)
      go_ret
      refine ⟨_, rfl, ?_, hb.trans (hb2.below hbz ho)⟩
      have e : (encT s.data.toList).length = n + 2 := by rw [encT_eq, HN.out]; simp
      rw [e, encT_eq, show encT0 s.data.toList ++ [0, 0] = (encT0 s.data.toList ++ [0]) ++ [0] from by simp, ← u8s_snoc _ 0 _ rfl, ← u8s_snoc _ 0 _ rfl]
      simpa using ho2
set_option maxRecDepth 20000 in
theorem noFine (w : World) (v : Value) (h : NoIn w v) : Calls Try.prog 81 #[v] w fun x w' => x = .returned (.bool false) ∧ w = w' := by
  rcases h with rfl | ⟨g, rfl, hb⟩
  · go_enter Try.func81, Try.ntmps81
    go_wp2
    go_ret
    exact ⟨rfl, rfl⟩
  · have c0 := hb.cell 0
    simp at c0
    have HB := Lib.hid hb; clear hb
    go_enter Try.func81, Try.ntmps81
    go_wp2
    go_ret
    exact ⟨rfl, rfl⟩
set_option maxRecDepth 20000 in
theorem noReadU (w : World) (v : Value) (f2 f3 : Value) (h : NoIn w v) : Calls Try.prog 92 #[v, f2, f3] w fun x w' => x = .returned (.int .u64 0) ∧ w = w' := by
  have HF := Lib.hid (noFine w v h)
  go_enter Try.func92, Try.ntmps92
  go_wp2_with (go_at_call 81; (with_reducible refine HF.out.mono ?_); rintro y w1 ⟨rfl, rfl⟩)
  go_ret
  exact ⟨rfl, rfl⟩
set_option maxRecDepth 20000 in
theorem noReadI (w : World) (v : Value) (f2 f3 : Value) (h : NoIn w v) : Calls Try.prog 109 #[v, f2, f3] w fun x w' => x = .returned (.int .i64 0) ∧ w = w' := by
  have HF := Lib.hid (noFine w v h)
  go_enter Try.func109, Try.ntmps109
  go_wp2_with (go_at_call 81; (with_reducible refine HF.out.mono ?_); rintro y w1 ⟨rfl, rfl⟩)
  go_ret
  exact ⟨rfl, rfl⟩
set_option maxRecDepth 20000 in
theorem noReadF (w : World) (v : Value) (f2 f3 : Value) (h : NoIn w v) : Calls Try.prog 112 #[v, f2, f3] w fun x w' => x = .returned (.float .f64 0) ∧ w = w' := by
  have HF := Lib.hid (noFine w v h)
  go_enter Try.func112, Try.ntmps112
  go_wp2_with (go_at_call 81; (with_reducible refine HF.out.mono ?_); rintro y w1 ⟨rfl, rfl⟩)
  go_ret
  exact ⟨rfl, rfl⟩
set_option maxRecDepth 20000 in
theorem noReadT (w : World) (v : Value) (f2 f3 : Value) (h : NoIn w v) : Calls Try.prog 116 #[v, f2, f3] w fun x w' => x = .returned (.string ⟨#[]⟩) ∧ w = w' := by
  have HF := Lib.hid (noFine w v h)
  go_enter Try.func116, Try.ntmps116
  go_wp2_with (go_at_call 81; (with_reducible refine HF.out.mono ?_); rintro y w1 ⟨rfl, rfl⟩)
  go_ret
  exact ⟨rfl, rfl⟩
set_option maxRecDepth 20000 in
theorem noInU (w : World) (v : Value) (m : Int) (h : NoIn w v) : Calls Try.prog 55 #[v, .int .u64 m] w fun x w' => x = .returned (.int .u64 0) ∧ Below w.heap.size w w' := by
  have HF := Lib.hid (fun f2 f3 => noReadU (w.alloc (.cells #[.int .u64 m] 35)) v f2 f3 (h.below (belA (belR w) _)))
  go_enter Try.func55, Try.ntmps55
  go_wp2_with (go_at_call 92; (with_reducible refine (HF.out _ _).mono ?_); rintro y w1 ⟨rfl, rfl⟩)
  go_ret
  exact ⟨rfl, belA (belR w) _⟩
set_option maxRecDepth 20000 in
theorem noInT (w : World) (v : Value) (m : Int) (h : NoIn w v) : Calls Try.prog 79 #[v, .int .i64 m] w fun x w' => x = .returned (.string ⟨#[]⟩) ∧ Below w.heap.size w w' := by
  have HF := Lib.hid (fun f2 f3 => noReadT (w.alloc (.cells #[.int .i64 m] 3)) v f2 f3 (h.below (belA (belR w) _)))
  go_enter Try.func79, Try.ntmps79
  go_wp2_with (go_at_call 116; (with_reducible refine (HF.out _ _).mono ?_); rintro y w1 ⟨rfl, rfl⟩)
  go_ret
  exact ⟨rfl, belA (belR w) _⟩
set_option maxRecDepth 20000 in
theorem noInI (w : World) (v : Value) (h : NoIn w v) : Calls Try.prog 76 #[v] w fun x w' => x = .returned (.int .i64 0) ∧ Below w.heap.size w w' := by
  have HF := Lib.hid (fun f2 f3 => noReadI w v f2 f3 h)
  go_enter Try.func76, Try.ntmps76
  go_wp2_with (go_at_call 109; (with_reducible refine (HF.out _ _).mono ?_); rintro y w1 ⟨rfl, rfl⟩)
  go_ret
  exact ⟨rfl, belR w⟩
set_option maxRecDepth 20000 in
theorem noInF (w : World) (v : Value) (h : NoIn w v) : Calls Try.prog 77 #[v] w fun x w' => x = .returned (.float .f64 0) ∧ Below w.heap.size w w' := by
  have HF := Lib.hid (fun f2 f3 => noReadF w v f2 f3 h)
  go_enter Try.func77, Try.ntmps77
  go_wp2_with (go_at_call 112; (with_reducible refine (HF.out _ _).mono ?_); rintro y w1 ⟨rfl, rfl⟩)
  go_ret
  exact ⟨rfl, belR w⟩
set_option maxRecDepth 20000 in
theorem noInB (w : World) (v : Value) (m : Int) (h : NoIn w v) : Calls Try.prog 80 #[v, .int .i64 m] w fun x w' => x = .returned (.slice none 0 0) ∧ Below w.heap.size w w' := by
  have HF := Lib.hid (noFine w v h)
  go_enter Try.func80, Try.ntmps80
  go_wp2_with (go_at_call 81; (with_reducible refine HF.out.mono ?_); rintro y w1 ⟨rfl, rfl⟩)
  go_ret
  exact ⟨rfl, belR w⟩
set_option maxRecDepth 20000 in
theorem noLeft (w : World) (v : Value) (h : NoIn w v) : Calls Try.prog 38 #[v] w fun x w' => x = .returned (.int .i64 0) ∧ w = w' := by
  have HF := Lib.hid (noFine w v h)
  go_enter Try.func38, Try.ntmps38
  go_wp2_with (go_at_call 81; (with_reducible refine HF.out.mono ?_); rintro y w1 ⟨rfl, rfl⟩)
  go_ret
  exact ⟨rfl, rfl⟩
set_option maxRecDepth 20000 in
theorem noFault (w : World) (v : Value) (h : NoIn w v) : Calls Try.prog 37 #[v] w fun x w' => x = .returned (.tuple #[.int .i64 0, .int .i64 15]) ∧ w = w' := by
  rcases h with rfl | ⟨g, rfl, hb⟩
  · go_enter Try.func37, Try.ntmps37
    go_wp2
    go_ret2
    exact ⟨rfl, rfl⟩
  · have c0 := hb.cell 0
    simp at c0
    have HB := Lib.hid hb; clear hb
    go_enter Try.func37, Try.ntmps37
    go_wp2
    go_ret2
    exact ⟨rfl, rfl⟩
set_option maxRecDepth 20000 in
theorem noEnd (w : World) (v : Value) (h : NoIn w v) : Calls Try.prog 39 #[v] w fun x w' => x = .returned (.int .i64 15) ∧ Below w.heap.size w w' := by
  have hf := fun n => noFine (w.drewN n) v (h.drewN n)
  have ht := fun n => noFault (w.drewN n) v (h.drewN n)
  have HF := Lib.hid hf; have HT := Lib.hid ht; clear hf ht
  go_enter Try.func39, Try.ntmps39
  go_wp2
  go_quiet ((go_at_call 81; exact qcallS (HF.out _)))
  go_wp2_with (go_at_call 37; (with_reducible refine (HT.out _).mono ?_); rintro y w1 ⟨rfl, rfl⟩)
  go_ret
  exact ⟨rfl, belD (belR w) _⟩
set_option maxRecDepth 20000 in
theorem noLay (w : World) (v : Value) (A : Option Addr) (n c : Nat) (h : NoOut w v) : Calls Try.prog 105 #[v, .slice A n c] w fun x w' => x = .returned (.tuple #[]) ∧ w = w' := by
  rcases h with rfl | ⟨g, rfl, hb⟩
  · go_enter Try.func105, Try.ntmps105
    go_wp2
    go_end0
    exact ⟨rfl, rfl⟩
  · have c0 := hb.cell 0
    simp at c0
    have HB := Lib.hid hb; clear hb
    go_enter Try.func105, Try.ntmps105
    go_wp2
    go_end0
    exact ⟨rfl, rfl⟩
set_option maxRecDepth 20000 in
theorem noBytes (w : World) (v : Value) (h : NoOut w v) : Calls Try.prog 43 #[v] w fun x w' => ∃ A c, x = .returned (.slice A 0 c) ∧ Below w.heap.size w w' := by
  rcases h with rfl | ⟨g, rfl, hb⟩
  · go_enter Try.func43, Try.ntmps43
    go_wp2
    go_ret
    exact ⟨none, 0, rfl, belR w⟩
  · have c1 := hb.cell 1
    simp at c1
    have hnil := World.ownsRow_nil w w.heap.size 5 1
    have hR : Rd w 0 1 none 0 (u8s []) := Rd.nil
    have HB := Lib.hid hb; have HR := Lib.hid hR; clear hb hR
    go_enter Try.func43, Try.ntmps43
    go_wp2_with (at_builtin; refine wpList_appS _ rfl _ _ 36 rfl w.heap.size 5 _ 1 1 info_u8 rfl (by decide) Try.underlying36 _ _ _ hnil rfl _ _ _ _ _ HR.out rfl (u8s_one _) ?_ ?_ ?_ ?_; omega; omega; exact Nat.le_refl _; intro v2 w2 ho2 hb2; obtain ⟨A2, c2, rfl, _, _, _⟩ := own_form ho2; have HP2 := Lib.hid hb2; clear ho2 hb2)
    go_ret
    exact ⟨_, _, rfl, HP2.out.below_nil (Nat.le_refl _)⟩
set_option maxRecDepth 20000 in
theorem noOutU (w : World) (v : Value) (x : Nat) (hx : x < 18446744073709551616) (h : NoOut w v) : Calls Try.prog 70 #[v, .int .u64 (x : Int)] w fun x w' => x = .returned (.tuple #[]) ∧ Below w.heap.size w w' := by
  have hc := codeU_any x w hx
  have HC := Lib.hid hc; have HH := Lib.hid h; clear hc h
  go_enter Try.func70, Try.ntmps70
  go_wp2_with (first
    | (go_at_call 106; (with_reducible refine HC.out.mono ?_); rintro y w1 ⟨v1, rfl, ho1, hb1⟩; obtain ⟨A1, c1, rfl, _, _, _⟩ := own_form ho1)
    | (go_at_call 105; (with_reducible refine (noLay _ v _ _ _ (HH.out.below hb1)).mono ?_); rintro y w2 ⟨rfl, rfl⟩))
  go_end0
  exact ⟨rfl, hb1⟩
set_option maxRecDepth 20000 in
theorem noOutI (w : World) (v : Value) (x : Int) (h1 : -9223372036854775808 ≤ x) (h2 : x ≤ 9223372036854775807) (h : NoOut w v) : Calls Try.prog 82 #[v, .int .i64 x] w fun x w' => x = .returned (.tuple #[]) ∧ Below w.heap.size w w' := by
  have hc := codeI_any x w h1 h2
  have HC := Lib.hid hc; have HH := Lib.hid h; clear hc h
  go_enter Try.func82, Try.ntmps82
  go_wp2_with (first
    | (go_at_call 121; (with_reducible refine HC.out.mono ?_); rintro y w1 ⟨v1, rfl, ho1, hb1⟩; obtain ⟨A1, c1, rfl, _, _, _⟩ := own_form ho1)
    | (go_at_call 105; (with_reducible refine (noLay _ v _ _ _ (HH.out.below hb1)).mono ?_); rintro y w2 ⟨rfl, rfl⟩))
  go_end0
  exact ⟨rfl, hb1⟩
set_option maxRecDepth 20000 in
theorem noOutF (w : World) (v : Value) (x : Nat) (hx : x < 18446744073709551616) (h : NoOut w v) : Calls Try.prog 83 #[v, .float .f64 x] w fun x w' => x = .returned (.tuple #[]) ∧ Below w.heap.size w w' := by
  have hc := codeF_any x w hx
  have HC := Lib.hid hc; have HH := Lib.hid h; clear hc h
  go_enter Try.func83, Try.ntmps83
  go_wp2_with (first
    | (go_at_call 122; (with_reducible refine HC.out.mono ?_); rintro y w1 ⟨v1, rfl, ho1, hb1⟩; obtain ⟨A1, c1, rfl, _, _, _⟩ := own_form ho1)
    | (go_at_call 105; (with_reducible refine (noLay _ v _ _ _ (HH.out.below hb1)).mono ?_); rintro y w2 ⟨rfl, rfl⟩))
  go_end0
  exact ⟨rfl, hb1⟩
set_option maxRecDepth 20000 in
theorem noOutT (w : World) (v : Value) (s : ByteArray) (hs : s.size ≤ 1048576) (h : NoOut w v) : Calls Try.prog 71 #[v, .string s] w fun x w' => x = .returned (.tuple #[]) ∧ Below w.heap.size w w' := by
  have hc := codeTbig_any s w hs
  have HC := Lib.hid hc; have HH := Lib.hid h; clear hc h
  go_enter Try.func71, Try.ntmps71
  go_wp2_with (first
    | (go_at_call 107; (with_reducible refine HC.out.mono ?_); rintro y w1 ⟨v1, rfl, ho1, hb1⟩; obtain ⟨A1, c1, rfl, _, _, _⟩ := own_form ho1)
    | (go_at_call 105; (with_reducible refine (noLay _ v _ _ _ (HH.out.below hb1)).mono ?_); rintro y w2 ⟨rfl, rfl⟩))
  go_end0
  exact ⟨rfl, hb1⟩
set_option maxRecDepth 20000 in
theorem noOutB (w : World) (v : Value) (A : Option Addr) (n c : Nat) (hn : n < 18446744073709551616) (h : NoOut w v) : Calls Try.prog 84 #[v, .slice A n c] w fun x w' => x = .returned (.tuple #[]) ∧ Below w.heap.size w w' := by
  have hc := codeU_any n w hn
  have wm : IntKind.u64.wrap (n : Int) = (n : Int) := by rw [IntKind.wrap_u64]; omega
  have HC := Lib.hid hc; have HH := Lib.hid h; clear hc h
  go_enter Try.func84, Try.ntmps84
  go_wp2_with (first
    | (go_at_call 106; (with_reducible refine HC.out.mono ?_); rintro y w1 ⟨v1, rfl, ho1, hb1⟩; obtain ⟨A1, c1, rfl, _, _, _⟩ := own_form ho1)
    | (go_at_call 105; (with_reducible refine (noLay _ v _ _ _ (HH.out.below hb1)).mono ?_); rintro y w2 ⟨rfl, rfl⟩))
  go_end0
  exact ⟨rfl, hb1⟩
end Go.Proofs.Ytpnolgghbenekaa
