/-
  THE WALK of bushellaw25.TreeAsks.
-/
import Derived.Test.YtpnolgghbenekaaTreeAwake
namespace Go.Proofs.Ytpnolgghbenekaa
open Go.ChangeShapes Go.WideShapes Go.ChangeAt Go.RowKit
set_option linter.unusedVariables false

theorem takeWhile_snoc_no {α : Type} (p : α → Bool) (l : List α) (x : α) (h : p x = false) : (l ++ [x]).takeWhile p = l.takeWhile p := by
  induction l with
  | nil => simp [h]
  | cons y l ih => rw [List.cons_append, List.takeWhile_cons, List.takeWhile_cons]; split <;> simp [ih]
theorem seekN_take (l : List (Nat × Int)) (key k : Nat) (hr : riseB l = true) (hk : k < l.length) : seekN (l.take (k + 1)) key = if l[k].1 ≤ key then k + 1 else seekN (l.take k) key := by
  by_cases h : l[k].1 ≤ key
  · rw [if_pos h]
    have hl : (l.take (k + 1)).length = k + 1 := by rw [List.length_take]; omega
    refine seekN_of _ key (k + 1) (by omega) (fun j hj _ => ?_) (fun h => by omega)
    rw [List.getElem_take]
    by_cases e : j = k
    · subst e; exact h
    · exact Nat.le_trans (Nat.le_of_lt (rise_lt l hr j k (by omega) hk)) h
  · rw [if_neg h]
    unfold seekN
    rw [List.take_succ_eq_append_getElem hk, takeWhile_snoc_no _ _ _ (by simpa using h)]
theorem rnode_rise (s : Sht) : riseB (rnode s).2.1 = true := by
  unfold rnode
  split
  · rfl
  · split
    · rfl
    · split
      · rfl
      · rename_i h; simpa using h
theorem sameB_self (l : List (Nat × Int)) : sameB l l = true := decide_eq_true rfl
theorem rnode_len (s : Sht) : (rnode s).2.1.length ≤ 1001 := by
  unfold rnode
  split
  · simp
  · rename_i hh
    split
    · simp
    · split
      · simp
      · simp only
        rw [rst_len]
        have := headB_true _ _ _ (by simpa using hh)
        omega

set_option maxRecDepth 20000 in
set_option maxHeartbeats 4000000 in
theorem treeAsks_walk (s : Sht) (A : Option Addr) (c key : Nat) (level : Int) (w : World) (hR : Rd w w.heap.size 1 A s.d.length (u8s s.d)) (hd : s.d.length ≤ 1500) (hdc : s.d.length ≤ c) (hcm : c ≤ maxLen) (hkey : key < 18446744073709551616) :
    Calls Try.prog 4 #[.agg #[.int .i64 s.k, .int .u64 (s.a : Int), .int .u64 (s.b : Int), .slice A s.d.length c], .int .u64 (key : Int), .int .i64 level] w fun y w' => y = .returned (.bool true) ∧ Below w.heap.size w w' := by
  have hr1 := fun (W : World) (hW : Below w.heap.size w W) => readNode_any W s A c ((hR.below hW).more hW.size) (by omega)
  have hr2 := fun (W : World) (hW : Below w.heap.size w W) => refReadNode_any W s A c ((hR.below hW).more hW.size) (by omega) hdc hcm
  have hrise := rnode_rise s
  have hlen := rnode_len s
  have hb0 := belA (belR w) (.cells #[.int .i64 s.k, .int .u64 (s.a : Int), .int .u64 (s.b : Int), .slice A s.d.length c] 38)
  have hx0 := Blk.new w 38 #[.int .i64 s.k, .int .u64 (s.a : Int), .int .u64 (s.b : Int), .slice A s.d.length c]
  generalize rnode s = r at *
  obtain ⟨n, l, e⟩ := r
  simp only at hr1 hr2 hrise hlen
  have H1 := Lib.hid (hr1 _ hb0); have H2 := Lib.hid hr2; have HB0 := Lib.hid hb0; have HX0 := Lib.hid hx0; have HRI := Lib.hid hrise; have HR := Lib.hid hR; clear hr1 hr2 hb0 hx0 hrise hR
  go_enter Try.func4, Try.ntmps4
  go_wp2_with fail
  (with_reducible refine H1.out.mono ?_); rintro y w1 ⟨v1, rfl, ho1, hb1⟩
  obtain ⟨A1, c1, rfl, _, _, _⟩ := own_form ho1
  have hx1 := HX0.out.below hb1 (by simp)
  have x0 := hx1.cell 0; have x1 := hx1.cell 1; have x2 := hx1.cell 2; have x3 := hx1.cell 3
  simp at x0 x1 x2 x3
  have hbw1 := belT HB0.out hb1
  have HO1 := Lib.hid ho1; have HBW1 := Lib.hid hbw1; have H2' := Lib.hid (H2.out _ hbw1); have HX1 := Lib.hid hx1; clear ho1 hb1 hbw1 hx1
  go_wp2_with fail
  (with_reducible refine H2'.out.mono ?_); rintro y w2 ⟨v2, rfl, ho2, hb2⟩
  obtain ⟨A2, c2, rfl, _, _, _⟩ := own_form ho2
  have o1 := own_below HO1.out hb2 (Nat.le_refl _)
  have he := entries_any A1 l.length c1 _ l w2 (Rd.own o1) (by omega) (Nat.le_refl _)
  have hbw2 := belT HBW1.out hb2
  have O1 := Lib.hid o1; have HO2 := Lib.hid ho2; have HBW2 := Lib.hid hbw2; have HE := Lib.hid he; clear o1 ho2 hb2 hbw2 he
  go_wp2_with fail
  (with_reducible refine HE.out.mono ?_); rintro y w3 ⟨v3, rfl, ho3, hb3⟩
  obtain ⟨A3, c3, rfl, _, _, _⟩ := own_form ho3
  have o1 := own_below O1.out hb3 (Nat.le_refl _)
  have o2 := own_below HO2.out hb3 (Nat.le_refl _)
  have hsm := same_any A3 A2 l.length c3 l.length c2 _ l l w3 (Rd.own ho3) (Rd.own o2) (by omega) (by omega)
  rw [sameB_self] at hsm
  have hbw3 := belT HBW2.out hb3
  have hz3 := hbw3.size
  have hsk := fun j => seek_any A1 l.length c1 _ l key (w3.drewN j) ((Rd.own o1).drewN j) (by omega) HRI.out hkey
  have R2 := Lib.hid (Rd.own o2); have HBW3 := Lib.hid hbw3; have HSM := Lib.hid hsm; have HSK := Lib.hid hsk; have HO3 := Lib.hid ho3; clear o1 o2 hsm hbw3 hsk ho3 hb3
  go_wp2_with fail
  (with_reducible refine HSM.out.mono ?_); rintro y w4 ⟨rfl, j4, rfl⟩
  go_wp2_with (first | (go_at_call 19; (with_reducible refine (break_any key level _).mono ?_); rintro y w' ⟨rfl, rfl⟩) | (go_at_call 20; (with_reducible refine (refBreak_any key level _).mono ?_); rintro y w' ⟨rfl, rfl⟩))
  go_loopw [13, 14] (fun at_ i wr => ∃ k : Nat, k ≤ l.length ∧ i = .int .i64 (k : Int) ∧ at_ = .int .i64 ((seekN (l.take k) key : Int) - 1) ∧ ∃ j, wr = w3.drewN j) (fun _ i _ => l.length - (intOf i).toNat)
  case atStart => exact ⟨0, by omega, rfl, rfl, j4, rfl⟩
  case round =>
    obtain ⟨k, hk, rfl, rfl, j, rfl⟩ := hrel
    by_cases hlt : k < l.length
    · obtain ⟨a2, rfl, hab2, y0, _⟩ := (R2.out.drewN j).ent hlt
      have hst := seekN_take l key k HRI.out hlt
      generalize hx : l[k].1 = x at *
      have HX := Lib.hid hx; clear hx
      by_cases hle : x ≤ key
      · rw [if_pos hle] at hst
        have HST := Lib.hid hst; clear hst
        go_wp2
        go_roundw
        case rel => exact ⟨k + 1, by omega, by go_num, by rw [HST.out]; go_num, j, rfl⟩
        case measure => simp [intOf]; omega
      · rw [if_neg hle] at hst
        have HST := Lib.hid hst; clear hst
        go_wp2
        go_roundw
        case rel => exact ⟨k + 1, by omega, by go_num, by rw [HST.out], j, rfl⟩
        case measure => simp [intOf]; omega
    · obtain rfl : k = l.length := by omega
      rw [List.take_length]
      have t9 : ((seekN l key : Int) - 1 == (seekN l key : Int) - 1) = true := by simp
      go_wp2_with (first | (go_at_call 21; (with_reducible refine (HSK.out j).mono ?_); rintro y w' ⟨rfl, rfl⟩) | (go_at_call 10; (with_reducible refine (awake25_any _).mono ?_); rintro y w5 ⟨rfl, hb5⟩))
      go_ret
      exact ⟨rfl, belT (belD HBW3.out j) hb5⟩

theorem treeAsks_all (s : Sht) (A : Option Addr) (c key : Nat) (level : Int) (w : World) (hR : Rd w w.heap.size 1 A s.d.length (u8s s.d)) (hdc : s.d.length ≤ c) (hcm : c ≤ maxLen) (hkey : key < 18446744073709551616) :
    Calls Try.prog 4 #[.agg #[.int .i64 s.k, .int .u64 (s.a : Int), .int .u64 (s.b : Int), .slice A s.d.length c], .int .u64 (key : Int), .int .i64 level] w fun y w' => y = .returned (.bool true) ∧ Below w.heap.size w w' := by
  by_cases hd : s.d.length ≤ 1500
  · exact treeAsks_walk s A c key level w hR hd hdc hcm hkey
  · have hd' : 1500 < s.d.length := by omega
    have HR := Lib.hid hR; clear hR
    go_enter Try.func4, Try.ntmps4
    go_wp2_with (go_at_call 10; (with_reducible refine (awake25_any _).mono ?_); rintro y w5 ⟨rfl, hb5⟩)
    go_ret
    exact ⟨rfl, belT (belA (belR w) _) hb5⟩
end Go.Proofs.Ytpnolgghbenekaa
