/-
  buf.NewIn; the reader's U.
-/
import Derived.Test.YtpnolgghbenekaaBufIn
namespace Go.Proofs.Ytpnolgghbenekaa
open Go.ChangeShapes Go.WideShapes Go.ChangeAt Go.RowKit
set_option linter.unusedVariables false

theorem newIn_any (w : World) (A : Option Addr) (n c : Nat) (t : List UInt8) (h : Rd w w.heap.size 1 A n (u8s t)) (hn : n ≤ 1000000) :
    Calls Try.prog 34 #[.slice A n c] w fun x w' => ∃ g, x = .returned (.pointer (some ⟨g, 0, none⟩)) ∧ w.heap.size ≤ g ∧ InS w' g t 0 0 ∧ Below w.heap.size w w' := by
  obtain rfl : n = t.length := h.u8.symm
  have H := Lib.hid h; clear h
  have hnil := World.ownsRow_nil w w.heap.size 5 1
  go_enter Try.func34, Try.ntmps34
  go_wp2_with (at_builtin; refine wpList_appS _ rfl _ _ 36 rfl w.heap.size 5 _ 1 1 info_u8 rfl (by decide) Try.underlying36 _ _ _ hnil rfl _ _ _ _ _ H.out rfl (u8s_one _) ?_ ?_ ?_ ?_; omega; omega; exact Nat.le_refl _; intro v2 w2 ho2 hb2; obtain ⟨A2, c2, rfl, hc2, hm2, hn2⟩ := own_form ho2)
  go_ret
  have hb3 := hb2.below_nil (Nat.le_refl _)
  have hR2 := (Rd.own ho2).alloc (Nat.le_refl _) (.cells #[.bool true, .slice A2 (0 + t.length) c2, .int .i64 0, .int .i64 0] 94)
  rw [List.nil_append, Nat.zero_add] at hR2
  rw [Nat.zero_add] at hc2
  refine ⟨_, rfl, hb3.size, ⟨A2, c2, ?_, hR2, hc2, hm2, Nat.zero_le _⟩, hb3.alloc hb3.size _⟩
  have := Blk.new w2 94 #[.bool true, .slice A2 t.length c2, .int .i64 0, .int .i64 0]
  exact this

/-- what the closure of In.U tells -/
def overE (x most : Nat) : Nat := if most < x then 2 else 0
theorem inU1_any (w : World) (cap x most : Nat) (hc : w.cell? ⟨cap, 0, none⟩ = some (.int .u64 (most : Int))) :
    Calls Try.prog 94 #[.int .u64 (x : Int), .pointer (some ⟨cap, 0, none⟩)] w fun e w' => e = .returned (.int .i64 (overE x most : Int)) ∧ w = w' := by
  by_cases hl : most < x
  · have t1 : overE x most = 2 := if_pos hl
    have T1 := Lib.hid t1; clear t1
    go_enter Try.func94, Try.ntmps94
    go_wp2
    go_ret
    exact ⟨by rw [T1.out]; rfl, rfl⟩
  · have t1 : overE x most = 0 := if_neg hl
    have T1 := Lib.hid t1; clear t1
    go_enter Try.func94, Try.ntmps94
    go_wp2
    go_ret
    exact ⟨by rw [T1.out]; rfl, rfl⟩

theorem numB_fits (t : List UInt8) (n : Nat) (h : (numB t n).2 = 0) : n ≤ t.length := by
  by_cases hn : n = 0
  · omega
  · by_cases hl : n ≤ t.length
    · exact hl
    · exfalso
      by_cases h0 : 0 < t.length
      · by_cases hz : t[0] = 0
        · rw [numB_form t n (by omega) h0 hz] at h; simp at h
        · rw [numB_short t n (by omega) (fun _ => by rw [headD_get t h0]; exact hz)] at h; simp at h
      · rw [numB_short t n (by omega) (fun h => absurd h h0)] at h; simp at h
theorem getU_fits (t : List UInt8) (h : (getU t).2.2 = 0) : (getU t).2.1 ≤ t.length := by
  cases t with
  | nil => simp [getU]
  | cons c t =>
    unfold getU at h ⊢
    simp only at h ⊢
    by_cases h8 : 8 < c.toNat
    · rw [if_pos h8]; simp
    · rw [if_neg h8] at h ⊢
      by_cases hn : (numB t c.toNat).2 = 0
      · rw [if_pos hn]; have := numB_fits t c.toNat hn; simp; exact this
      · rw [if_neg hn]; simp
theorem getU_lt (t : List UInt8) : (getU t).1 < 18446744073709551616 := by
  cases t with
  | nil => simp [getU]
  | cons c t =>
    unfold getU
    simp only
    by_cases h8 : 8 < c.toNat
    · rw [if_pos h8]; omega
    · rw [if_neg h8]
      by_cases hn : (numB t c.toNat).2 = 0
      · rw [if_pos hn]; exact numB_lt t _ (by omega)
      · rw [if_neg hn]; simp
end Go.Proofs.Ytpnolgghbenekaa
