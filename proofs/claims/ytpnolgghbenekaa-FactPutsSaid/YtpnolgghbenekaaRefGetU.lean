/-
  bushelref07.GetU: the document's U of any bytes is the same.
-/
import Derived.Test.YtpnolgghbenekaaGetWalks
import Derived.Test.YtpnolgghbenekaaBlk
namespace Go.Proofs.Ytpnolgghbenekaa
open Go.ChangeShapes Go.WideShapes Go.ChangeAt Go.RowKit
set_option linter.unusedVariables false

theorem refGetU_any (A : Option Addr) (m c B : Nat) (t : List UInt8) (w : World) (h : Rd w B 1 A m (u8s t)) (hc : m ≤ maxLen) :
    Calls Try.prog 72 #[.slice A m c] w fun e w' => e = .returned (.tuple #[.int .u64 ((getU t).1 : Nat), .int .i64 ((getU t).2.1 : Nat), .int .i64 ((getU t).2.2 : Nat)]) ∧ Drw w w' := by
  obtain rfl : m = t.length := h.u8.symm
  have hcc := hc
  unfold maxLen at hcc
  cases t with
  | nil =>
    have hl : ([] : List UInt8).length = 0 := rfl
    rw [hl]
    go_enter Try.func72, Try.ntmps72
    go_wp2
    go_ret3
    exact ⟨rfl, Drw.refl _⟩
  | cons x t =>
    have hl : (x :: t).length = t.length + 1 := rfl
    rw [hl] at h hcc ⊢
    obtain ⟨a, rfl, hb, hx⟩ := h.byte (k := 0) (by simp)
    rw [add_zero'] at hx
    simp only [List.getElem_cons_zero] at hx
    have hx8 := x.toNat_lt
    have t0 : (((t.length : Int) + 1) == 0) = false := by rw [beq_eq_false_iff_ne]; omega
    have H := Lib.hid h; have HL := Lib.hid hl; clear h hl
    by_cases h8 : 8 < x.toNat
    · have hfin : getU (x :: t) = (0, 0, 6) := by simp [getU, h8]
      have HF := Lib.hid hfin; clear hfin
      go_enter Try.func72, Try.ntmps72
      go_wp2
      go_ret3
      exact ⟨by rw [HF.out]; rfl, Drw.refl _⟩
    · have hfin : getU (x :: t) = if (numB t x.toNat).2 = 0 then ((numB t x.toNat).1, x.toNat + 1, 0) else (0, 0, (numB t x.toNat).2) := by simp [getU, h8]
      generalize hn : x.toNat = n at *
      have HN := Lib.hid hn; clear hn
      by_cases hn0 : 0 < n
      · by_cases ht : 0 < t.length
        · obtain ⟨a1, ea, _, hx1⟩ := H.out.byte (k := 1) (by simp; omega)
          injection ea with ea; subst ea
          simp only [List.getElem_cons_succ] at hx1
          have hx1' : w.cell? ⟨a.block, a.off + 1, none⟩ = some (.int .u8 (t[0].toNat : Int)) := by rw [← hx1]; rfl
          clear hx1
          by_cases hz : t[0] = 0
          · have hnum := numB_form t n hn0 ht hz
            rw [hnum] at hfin
            have t1 := u8_z hz
            have HF := Lib.hid hfin; have HZ := Lib.hid hz; have HM := Lib.hid hnum; clear hfin hz hnum
            go_enter Try.func72, Try.ntmps72
            go_wp2
            go_ret3
            exact ⟨by rw [HF.out]; rfl, Drw.refl _⟩
          · have t1 := u8_nz hz
            have hhd : t.headD 0 ≠ 0 := by rw [headD_get t ht]; exact hz
            have HZ := Lib.hid hz; have HHD := Lib.hid hhd; clear hz hhd
            by_cases hl : t.length < n
            · have hnum := numB_short t n hl (fun _ => HHD.out)
              rw [hnum] at hfin
              have HF := Lib.hid hfin; have HM := Lib.hid hnum; clear hfin hnum
              go_enter Try.func72, Try.ntmps72
              go_wp2
              go_ret3
              exact ⟨by rw [HF.out]; rfl, Drw.refl _⟩
            · have hnum := numB_ok t n (by omega) (fun _ => HHD.out)
              rw [hnum] at hfin
              have HF := Lib.hid hfin; have HM := Lib.hid hnum; clear hfin hnum
              go_enter Try.func72, Try.ntmps72
              go_wp2
              go_loop [6, 7] (fun y i => ∃ j : Nat, j ≤ n ∧ i = .int .i64 ((j : Int) + 1) ∧ y = .int .u64 (bv (t.take j) : Nat)) (fun _ i => n + 2 - (intOf i).toNat)
              case atStart => exact ⟨0, by omega, rfl, rfl⟩
              case round =>
                obtain ⟨j, hj, rfl, rfl⟩ := hrel
                by_cases hlt : j < n
                · have hjt : j < t.length := by omega
                  obtain ⟨a2, ea, _, hx2⟩ := H.out.byte (k := j + 1) (by simp; omega)
                  injection ea with ea; subst ea
                  rw [add_succ] at hx2
                  simp only [List.getElem_cons_succ] at hx2
                  have hbt := bv_take t j hjt
                  have hlt1 := bv_lt (t.take j)
                  have hlt2 : 256 ^ (t.take j).length ≤ 256 ^ 7 := Nat.pow_le_pow_right (by decide) (by rw [List.length_take]; omega)
                  have hbb : bv (t.take j) < 72057594037927936 := by simpa using Nat.lt_of_lt_of_le hlt1 hlt2
                  have hc8 := t[j].toNat_lt
                  have HT := Lib.hid hbt; clear hbt hlt1 hlt2
                  go_wp2
                  go_round
                  case rel => exact ⟨j + 1, by omega, by go_num, by rw [HT.out]; go_num⟩
                  case measure => simp [intOf]; omega
                · obtain rfl : j = n := by omega
                  go_wp2
                  go_ret3
                  exact ⟨by rw [HF.out]; rfl, Drw.refl _⟩
        · have hl : t.length < n := by omega
          have hnum := numB_short t n hl (fun h => absurd h ht)
          rw [hnum] at hfin
          obtain rfl : t = [] := List.eq_nil_of_length_eq_zero (by omega)
          have HF := Lib.hid hfin; have HM := Lib.hid hnum; clear hfin hnum
          go_enter Try.func72, Try.ntmps72
          go_wp2
          go_ret3
          exact ⟨by rw [HF.out]; rfl, Drw.refl _⟩
      · obtain rfl : n = 0 := by omega
        have hnum : numB t 0 = (0, 0) := by simp [numB]
        rw [hnum] at hfin
        have HF := Lib.hid hfin; have HM := Lib.hid hnum; clear hfin hnum
        go_enter Try.func72, Try.ntmps72
        go_wp2
        go_loop [6, 7] (fun y i => i = .int .i64 1 ∧ y = .int .u64 0) (fun _ i => 2 - (intOf i).toNat)
        case atStart => exact ⟨rfl, rfl⟩
        case round =>
          obtain ⟨rfl, rfl⟩ := hrel
          go_wp2
          go_ret3
          exact ⟨by rw [HF.out]; rfl, Drw.refl _⟩
end Go.Proofs.Ytpnolgghbenekaa
