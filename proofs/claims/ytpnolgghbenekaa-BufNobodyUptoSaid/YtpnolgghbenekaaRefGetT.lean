/-
  bushelref07.GetT: the document's text of any bytes is the same.
-/
import Derived.Test.YtpnolgghbenekaaGetWalks
import Derived.Test.YtpnolgghbenekaaBlk
namespace Go.Proofs.Ytpnolgghbenekaa
open Go.ChangeShapes Go.WideShapes Go.ChangeAt Go.RowKit
set_option linter.unusedVariables false

theorem str_app (l m : List UInt8) : (⟨l.toArray⟩ : ByteArray) ++ ⟨m.toArray⟩ = ⟨(l ++ m).toArray⟩ := by
  apply ByteArray.ext
  rw [ByteArray.data_append]
  simp
/-- string(b[i:i+1]) -/
theorem conv1 {w : World} {a : Addr} {B p k c : Nat} {x : UInt8} (h : w.cell? (a.add p) = some (.int .u8 (x.toNat : Int))) (hb : a.block < B) : (convert 36 9 (.slice (some (a.add p)) 1 (c - k))).run Try.prog w = .ok (.string ⟨[x].toArray⟩) w := by
  refine run_str (B := B) (l := [x]) ⟨rfl, fun _ => ⟨_, rfl, by rw [block_add]; exact hb, fun j u hu => ?_⟩⟩ Try.underlying36 Try.underlying5 Try.underlying9
  cases j with
  | zero => rw [add_zero', h]; exact hu
  | succ j => simp [u8s] at hu
def TRel (t : List UInt8) (w : World) (v i : Value) (wr : World) : Prop := ∃ (p : Nat) (acc : List UInt8), p ≤ t.length ∧ acc.length ≤ p ∧ i = .int .i64 (p : Int) ∧ v = .string ⟨acc.toArray⟩ ∧ Drw w wr ∧ Hid (getT t = comb acc p (getT (t.drop p)))
set_option maxRecDepth 20000 in
set_option maxHeartbeats 1000000 in
theorem refGetT_any (A : Option Addr) (m c B : Nat) (t : List UInt8) (w : World) (h : Rd w B 1 A m (u8s t)) (hm : m ≤ 1000000) (hmc : m ≤ c) (hc : c ≤ maxLen) :
    Calls Try.prog 75 #[.slice A m c] w fun e w' => e = .returned (.tuple #[.string ⟨(getT t).1.toArray⟩, .int .i64 ((getT t).2.1 : Nat), .int .i64 ((getT t).2.2 : Nat)]) ∧ Drw w w' := by
  obtain rfl : m = t.length := h.u8.symm
  have H := Lib.hid h; clear h
  go_enter Try.func75, Try.ntmps75
  go_wp2
  go_loopw [5, 6] (fun v i wr => TRel t w v i wr) (fun _ i _ => t.length - (intOf i).toNat)
  case atStart => exact ⟨0, [], by omega, Nat.le_refl _, rfl, rfl, Drw.refl _, comb_zero t⟩
  case round =>
    obtain ⟨p, acc, hp, hacc, rfl, rfl, ⟨j, rfl⟩, E⟩ := hrel
    have hsz : acc.length + 1 ≤ 9223372036854775807 := by omega
    by_cases h1 : p < t.length
    · obtain ⟨a, rfl, hab, hc0⟩ := H.out.byte h1
      have hdr := List.drop_eq_getElem_cons h1
      have hpc : (p : Int) < (c : Int) := by omega
      have hp1c : (p : Int) + 1 ≤ (c : Int) := by omega
      have HDR := Lib.hid hdr; clear hdr
      have hc8 := t[p].toNat_lt
      by_cases h2 : t[p] = 0
      · have t1 := u8_zb h2
        have t1' := u8_z h2
        have H2 := Lib.hid h2; clear h2
        by_cases h3 : p + 1 < t.length
        · obtain ⟨a', ea, _, hc'⟩ := H.out.byte h3
          injection ea with ea
          subst ea
          rw [add_succ] at hc'
          have hdr2 := List.drop_eq_getElem_cons h3
          have HDR2 := Lib.hid hdr2; clear hdr2
          have t2 : decide ((t.length : Int) ≤ (p : Int) + 1) = false := decide_eq_false (by omega)
          have hc8' := t[p + 1].toNat_lt
          by_cases h4 : t[p + 1] = 0
          · have t3 := u8_z h4
            have hfin : getT t = (acc, p + 2, 0) := by rw [E.out, HDR.out, H2.out, HDR2.out, h4, comb_end]
            have H4 := Lib.hid h4; have HF := Lib.hid hfin; clear h4 hfin
            go_wp2
            go_ret3
            exact ⟨by rw [HF.out]; go_num, _, rfl⟩
          · have t3 := u8_nz h4
            by_cases h5 : t[p + 1] = 1
            · have t4 : (((t[p + 1]'h3).toNat : Int) != 1) = false := by rw [h5]; rfl
              have hcv := conv1 (w := w.drewN j) (k := p) (c := c) hc0 hab
              have H4 := Lib.hid h4; have H5 := Lib.hid h5; clear h4 h5
              go_wp2
              go_roundw
              case rel =>
                refine ⟨p + 2, acc ++ [0], by omega, by simp; omega, by go_num, ?_, ⟨_, rfl⟩, ?_⟩
                · rw [str_app, H2.out]
                · show getT t = _
                  rw [E.out, HDR.out, H2.out, HDR2.out, H5.out, comb_one]
              case measure => simp [intOf]; omega
            · have t4 : (((t[p + 1]'h3).toNat : Int) != 1) = true := by
                rw [bne_iff_ne]; intro e; exact h5 (UInt8.toNat_inj.1 (by simp; omega))
              have hfin : getT t = ([], 0, 6) := by rw [E.out, HDR.out, H2.out, HDR2.out, comb_form _ _ _ _ h4 h5]
              have H4 := Lib.hid h4; have H5 := Lib.hid h5; have HF := Lib.hid hfin; clear h4 h5 hfin
              go_wp2
              go_ret3
              exact ⟨by rw [HF.out]; rfl, _, rfl⟩
        · have t2 : decide ((t.length : Int) ≤ (p : Int) + 1) = true := decide_eq_true (by omega)
          have hfin : getT t = ([], 0, 5) := by rw [E.out, HDR.out, H2.out, List.drop_eq_nil_of_le (by omega), comb_short1]
          have HF := Lib.hid hfin; clear hfin
          go_wp2
          go_ret3
          exact ⟨by rw [HF.out]; rfl, _, rfl⟩
      · have t1 := u8_nzb h2
        have t1' := u8_nz h2
        have hcv := conv1 (w := w.drewN j) (k := p) (c := c) hc0 hab
        have H2 := Lib.hid h2; clear h2
        go_wp2
        go_roundw
        case rel =>
          refine ⟨p + 1, acc ++ [t[p]], by omega, by simp; omega, by go_num, ?_, ⟨_, rfl⟩, ?_⟩
          · rw [str_app]
          · show getT t = _
            rw [E.out, HDR.out, comb_step _ _ _ _ H2.out]
        case measure => simp [intOf]; omega
    · have hfin : getT t = ([], 0, 5) := by rw [E.out, List.drop_eq_nil_of_le (by omega), comb_short]
      have HF := Lib.hid hfin; clear hfin
      go_wp2
      go_ret3
      exact ⟨by rw [HF.out]; rfl, _, rfl⟩
end Go.Proofs.Ytpnolgghbenekaa
