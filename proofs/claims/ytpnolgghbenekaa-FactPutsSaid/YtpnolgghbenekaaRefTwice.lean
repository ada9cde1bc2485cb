/-
  bushelref10.Twice.
-/
import Derived.Test.YtpnolgghbenekaaNamesOk
import Derived.StillTailTactics
import Derived.Deep.DeepCutAuto
namespace Go.Proofs.Ytpnolgghbenekaa
open Go.ChangeShapes Go.WideShapes Go.ChangeAt Go.RowKit
set_option linter.unusedVariables false

theorem Rd.takeN {w : World} {B n k : Nat} {A : Option Addr} {xs : List Value} (h : Rd w B 1 A n xs) (hk : k ≤ n) : Rd w B 1 A k (xs.take k) :=
  ⟨by rw [List.length_take, h.1]; omega, fun h0 => by
    obtain ⟨a, e, hb, hc⟩ := h.2 (by omega)
    refine ⟨a, e, hb, fun j u hu => hc j u ?_⟩
    rw [List.getElem?_take] at hu
    split at hu
    · exact hu
    · cases hu⟩
theorem PlaceIs.two {l : List ByteArray} {s : ByteArray} {z : Int} (h : PlaceIs l s z) : (z < 0 ∧ memB l s = false) ∨ (0 ≤ z ∧ memB l s = true) := by
  rcases h with ⟨h1, h2⟩ | ⟨h1, _, h2⟩
  · exact .inl ⟨by omega, h2⟩
  · exact .inr ⟨h1, h2⟩
/-- does a text stand twice? -/
def dupTo (l : List ByteArray) (k : Nat) : Bool := (List.range k).any fun i => memB (l.take i) (l.getD i ⟨#[]⟩)
def dupB (l : List ByteArray) : Bool := dupTo l l.length
theorem dupTo_succ (l : List ByteArray) (k : Nat) (hk : k < l.length) : dupTo l (k + 1) = (dupTo l k || memB (l.take k) l[k]) := by
  unfold dupTo
  rw [List.range_succ, List.any_append]
  simp [List.getD, hk]
theorem dupTo_mono (l : List ByteArray) (k : Nat) (hk : k < l.length) (h : memB (l.take k) l[k] = true) : dupB l = true := by
  unfold dupB dupTo
  rw [List.any_eq_true]
  exact ⟨k, List.mem_range.2 hk, by rw [← h]; simp [List.getD, hk]⟩
/-- what a Twice tells -/
def TwIs (l : List ByteArray) (z : Int) : Prop := (z = -1 ∧ dupB l = false) ∨ (0 ≤ z ∧ dupB l = true)
theorem TwIs.dec {l : List ByteArray} {z : Int} (h : TwIs l z) : decide (0 ≤ z) = dupB l := by
  rcases h with ⟨rfl, h⟩ | ⟨h1, h⟩
  · rw [h]; rfl
  · rw [h, decide_eq_true h1]
set_option maxRecDepth 20000 in
set_option maxHeartbeats 1000000 in
theorem refTwice_any (w : World) (A : Option Addr) (n c B : Nat) (l : List ByteArray) (h : Rd w B 1 A n (strs l)) (hnc : n ≤ c) (hc : c ≤ maxLen) :
    Calls Try.prog 62 #[.slice A n c] w fun y w' => ∃ z, y = .returned (.int .i64 z) ∧ TwIs l z ∧ Drw w w' := by
  obtain rfl : n = l.length := h.str_len
  have hcc := hc
  unfold maxLen at hcc
  have H := Lib.hid h; have HC := Lib.hid hc; clear h hc
  go_enter Try.func62, Try.ntmps62
  go_wp2
  go_loopw [3] (fun i wr => ∃ k : Nat, k ≤ l.length ∧ i = .int .i64 (k : Int) ∧ Hid (dupTo l k = false) ∧ Drw w wr) (fun i _ => l.length - (intOf i).toNat)
  case atStart => exact ⟨0, by omega, rfl, rfl, Drw.refl w⟩
  case round =>
    obtain ⟨k, hk, rfl, HA, hd⟩ := hrel
    have HD := Lib.hid hd; clear hd
    by_cases hlt : k < l.length
    · have HR : Hid (Rd wr B 1 A l.length (strs l)) := by obtain ⟨j, hj⟩ := HD.out; exact Lib.hid (by rw [hj]; exact H.out.drewN j)
      obtain ⟨a, rfl, hab, x0⟩ := HR.out.str hlt
      have q1 : (0 : Int) ≤ (k : Int) := by omega
      have q2 : (k : Int) < (l.length : Int) := by omega
      have q3 : (k : Int) ≤ (c : Int) := by omega
      have hst := dupTo_succ l k hlt
      rw [HA.out, Bool.false_or] at hst
      have hmo := dupTo_mono l k hlt
      have htk : Rd wr.drew B 1 (some a) k (strs (l.take k)) := by
        have := HR.out.takeN (k := k) (by omega)
        rw [show strs (l.take k) = (strs l).take k from List.map_take]
        exact this
      have hpl := place_any wr.drew (some a) k c B (l.take k) l[k] htk (by have := HC.out; omega)
      generalize l[k] = x at *
      have HST := Lib.hid hst; have HM := Lib.hid hmo; have HPL := Lib.hid hpl; clear hst hmo hpl htk
      go_upto_region 4 with (fail)
      go_still_tail 7, (by kernel_rfl)
      have hpl2 : Calls Try.prog 99 #[.slice (some a) k c, .string x] wr.drew fun y w' => ∃ z, y = .returned (.int .i64 z) ∧ (z < 0 ∧ memB (l.take k) x = false) ∧ wr.drew = w' ∨ y = .returned (.int .i64 z) ∧ (0 ≤ z ∧ memB (l.take k) x = true) ∧ wr.drew = w' :=
        HPL.out.mono fun y w' ⟨z, h1, h2, h3⟩ => ⟨z, by rcases h2.two with h2 | h2; exact .inl ⟨h1, h2, h3⟩; exact .inr ⟨h1, h2, h3⟩⟩
      have HPL2 := Lib.hid hpl2; clear hpl2
      have HD1 : Hid (Drw w wr.drew) := Lib.hid HD.out.drew
      go_wp2_with fail
      (with_reducible refine HPL2.out.mono ?_)
      rintro y w2 ⟨z, ⟨rfl, ⟨hz, hm⟩, rfl⟩ | ⟨rfl, ⟨hz, hm⟩, rfl⟩⟩
      · rw [hm] at HST
        clear hm
        go_wp2
        go_roundw
        case rel => exact ⟨k + 1, by omega, by go_num, HST, HD1.out⟩
        case measure => simp [intOf]; omega
      · have hy := HM.out hm
        have HY := Lib.hid hy; clear hm hy
        go_wp2
        go_ret
        exact ⟨_, rfl, .inr ⟨q1, HY.out⟩, HD1.out⟩
    · obtain rfl : k = l.length := by omega
      have HA2 : Hid (dupB l = false) := HA
      go_wp2
      go_ret
      exact ⟨_, rfl, .inl ⟨rfl, HA2.out⟩, HD.out⟩
end Go.Proofs.Ytpnolgghbenekaa
