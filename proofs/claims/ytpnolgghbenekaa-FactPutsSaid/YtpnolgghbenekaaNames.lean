/-
  Layer 10, names: the words, names.Word, bushelref10.Place.
-/
import Derived.Test.YtpnolgghbenekaaBlk
namespace Go.Proofs.Ytpnolgghbenekaa
open Go.ChangeShapes Go.WideShapes Go.ChangeAt Go.RowKit
set_option linter.unusedVariables false

theorem bl_trans : ∀ {a b c : List UInt8}, Op.bytesLess a b = true → Op.bytesLess b c = true → Op.bytesLess a c = true
  | _, [], _, h, _ => by cases ‹List UInt8› <;> simp [Op.bytesLess] at h
  | _, _ :: _, [], _, h => by simp [Op.bytesLess] at h
  | [], _ :: _, _ :: _, _, _ => by simp [Op.bytesLess]
  | a :: x, b :: y, c :: z, h1, h2 => by
    simp only [Op.bytesLess, Bool.or_eq_true, Bool.and_eq_true, decide_eq_true_iff, beq_iff_eq] at h1 h2 ⊢
    rcases h1 with h1 | ⟨rfl, h1⟩
    · rcases h2 with h2 | ⟨rfl, h2⟩
      · exact .inl (UInt8.lt_trans h1 h2)
      · exact .inl h1
    · rcases h2 with h2 | ⟨rfl, h2⟩
      · exact .inl h2
      · exact .inr ⟨rfl, bl_trans h1 h2⟩
theorem bl_irr : ∀ a : List UInt8, Op.bytesLess a a = false
  | [] => rfl
  | a :: x => by simp [Op.bytesLess, bl_irr x]
theorem bl_tri : ∀ {a b : List UInt8}, Op.bytesLess a b = false → a ≠ b → Op.bytesLess b a = true
  | [], [], _, h => absurd rfl h
  | [], _ :: _, h, _ => by simp [Op.bytesLess] at h
  | _ :: _, [], _, _ => by simp [Op.bytesLess]
  | a :: x, b :: y, h1, h2 => by
    simp only [Op.bytesLess, Bool.or_eq_false_iff, decide_eq_false_iff_not, Bool.and_eq_false_iff, beq_eq_false_iff_ne, ne_eq] at h1
    simp only [Op.bytesLess, Bool.or_eq_true, Bool.and_eq_true, decide_eq_true_iff, beq_iff_eq]
    obtain ⟨h3, h4⟩ := h1
    by_cases e : a = b
    · subst e
      rcases h4 with h4 | h4
      · exact absurd rfl h4
      · exact .inr ⟨rfl, bl_tri h4 (fun e => h2 (by rw [e]))⟩
    · exact .inl (by
        have h5 : ¬ a.toNat < b.toNat := fun h => h3 (UInt8.lt_iff_toNat_lt.2 h)
        have h6 : a.toNat ≠ b.toNat := fun h => e (UInt8.toNat_inj.1 h)
        exact UInt8.lt_iff_toNat_lt.2 (by omega))
/-- the words -/
def wordsL : List ByteArray := [⟨#[97, 110, 100]⟩, ⟨#[97, 115, 99]⟩, ⟨#[98, 121]⟩, ⟨#[99, 111, 117, 110, 116]⟩, ⟨#[100, 101, 115, 99]⟩, ⟨#[100, 101, 118]⟩, ⟨#[105, 110]⟩, ⟨#[108, 105, 109, 105, 116]⟩, ⟨#[109, 97, 120]⟩, ⟨#[109, 101, 97, 110]⟩, ⟨#[109, 105, 110]⟩, ⟨#[111, 114, 100, 101, 114]⟩, ⟨#[115, 101, 108, 101, 99, 116]⟩, ⟨#[115, 104, 97, 114, 101]⟩, ⟨#[115, 117, 109]⟩, ⟨#[119, 104, 101, 114, 101]⟩]
abbrev strs (l : List ByteArray) : List Value := l.map Value.string
theorem wordsL_len : wordsL.length = 16 := rfl
/-- is a text among those? -/
def memB (l : List ByteArray) (s : ByteArray) : Bool := l.any fun x => x.toList == s.toList
theorem Rd.str_len {w : World} {B n : Nat} {A : Option Addr} {l : List ByteArray} (h : Rd w B 1 A n (strs l)) : n = l.length := by have := h.1; simp at this; omega
theorem Rd.str {w : World} {B n : Nat} {A : Option Addr} {l : List ByteArray} (h : Rd w B 1 A n (strs l)) {k : Nat} (hk : k < l.length) : ∃ a, A = some a ∧ a.block < B ∧ w.cell? (a.add k) = some (.string l[k]) := by
  obtain ⟨a, rfl, hb, hc⟩ := h.2 (by rw [h.str_len]; omega)
  exact ⟨a, rfl, hb, hc k _ (by simp [strs, hk])⟩
theorem words_lit (w : World) : Rd (w.alloc (.cells (strs wordsL).toArray 9)) (w.heap.size + 1) 1 (some ⟨w.heap.size, 0, none⟩) 16 (strs wordsL) :=
  ⟨rfl, fun _ => ⟨_, rfl, Nat.lt_succ_self _, fun j u hu => by
    have hadd : (⟨w.heap.size, 0, none⟩ : Addr).add j = ⟨w.heap.size, j, none⟩ := by unfold Addr.add; split <;> simp_all
    rw [hadd, (Blk.new w 9 (strs wordsL).toArray).cell j]
    simpa using hu⟩⟩
set_option maxRecDepth 20000 in
theorem words_any (w : World) : Calls Try.prog 131 #[] w fun y w' => y = .returned (.slice (some ⟨w.heap.size, 0, none⟩) 16 16) ∧ w.alloc (.cells (strs wordsL).toArray 9) = w' := by
  go_enter Try.func131, Try.ntmps131
  go_wp2
  go_ret
  exact ⟨rfl, rfl⟩
set_option maxRecDepth 20000 in
theorem rwords_any (w : World) : Calls Try.prog 100 #[] w fun y w' => y = .returned (.slice (some ⟨w.heap.size, 0, none⟩) 16 16) ∧ w.alloc (.cells (strs wordsL).toArray 9) = w' := by
  go_enter Try.func100, Try.ntmps100
  go_wp2
  go_ret
  exact ⟨rfl, rfl⟩
/-- where a text stands first, or -1 -/
def PlaceIs (l : List ByteArray) (s : ByteArray) (z : Int) : Prop := (z = -1 ∧ memB l s = false) ∨ (0 ≤ z ∧ z < (l.length : Int) ∧ memB l s = true)
theorem memB_take_succ (l : List ByteArray) (s : ByteArray) (k : Nat) (hk : k < l.length) : memB (l.take (k + 1)) s = (memB (l.take k) s || (l[k].toList == s.toList)) := by
  unfold memB
  rw [List.take_succ_eq_append_getElem hk, List.any_append]
  simp
set_option maxRecDepth 20000 in
theorem place_any (w : World) (A : Option Addr) (n c B : Nat) (l : List ByteArray) (s : ByteArray) (h : Rd w B 1 A n (strs l)) (hn : n ≤ maxLen) :
    Calls Try.prog 99 #[.slice A n c, .string s] w fun y w' => ∃ z, y = .returned (.int .i64 z) ∧ PlaceIs l s z ∧ w = w' := by
  obtain rfl : n = l.length := h.str_len
  unfold maxLen at hn
  have H := Lib.hid h; clear h
  go_enter Try.func99, Try.ntmps99
  go_wp2
  go_loop [5] (fun i => ∃ k : Nat, k ≤ l.length ∧ i = .int .i64 (k : Int) ∧ Hid (memB (l.take k) s = false)) (fun i => l.length - (intOf i).toNat)
  case atStart => exact ⟨0, by omega, rfl, rfl⟩
  case round =>
    obtain ⟨k, hk, rfl, HA⟩ := hrel
    by_cases hlt : k < l.length
    · obtain ⟨a, rfl, hab, x0⟩ := H.out.str hlt
      have q1 : (0 : Int) ≤ (k : Int) := by omega
      have q2 : (k : Int) < (l.length : Int) := by omega
      have hst := memB_take_succ l s k hlt
      rw [HA.out, Bool.false_or] at hst
      have hmem : (l[k].toList == s.toList) = true → memB l s = true := fun e => List.any_eq_true.2 ⟨_, List.getElem_mem hlt, e⟩
      generalize l[k] = x at *
      have HST := Lib.hid hst; have HM := Lib.hid hmem; clear hst hmem
      cases he : (x.toList == s.toList) with
      | true =>
        have hm := HM.out he
        have HMM := Lib.hid hm; clear hm
        go_wp2
        go_ret
        exact ⟨_, rfl, .inr ⟨q1, q2, HMM.out⟩, rfl⟩
      | false =>
        have HE := Lib.hid he
        go_wp2
        go_round
        case rel => exact ⟨k + 1, by omega, by go_num, by show memB (l.take (k + 1)) s = false; rw [HST.out]; exact HE.out⟩
        case measure => simp [intOf]; omega
    · obtain rfl : k = l.length := by omega
      have hA := HA.out
      rw [List.take_length] at hA
      have HA2 := Lib.hid hA; clear hA
      go_wp2
      go_ret
      exact ⟨_, rfl, .inl ⟨rfl, HA2.out⟩, rfl⟩
end Go.Proofs.Ytpnolgghbenekaa
