/-
  bushelref08.Read (U), bushelref11.Reader: Ask, U, End.
  bushelref07.high, U, I, T: the document's codes are the same lists of bytes.
  bushelref07.GetU: the document's U of any bytes is the same.
  bushelref10.Twice.
  Layer 10: names.Is, bushelref10.Is.
  Layer 10: names.Word, names.Is, bushelref10.Is.
  Layer 10, names: the words, names.Word, bushelref10.Place.
-/
import Derived.IntWalk
import Derived.Deep.LoopGhost
import Derived.StillTailTactics
import Derived.Deep.DeepCutAuto
import Derived.Test.YtfhmaincnlaapaaSpBufInU
namespace Go.Proofs.Ytfhmaincnlaapaa
open Go.ChangeShapes Go.WideShapes Go.ChangeAt Go.RowKit
set_option linter.unusedVariables false

theorem bl_trans : ∀ {a b c : List UInt8}, Op.bytesLess a b = true → Op.bytesLess b c = true → Op.bytesLess a c = true
  | _, [], _, h, _ => by cases ‹List UInt8› <;> simp [Op.bytesLess] at h
  | _, _ :: _, [], _, h => by simp [Op.bytesLess] at h
  | [], _ :: _, _ :: _, _, _ => by simp [Op.bytesLess]
  | a :: x, b :: y, c :: z, h1, h2 => by
    simp only [Op.bytesLess, Bool.or_eq_true, Bool.and_eq_true, decide_eq_true_iff, beq_iff_eq] at h1 h2 ⊢
    rcases h1 with h1 | ⟨rfl, h1⟩
    · rcases h2 with h2 | ⟨rfl, h2⟩
      · exact .inl (UInt8.lt_trans h1 h2)
      · exact .inl h1
    · rcases h2 with h2 | ⟨rfl, h2⟩
      · exact .inl h2
      · exact .inr ⟨rfl, bl_trans h1 h2⟩
theorem bl_irr : ∀ a : List UInt8, Op.bytesLess a a = false
  | [] => rfl
  | a :: x => by simp [Op.bytesLess, bl_irr x]
theorem bl_tri : ∀ {a b : List UInt8}, Op.bytesLess a b = false → a ≠ b → Op.bytesLess b a = true
  | [], [], _, h => absurd rfl h
  | [], _ :: _, h, _ => by simp [Op.bytesLess] at h
  | _ :: _, [], _, _ => by simp [Op.bytesLess]
  | a :: x, b :: y, h1, h2 => by
    simp only [Op.bytesLess, Bool.or_eq_false_iff, decide_eq_false_iff_not, Bool.and_eq_false_iff, beq_eq_false_iff_ne, ne_eq] at h1
    simp only [Op.bytesLess, Bool.or_eq_true, Bool.and_eq_true, decide_eq_true_iff, beq_iff_eq]
    obtain ⟨h3, h4⟩ := h1
    by_cases e : a = b
    · subst e
      rcases h4 with h4 | h4
      · exact absurd rfl h4
      · exact .inr ⟨rfl, bl_tri h4 (fun e => h2 (by rw [e]))⟩
    · exact .inl (by
        have h5 : ¬ a.toNat < b.toNat := fun h => h3 (UInt8.lt_iff_toNat_lt.2 h)
        have h6 : a.toNat ≠ b.toNat := fun h => e (UInt8.toNat_inj.1 h)
        exact UInt8.lt_iff_toNat_lt.2 (by omega))
/-- the words -/
def wordsL : List ByteArray := [⟨#[97, 110, 100]⟩, ⟨#[97, 115, 99]⟩, ⟨#[98, 121]⟩, ⟨#[99, 111, 117, 110, 116]⟩, ⟨#[100, 101, 115, 99]⟩, ⟨#[100, 101, 118]⟩, ⟨#[105, 110]⟩, ⟨#[108, 105, 109, 105, 116]⟩, ⟨#[109, 97, 120]⟩, ⟨#[109, 101, 97, 110]⟩, ⟨#[109, 105, 110]⟩, ⟨#[111, 114, 100, 101, 114]⟩, ⟨#[115, 101, 108, 101, 99, 116]⟩, ⟨#[115, 104, 97, 114, 101]⟩, ⟨#[115, 117, 109]⟩, ⟨#[119, 104, 101, 114, 101]⟩]
abbrev strs (l : List ByteArray) : List Value := l.map Value.string
theorem wordsL_len : wordsL.length = 16 := rfl
/-- is a text among those? -/
def memB (l : List ByteArray) (s : ByteArray) : Bool := l.any fun x => x.toList == s.toList
theorem Rd.str_len {w : World} {B n : Nat} {A : Option Addr} {l : List ByteArray} (h : Rd w B 1 A n (strs l)) : n = l.length := by have := h.1; simp at this; omega
theorem Rd.str {w : World} {B n : Nat} {A : Option Addr} {l : List ByteArray} (h : Rd w B 1 A n (strs l)) {k : Nat} (hk : k < l.length) : ∃ a, A = some a ∧ a.block < B ∧ w.cell? (a.add k) = some (.string l[k]) := by
  obtain ⟨a, rfl, hb, hc⟩ := h.2 (by rw [h.str_len]; omega)
  exact ⟨a, rfl, hb, hc k _ (by simp [strs, hk])⟩
theorem words_lit (w : World) : Rd (w.alloc (.cells (strs wordsL).toArray 9)) (w.heap.size + 1) 1 (some ⟨w.heap.size, 0, none⟩) 16 (strs wordsL) :=
  ⟨rfl, fun _ => ⟨_, rfl, Nat.lt_succ_self _, fun j u hu => by
    have hadd : (⟨w.heap.size, 0, none⟩ : Addr).add j = ⟨w.heap.size, j, none⟩ := by unfold Addr.add; split <;> simp_all
    rw [hadd, (Blk.new w 9 (strs wordsL).toArray).cell j]
    simpa using hu⟩⟩
set_option maxRecDepth 20000 in
theorem words_any (w : World) : Calls Try.prog 175 #[] w fun y w' => y = .returned (.slice (some ⟨w.heap.size, 0, none⟩) 16 16) ∧ w.alloc (.cells (strs wordsL).toArray 9) = w' := by
  go_enter Try.func175, Try.ntmps175
  go_wp2
  go_ret
  exact ⟨rfl, rfl⟩
set_option maxRecDepth 20000 in
theorem rwords_any (w : World) : Calls Try.prog 151 #[] w fun y w' => y = .returned (.slice (some ⟨w.heap.size, 0, none⟩) 16 16) ∧ w.alloc (.cells (strs wordsL).toArray 9) = w' := by
  go_enter Try.func151, Try.ntmps151
  go_wp2
  go_ret
  exact ⟨rfl, rfl⟩
/-- where a text stands first, or -1 -/
def PlaceIs (l : List ByteArray) (s : ByteArray) (z : Int) : Prop := (z = -1 ∧ memB l s = false) ∨ (0 ≤ z ∧ z < (l.length : Int) ∧ memB l s = true)
theorem memB_take_succ (l : List ByteArray) (s : ByteArray) (k : Nat) (hk : k < l.length) : memB (l.take (k + 1)) s = (memB (l.take k) s || (l[k].toList == s.toList)) := by
  unfold memB
  rw [List.take_succ_eq_append_getElem hk, List.any_append]
  simp
set_option maxRecDepth 20000 in
theorem place_any (w : World) (A : Option Addr) (n c B : Nat) (l : List ByteArray) (s : ByteArray) (h : Rd w B 1 A n (strs l)) (hn : n ≤ maxLen) :
    Calls Try.prog 150 #[.slice A n c, .string s] w fun y w' => ∃ z, y = .returned (.int .i64 z) ∧ PlaceIs l s z ∧ w = w' := by
  obtain rfl : n = l.length := h.str_len
  unfold maxLen at hn
  have H := Lib.hid h; clear h
  go_enter Try.func150, Try.ntmps150
  go_wp2
  go_loop [5] (fun i => ∃ k : Nat, k ≤ l.length ∧ i = .int .i64 (k : Int) ∧ Hid (memB (l.take k) s = false)) (fun i => l.length - (intOf i).toNat)
  case atStart => exact ⟨0, by omega, rfl, rfl⟩
  case round =>
    obtain ⟨k, hk, rfl, HA⟩ := hrel
    by_cases hlt : k < l.length
    · obtain ⟨a, rfl, hab, x0⟩ := H.out.str hlt
      have q1 : (0 : Int) ≤ (k : Int) := by omega
      have q2 : (k : Int) < (l.length : Int) := by omega
      have hst := memB_take_succ l s k hlt
      rw [HA.out, Bool.false_or] at hst
      have hmem : (l[k].toList == s.toList) = true → memB l s = true := fun e => List.any_eq_true.2 ⟨_, List.getElem_mem hlt, e⟩
      generalize l[k] = x at *
      have HST := Lib.hid hst; have HM := Lib.hid hmem; clear hst hmem
      cases he : (x.toList == s.toList) with
      | true =>
        have hm := HM.out he
        have HMM := Lib.hid hm; clear hm
        go_wp2
        go_ret
        exact ⟨_, rfl, .inr ⟨q1, q2, HMM.out⟩, rfl⟩
      | false =>
        have HE := Lib.hid he
        go_wp2
        go_round
        case rel => exact ⟨k + 1, by omega, by go_num, by show memB (l.take (k + 1)) s = false; rw [HST.out]; exact HE.out⟩
        case measure => simp [intOf]; omega
    · obtain rfl : k = l.length := by omega
      have hA := HA.out
      rw [List.take_length] at hA
      have HA2 := Lib.hid hA; clear hA
      go_wp2
      go_ret
      exact ⟨_, rfl, .inl ⟨rfl, HA2.out⟩, rfl⟩
end Go.Proofs.Ytfhmaincnlaapaa
namespace Go.Proofs.Ytfhmaincnlaapaa
open Go.ChangeShapes Go.WideShapes Go.ChangeAt Go.RowKit
set_option linter.unusedVariables false

theorem words_sorted : ∀ i j : Fin 16, i.1 < j.1 → Op.bytesLess (wordsL[i.1]'(by have := i.2; have := wordsL_len; omega)).toList (wordsL[j.1]'(by have := j.2; have := wordsL_len; omega)).toList = true := by decide +kernel
theorem words_lt (i j : Nat) (hij : i < j) (hj : j < wordsL.length) : Op.bytesLess (wordsL[i]'(by omega)).toList wordsL[j].toList = true :=
  words_sorted ⟨i, by have := wordsL_len; omega⟩ ⟨j, by have := wordsL_len; omega⟩ hij
theorem add_lit0 (g k : Nat) : (⟨g, 0, none⟩ : Addr).add k = ⟨g, k, none⟩ := by unfold Addr.add; split <;> simp_all
/-- what a search by halves knows -/
def Half (s : ByteArray) (lo hi : Nat) : Prop := (∀ j (hj : j < wordsL.length), j < lo → Op.bytesLess wordsL[j].toList s.toList = true) ∧ (∀ j (hj : j < wordsL.length), hi ≤ j → Op.bytesLess s.toList wordsL[j].toList = true)
theorem Half.no {s : ByteArray} {lo hi : Nat} (h : Half s lo hi) (he : hi ≤ lo) : memB wordsL s = false := by
  unfold memB
  rw [List.any_eq_false]
  intro x hx
  obtain ⟨j, hj, rfl⟩ := List.getElem_of_mem hx
  rw [beq_iff_eq]
  intro e
  rcases Nat.lt_or_ge j lo with h1 | h1
  · have := h.1 j hj h1
    rw [e, bl_irr] at this; cases this
  · have := h.2 j hj (by omega)
    rw [e, bl_irr] at this; cases this
theorem Half.up {s : ByteArray} {lo hi mid : Nat} (h : Half s lo hi) (hm : mid < wordsL.length) (hl : Op.bytesLess wordsL[mid].toList s.toList = true) : Half s (mid + 1) hi :=
  ⟨fun j hj hjm => by
    rcases Nat.lt_or_ge j mid with h1 | h1
    · exact bl_trans (words_lt j mid h1 hm) hl
    · obtain rfl : j = mid := by omega
      exact hl, h.2⟩
theorem Half.down {s : ByteArray} {lo hi mid : Nat} (h : Half s lo hi) (hm : mid < wordsL.length) (hl : Op.bytesLess wordsL[mid].toList s.toList = false) (hne : (wordsL[mid].toList == s.toList) = false) : Half s lo mid :=
  ⟨h.1, fun j hj hjm => by
    have h2 := bl_tri hl (by rw [beq_eq_false_iff_ne] at hne; exact hne)
    rcases Nat.eq_or_lt_of_le hjm with h1 | h1
    · subst h1; exact h2
    · exact bl_trans h2 (words_lt mid j h1 hj)⟩
set_option maxRecDepth 20000 in
set_option maxHeartbeats 1000000 in
theorem word_any (w : World) (s : ByteArray) : Calls Try.prog 155 #[.string s] w fun y w' => y = .returned (.bool (memB wordsL s)) ∧ w.alloc (.cells (strs wordsL).toArray 9) = w' := by
  have hr := words_lit w
  have hhd : Half s 0 16 := ⟨fun j _ h => by omega, fun j hj h => by have := wordsL_len; omega⟩
  have HR := Lib.hid hr; have HHD := Lib.hid hhd; clear hr hhd
  go_enter Try.func155, Try.ntmps155
  go_wp2_with (go_at_call 175; (with_reducible refine (words_any _).mono ?_); rintro y w1 ⟨rfl, hw1⟩)
  rw [hw1] at HR
  have HW1 := Lib.hid hw1; clear hw1
  go_loop [4, 5] (fun v4 v5 => ∃ lo hi : Nat, lo ≤ hi ∧ hi ≤ 16 ∧ v4 = .int .i64 (lo : Int) ∧ v5 = .int .i64 (hi : Int) ∧ Hid (Half s lo hi)) (fun v4 v5 => (intOf v5).toNat - (intOf v4).toNat)
  case atStart => exact ⟨0, 16, by omega, by omega, rfl, rfl, HHD⟩
  case round =>
    obtain ⟨lo, hi, hlh, h16, rfl, rfl, HA⟩ := hrel
    by_cases hlt : lo < hi
    · obtain ⟨mid, hmid⟩ : ∃ mid, (lo + hi) / 2 = mid := ⟨_, rfl⟩
      have hm1 : lo ≤ mid := by omega
      have hm2 : mid < hi := by omega
      have hq : ((lo : Int) + (hi : Int)).tdiv 2 = (mid : Int) := by
        rw [Int.tdiv_eq_ediv_of_nonneg (by omega)]; omega
      have q0 : (lo : Int) < (hi : Int) := by omega
      have q1 : (0 : Int) ≤ (mid : Int) := by omega
      have q2 : (mid : Int) < 16 := by omega
      have hml : mid < wordsL.length := by have := wordsL_len; omega
      obtain ⟨a, ha, hab, x0⟩ := HR.out.str hml
      injection ha with ha
      subst ha
      rw [add_lit0] at x0
      have hup := HA.out.up hml
      have hdn := HA.out.down hml
      have hmem : (wordsL[mid].toList == s.toList) = true → memB wordsL s = true := fun e => List.any_eq_true.2 ⟨_, List.getElem_mem hml, e⟩
      have HMID := Lib.hid hmid; clear hmid
      generalize wordsL[mid] = x at *
      have HUP := Lib.hid hup; have HDN := Lib.hid hdn; have HM := Lib.hid hmem; clear hup hdn hmem
      cases he : (x.toList == s.toList) with
      | true =>
        have hm := HM.out he
        have HMM := Lib.hid hm; clear hm
        go_wp2
        go_ret
        exact ⟨by rw [HMM.out]; rfl, HW1.out⟩
      | false =>
        cases hl : Op.bytesLess x.toList s.toList with
        | true =>
          have hu := HUP.out hl
          have HU := Lib.hid hu; clear hu
          go_wp2
          go_round
          case rel => exact ⟨mid + 1, hi, by omega, by omega, by go_num, rfl, HU⟩
          case measure => simp [intOf]; omega
        | false =>
          have hd := HDN.out hl he
          have HD := Lib.hid hd; clear hd
          go_wp2
          go_round
          case rel => exact ⟨lo, mid, by omega, by omega, rfl, rfl, HD⟩
          case measure => simp [intOf]; omega
    · have hno := HA.out.no (by omega)
      have HNO := Lib.hid hno; clear hno
      go_wp2
      go_ret
      exact ⟨by rw [HNO.out]; rfl, HW1.out⟩
end Go.Proofs.Ytfhmaincnlaapaa
namespace Go.Proofs.Ytfhmaincnlaapaa
open Go.ChangeShapes Go.WideShapes Go.ChangeAt Go.RowKit
set_option linter.unusedVariables false

def smallC (c : UInt8) : Bool := decide (97 ≤ c.toNat) && decide (c.toNat ≤ 122)
def otherC (c : UInt8) : Bool := (decide (48 ≤ c.toNat) && decide (c.toNat ≤ 57)) || decide (c.toNat = 95)
def okC (c : UInt8) : Bool := smallC c || otherC c
/-- is a text a name? -/
def isB (s : ByteArray) : Bool := decide (1 ≤ s.size) && decide (s.size ≤ 16) && smallC (s.data.toList.headD 0) && s.data.toList.all okC && !memB wordsL s
theorem isB_long (s : ByteArray) (h : ¬ s.size ≤ 16) : isB s = false := by unfold isB; rw [decide_eq_false h]; simp
theorem isB_first (s : ByteArray) (h : smallC (s.data.toList.headD 0) = false) : isB s = false := by unfold isB; rw [h]; simp
theorem isB_bad (s : ByteArray) (k : Nat) (hk : k < s.size) (h : okC s[k] = false) : isB s = false := by
  have : s.data.toList.all okC = false := by
    rw [List.all_eq_false]
    exact ⟨s[k], by
      have hk2 : k < s.data.toList.length := by simpa using hk
      have : s[k] = s.data.toList[k] := rfl
      rw [this]; exact List.getElem_mem hk2, by rw [h]; decide⟩
  unfold isB
  rw [this]; simp
theorem isB_word (s : ByteArray) (h : memB wordsL s = true) : isB s = false := by unfold isB; rw [h]; simp
theorem headD_getT (L : List UInt8) (hL : 0 < L.length) : L.headD 0 = L[0] := by
  cases L with
  | nil => simp at hL
  | cons a l => rfl
theorem head_get (s : ByteArray) (h1 : 1 ≤ s.size) : s.data.toList.headD 0 = s[0]'(by omega) := by
  have hl : s.data.toList.length = s.size := rfl
  rw [headD_getT _ (by omega)]; rfl
theorem isB_yes (s : ByteArray) (h1 : 1 ≤ s.size) (h2 : s.size ≤ 16) (h3 : smallC (s[0]'(by omega)) = true) (h4 : ∀ k (hk : k < s.size), okC s[k] = true) : isB s = !memB wordsL s := by
  have h5 : s.data.toList.all okC = true := by
    rw [List.all_eq_true]
    intro x hx
    obtain ⟨j, hj, rfl⟩ := List.getElem_of_mem hx
    exact h4 j hj
  unfold isB
  rw [decide_eq_true h1, decide_eq_true h2, h5, head_get s h1, h3]; simp
theorem toList_ne (s : ByteArray) (h : 1 ≤ s.size) : s.toList.isEmpty = false := by
  have hl : s.data.toList.length = s.size := rfl
  rw [ByteArray.toList_eq]
  cases hs : s.data.toList with
  | nil => rw [hs] at hl; simp at hl; omega
  | cons a l => rfl
theorem nat_cases (n : Nat) : n < 48 ∨ (48 ≤ n ∧ n ≤ 57) ∨ (57 < n ∧ n < 95) ∨ n = 95 ∨ n = 96 ∨ (97 ≤ n ∧ n ≤ 122) ∨ 122 < n := by omega
set_option maxRecDepth 20000 in
set_option maxHeartbeats 2000000 in
theorem is_any (w : World) (s : ByteArray) : Calls Try.prog 101 #[.string s] w fun y w' => y = .returned (.bool (isB s)) ∧ Below w.heap.size w w' := by
  by_cases h0 : s.size = 0
  · obtain rfl : s = ⟨#[]⟩ := by
      apply ByteArray.ext
      exact Array.eq_empty_of_size_eq_zero h0
    go_enter Try.func101, Try.ntmps101
    go_wp2
    go_ret
    exact ⟨rfl, belR w⟩
  · have h1 : 1 ≤ s.size := by omega
    have hne := toList_ne s h1
    clear h0
    by_cases h16 : s.size ≤ 16
    · have hh := head_get s h1
      by_cases hf1 : (s[0]'(by omega)).toNat < 97
      · have hno := isB_first s (by rw [hh]; unfold smallC; rw [decide_eq_false (by omega)]; rfl)
        have HNO := Lib.hid hno; clear hno hh
        go_enter Try.func101, Try.ntmps101
        go_wp2
        go_ret
        exact ⟨by rw [HNO.out]; rfl, belR w⟩
      · by_cases hf2 : 122 < (s[0]'(by omega)).toNat
        · have hno := isB_first s (by rw [hh]; unfold smallC; rw [decide_eq_false (show ¬ (s[0]'(by omega)).toNat ≤ 122 by omega)]; simp)
          have HNO := Lib.hid hno; clear hno hh
          go_enter Try.func101, Try.ntmps101
          go_wp2
          go_ret
          exact ⟨by rw [HNO.out]; rfl, belR w⟩
        · have hsm : smallC (s[0]'(by omega)) = true := by unfold smallC; rw [decide_eq_true (by omega), decide_eq_true (by omega)]; rfl
          have HSM := Lib.hid hsm; clear hsm hh
          have HW := Lib.hid (fun W => word_any W s)
          go_enter Try.func101, Try.ntmps101
          go_wp2
          clear hne hf1 hf2
          go_loop [24] (fun i => ∃ k : Nat, k ≤ s.size ∧ i = .int .i64 (k : Int) ∧ Hid (∀ j (hj : j < s.size), j < k → okC s[j] = true)) (fun i => s.size - (intOf i).toNat)
          case atStart => exact ⟨0, by omega, rfl, fun j _ hj => by omega⟩
          case round =>
            obtain ⟨k, hk, rfl, HA⟩ := hrel
            by_cases hlt : k < s.size
            · have hbad := isB_bad s k hlt
              have hst := fun (h : okC s[k] = true) => (show ∀ j (hj : j < s.size), j < k + 1 → okC s[j] = true from fun j hj hjk => by
                by_cases e : j = k
                · subst e; exact h
                · exact HA.out j hj (by omega))
              have q1 : (0 : Int) ≤ (k : Int) := by omega
              have q2 : (k : Int) < (s.size : Int) := by omega
              have HST := Lib.hid hst; have HBAD := Lib.hid hbad; clear hst hbad
              rcases nat_cases s[k].toNat with hc | hc | hc | hc | hc | hc | hc
              case inl | inr.inr.inl | inr.inr.inr.inr.inl | inr.inr.inr.inr.inr.inr =>
                have hno := HBAD.out (by unfold okC smallC otherC; simp; omega)
                have HNO := Lib.hid hno; clear hno
                have t95 : ((s[k].toNat : Int) != 95) = true := by rw [bne_iff_ne]; omega
                go_wp2
                go_ret
                exact ⟨by rw [HNO.out]; rfl, belR w⟩
              all_goals
                have hy := HST.out (by unfold okC smallC otherC; simp; omega)
                have HY := Lib.hid hy; clear hy
                go_wp2
                go_round
                case rel => exact ⟨k + 1, by omega, by go_num, HY⟩
                case measure => simp [intOf]; omega
            · have hyes := isB_yes s h1 h16 HSM.out (fun j hj => HA.out j hj (by omega))
              have HYES := Lib.hid hyes; clear hyes
              go_wp2_with (go_at_call 155; (with_reducible refine (HW.out _).mono ?_); rintro y w1 ⟨rfl, hw1⟩)
              go_ret
              exact ⟨by rw [HYES.out]; rfl, by rw [← hw1]; exact belA (belR w) _⟩
    · have hno := isB_long s h16
      have HNO := Lib.hid hno; clear hno
      go_enter Try.func101, Try.ntmps101
      go_wp2
      go_ret
      exact ⟨by rw [HNO.out]; rfl, belR w⟩
set_option maxRecDepth 20000 in
set_option maxHeartbeats 2000000 in
theorem refIs_any (w : World) (s : ByteArray) : Calls Try.prog 87 #[.string s] w fun y w' => y = .returned (.bool (isB s)) ∧ Below w.heap.size w w' := by
  by_cases h0 : s.size < 1
  · have hno : isB s = false := by unfold isB; rw [decide_eq_false (by omega)]; rfl
    have HNO := Lib.hid hno; clear hno
    go_enter Try.func87, Try.ntmps87
    go_wp2
    go_ret
    exact ⟨by rw [HNO.out]; rfl, belR w⟩
  · have h1 : 1 ≤ s.size := by omega
    by_cases h16 : s.size ≤ 16
    · have HP := Lib.hid (place_any (w.alloc (.cells (strs wordsL).toArray 9)) _ 16 16 _ wordsL s (words_lit w) (by unfold maxLen; omega))
      have hb1 := belA (belR w) (.cells (strs wordsL).toArray 9)
      have HB1 := Lib.hid hb1; clear hb1
      cases hm : memB wordsL s with
      | true =>
        have hno := isB_word s hm
        have HNO := Lib.hid hno; have HM := Lib.hid hm; clear hno hm
        go_enter Try.func87, Try.ntmps87
        go_wp2_with (first
          | (go_at_call 151; (with_reducible refine (rwords_any _).mono ?_); rintro y w1 ⟨rfl, rfl⟩)
          | (go_at_call 150; (with_reducible refine HP.out.mono ?_); rintro y w2 ⟨z, rfl, hz, rfl⟩; have hz0 : 0 ≤ z := by rcases hz with ⟨_, hz⟩ | ⟨hz, _⟩; (rw [HM.out] at hz; cases hz); exact hz))
        go_ret
        exact ⟨by rw [HNO.out]; rfl, HB1.out⟩
      | false =>
        have hh := head_get s h1
        have HM := Lib.hid hm; clear hm
        have HH := Lib.hid hh; clear hh
        go_enter Try.func87, Try.ntmps87
        go_wp2_with (first
          | (go_at_call 151; (with_reducible refine (rwords_any _).mono ?_); rintro y w1 ⟨rfl, rfl⟩)
          | (go_at_call 150; (with_reducible refine HP.out.mono ?_); rintro y w2 ⟨z, rfl, hz, rfl⟩; have hz0 : ¬ 0 ≤ z := by rcases hz with ⟨hz, _⟩ | ⟨_, _, hz⟩; omega; (rw [HM.out] at hz; cases hz)))
        go_loop [3] (fun i => ∃ k : Nat, k ≤ s.size ∧ i = .int .i64 (k : Int) ∧ Hid ((∀ j (hj : j < s.size), j < k → okC s[j] = true) ∧ (0 < k → smallC (s[0]'(by omega)) = true))) (fun i => s.size - (intOf i).toNat)
        case atStart => exact ⟨0, by omega, rfl, ⟨fun j _ hj => by omega, fun h => by omega⟩⟩
        case round =>
          obtain ⟨k, hk, rfl, HA⟩ := hrel
          by_cases hlt : k < s.size
          · have hbad := isB_bad s k hlt
            have hbad0 := isB_first s
            rw [HH.out] at hbad0
            have hst := fun (h : okC s[k] = true) (h0 : k = 0 → smallC (s[0]'(by omega)) = true) => (show (∀ j (hj : j < s.size), j < k + 1 → okC s[j] = true) ∧ (0 < k + 1 → smallC (s[0]'(by omega)) = true) from ⟨fun j hj hjk => by
              by_cases e : j = k
              · subst e; exact h
              · exact HA.out.1 j hj (by omega), fun _ => by
              by_cases e : k = 0
              · exact h0 e
              · exact HA.out.2 (by omega)⟩)
            have q1 : (0 : Int) ≤ (k : Int) := by omega
            have q2 : (k : Int) < (s.size : Int) := by omega
            have HST := Lib.hid hst; have HBAD := Lib.hid hbad; have HBAD0 := Lib.hid hbad0; clear hst hbad hbad0
            rcases nat_cases s[k].toNat with hc | hc | hc | hc | hc | hc | hc
            case inl | inr.inr.inl | inr.inr.inr.inr.inl | inr.inr.inr.inr.inr.inr =>
              have hno := HBAD.out (by unfold okC smallC otherC; simp; omega)
              have HNO := Lib.hid hno; clear hno
              have t95 : ((s[k].toNat : Int) == 95) = false := by rw [beq_eq_false_iff_ne]; omega
              try have t122 : decide ((s[k].toNat : Int) ≤ 122) = false := decide_eq_false (by omega)
              go_wp2
              go_ret
              exact ⟨by rw [HNO.out]; rfl, HB1.out⟩
            case inr.inr.inr.inr.inr.inl =>
              have hy := HST.out (by unfold okC smallC otherC; simp; omega) (fun e => by subst e; unfold smallC; simp; omega)
              have HY := Lib.hid hy; clear hy
              go_wp2
              go_round
              case rel => exact ⟨k + 1, by omega, by go_num, HY⟩
              case measure => simp [intOf]; omega
            all_goals
              by_cases hk0 : k = 0
              · subst hk0
                have hno := HBAD0.out (by unfold smallC; simp; omega)
                have HNO := Lib.hid hno; clear hno
                go_wp2
                go_ret
                exact ⟨by rw [HNO.out]; rfl, HB1.out⟩
              · have tk : ((k : Int) == 0) = false := by rw [beq_eq_false_iff_ne]; omega
                have hy := HST.out (by unfold okC smallC otherC; simp; omega) (fun e => absurd e hk0)
                have HY := Lib.hid hy; clear hy hk0
                go_wp2
                go_round
                case rel => exact ⟨k + 1, by omega, by go_num, HY⟩
                case measure => simp [intOf]; omega
          · have hyes := isB_yes s h1 h16 (HA.out.2 (by omega)) (fun j hj => HA.out.1 j hj (by omega))
            rw [HM.out] at hyes
            have HYES := Lib.hid hyes; clear hyes
            go_wp2
            go_ret
            exact ⟨by rw [HYES.out]; rfl, HB1.out⟩
    · have hno := isB_long s h16
      have HNO := Lib.hid hno; clear hno
      go_enter Try.func87, Try.ntmps87
      go_wp2
      go_ret
      exact ⟨by rw [HNO.out]; rfl, belR w⟩
end Go.Proofs.Ytfhmaincnlaapaa
namespace Go.Proofs.Ytfhmaincnlaapaa
open Go.ChangeShapes Go.WideShapes Go.ChangeAt Go.RowKit
set_option linter.unusedVariables false

theorem Rd.takeN {w : World} {B n k : Nat} {A : Option Addr} {xs : List Value} (h : Rd w B 1 A n xs) (hk : k ≤ n) : Rd w B 1 A k (xs.take k) :=
  ⟨by rw [List.length_take, h.1]; omega, fun h0 => by
    obtain ⟨a, e, hb, hc⟩ := h.2 (by omega)
    refine ⟨a, e, hb, fun j u hu => hc j u ?_⟩
    rw [List.getElem?_take] at hu
    split at hu
    · exact hu
    · cases hu⟩
theorem PlaceIs.two {l : List ByteArray} {s : ByteArray} {z : Int} (h : PlaceIs l s z) : (z < 0 ∧ memB l s = false) ∨ (0 ≤ z ∧ memB l s = true) := by
  rcases h with ⟨h1, h2⟩ | ⟨h1, _, h2⟩
  · exact .inl ⟨by omega, h2⟩
  · exact .inr ⟨h1, h2⟩
/-- does a text stand twice? -/
def dupTo (l : List ByteArray) (k : Nat) : Bool := (List.range k).any fun i => memB (l.take i) (l.getD i ⟨#[]⟩)
def dupB (l : List ByteArray) : Bool := dupTo l l.length
theorem dupTo_succ (l : List ByteArray) (k : Nat) (hk : k < l.length) : dupTo l (k + 1) = (dupTo l k || memB (l.take k) l[k]) := by
  unfold dupTo
  rw [List.range_succ, List.any_append]
  simp [List.getD, hk]
theorem dupTo_mono (l : List ByteArray) (k : Nat) (hk : k < l.length) (h : memB (l.take k) l[k] = true) : dupB l = true := by
  unfold dupB dupTo
  rw [List.any_eq_true]
  exact ⟨k, List.mem_range.2 hk, by rw [← h]; simp [List.getD, hk]⟩
/-- what a Twice tells -/
def TwIs (l : List ByteArray) (z : Int) : Prop := (z = -1 ∧ dupB l = false) ∨ (0 ≤ z ∧ dupB l = true)
set_option maxRecDepth 20000 in
set_option maxHeartbeats 1000000 in
theorem refTwice_any (w : World) (A : Option Addr) (n c B : Nat) (l : List ByteArray) (h : Rd w B 1 A n (strs l)) (hnc : n ≤ c) (hc : c ≤ maxLen) :
    Calls Try.prog 88 #[.slice A n c] w fun y w' => ∃ z, y = .returned (.int .i64 z) ∧ TwIs l z ∧ Drw w w' := by
  obtain rfl : n = l.length := h.str_len
  have hcc := hc
  unfold maxLen at hcc
  have H := Lib.hid h; have HC := Lib.hid hc; clear h hc
  go_enter Try.func88, Try.ntmps88
  go_wp2
  go_loopw [3] (fun i wr => ∃ k : Nat, k ≤ l.length ∧ i = .int .i64 (k : Int) ∧ Hid (dupTo l k = false) ∧ Drw w wr) (fun i _ => l.length - (intOf i).toNat)
  case atStart => exact ⟨0, by omega, rfl, rfl, Drw.refl w⟩
  case round =>
    obtain ⟨k, hk, rfl, HA, hd⟩ := hrel
    have HD := Lib.hid hd; clear hd
    by_cases hlt : k < l.length
    · have HR : Hid (Rd wr B 1 A l.length (strs l)) := by obtain ⟨j, hj⟩ := HD.out; exact Lib.hid (by rw [hj]; exact H.out.drewN j)
      obtain ⟨a, rfl, hab, x0⟩ := HR.out.str hlt
      have q1 : (0 : Int) ≤ (k : Int) := by omega
      have q2 : (k : Int) < (l.length : Int) := by omega
      have q3 : (k : Int) ≤ (c : Int) := by omega
      have hst := dupTo_succ l k hlt
      rw [HA.out, Bool.false_or] at hst
      have hmo := dupTo_mono l k hlt
      have htk : Rd wr.drew B 1 (some a) k (strs (l.take k)) := by
        have := HR.out.takeN (k := k) (by omega)
        rw [show strs (l.take k) = (strs l).take k from List.map_take]
        exact this
      have hpl := place_any wr.drew (some a) k c B (l.take k) l[k] htk (by have := HC.out; omega)
      generalize l[k] = x at *
      have HST := Lib.hid hst; have HM := Lib.hid hmo; have HPL := Lib.hid hpl; clear hst hmo hpl htk
      go_upto_region 4 with (fail)
      go_still_tail 7, (by kernel_rfl)
      have hpl2 : Calls Try.prog 150 #[.slice (some a) k c, .string x] wr.drew fun y w' => ∃ z, y = .returned (.int .i64 z) ∧ (z < 0 ∧ memB (l.take k) x = false) ∧ wr.drew = w' ∨ y = .returned (.int .i64 z) ∧ (0 ≤ z ∧ memB (l.take k) x = true) ∧ wr.drew = w' :=
        HPL.out.mono fun y w' ⟨z, h1, h2, h3⟩ => ⟨z, by rcases h2.two with h2 | h2; exact .inl ⟨h1, h2, h3⟩; exact .inr ⟨h1, h2, h3⟩⟩
      have HPL2 := Lib.hid hpl2; clear hpl2
      have HD1 : Hid (Drw w wr.drew) := Lib.hid HD.out.drew
      go_wp2_with fail
      (with_reducible refine HPL2.out.mono ?_)
      rintro y w2 ⟨z, ⟨rfl, ⟨hz, hm⟩, rfl⟩ | ⟨rfl, ⟨hz, hm⟩, rfl⟩⟩
      · rw [hm] at HST
        clear hm
        go_wp2
        go_roundw
        case rel => exact ⟨k + 1, by omega, by go_num, HST, HD1.out⟩
        case measure => simp [intOf]; omega
      · have hy := HM.out hm
        have HY := Lib.hid hy; clear hm hy
        go_wp2
        go_ret
        exact ⟨_, rfl, .inr ⟨q1, HY.out⟩, HD1.out⟩
    · obtain rfl : k = l.length := by omega
      have HA2 : Hid (dupB l = false) := HA
      go_wp2
      go_ret
      exact ⟨_, rfl, .inl ⟨rfl, HA2.out⟩, HD.out⟩
end Go.Proofs.Ytfhmaincnlaapaa
namespace Go.Proofs.Ytfhmaincnlaapaa
open Go.ChangeShapes Go.WideShapes Go.ChangeAt Go.RowKit
set_option linter.unusedVariables false

end Go.Proofs.Ytfhmaincnlaapaa
namespace Go.Proofs.Ytfhmaincnlaapaa
open Go.ChangeShapes Go.WideShapes Go.ChangeAt Go.RowKit
set_option linter.unusedVariables false

theorem wdF_div (f x k : Nat) (h : x < 256 ^ f) : (x / 256 ^ k = 0 ↔ wdF f x ≤ k) := by
  induction f generalizing x k with
  | zero => simp at h; subst h; simp [wdF]
  | succ f ih =>
    rw [wdF]
    by_cases h0 : x = 0
    · rw [if_pos h0, h0]; simp
    · rw [if_neg h0]
      cases k with
      | zero => simp; exact h0
      | succ k =>
        have := ih (x / 256) k (by rw [Nat.pow_succ] at h; omega)
        rw [Nat.pow_succ, Nat.mul_comm, ← Nat.div_div_eq_div_mul, this]; omega
theorem wd_div (x k : Nat) (h : x < 18446744073709551616) : (x / 256 ^ k = 0 ↔ wd x ≤ k) := wdF_div 8 x k (by simpa using h)
theorem div_step (x k : Nat) : x / 256 ^ k / 256 = x / 256 ^ (k + 1) := by rw [Nat.div_div_eq_div_mul, Nat.pow_succ]
/-- a slice of one byte that the call has just laid, with a slice of the call's own appended to it -/
theorem own_lit1n (w : World) (z : Int) (b : Nat) (base : Nat) (hbase : base ≤ w.heap.size) (hz : z = ((b % 256 : Nat) : Int)) : (w.alloc (.cells #[.int .u8 z] 5)).ownsRow base 5 1 (.slice (some ⟨w.heap.size, 0, none⟩) 1 1) 1 (u8s [UInt8.ofNat b]) := by
  have := own_lit1 w (.int .u8 z) base hbase 5
  have e : u8s [UInt8.ofNat b] = [.int .u8 z] := by
    simp only [u8s, List.map_cons, List.map_nil, UInt8.toNat_ofNat', hz]
  rw [e]; exact this
theorem appd_lit {B : Nat} {w w' : World} {o : Obj} {v' : Value} (hB : B ≤ w.heap.size) (h : Appd (w.alloc o) w' (.slice (some ⟨w.heap.size, 0, none⟩) 1 1) v') : Below B w w' :=
  (((Below.refl _ w).alloc (Nat.le_refl _) _).grown h.1 (by simp) (fun k hk => by cases hk; exact Nat.le_refl _)).mono hB

set_option maxRecDepth 20000 in
set_option maxHeartbeats 1000000 in
theorem high_any (x least : Nat) (w : World) (hx : x < 18446744073709551616) (hl : least ≤ 8) :
    Calls Try.prog 156 #[.int .u64 (x : Int), .int .i64 (least : Int)] w fun e w' => ∃ v, e = .returned v ∧ w'.ownsRow w.heap.size 5 1 v (max (wd x) least) (u8s (be (max (wd x) least) x)) ∧ Below w.heap.size w w' := by
  have hw := wd_le x
  go_enter Try.func156, Try.ntmps156
  go_wp2
  go_loopw [0, 5] (fun y v wr => ∃ k z : Nat, k ≤ max (wd x) least ∧ y = .int .u64 (z : Int) ∧ z < 18446744073709551616 ∧ Hid (z = x / 256 ^ k) ∧ wr.ownsRow w.heap.size 5 1 v k (u8s (be k x)) ∧ Below w.heap.size w wr) (fun _ v _ => max (wd x) least - lenOf v)
  case atStart => exact ⟨0, x, by omega, rfl, hx, by show x = _; simp, by simpa [be, u8s] using World.ownsRow_nil w w.heap.size _ 1, Below.refl _ _⟩
  case round =>
    obtain ⟨k, z, hk, rfl, hz, Z, ho, hb⟩ := hrel
    have hbz := hb.size
    obtain ⟨A, c, rfl, hc, _, _⟩ := own_form ho
    have hd := wd_div x k hx
    have hR := Rd.own ho
    by_cases hmore : 0 < z ∨ k < least
    · have hk2 : k + 1 ≤ max (wd x) least := by
        rcases hmore with h | h
        · have : ¬ wd x ≤ k := fun hh => by have := hd.2 hh; have := Z.out; omega
          omega
        · omega
      have hlit := own_lit1n wr ((z : Int) % 256) (x / 256 ^ k) w.heap.size hbz (by have := Z.out; omega)
      have hRa := hR.alloc (Nat.le_refl _) (.cells #[.int .u8 ((z : Int) % 256)] 5)
      have HLIT := Lib.hid hlit; have HRA := Lib.hid hRa; have HD := Lib.hid hd; clear hlit hRa hd
      by_cases hz0 : 0 < z
      all_goals
        go_wp2_with (at_builtin; refine wpList_appS _ rfl _ _ 53 rfl w.heap.size 5 _ 1 1 info_u8 rfl (by decide) Try.underlying53 _ _ _ HLIT.out rfl _ _ _ _ _ HRA.out rfl (u8s_one _) ?_ ?_ ?_ ?_; omega; omega; (simp only [World.size_alloc]; omega); intro v2 w2 ho2 hb2)
        obtain ⟨A2, c2, rfl, _⟩ := own_form ho2
        go_roundw
        case rel =>
          refine ⟨k + 1, z / 256, hk2, by go_num, by omega, by show _ = _; rw [← div_step, ← Z.out], ?_, hb.trans (appd_lit hbz hb2)⟩
          rw [show k + 1 = 1 + k by omega]
          have e : u8s [UInt8.ofNat (x / 256 ^ k)] ++ u8s (be k x) = u8s (be (1 + k) x) := by rw [← u8s_append, show 1 + k = k + 1 by omega]; rfl
          rw [← e]; exact ho2
        case measure => simp [lenOf]; omega
    · have hz0 : z = 0 := by omega
      have hk2 : max (wd x) least = k := by
        have := hd.1 (by rw [← Z.out]; exact hz0)
        omega
      have hk3 : ¬ k < least := by omega
      have HK := Lib.hid hk2; have HD := Lib.hid hd; clear hk2 hd hmore hk
      subst hz0
      rw [show ((0 : Nat) : Int) = 0 from rfl]
      go_wp2
      go_ret
      exact ⟨_, rfl, by rw [HK.out]; exact ho, hb⟩

theorem refU_any (x : Nat) (w : World) (hx : x < 18446744073709551616) :
    Calls Try.prog 107 #[.int .u64 (x : Int)] w fun e w' => ∃ v', e = .returned v' ∧ w'.ownsRow w.heap.size 5 1 v' (wd x + 1) (u8s (encU x)) ∧ Below w.heap.size w w' := by
  have hw := wd_le x
  have hh : Calls Try.prog 156 #[.int .u64 (x : Int), .int .i64 0] w fun e w' => ∃ v, e = .returned v ∧ w'.ownsRow w.heap.size 5 1 v (wd x) (u8s (be (wd x) x)) ∧ Below w.heap.size w w' := by
    have := high_any x 0 w hx (by omega)
    rwa [Nat.max_eq_left (Nat.zero_le _)] at this
  have HH := Lib.hid hh; clear hh
  go_enter Try.func107, Try.ntmps107
  go_wp2_with fail
  (with_reducible refine HH.out.mono ?_); rintro e w1 ⟨v1, rfl, ho1, hb1⟩
  obtain ⟨A, c, rfl, hc, _, _⟩ := own_form ho1
  have hbz := hb1.size
  have hR := Rd.own ho1
  have hlit := own_lit1n w1 (wd x : Int) (wd x) w.heap.size hbz (by omega)
  have hRa := hR.alloc (Nat.le_refl _) (.cells #[.int .u8 (wd x : Int)] 5)
  have HLIT := Lib.hid hlit; have HRA := Lib.hid hRa; clear hlit hRa
  go_wp2_with (at_builtin; refine wpList_appS _ rfl _ _ 53 rfl w.heap.size 5 _ 1 1 info_u8 rfl (by decide) Try.underlying53 _ _ _ HLIT.out rfl _ _ _ _ _ HRA.out rfl (u8s_one _) ?_ ?_ ?_ ?_; omega; omega; (simp only [World.size_alloc]; omega); intro v2 w2 ho2 hb2)
  go_ret
  exact ⟨_, rfl, by rw [Nat.add_comm]; rw [← u8s_append] at ho2; exact ho2, hb1.trans (appd_lit hbz hb2)⟩

/-- an owned row's head byte, its mark, and what a store there leaves -/
theorem own_head {w : World} {base n c : Nat} {A : Option Addr} {b : UInt8} {l : List UInt8} (h : w.ownsRow base 5 1 (.slice A n c) n (u8s (b :: l))) :
    ∃ g, A = some ⟨g, 0, none⟩ ∧ base ≤ g ∧ g < w.heap.size ∧ w.cell? ⟨g, 0, none⟩ = some (.int .u8 (b.toNat : Int)) ∧ w.frozen? ⟨g, 0, none⟩ = false ∧
      ∀ d : UInt8, (w.setCell ⟨g, 0, none⟩ (.int .u8 (d.toNat : Int))).ownsRow base 5 1 (.slice A n c) n (u8s (d :: l)) := by
  have hn : n = l.length + 1 := by have := h.1; rw [u8s_length] at this; simp at this; omega
  obtain ⟨g, cap, hv, hg, hgl⟩ := h.form (by omega)
  injection hv with hA _ hcap
  subst hA hcap
  refine ⟨g, rfl, hg, hgl, ?_, h.frozenAt 0, fun d => ?_⟩
  · rw [h.cellAt 0 (by omega)]; rfl
  · have := (h.stored 0 (.int .u8 (d.toNat : Int))).1
    exact this
theorem own_at {w : World} {base n c : Nat} {A : Option Addr} {l : List UInt8} (h : w.ownsRow base 5 1 (.slice A n c) n (u8s l)) (j : Nat) (hj : j < l.length) :
    ∃ g, A = some ⟨g, 0, none⟩ ∧ base ≤ g ∧ g < w.heap.size ∧ w.cell? ⟨g, j, none⟩ = some (.int .u8 ((l[j]'hj).toNat : Int)) ∧ w.frozen? ⟨g, j, none⟩ = false ∧
      ∀ d : UInt8, (w.setCell ⟨g, j, none⟩ (.int .u8 (d.toNat : Int))).ownsRow base 5 1 (.slice A n c) n (u8s (l.set j d)) := by
  have hn : n = l.length := by have := h.1; rw [u8s_length] at this; omega
  obtain ⟨g, cap, hv, hg, hgl⟩ := h.form (by omega)
  injection hv with hA _ hcap
  subst hA hcap
  refine ⟨g, rfl, hg, hgl, ?_, h.frozenAt j, fun d => ?_⟩
  · rw [h.cellAt j (by omega), u8s_get l j hj]
  · have := (h.stored j (.int .u8 (d.toNat : Int))).1
    have e : (u8s l).set j (.int .u8 (d.toNat : Int)) = u8s (l.set j d) := by unfold u8s; rw [List.map_set]
    rw [e] at this
    exact this
set_option maxHeartbeats 1000000 in
theorem refI_pos (x : Nat) (w : World) (hx : x < 9223372036854775808) :
    Calls Try.prog 123 #[.int .i64 (x : Int)] w fun e w' => ∃ v', e = .returned v' ∧ w'.ownsRow w.heap.size 5 1 v' (encI x).length (u8s (encI x)) ∧ Below w.heap.size w w' := by
  have hw := wd_le x
  have hu := refU_any x w (by omega)
  have he : encI (x : Int) = UInt8.ofNat (9 + wd x) :: be (wd x) x := by unfold encI; rw [if_pos (by omega)]; simp
  have hl : (encI (x : Int)).length = wd x + 1 := by rw [he]; simp [be_length]
  have HU := Lib.hid hu; have HE := Lib.hid he; have HL := Lib.hid hl; clear hu he hl
  go_enter Try.func123, Try.ntmps123
  go_wp2_with fail
  (with_reducible refine HU.out.mono ?_); rintro e w1 ⟨v1, rfl, ho1, hb1⟩
  obtain ⟨A, c, rfl, hc, _, _⟩ := own_form ho1
  obtain ⟨g, rfl, hg, hgl, hcell, hfr, hset⟩ := own_head (b := UInt8.ofNat (wd x)) (l := be (wd x) x) ho1
  have e1 : (UInt8.ofNat (wd x)).toNat = wd x := by rw [UInt8.toNat_ofNat']; omega
  rw [e1] at hcell
  have hs2 := hset (UInt8.ofNat (9 + wd x))
  have e2 : (UInt8.ofNat (9 + wd x)).toNat = wd x + 9 := by rw [UInt8.toNat_ofNat']; omega
  rw [e2] at hs2
  have HS := Lib.hid hs2; have HO := Lib.hid ho1; have E1 := Lib.hid e1; have E2 := Lib.hid e2; have HSET := Lib.hid hset; clear hs2 ho1 e1 e2 hset
  go_wp2
  go_ret
  exact ⟨_, rfl, by rw [HL.out, HE.out]; exact HS.out, hb1.setCell hg _⟩
/-- a list whose first j bytes are turned about -/
def fl (l : List UInt8) (j : Nat) : List UInt8 := (l.take j).map (255 - ·) ++ l.drop j
theorem fl_length (l : List UInt8) (j : Nat) (h : j ≤ l.length) : (fl l j).length = l.length := by simp [fl]; omega
theorem fl_zero (l : List UInt8) : fl l 0 = l := by simp [fl]
theorem fl_end (l : List UInt8) : fl l l.length = l.map (255 - ·) := by simp [fl]
theorem fl_get? (l : List UInt8) (j : Nat) (h : j < l.length) : (fl l j)[j]? = some l[j] := by
  unfold fl
  have hj : ((l.take j).map (255 - ·)).length = j := by simp; omega
  rw [List.getElem?_append_right (by omega), hj, Nat.sub_self, List.drop_eq_getElem_cons h]
  rfl
theorem fl_get (l : List UInt8) (j : Nat) (h : j < l.length) (h' : j < (fl l j).length) : (fl l j)[j] = l[j] := by
  have := fl_get? l j h
  rw [List.getElem?_eq_getElem h'] at this
  injection this
theorem fl_set (l : List UInt8) (j : Nat) (h : j < l.length) : (fl l j).set j (255 - l[j]) = fl l (j + 1) := by
  unfold fl
  have hj : ((l.take j).map (255 - ·)).length = j := by simp; omega
  rw [List.set_append_right _ _ (by omega), hj, Nat.sub_self, List.drop_eq_getElem_cons h, List.set_cons_zero, List.take_succ_eq_append_getElem h, List.map_append, List.append_assoc]
  rfl
theorem sub255 (b : UInt8) : (255 : Int) - (b.toNat : Int) = (((255 - b : UInt8)).toNat : Int) := by
  have hb := b.toNat_lt
  rw [UInt8.toNat_sub_of_le _ _ (by rw [UInt8.le_iff_toNat_le]; simp; omega)]
  simp; omega
set_option maxHeartbeats 1000000 in
theorem refI_neg (y : Nat) (w : World) (hy : y < 9223372036854775808) :
    Calls Try.prog 123 #[.int .i64 (-1 - (y : Int))] w fun e w' => ∃ v', e = .returned v' ∧ w'.ownsRow w.heap.size 5 1 v' (encI (-1 - (y : Int))).length (u8s (encI (-1 - (y : Int)))) ∧ Below w.heap.size w w' := by
  have hw := wd_le y
  have hh : Calls Try.prog 156 #[.int .u64 (y : Int), .int .i64 0] w fun e w' => ∃ v, e = .returned v ∧ w'.ownsRow w.heap.size 5 1 v (wd y) (u8s (be (wd y) y)) ∧ Below w.heap.size w w' := by
    have := high_any y 0 w (by omega) (by omega)
    rwa [Nat.max_eq_left (Nat.zero_le _)] at this
  have he : encI (-1 - (y : Int)) = UInt8.ofNat (8 - wd y) :: (be (wd y) y).map (255 - ·) := by
    unfold encI
    rw [if_neg (by omega)]
    have e : (-(-1 - (y : Int) + 1)).toNat = y := by omega
    rw [e, be_flip _ _ hw (by omega)]
  have hl : (encI (-1 - (y : Int))).length = 1 + wd y := by rw [he]; simp [be_length]; omega
  have hyy : (-1 : Int) - (-1 - (y : Int)) = (y : Int) := by omega
  have hneg : -1 - (y : Int) < 0 := by omega
  have hbl := be_length (wd y) y
  generalize be (wd y) y = l at *
  generalize hk : wd y = k at *
  have HH := Lib.hid hh; have HE := Lib.hid he; have HL := Lib.hid hl; have HBL := Lib.hid hbl; have HK := Lib.hid hk; clear hh he hl hbl hk
  go_enter Try.func123, Try.ntmps123
  go_wp2_with fail
  (with_reducible refine HH.out.mono ?_); rintro e w1 ⟨v1, rfl, ho1, hb1⟩
  obtain ⟨A, c, rfl, hc, _, _⟩ := own_form ho1
  have hbz := hb1.size
  have HO1 := Lib.hid ho1; have HC := Lib.hid hc; clear ho1 hc
  go_wp2
  go_loopw [5] (fun i wr => ∃ j : Nat, j ≤ k ∧ i = .int .i64 (j : Int) ∧ wr.ownsRow w.heap.size 5 1 (.slice A k c) k (u8s (fl l j)) ∧ Below w.heap.size w wr) (fun i _ => k - (intOf i).toNat)
  case atStart => exact ⟨0, by omega, rfl, by rw [fl_zero]; exact HO1.out, hb1⟩
  case round =>
    obtain ⟨j, hj, rfl, ho, hb⟩ := hrel
    by_cases hlt : j < k
    · have hjl : j < l.length := by rw [HBL.out]; exact hlt
      have hfl := fl_length l j (by omega)
      obtain ⟨g, rfl, hg, hgl, hcell, hfr, hset⟩ := own_at ho j (by omega)
      rw [fl_get l j hjl] at hcell
      have hs := sub255 l[j]
      have hs2 := hset (255 - l[j])
      rw [fl_set l j hjl] at hs2
      have hb8 := l[j].toNat_lt
      generalize l[j] = b at *
      have HS := Lib.hid hs; have HS2 := Lib.hid hs2; have HF := Lib.hid hfl; have HSET := Lib.hid hset; have HO := Lib.hid ho; clear hs hs2 hfl hset ho hjl
      go_wp2
      go_roundw
      case rel => exact ⟨j + 1, by omega, by go_num, by rw [HS.out]; exact HS2.out, hb.setCell hg _⟩
      case measure => simp [intOf]; omega
    · obtain rfl : k = j := by omega
      have efl : fl l k = l.map (255 - ·) := by rw [← HBL.out]; exact fl_end l
      rw [efl] at ho
      have hbz2 := hb.size
      have hR := Rd.own ho
      have hlit := own_lit1n wr (8 - (k : Int)) (8 - k) w.heap.size hbz2 (by omega)
      have hRa := hR.alloc (Nat.le_refl _) (.cells #[.int .u8 (8 - (k : Int))] 5)
      have HLIT := Lib.hid hlit; have HRA := Lib.hid hRa; have EFL := Lib.hid efl; clear hlit hRa hR efl
      go_wp2_with (at_builtin; refine wpList_appS _ rfl _ _ 53 rfl w.heap.size 5 _ 1 1 info_u8 rfl (by decide) Try.underlying53 _ _ _ HLIT.out rfl _ _ _ _ _ HRA.out rfl (u8s_one _) ?_ ?_ ?_ ?_; omega; omega; (simp only [World.size_alloc]; omega); intro v2 w2 ho2 hb2)
      go_ret
      exact ⟨_, rfl, by rw [HL.out, HE.out]; rw [← u8s_append] at ho2; exact ho2, hb.trans (appd_lit hbz2 hb2)⟩
theorem refI_any (z : Int) (w : World) (h1 : -9223372036854775808 ≤ z) (h2 : z ≤ 9223372036854775807) :
    Calls Try.prog 123 #[.int .i64 z] w fun e w' => ∃ v', e = .returned v' ∧ w'.ownsRow w.heap.size 5 1 v' (encI z).length (u8s (encI z)) ∧ Below w.heap.size w w' := by
  by_cases hz : 0 ≤ z
  · obtain ⟨x, rfl⟩ := Int.eq_ofNat_of_zero_le hz
    exact refI_pos x w (by omega)
  · obtain ⟨y, hy⟩ := Int.eq_ofNat_of_zero_le (show 0 ≤ -1 - z by omega)
    obtain rfl : z = -1 - (y : Int) := by omega
    exact refI_neg y w (by omega)
end Go.Proofs.Ytfhmaincnlaapaa
namespace Go.Proofs.Ytfhmaincnlaapaa
open Go.ChangeShapes Go.WideShapes Go.ChangeAt Go.RowKit
set_option linter.unusedVariables false

section
variable {w w' : World} {g p e : Nat} {t : List UInt8}
end

/-- three new blocks, and some draws -/
def Lit3 (w w' : World) : Prop := ∃ c1 t1 c2 t2 c3 t3 k, w' = (((w.alloc (.cells c1 t1)).alloc (.cells c2 t2)).alloc (.cells c3 t3)).drewN k
theorem Lit3.below {w w' : World} (h : Lit3 w w') : Below w.heap.size w w' := by
  obtain ⟨_, _, _, _, _, _, k, rfl⟩ := h; exact belD (belA (belA (belA (belR w) _) _) _) k
end Go.Proofs.Ytfhmaincnlaapaa
