/-
  bushelref10.Twice.
  Layer 10: names.Is, bushelref10.Is.
  Layer 10: names.Word, names.Is, bushelref10.Is.
  Layer 10, names: the words, names.Word, bushelref10.Place.
-/
import Derived.IntWalk
import Derived.Deep.LoopGhost
import Derived.StillTailTactics
import Derived.Deep.DeepCutAuto
import Derived.Test.YtfhmaincnlaapaaGreatFgBufOut
namespace Go.Proofs.YtfhmaincnlaapaaGreat
open Go.ChangeShapes Go.WideShapes Go.ChangeAt Go.RowKit
set_option linter.unusedVariables false

theorem bl_trans : ∀ {a b c : List UInt8}, Op.bytesLess a b = true → Op.bytesLess b c = true → Op.bytesLess a c = true
  | _, [], _, h, _ => by cases ‹List UInt8› <;> simp [Op.bytesLess] at h
  | _, _ :: _, [], _, h => by simp [Op.bytesLess] at h
  | [], _ :: _, _ :: _, _, _ => by simp [Op.bytesLess]
  | a :: x, b :: y, c :: z, h1, h2 => by
    simp only [Op.bytesLess, Bool.or_eq_true, Bool.and_eq_true, decide_eq_true_iff, beq_iff_eq] at h1 h2 ⊢
    rcases h1 with h1 | ⟨rfl, h1⟩
    · rcases h2 with h2 | ⟨rfl, h2⟩
      · exact .inl (UInt8.lt_trans h1 h2)
      · exact .inl h1
    · rcases h2 with h2 | ⟨rfl, h2⟩
      · exact .inl h2
      · exact .inr ⟨rfl, bl_trans h1 h2⟩
theorem bl_irr : ∀ a : List UInt8, Op.bytesLess a a = false
  | [] => rfl
  | a :: x => by simp [Op.bytesLess, bl_irr x]
theorem bl_tri : ∀ {a b : List UInt8}, Op.bytesLess a b = false → a ≠ b → Op.bytesLess b a = true
  | [], [], _, h => absurd rfl h
  | [], _ :: _, h, _ => by simp [Op.bytesLess] at h
  | _ :: _, [], _, _ => by simp [Op.bytesLess]
  | a :: x, b :: y, h1, h2 => by
    simp only [Op.bytesLess, Bool.or_eq_false_iff, decide_eq_false_iff_not, Bool.and_eq_false_iff, beq_eq_false_iff_ne, ne_eq] at h1
    simp only [Op.bytesLess, Bool.or_eq_true, Bool.and_eq_true, decide_eq_true_iff, beq_iff_eq]
    obtain ⟨h3, h4⟩ := h1
    by_cases e : a = b
    · subst e
      rcases h4 with h4 | h4
      · exact absurd rfl h4
      · exact .inr ⟨rfl, bl_tri h4 (fun e => h2 (by rw [e]))⟩
    · exact .inl (by
        have h5 : ¬ a.toNat < b.toNat := fun h => h3 (UInt8.lt_iff_toNat_lt.2 h)
        have h6 : a.toNat ≠ b.toNat := fun h => e (UInt8.toNat_inj.1 h)
        exact UInt8.lt_iff_toNat_lt.2 (by omega))
/-- the words -/
def wordsL : List ByteArray := [⟨#[97, 110, 100]⟩, ⟨#[97, 115, 99]⟩, ⟨#[98, 121]⟩, ⟨#[99, 111, 117, 110, 116]⟩, ⟨#[100, 101, 115, 99]⟩, ⟨#[100, 101, 118]⟩, ⟨#[105, 110]⟩, ⟨#[108, 105, 109, 105, 116]⟩, ⟨#[109, 97, 120]⟩, ⟨#[109, 101, 97, 110]⟩, ⟨#[109, 105, 110]⟩, ⟨#[111, 114, 100, 101, 114]⟩, ⟨#[115, 101, 108, 101, 99, 116]⟩, ⟨#[115, 104, 97, 114, 101]⟩, ⟨#[115, 117, 109]⟩, ⟨#[119, 104, 101, 114, 101]⟩]
abbrev strs (l : List ByteArray) : List Value := l.map Value.string
theorem wordsL_len : wordsL.length = 16 := rfl
/-- is a text among those? -/
def memB (l : List ByteArray) (s : ByteArray) : Bool := l.any fun x => x.toList == s.toList
theorem Rd.str_len {w : World} {B n : Nat} {A : Option Addr} {l : List ByteArray} (h : Rd w B 1 A n (strs l)) : n = l.length := by have := h.1; simp at this; omega
theorem Rd.str {w : World} {B n : Nat} {A : Option Addr} {l : List ByteArray} (h : Rd w B 1 A n (strs l)) {k : Nat} (hk : k < l.length) : ∃ a, A = some a ∧ a.block < B ∧ w.cell? (a.add k) = some (.string l[k]) := by
  obtain ⟨a, rfl, hb, hc⟩ := h.2 (by rw [h.str_len]; omega)
  exact ⟨a, rfl, hb, hc k _ (by simp [strs, hk])⟩
theorem words_lit (w : World) : Rd (w.alloc (.cells (strs wordsL).toArray 9)) (w.heap.size + 1) 1 (some ⟨w.heap.size, 0, none⟩) 16 (strs wordsL) :=
  ⟨rfl, fun _ => ⟨_, rfl, Nat.lt_succ_self _, fun j u hu => by
    have hadd : (⟨w.heap.size, 0, none⟩ : Addr).add j = ⟨w.heap.size, j, none⟩ := by unfold Addr.add; split <;> simp_all
    rw [hadd, (Blk.new w 9 (strs wordsL).toArray).cell j]
    simpa using hu⟩⟩
set_option maxRecDepth 20000 in
theorem words_any (w : World) : Calls Tryz.prog 193 #[] w fun y w' => y = .returned (.slice (some ⟨w.heap.size, 0, none⟩) 16 16) ∧ w.alloc (.cells (strs wordsL).toArray 9) = w' := by
  go_enter Tryz.func193, Tryz.ntmps193
  go_wp2
  go_ret
  exact ⟨rfl, rfl⟩
set_option maxRecDepth 20000 in
theorem rwords_any (w : World) : Calls Tryz.prog 161 #[] w fun y w' => y = .returned (.slice (some ⟨w.heap.size, 0, none⟩) 16 16) ∧ w.alloc (.cells (strs wordsL).toArray 9) = w' := by
  go_enter Tryz.func161, Tryz.ntmps161
  go_wp2
  go_ret
  exact ⟨rfl, rfl⟩
/-- where a text stands first, or -1 -/
def PlaceIs (l : List ByteArray) (s : ByteArray) (z : Int) : Prop := (z = -1 ∧ memB l s = false) ∨ (0 ≤ z ∧ z < (l.length : Int) ∧ memB l s = true)
theorem memB_take_succ (l : List ByteArray) (s : ByteArray) (k : Nat) (hk : k < l.length) : memB (l.take (k + 1)) s = (memB (l.take k) s || (l[k].toList == s.toList)) := by
  unfold memB
  rw [List.take_succ_eq_append_getElem hk, List.any_append]
  simp
set_option maxRecDepth 20000 in
theorem place_any (w : World) (A : Option Addr) (n c B : Nat) (l : List ByteArray) (s : ByteArray) (h : Rd w B 1 A n (strs l)) (hn : n ≤ maxLen) :
    Calls Tryz.prog 160 #[.slice A n c, .string s] w fun y w' => ∃ z, y = .returned (.int .i64 z) ∧ PlaceIs l s z ∧ w = w' := by
  obtain rfl : n = l.length := h.str_len
  unfold maxLen at hn
  have H := Lib.hid h; clear h
  go_enter Tryz.func160, Tryz.ntmps160
  go_wp2
  go_loop [5] (fun i => ∃ k : Nat, k ≤ l.length ∧ i = .int .i64 (k : Int) ∧ Hid (memB (l.take k) s = false)) (fun i => l.length - (intOf i).toNat)
  case atStart => exact ⟨0, by omega, rfl, rfl⟩
  case round =>
    obtain ⟨k, hk, rfl, HA⟩ := hrel
    by_cases hlt : k < l.length
    · obtain ⟨a, rfl, hab, x0⟩ := H.out.str hlt
      have q1 : (0 : Int) ≤ (k : Int) := by omega
      have q2 : (k : Int) < (l.length : Int) := by omega
      have hst := memB_take_succ l s k hlt
      rw [HA.out, Bool.false_or] at hst
      have hmem : (l[k].toList == s.toList) = true → memB l s = true := fun e => List.any_eq_true.2 ⟨_, List.getElem_mem hlt, e⟩
      generalize l[k] = x at *
      have HST := Lib.hid hst; have HM := Lib.hid hmem; clear hst hmem
      cases he : (x.toList == s.toList) with
      | true =>
        have hm := HM.out he
        have HMM := Lib.hid hm; clear hm
        go_wp2
        go_ret
        exact ⟨_, rfl, .inr ⟨q1, q2, HMM.out⟩, rfl⟩
      | false =>
        have HE := Lib.hid he
        go_wp2
        go_round
        case rel => exact ⟨k + 1, by omega, by go_num, by show memB (l.take (k + 1)) s = false; rw [HST.out]; exact HE.out⟩
        case measure => simp [intOf]; omega
    · obtain rfl : k = l.length := by omega
      have hA := HA.out
      rw [List.take_length] at hA
      have HA2 := Lib.hid hA; clear hA
      go_wp2
      go_ret
      exact ⟨_, rfl, .inl ⟨rfl, HA2.out⟩, rfl⟩
end Go.Proofs.YtfhmaincnlaapaaGreat
namespace Go.Proofs.YtfhmaincnlaapaaGreat
open Go.ChangeShapes Go.WideShapes Go.ChangeAt Go.RowKit
set_option linter.unusedVariables false

theorem words_sorted : ∀ i j : Fin 16, i.1 < j.1 → Op.bytesLess (wordsL[i.1]'(by have := i.2; have := wordsL_len; omega)).toList (wordsL[j.1]'(by have := j.2; have := wordsL_len; omega)).toList = true := by decide +kernel
theorem words_lt (i j : Nat) (hij : i < j) (hj : j < wordsL.length) : Op.bytesLess (wordsL[i]'(by omega)).toList wordsL[j].toList = true :=
  words_sorted ⟨i, by have := wordsL_len; omega⟩ ⟨j, by have := wordsL_len; omega⟩ hij
theorem add_lit0 (g k : Nat) : (⟨g, 0, none⟩ : Addr).add k = ⟨g, k, none⟩ := by unfold Addr.add; split <;> simp_all
/-- what a search by halves knows -/
def Half (s : ByteArray) (lo hi : Nat) : Prop := (∀ j (hj : j < wordsL.length), j < lo → Op.bytesLess wordsL[j].toList s.toList = true) ∧ (∀ j (hj : j < wordsL.length), hi ≤ j → Op.bytesLess s.toList wordsL[j].toList = true)
theorem Half.no {s : ByteArray} {lo hi : Nat} (h : Half s lo hi) (he : hi ≤ lo) : memB wordsL s = false := by
  unfold memB
  rw [List.any_eq_false]
  intro x hx
  obtain ⟨j, hj, rfl⟩ := List.getElem_of_mem hx
  rw [beq_iff_eq]
  intro e
  rcases Nat.lt_or_ge j lo with h1 | h1
  · have := h.1 j hj h1
    rw [e, bl_irr] at this; cases this
  · have := h.2 j hj (by omega)
    rw [e, bl_irr] at this; cases this
theorem Half.up {s : ByteArray} {lo hi mid : Nat} (h : Half s lo hi) (hm : mid < wordsL.length) (hl : Op.bytesLess wordsL[mid].toList s.toList = true) : Half s (mid + 1) hi :=
  ⟨fun j hj hjm => by
    rcases Nat.lt_or_ge j mid with h1 | h1
    · exact bl_trans (words_lt j mid h1 hm) hl
    · obtain rfl : j = mid := by omega
      exact hl, h.2⟩
theorem Half.down {s : ByteArray} {lo hi mid : Nat} (h : Half s lo hi) (hm : mid < wordsL.length) (hl : Op.bytesLess wordsL[mid].toList s.toList = false) (hne : (wordsL[mid].toList == s.toList) = false) : Half s lo mid :=
  ⟨h.1, fun j hj hjm => by
    have h2 := bl_tri hl (by rw [beq_eq_false_iff_ne] at hne; exact hne)
    rcases Nat.eq_or_lt_of_le hjm with h1 | h1
    · subst h1; exact h2
    · exact bl_trans h2 (words_lt mid j h1 hj)⟩
set_option maxRecDepth 20000 in
set_option maxHeartbeats 1000000 in
theorem word_any (w : World) (s : ByteArray) : Calls Tryz.prog 158 #[.string s] w fun y w' => y = .returned (.bool (memB wordsL s)) ∧ w.alloc (.cells (strs wordsL).toArray 9) = w' := by
  have hr := words_lit w
  have hhd : Half s 0 16 := ⟨fun j _ h => by omega, fun j hj h => by have := wordsL_len; omega⟩
  have HR := Lib.hid hr; have HHD := Lib.hid hhd; clear hr hhd
  go_enter Tryz.func158, Tryz.ntmps158
  go_wp2_with (go_at_call 193; (with_reducible refine (words_any _).mono ?_); rintro y w1 ⟨rfl, hw1⟩)
  rw [hw1] at HR
  have HW1 := Lib.hid hw1; clear hw1
  go_loop [4, 5] (fun v4 v5 => ∃ lo hi : Nat, lo ≤ hi ∧ hi ≤ 16 ∧ v4 = .int .i64 (lo : Int) ∧ v5 = .int .i64 (hi : Int) ∧ Hid (Half s lo hi)) (fun v4 v5 => (intOf v5).toNat - (intOf v4).toNat)
  case atStart => exact ⟨0, 16, by omega, by omega, rfl, rfl, HHD⟩
  case round =>
    obtain ⟨lo, hi, hlh, h16, rfl, rfl, HA⟩ := hrel
    by_cases hlt : lo < hi
    · obtain ⟨mid, hmid⟩ : ∃ mid, (lo + hi) / 2 = mid := ⟨_, rfl⟩
      have hm1 : lo ≤ mid := by omega
      have hm2 : mid < hi := by omega
      have hq : ((lo : Int) + (hi : Int)).tdiv 2 = (mid : Int) := by
        rw [Int.tdiv_eq_ediv_of_nonneg (by omega)]; omega
      have q0 : (lo : Int) < (hi : Int) := by omega
      have q1 : (0 : Int) ≤ (mid : Int) := by omega
      have q2 : (mid : Int) < 16 := by omega
      have hml : mid < wordsL.length := by have := wordsL_len; omega
      obtain ⟨a, ha, hab, x0⟩ := HR.out.str hml
      injection ha with ha
      subst ha
      rw [add_lit0] at x0
      have hup := HA.out.up hml
      have hdn := HA.out.down hml
      have hmem : (wordsL[mid].toList == s.toList) = true → memB wordsL s = true := fun e => List.any_eq_true.2 ⟨_, List.getElem_mem hml, e⟩
      have HMID := Lib.hid hmid; clear hmid
      generalize wordsL[mid] = x at *
      have HUP := Lib.hid hup; have HDN := Lib.hid hdn; have HM := Lib.hid hmem; clear hup hdn hmem
      cases he : (x.toList == s.toList) with
      | true =>
        have hm := HM.out he
        have HMM := Lib.hid hm; clear hm
        go_wp2
        go_ret
        exact ⟨by rw [HMM.out]; rfl, HW1.out⟩
      | false =>
        cases hl : Op.bytesLess x.toList s.toList with
        | true =>
          have hu := HUP.out hl
          have HU := Lib.hid hu; clear hu
          go_wp2
          go_round
          case rel => exact ⟨mid + 1, hi, by omega, by omega, by go_num, rfl, HU⟩
          case measure => simp [intOf]; omega
        | false =>
          have hd := HDN.out hl he
          have HD := Lib.hid hd; clear hd
          go_wp2
          go_round
          case rel => exact ⟨lo, mid, by omega, by omega, rfl, rfl, HD⟩
          case measure => simp [intOf]; omega
    · have hno := HA.out.no (by omega)
      have HNO := Lib.hid hno; clear hno
      go_wp2
      go_ret
      exact ⟨by rw [HNO.out]; rfl, HW1.out⟩
end Go.Proofs.YtfhmaincnlaapaaGreat
namespace Go.Proofs.YtfhmaincnlaapaaGreat
open Go.ChangeShapes Go.WideShapes Go.ChangeAt Go.RowKit
set_option linter.unusedVariables false

def smallC (c : UInt8) : Bool := decide (97 ≤ c.toNat) && decide (c.toNat ≤ 122)
def otherC (c : UInt8) : Bool := (decide (48 ≤ c.toNat) && decide (c.toNat ≤ 57)) || decide (c.toNat = 95)
def okC (c : UInt8) : Bool := smallC c || otherC c
/-- is a text a name? -/
def isB (s : ByteArray) : Bool := decide (1 ≤ s.size) && decide (s.size ≤ 16) && smallC (s.data.toList.headD 0) && s.data.toList.all okC && !memB wordsL s
theorem isB_long (s : ByteArray) (h : ¬ s.size ≤ 16) : isB s = false := by unfold isB; rw [decide_eq_false h]; simp
theorem isB_first (s : ByteArray) (h : smallC (s.data.toList.headD 0) = false) : isB s = false := by unfold isB; rw [h]; simp
theorem isB_bad (s : ByteArray) (k : Nat) (hk : k < s.size) (h : okC s[k] = false) : isB s = false := by
  have : s.data.toList.all okC = false := by
    rw [List.all_eq_false]
    exact ⟨s[k], by
      have hk2 : k < s.data.toList.length := by simpa using hk
      have : s[k] = s.data.toList[k] := rfl
      rw [this]; exact List.getElem_mem hk2, by rw [h]; decide⟩
  unfold isB
  rw [this]; simp
theorem isB_word (s : ByteArray) (h : memB wordsL s = true) : isB s = false := by unfold isB; rw [h]; simp
theorem headD_getT (L : List UInt8) (hL : 0 < L.length) : L.headD 0 = L[0] := by
  cases L with
  | nil => simp at hL
  | cons a l => rfl
theorem head_get (s : ByteArray) (h1 : 1 ≤ s.size) : s.data.toList.headD 0 = s[0]'(by omega) := by
  have hl : s.data.toList.length = s.size := rfl
  rw [headD_getT _ (by omega)]; rfl
theorem isB_yes (s : ByteArray) (h1 : 1 ≤ s.size) (h2 : s.size ≤ 16) (h3 : smallC (s[0]'(by omega)) = true) (h4 : ∀ k (hk : k < s.size), okC s[k] = true) : isB s = !memB wordsL s := by
  have h5 : s.data.toList.all okC = true := by
    rw [List.all_eq_true]
    intro x hx
    obtain ⟨j, hj, rfl⟩ := List.getElem_of_mem hx
    exact h4 j hj
  unfold isB
  rw [decide_eq_true h1, decide_eq_true h2, h5, head_get s h1, h3]; simp
theorem toList_ne (s : ByteArray) (h : 1 ≤ s.size) : s.toList.isEmpty = false := by
  have hl : s.data.toList.length = s.size := rfl
  rw [ByteArray.toList_eq]
  cases hs : s.data.toList with
  | nil => rw [hs] at hl; simp at hl; omega
  | cons a l => rfl
theorem nat_cases (n : Nat) : n < 48 ∨ (48 ≤ n ∧ n ≤ 57) ∨ (57 < n ∧ n < 95) ∨ n = 95 ∨ n = 96 ∨ (97 ≤ n ∧ n ≤ 122) ∨ 122 < n := by omega
set_option maxRecDepth 20000 in
set_option maxHeartbeats 2000000 in
theorem is_any (w : World) (s : ByteArray) : Calls Tryz.prog 103 #[.string s] w fun y w' => y = .returned (.bool (isB s)) ∧ Below w.heap.size w w' := by
  by_cases h0 : s.size = 0
  · obtain rfl : s = ⟨#[]⟩ := by
      apply ByteArray.ext
      exact Array.eq_empty_of_size_eq_zero h0
    go_enter Tryz.func103, Tryz.ntmps103
    go_wp2
    go_ret
    exact ⟨rfl, belR w⟩
  · have h1 : 1 ≤ s.size := by omega
    have hne := toList_ne s h1
    clear h0
    by_cases h16 : s.size ≤ 16
    · have hh := head_get s h1
      by_cases hf1 : (s[0]'(by omega)).toNat < 97
      · have hno := isB_first s (by rw [hh]; unfold smallC; rw [decide_eq_false (by omega)]; rfl)
        have HNO := Lib.hid hno; clear hno hh
        go_enter Tryz.func103, Tryz.ntmps103
        go_wp2
        go_ret
        exact ⟨by rw [HNO.out]; rfl, belR w⟩
      · by_cases hf2 : 122 < (s[0]'(by omega)).toNat
        · have hno := isB_first s (by rw [hh]; unfold smallC; rw [decide_eq_false (show ¬ (s[0]'(by omega)).toNat ≤ 122 by omega)]; simp)
          have HNO := Lib.hid hno; clear hno hh
          go_enter Tryz.func103, Tryz.ntmps103
          go_wp2
          go_ret
          exact ⟨by rw [HNO.out]; rfl, belR w⟩
        · have hsm : smallC (s[0]'(by omega)) = true := by unfold smallC; rw [decide_eq_true (by omega), decide_eq_true (by omega)]; rfl
          have HSM := Lib.hid hsm; clear hsm hh
          have HW := Lib.hid (fun W => word_any W s)
          go_enter Tryz.func103, Tryz.ntmps103
          go_wp2
          clear hne hf1 hf2
          go_loop [24] (fun i => ∃ k : Nat, k ≤ s.size ∧ i = .int .i64 (k : Int) ∧ Hid (∀ j (hj : j < s.size), j < k → okC s[j] = true)) (fun i => s.size - (intOf i).toNat)
          case atStart => exact ⟨0, by omega, rfl, fun j _ hj => by omega⟩
          case round =>
            obtain ⟨k, hk, rfl, HA⟩ := hrel
            by_cases hlt : k < s.size
            · have hbad := isB_bad s k hlt
              have hst := fun (h : okC s[k] = true) => (show ∀ j (hj : j < s.size), j < k + 1 → okC s[j] = true from fun j hj hjk => by
                by_cases e : j = k
                · subst e; exact h
                · exact HA.out j hj (by omega))
              have q1 : (0 : Int) ≤ (k : Int) := by omega
              have q2 : (k : Int) < (s.size : Int) := by omega
              have HST := Lib.hid hst; have HBAD := Lib.hid hbad; clear hst hbad
              rcases nat_cases s[k].toNat with hc | hc | hc | hc | hc | hc | hc
              case inl | inr.inr.inl | inr.inr.inr.inr.inl | inr.inr.inr.inr.inr.inr =>
                have hno := HBAD.out (by unfold okC smallC otherC; simp; omega)
                have HNO := Lib.hid hno; clear hno
                have t95 : ((s[k].toNat : Int) != 95) = true := by rw [bne_iff_ne]; omega
                go_wp2
                go_ret
                exact ⟨by rw [HNO.out]; rfl, belR w⟩
              all_goals
                have hy := HST.out (by unfold okC smallC otherC; simp; omega)
                have HY := Lib.hid hy; clear hy
                go_wp2
                go_round
                case rel => exact ⟨k + 1, by omega, by go_num, HY⟩
                case measure => simp [intOf]; omega
            · have hyes := isB_yes s h1 h16 HSM.out (fun j hj => HA.out j hj (by omega))
              have HYES := Lib.hid hyes; clear hyes
              go_wp2_with (go_at_call 158; (with_reducible refine (HW.out _).mono ?_); rintro y w1 ⟨rfl, hw1⟩)
              go_ret
              exact ⟨by rw [HYES.out]; rfl, by rw [← hw1]; exact belA (belR w) _⟩
    · have hno := isB_long s h16
      have HNO := Lib.hid hno; clear hno
      go_enter Tryz.func103, Tryz.ntmps103
      go_wp2
      go_ret
      exact ⟨by rw [HNO.out]; rfl, belR w⟩
set_option maxRecDepth 20000 in
set_option maxHeartbeats 2000000 in
theorem refIs_any (w : World) (s : ByteArray) : Calls Tryz.prog 109 #[.string s] w fun y w' => y = .returned (.bool (isB s)) ∧ Below w.heap.size w w' := by
  by_cases h0 : s.size < 1
  · have hno : isB s = false := by unfold isB; rw [decide_eq_false (by omega)]; rfl
    have HNO := Lib.hid hno; clear hno
    go_enter Tryz.func109, Tryz.ntmps109
    go_wp2
    go_ret
    exact ⟨by rw [HNO.out]; rfl, belR w⟩
  · have h1 : 1 ≤ s.size := by omega
    by_cases h16 : s.size ≤ 16
    · have HP := Lib.hid (place_any (w.alloc (.cells (strs wordsL).toArray 9)) _ 16 16 _ wordsL s (words_lit w) (by unfold maxLen; omega))
      have hb1 := belA (belR w) (.cells (strs wordsL).toArray 9)
      have HB1 := Lib.hid hb1; clear hb1
      cases hm : memB wordsL s with
      | true =>
        have hno := isB_word s hm
        have HNO := Lib.hid hno; have HM := Lib.hid hm; clear hno hm
        go_enter Tryz.func109, Tryz.ntmps109
        go_wp2_with (first
          | (go_at_call 161; (with_reducible refine (rwords_any _).mono ?_); rintro y w1 ⟨rfl, rfl⟩)
          | (go_at_call 160; (with_reducible refine HP.out.mono ?_); rintro y w2 ⟨z, rfl, hz, rfl⟩; have hz0 : 0 ≤ z := by rcases hz with ⟨_, hz⟩ | ⟨hz, _⟩; (rw [HM.out] at hz; cases hz); exact hz))
        go_ret
        exact ⟨by rw [HNO.out]; rfl, HB1.out⟩
      | false =>
        have hh := head_get s h1
        have HM := Lib.hid hm; clear hm
        have HH := Lib.hid hh; clear hh
        go_enter Tryz.func109, Tryz.ntmps109
        go_wp2_with (first
          | (go_at_call 161; (with_reducible refine (rwords_any _).mono ?_); rintro y w1 ⟨rfl, rfl⟩)
          | (go_at_call 160; (with_reducible refine HP.out.mono ?_); rintro y w2 ⟨z, rfl, hz, rfl⟩; have hz0 : ¬ 0 ≤ z := by rcases hz with ⟨hz, _⟩ | ⟨_, _, hz⟩; omega; (rw [HM.out] at hz; cases hz)))
        go_loop [3] (fun i => ∃ k : Nat, k ≤ s.size ∧ i = .int .i64 (k : Int) ∧ Hid ((∀ j (hj : j < s.size), j < k → okC s[j] = true) ∧ (0 < k → smallC (s[0]'(by omega)) = true))) (fun i => s.size - (intOf i).toNat)
        case atStart => exact ⟨0, by omega, rfl, ⟨fun j _ hj => by omega, fun h => by omega⟩⟩
        case round =>
          obtain ⟨k, hk, rfl, HA⟩ := hrel
          by_cases hlt : k < s.size
          · have hbad := isB_bad s k hlt
            have hbad0 := isB_first s
            rw [HH.out] at hbad0
            have hst := fun (h : okC s[k] = true) (h0 : k = 0 → smallC (s[0]'(by omega)) = true) => (show (∀ j (hj : j < s.size), j < k + 1 → okC s[j] = true) ∧ (0 < k + 1 → smallC (s[0]'(by omega)) = true) from ⟨fun j hj hjk => by
              by_cases e : j = k
              · subst e; exact h
              · exact HA.out.1 j hj (by omega), fun _ => by
              by_cases e : k = 0
              · exact h0 e
              · exact HA.out.2 (by omega)⟩)
            have q1 : (0 : Int) ≤ (k : Int) := by omega
            have q2 : (k : Int) < (s.size : Int) := by omega
            have HST := Lib.hid hst; have HBAD := Lib.hid hbad; have HBAD0 := Lib.hid hbad0; clear hst hbad hbad0
            rcases nat_cases s[k].toNat with hc | hc | hc | hc | hc | hc | hc
            case inl | inr.inr.inl | inr.inr.inr.inr.inl | inr.inr.inr.inr.inr.inr =>
              have hno := HBAD.out (by unfold okC smallC otherC; simp; omega)
              have HNO := Lib.hid hno; clear hno
              have t95 : ((s[k].toNat : Int) == 95) = false := by rw [beq_eq_false_iff_ne]; omega
              try have t122 : decide ((s[k].toNat : Int) ≤ 122) = false := decide_eq_false (by omega)
              go_wp2
              go_ret
              exact ⟨by rw [HNO.out]; rfl, HB1.out⟩
            case inr.inr.inr.inr.inr.inl =>
              have hy := HST.out (by unfold okC smallC otherC; simp; omega) (fun e => by subst e; unfold smallC; simp; omega)
              have HY := Lib.hid hy; clear hy
              go_wp2
              go_round
              case rel => exact ⟨k + 1, by omega, by go_num, HY⟩
              case measure => simp [intOf]; omega
            all_goals
              by_cases hk0 : k = 0
              · subst hk0
                have hno := HBAD0.out (by unfold smallC; simp; omega)
                have HNO := Lib.hid hno; clear hno
                go_wp2
                go_ret
                exact ⟨by rw [HNO.out]; rfl, HB1.out⟩
              · have tk : ((k : Int) == 0) = false := by rw [beq_eq_false_iff_ne]; omega
                have hy := HST.out (by unfold okC smallC otherC; simp; omega) (fun e => absurd e hk0)
                have HY := Lib.hid hy; clear hy hk0
                go_wp2
                go_round
                case rel => exact ⟨k + 1, by omega, by go_num, HY⟩
                case measure => simp [intOf]; omega
          · have hyes := isB_yes s h1 h16 (HA.out.2 (by omega)) (fun j hj => HA.out.1 j hj (by omega))
            rw [HM.out] at hyes
            have HYES := Lib.hid hyes; clear hyes
            go_wp2
            go_ret
            exact ⟨by rw [HYES.out]; rfl, HB1.out⟩
    · have hno := isB_long s h16
      have HNO := Lib.hid hno; clear hno
      go_enter Tryz.func109, Tryz.ntmps109
      go_wp2
      go_ret
      exact ⟨by rw [HNO.out]; rfl, belR w⟩
end Go.Proofs.YtfhmaincnlaapaaGreat
namespace Go.Proofs.YtfhmaincnlaapaaGreat
open Go.ChangeShapes Go.WideShapes Go.ChangeAt Go.RowKit
set_option linter.unusedVariables false

theorem Rd.takeN {w : World} {B n k : Nat} {A : Option Addr} {xs : List Value} (h : Rd w B 1 A n xs) (hk : k ≤ n) : Rd w B 1 A k (xs.take k) :=
  ⟨by rw [List.length_take, h.1]; omega, fun h0 => by
    obtain ⟨a, e, hb, hc⟩ := h.2 (by omega)
    refine ⟨a, e, hb, fun j u hu => hc j u ?_⟩
    rw [List.getElem?_take] at hu
    split at hu
    · exact hu
    · cases hu⟩
theorem PlaceIs.two {l : List ByteArray} {s : ByteArray} {z : Int} (h : PlaceIs l s z) : (z < 0 ∧ memB l s = false) ∨ (0 ≤ z ∧ memB l s = true) := by
  rcases h with ⟨h1, h2⟩ | ⟨h1, _, h2⟩
  · exact .inl ⟨by omega, h2⟩
  · exact .inr ⟨h1, h2⟩
/-- does a text stand twice? -/
def dupTo (l : List ByteArray) (k : Nat) : Bool := (List.range k).any fun i => memB (l.take i) (l.getD i ⟨#[]⟩)
def dupB (l : List ByteArray) : Bool := dupTo l l.length
theorem dupTo_succ (l : List ByteArray) (k : Nat) (hk : k < l.length) : dupTo l (k + 1) = (dupTo l k || memB (l.take k) l[k]) := by
  unfold dupTo
  rw [List.range_succ, List.any_append]
  simp [List.getD, hk]
theorem dupTo_mono (l : List ByteArray) (k : Nat) (hk : k < l.length) (h : memB (l.take k) l[k] = true) : dupB l = true := by
  unfold dupB dupTo
  rw [List.any_eq_true]
  exact ⟨k, List.mem_range.2 hk, by rw [← h]; simp [List.getD, hk]⟩
/-- what a Twice tells -/
def TwIs (l : List ByteArray) (z : Int) : Prop := (z = -1 ∧ dupB l = false) ∨ (0 ≤ z ∧ dupB l = true)
set_option maxRecDepth 20000 in
set_option maxHeartbeats 1000000 in
theorem refTwice_any (w : World) (A : Option Addr) (n c B : Nat) (l : List ByteArray) (h : Rd w B 1 A n (strs l)) (hnc : n ≤ c) (hc : c ≤ maxLen) :
    Calls Tryz.prog 110 #[.slice A n c] w fun y w' => ∃ z, y = .returned (.int .i64 z) ∧ TwIs l z ∧ Drw w w' := by
  obtain rfl : n = l.length := h.str_len
  have hcc := hc
  unfold maxLen at hcc
  have H := Lib.hid h; have HC := Lib.hid hc; clear h hc
  go_enter Tryz.func110, Tryz.ntmps110
  go_wp2
  go_loopw [3] (fun i wr => ∃ k : Nat, k ≤ l.length ∧ i = .int .i64 (k : Int) ∧ Hid (dupTo l k = false) ∧ Drw w wr) (fun i _ => l.length - (intOf i).toNat)
  case atStart => exact ⟨0, by omega, rfl, rfl, Drw.refl w⟩
  case round =>
    obtain ⟨k, hk, rfl, HA, hd⟩ := hrel
    have HD := Lib.hid hd; clear hd
    by_cases hlt : k < l.length
    · have HR : Hid (Rd wr B 1 A l.length (strs l)) := by obtain ⟨j, hj⟩ := HD.out; exact Lib.hid (by rw [hj]; exact H.out.drewN j)
      obtain ⟨a, rfl, hab, x0⟩ := HR.out.str hlt
      have q1 : (0 : Int) ≤ (k : Int) := by omega
      have q2 : (k : Int) < (l.length : Int) := by omega
      have q3 : (k : Int) ≤ (c : Int) := by omega
      have hst := dupTo_succ l k hlt
      rw [HA.out, Bool.false_or] at hst
      have hmo := dupTo_mono l k hlt
      have htk : Rd wr.drew B 1 (some a) k (strs (l.take k)) := by
        have := HR.out.takeN (k := k) (by omega)
        rw [show strs (l.take k) = (strs l).take k from List.map_take]
        exact this
      have hpl := place_any wr.drew (some a) k c B (l.take k) l[k] htk (by have := HC.out; omega)
      generalize l[k] = x at *
      have HST := Lib.hid hst; have HM := Lib.hid hmo; have HPL := Lib.hid hpl; clear hst hmo hpl htk
      go_upto_region 4 with (fail)
      go_still_tail 7, (by kernel_rfl)
      have hpl2 : Calls Tryz.prog 160 #[.slice (some a) k c, .string x] wr.drew fun y w' => ∃ z, y = .returned (.int .i64 z) ∧ (z < 0 ∧ memB (l.take k) x = false) ∧ wr.drew = w' ∨ y = .returned (.int .i64 z) ∧ (0 ≤ z ∧ memB (l.take k) x = true) ∧ wr.drew = w' :=
        HPL.out.mono fun y w' ⟨z, h1, h2, h3⟩ => ⟨z, by rcases h2.two with h2 | h2; exact .inl ⟨h1, h2, h3⟩; exact .inr ⟨h1, h2, h3⟩⟩
      have HPL2 := Lib.hid hpl2; clear hpl2
      have HD1 : Hid (Drw w wr.drew) := Lib.hid HD.out.drew
      go_wp2_with fail
      (with_reducible refine HPL2.out.mono ?_)
      rintro y w2 ⟨z, ⟨rfl, ⟨hz, hm⟩, rfl⟩ | ⟨rfl, ⟨hz, hm⟩, rfl⟩⟩
      · rw [hm] at HST
        clear hm
        go_wp2
        go_roundw
        case rel => exact ⟨k + 1, by omega, by go_num, HST, HD1.out⟩
        case measure => simp [intOf]; omega
      · have hy := HM.out hm
        have HY := Lib.hid hy; clear hm hy
        go_wp2
        go_ret
        exact ⟨_, rfl, .inr ⟨q1, HY.out⟩, HD1.out⟩
    · obtain rfl : k = l.length := by omega
      have HA2 : Hid (dupB l = false) := HA
      go_wp2
      go_ret
      exact ⟨_, rfl, .inl ⟨rfl, HA2.out⟩, HD.out⟩
end Go.Proofs.YtfhmaincnlaapaaGreat
