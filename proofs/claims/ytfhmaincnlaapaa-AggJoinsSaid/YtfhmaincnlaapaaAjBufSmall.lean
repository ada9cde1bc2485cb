/-
  bushellaw08.small, awake; bushelref08.Read and bushellaw08.read of any thing.
  bushellaw08.read: a thing is asked for, and is what must be.
  THE READER's B.
  THE READER's I, F, T.
  bushelref08.Read of a number with a sign; of bytes.
  bushelref08.Read of things of every kind.
  bushelref07.GetT: the document's text of any bytes is the same.
  bushelref07.GetI: the document's number with a sign of any bytes is the same.
  bushelref03.Less and Same: they stand to one another as the keys do.
  flo.Key and code.F, bushelref03's Kind, Below, Less: what they give at any real number's bits.
  PLAIN LEAN: real numbers as words of 64 bits: what a word's rung is worth, and that the order of numbers is the order of keys.
  bushelref08.Read (U), bushelref11.Reader: Ask, U, End.
  bushelref10.Twice.
  Layer 10: names.Is, bushelref10.Is.
  Layer 10: names.Word, names.Is, bushelref10.Is.
  Layer 10, names: the words, names.Word, bushelref10.Place.
  THE NODES OF ENTRIES, as a plain function; what the pack comes to.
  tree.bytes, pack.end, pack.put.
  AN APPEND AS A RULE OF THE WALK: where the append's run is known ahead, a region that draws its order runs it as any other operation.
  tree.Break, bushelref25.Break: the same test of a key; seal.Room.
  APPEND OF A SLICE as a step of a region that draws; a row of the call's own, element by element.
  WHAT A NODE READS AS, as a plain function.
  SHEETS IN MEMORY.
  ENTRIES IN MEMORY; which may be those of nodes.
-/
import Derived.IntWalk
import Derived.Deep.RegionHeldLaw
import Derived.BigRegion
import Derived.Deep.LoopGhost
import Derived.StillTailTactics
import Derived.Deep.DeepCutAuto
import Derived.Laws.FloatArith
import Derived.Laws.BitsAllLaws
import Derived.Deep.RegionHeld
import Derived.Test.YtfhmaincnlaapaaAjSy3
import Derived.Test.YtfhmaincnlaapaaAjBufInU
namespace Go.Proofs.Ytfhmaincnlaapaa
open Go.ChangeShapes Go.WideShapes Go.ChangeAt Go.RowKit
set_option linter.unusedVariables false

theorem flat_len {α : Type} (f : α → List Value) (s : Nat) (hs : ∀ x, (f x).length = s) (l : List α) : (l.flatMap f).length = l.length * s := by
  induction l with
  | nil => simp
  | cons x l ih => rw [List.flatMap_cons, List.length_append, hs, ih, List.length_cons, Nat.succ_mul]; omega

section
variable {w w' : World} {B n : Nat} {A : Option Addr} {l : List (Nat × Int)}
end

theorem one_of {p : Nat → Prop} (h : p 0) : ∀ j, j < 1 → p j := fun j hj => by obtain rfl : j = 0 := by omega
                                                                               exact h
theorem rd_drw {w w' : World} {B size n : Nat} {A : Option Addr} {xs : List Value} (h : Rd w B size A n xs) (k : Drw w w') : Rd w' B size A n xs := by obtain ⟨m, rfl⟩ := k; exact h
end Go.Proofs.Ytfhmaincnlaapaa
namespace Go.Proofs.Ytfhmaincnlaapaa
open Go.ChangeShapes Go.WideShapes Go.ChangeAt Go.RowKit
set_option linter.unusedVariables false

structure Sht where
  k : Int
  a : Nat
  b : Nat
  d : List UInt8
def shC (s : Sht) (v : Value) : List Value := [.int .i64 s.k, .int .u64 (s.a : Int), .int .u64 (s.b : Int), v]
theorem shC_len (s : Sht) (v : Value) : (shC s v).length = 4 := rfl

/-- the cells of a list of sheets; each body reads as its bytes, below block B -/
def ShR (w : World) (B : Nat) : List Sht → List Value → Prop
  | [], xs => xs = []
  | s :: ss, xs => ∃ A c rest, xs = shC s (.slice A s.d.length c) ++ rest ∧ Rd w B 1 A s.d.length (u8s s.d) ∧ s.d.length ≤ c ∧ c ≤ maxLen ∧ ShR w B ss rest
/-- the cells of a list of sheets whose bodies are the call's own, each in a block below B -/
def ShO (w : World) (base B : Nat) : List Sht → List Value → Prop
  | [], xs => xs = []
  | s :: ss, xs => ∃ v rest, xs = shC s v ++ rest ∧ w.ownsRow base 5 1 v s.d.length (u8s s.d) ∧ (∀ k, v.ownBlock = some k → k < B) ∧ ShO w base B ss rest
theorem ShO.map {w w' : World} {base B B' : Nat} {ss : List Sht} {xs : List Value} (h : ShO w base B ss xs) (hB : B ≤ B')
    (hk : ∀ v n ys, w.ownsRow base 5 1 v n ys → (∀ k, v.ownBlock = some k → k < B) → w'.ownsRow base 5 1 v n ys) : ShO w' base B' ss xs := by
  induction ss generalizing xs with
  | nil => exact h
  | cons s ss ih =>
    obtain ⟨v, rest, rfl, ho, hl, hr⟩ := h
    exact ⟨v, rest, rfl, hk _ _ _ ho hl, fun k hk => Nat.lt_of_lt_of_le (hl k hk) hB, ih hr⟩
theorem ShO.snoc {w : World} {base B : Nat} {ss : List Sht} {xs : List Value} {s : Sht} {v : Value} (h : ShO w base B ss xs) (ho : w.ownsRow base 5 1 v s.d.length (u8s s.d)) (hl : ∀ k, v.ownBlock = some k → k < B) :
    ShO w base B (ss ++ [s]) (xs ++ shC s v) := by
  induction ss generalizing xs with
  | nil => cases h; exact ⟨v, [], by simp, ho, hl, rfl⟩
  | cons s' ss ih =>
    obtain ⟨v', rest, rfl, ho', hl', hr⟩ := h
    exact ⟨v', rest ++ shC s v, by rw [List.append_assoc], ho', hl', ih hr⟩
theorem ShO.len {w : World} {base B : Nat} {ss : List Sht} {xs : List Value} (h : ShO w base B ss xs) : xs.length = ss.length * 4 := by
  induction ss generalizing xs with
  | nil => cases h; rfl
  | cons s ss ih =>
    obtain ⟨v, rest, rfl, _, _, hr⟩ := h
    rw [List.length_append, shC_len, ih hr, List.length_cons]; omega
theorem ShR.len {w : World} {B : Nat} {ss : List Sht} {xs : List Value} (h : ShR w B ss xs) : xs.length = ss.length * 4 := by
  induction ss generalizing xs with
  | nil => cases h; rfl
  | cons s ss ih =>
    obtain ⟨A, c, rest, rfl, _, _, _, hr⟩ := h
    rw [List.length_append, shC_len, ih hr, List.length_cons]; omega
theorem ShR.keep {w w' : World} {B B' : Nat} {ss : List Sht} {xs : List Value} (h : ShR w B ss xs) (hb : Below B w w') (hB : B ≤ B') : ShR w' B' ss xs := by
  induction ss generalizing xs with
  | nil => exact h
  | cons s ss ih =>
    obtain ⟨A, c, rest, rfl, hR, h1, h2, hr⟩ := h
    exact ⟨A, c, rest, rfl, (hR.below hb).more hB, h1, h2, ih hr⟩
theorem ShR.get {w : World} {B : Nat} {ss : List Sht} {xs : List Value} (h : ShR w B ss xs) (i : Nat) (hi : i < ss.length) :
    ∃ A c, xs[i * 4]? = some (.int .i64 ss[i].k) ∧ xs[i * 4 + 1]? = some (.int .u64 (ss[i].a : Int)) ∧ xs[i * 4 + 2]? = some (.int .u64 (ss[i].b : Int)) ∧ xs[i * 4 + 3]? = some (.slice A ss[i].d.length c) ∧
      Rd w B 1 A ss[i].d.length (u8s ss[i].d) ∧ ss[i].d.length ≤ c ∧ c ≤ maxLen := by
  induction ss generalizing xs i with
  | nil => simp at hi
  | cons s ss ih =>
    obtain ⟨A, c, rest, rfl, hR, h1, h2, hr⟩ := h
    cases i with
    | zero => exact ⟨A, c, rfl, rfl, rfl, rfl, hR, h1, h2⟩
    | succ i =>
      obtain ⟨A', c', e0, e1, e2, e3, r⟩ := ih hr i (by simpa using hi)
      have sh : ∀ j, (shC s (.slice A s.d.length c) ++ rest)[(i + 1) * 4 + j]? = rest[i * 4 + j]? := fun j => by
        rw [List.getElem?_append_right (by rw [shC_len]; omega), shC_len, show (i + 1) * 4 + j - 4 = i * 4 + j from by omega]
      exact ⟨A', c', (sh 0).trans e0, (sh 1).trans e1, (sh 2).trans e2, (sh 3).trans e3, r⟩

section
variable {P : Program}
end
end Go.Proofs.Ytfhmaincnlaapaa
namespace Go.Proofs.Ytfhmaincnlaapaa
open Go.ChangeShapes Go.WideShapes Go.ChangeAt Go.RowKit
set_option linter.unusedVariables false

end Go.Proofs.Ytfhmaincnlaapaa
namespace Go.Proofs.Ytfhmaincnlaapaa
open Go.ChangeShapes Go.WideShapes Go.ChangeAt Go.RowKit
set_option linter.unusedVariables false

section
variable {P : Program}
end

end Go.Proofs.Ytfhmaincnlaapaa
namespace Go.Proofs.Ytfhmaincnlaapaa
open Go.ChangeShapes Go.WideShapes Go.ChangeAt Go.RowKit
set_option linter.unusedVariables false

end Go.Proofs.Ytfhmaincnlaapaa
namespace Go.Proofs.Ytfhmaincnlaapaa
open Go.ChangeShapes Go.WideShapes Go.ChangeAt Go.RowKit
set_option linter.unusedVariables false

/-- what an append comes to -/
noncomputable def appR (P : Program) (W : World) (t ty : TypeId) (s x : Value) : Value × World := match (Builtin.append_ #[t, t] ty #[s, x]).run P W with | .ok v w' => (v, w') | _ => (undef, W)
def okApp (P : Program) (W : World) (t ty : TypeId) (s x : Value) : Prop := ∃ v w', (Builtin.append_ #[t, t] ty #[s, x]).run P W = .ok v w'
theorem appR_of {P : Program} {W : World} {t ty : TypeId} {s x v : Value} {w' : World} (h : (Builtin.append_ #[t, t] ty #[s, x]).run P W = .ok v w') : okApp P W t ty s x ∧ (appR P W t ty s x).1 = v ∧ (appR P W t ty s x).2 = w' := by
  refine ⟨⟨v, w', h⟩, ?_, ?_⟩ <;> · unfold appR; rw [h]
theorem wp_app_rule {P : Program} {dst : Option Tmp} {s x : Operand} {t ty : TypeId} {pos : String} {after : Array Edge} {g : Option (Nat × Bool)} {a : Act} {W : World} {K : Act → World → Prop} {Q : Exit → Act → World → Prop}
    (h : okApp P W t ty (a.eval s) (a.eval x)) :
    Oper.wp P ⟨dst, .call { callee := .builtin .append, args := #[s, x], argTypes := #[t, t] }, ty, pos, after, g⟩ a W K Q = K (a.put dst (appR P W t ty (a.eval s) (a.eval x)).1) (appR P W t ty (a.eval s) (a.eval x)).2 := by
  obtain ⟨v, w', hr⟩ := h
  obtain ⟨_, e1, e2⟩ := appR_of hr
  rw [e1, e2]
  unfold Oper.wp execOp
  simp only [resolve, invoke, builtin, Sem.run_bind, Sem.run_pure, Result.andThen_ok, List.map_toArray, List.map_cons, List.map_nil, hr]
  rfl
end Go.Proofs.Ytfhmaincnlaapaa
namespace Go.Proofs.Ytfhmaincnlaapaa
open Go.ChangeShapes Go.WideShapes Go.ChangeAt Go.RowKit
set_option linter.unusedVariables false

/-- THE PACK AT BLOCK g: the sheets that are done; how many things and which bytes the next one has -/
def PkS (w : World) (base g : Nat) (kd : Int) (b : Nat) (ss : List Sht) (n : Nat) (d : List UInt8) : Prop :=
  base ≤ g ∧ ∃ bv ov Bd xs, Blk w g 107 #[.int .i64 kd, .int .u64 (b : Int), bv, .int .u64 (n : Int), ov] ∧ base ≤ Bd ∧ Bd ≤ w.heap.size ∧
    w.ownsRow Bd 5 1 bv d.length (u8s d) ∧ w.ownsRow base 55 4 ov ss.length xs ∧ ShO w base Bd ss xs
theorem PkS.lt {w : World} {base g n b : Nat} {kd : Int} {ss : List Sht} {d : List UInt8} (h : PkS w base g kd b ss n d) : g < w.heap.size := by obtain ⟨_, bv, ov, Bd, xs, hb, _⟩ := h; exact hb.lt
theorem PkS.below {w w' : World} {base g n b : Nat} {kd : Int} {ss : List Sht} {d : List UInt8} (h : PkS w base g kd b ss n d) (hb : Below w.heap.size w w') : PkS w' base g kd b ss n d := by
  obtain ⟨h0, bv, ov, Bd, xs, hB, h1, h2, h3, h4, h5⟩ := h
  exact ⟨h0, bv, ov, Bd, xs, hB.below hb hB.lt, h1, Nat.le_trans h2 hb.size, own_below h3 hb (Nat.le_refl _), own_below h4 hb (Nat.le_refl _), h5.map (Nat.le_refl _) fun v n ys ho _ => own_below ho hb (Nat.le_refl _)⟩

attribute [local go_sem ↓] wp_app_rule
end Go.Proofs.Ytfhmaincnlaapaa
namespace Go.Proofs.Ytfhmaincnlaapaa
open Go.ChangeShapes Go.WideShapes Go.ChangeAt Go.RowKit
set_option linter.unusedVariables false

/-- the pack's state: sheets done, how many things, their bytes -/
abbrev Pst := List Sht × Nat × List UInt8
def pput (kd : Int) (b : Nat) (st : Pst) (k : List UInt8) (brk : Bool) : Pst :=
  if brk = true ∨ 1001 < st.2.2.length + k.length then (if 0 < st.2.1 then st.1 ++ [⟨kd, st.2.1, b, st.2.2⟩] else st.1, 1, k) else (st.1, st.2.1 + 1, st.2.2 ++ k)
end Go.Proofs.Ytfhmaincnlaapaa
namespace Go.Proofs.Ytfhmaincnlaapaa
open Go.ChangeShapes Go.WideShapes Go.ChangeAt Go.RowKit
set_option linter.unusedVariables false

theorem bl_trans : ∀ {a b c : List UInt8}, Op.bytesLess a b = true → Op.bytesLess b c = true → Op.bytesLess a c = true
  | _, [], _, h, _ => by cases ‹List UInt8› <;> simp [Op.bytesLess] at h
  | _, _ :: _, [], _, h => by simp [Op.bytesLess] at h
  | [], _ :: _, _ :: _, _, _ => by simp [Op.bytesLess]
  | a :: x, b :: y, c :: z, h1, h2 => by
    simp only [Op.bytesLess, Bool.or_eq_true, Bool.and_eq_true, decide_eq_true_iff, beq_iff_eq] at h1 h2 ⊢
    rcases h1 with h1 | ⟨rfl, h1⟩
    · rcases h2 with h2 | ⟨rfl, h2⟩
      · exact .inl (UInt8.lt_trans h1 h2)
      · exact .inl h1
    · rcases h2 with h2 | ⟨rfl, h2⟩
      · exact .inl h2
      · exact .inr ⟨rfl, bl_trans h1 h2⟩
theorem bl_tri : ∀ {a b : List UInt8}, Op.bytesLess a b = false → a ≠ b → Op.bytesLess b a = true
  | [], [], _, h => absurd rfl h
  | [], _ :: _, h, _ => by simp [Op.bytesLess] at h
  | _ :: _, [], _, _ => by simp [Op.bytesLess]
  | a :: x, b :: y, h1, h2 => by
    simp only [Op.bytesLess, Bool.or_eq_false_iff, decide_eq_false_iff_not, Bool.and_eq_false_iff, beq_eq_false_iff_ne, ne_eq] at h1
    simp only [Op.bytesLess, Bool.or_eq_true, Bool.and_eq_true, decide_eq_true_iff, beq_iff_eq]
    obtain ⟨h3, h4⟩ := h1
    by_cases e : a = b
    · subst e
      rcases h4 with h4 | h4
      · exact absurd rfl h4
      · exact .inr ⟨rfl, bl_tri h4 (fun e => h2 (by rw [e]))⟩
    · exact .inl (by
        have h5 : ¬ a.toNat < b.toNat := fun h => h3 (UInt8.lt_iff_toNat_lt.2 h)
        have h6 : a.toNat ≠ b.toNat := fun h => e (UInt8.toNat_inj.1 h)
        exact UInt8.lt_iff_toNat_lt.2 (by omega))
/-- the words -/
def wordsL : List ByteArray := [⟨#[97, 110, 100]⟩, ⟨#[97, 115, 99]⟩, ⟨#[98, 121]⟩, ⟨#[99, 111, 117, 110, 116]⟩, ⟨#[100, 101, 115, 99]⟩, ⟨#[100, 101, 118]⟩, ⟨#[105, 110]⟩, ⟨#[108, 105, 109, 105, 116]⟩, ⟨#[109, 97, 120]⟩, ⟨#[109, 101, 97, 110]⟩, ⟨#[109, 105, 110]⟩, ⟨#[111, 114, 100, 101, 114]⟩, ⟨#[115, 101, 108, 101, 99, 116]⟩, ⟨#[115, 104, 97, 114, 101]⟩, ⟨#[115, 117, 109]⟩, ⟨#[119, 104, 101, 114, 101]⟩]
abbrev strs (l : List ByteArray) : List Value := l.map Value.string
theorem wordsL_len : wordsL.length = 16 := rfl
/-- is a text among those? -/
def memB (l : List ByteArray) (s : ByteArray) : Bool := l.any fun x => x.toList == s.toList
theorem Rd.str_len {w : World} {B n : Nat} {A : Option Addr} {l : List ByteArray} (h : Rd w B 1 A n (strs l)) : n = l.length := by have := h.1; simp at this; omega
theorem Rd.str {w : World} {B n : Nat} {A : Option Addr} {l : List ByteArray} (h : Rd w B 1 A n (strs l)) {k : Nat} (hk : k < l.length) : ∃ a, A = some a ∧ a.block < B ∧ w.cell? (a.add k) = some (.string l[k]) := by
  obtain ⟨a, rfl, hb, hc⟩ := h.2 (by rw [h.str_len]; omega)
  exact ⟨a, rfl, hb, hc k _ (by simp [strs, hk])⟩
/-- where a text stands first, or -1 -/
def PlaceIs (l : List ByteArray) (s : ByteArray) (z : Int) : Prop := (z = -1 ∧ memB l s = false) ∨ (0 ≤ z ∧ z < (l.length : Int) ∧ memB l s = true)
end Go.Proofs.Ytfhmaincnlaapaa
namespace Go.Proofs.Ytfhmaincnlaapaa
open Go.ChangeShapes Go.WideShapes Go.ChangeAt Go.RowKit
set_option linter.unusedVariables false

theorem words_sorted : ∀ i j : Fin 16, i.1 < j.1 → Op.bytesLess (wordsL[i.1]'(by have := i.2; have := wordsL_len; omega)).toList (wordsL[j.1]'(by have := j.2; have := wordsL_len; omega)).toList = true := by decide +kernel
theorem words_lt (i j : Nat) (hij : i < j) (hj : j < wordsL.length) : Op.bytesLess (wordsL[i]'(by omega)).toList wordsL[j].toList = true :=
  words_sorted ⟨i, by have := wordsL_len; omega⟩ ⟨j, by have := wordsL_len; omega⟩ hij
/-- what a search by halves knows -/
def Half (s : ByteArray) (lo hi : Nat) : Prop := (∀ j (hj : j < wordsL.length), j < lo → Op.bytesLess wordsL[j].toList s.toList = true) ∧ (∀ j (hj : j < wordsL.length), hi ≤ j → Op.bytesLess s.toList wordsL[j].toList = true)
theorem Half.up {s : ByteArray} {lo hi mid : Nat} (h : Half s lo hi) (hm : mid < wordsL.length) (hl : Op.bytesLess wordsL[mid].toList s.toList = true) : Half s (mid + 1) hi :=
  ⟨fun j hj hjm => by
    rcases Nat.lt_or_ge j mid with h1 | h1
    · exact bl_trans (words_lt j mid h1 hm) hl
    · obtain rfl : j = mid := by omega
      exact hl, h.2⟩
theorem Half.down {s : ByteArray} {lo hi mid : Nat} (h : Half s lo hi) (hm : mid < wordsL.length) (hl : Op.bytesLess wordsL[mid].toList s.toList = false) (hne : (wordsL[mid].toList == s.toList) = false) : Half s lo mid :=
  ⟨h.1, fun j hj hjm => by
    have h2 := bl_tri hl (by rw [beq_eq_false_iff_ne] at hne; exact hne)
    rcases Nat.eq_or_lt_of_le hjm with h1 | h1
    · subst h1; exact h2
    · exact bl_trans h2 (words_lt mid j h1 hj)⟩
end Go.Proofs.Ytfhmaincnlaapaa
namespace Go.Proofs.Ytfhmaincnlaapaa
open Go.ChangeShapes Go.WideShapes Go.ChangeAt Go.RowKit
set_option linter.unusedVariables false

def smallC (c : UInt8) : Bool := decide (97 ≤ c.toNat) && decide (c.toNat ≤ 122)
def otherC (c : UInt8) : Bool := (decide (48 ≤ c.toNat) && decide (c.toNat ≤ 57)) || decide (c.toNat = 95)
def okC (c : UInt8) : Bool := smallC c || otherC c
/-- is a text a name? -/
def isB (s : ByteArray) : Bool := decide (1 ≤ s.size) && decide (s.size ≤ 16) && smallC (s.data.toList.headD 0) && s.data.toList.all okC && !memB wordsL s
end Go.Proofs.Ytfhmaincnlaapaa
namespace Go.Proofs.Ytfhmaincnlaapaa
open Go.ChangeShapes Go.WideShapes Go.ChangeAt Go.RowKit
set_option linter.unusedVariables false

theorem PlaceIs.two {l : List ByteArray} {s : ByteArray} {z : Int} (h : PlaceIs l s z) : (z < 0 ∧ memB l s = false) ∨ (0 ≤ z ∧ memB l s = true) := by
  rcases h with ⟨h1, h2⟩ | ⟨h1, _, h2⟩
  · exact .inl ⟨by omega, h2⟩
  · exact .inr ⟨h1, h2⟩
/-- does a text stand twice? -/
def dupTo (l : List ByteArray) (k : Nat) : Bool := (List.range k).any fun i => memB (l.take i) (l.getD i ⟨#[]⟩)
def dupB (l : List ByteArray) : Bool := dupTo l l.length
theorem dupTo_succ (l : List ByteArray) (k : Nat) (hk : k < l.length) : dupTo l (k + 1) = (dupTo l k || memB (l.take k) l[k]) := by
  unfold dupTo
  rw [List.range_succ, List.any_append]
  simp [List.getD, hk]
theorem dupTo_mono (l : List ByteArray) (k : Nat) (hk : k < l.length) (h : memB (l.take k) l[k] = true) : dupB l = true := by
  unfold dupB dupTo
  rw [List.any_eq_true]
  exact ⟨k, List.mem_range.2 hk, by rw [← h]; simp [List.getD, hk]⟩
/-- what a Twice tells -/
def TwIs (l : List ByteArray) (z : Int) : Prop := (z = -1 ∧ dupB l = false) ∨ (0 ≤ z ∧ dupB l = true)
end Go.Proofs.Ytfhmaincnlaapaa
namespace Go.Proofs.Ytfhmaincnlaapaa
open Go.ChangeShapes Go.WideShapes Go.ChangeAt Go.RowKit
set_option linter.unusedVariables false

section
variable {w w' : World} {g p e : Nat} {t : List UInt8}
end

/-- three new blocks, and some draws -/
def Lit3 (w w' : World) : Prop := ∃ c1 t1 c2 t2 c3 t3 k, w' = (((w.alloc (.cells c1 t1)).alloc (.cells c2 t2)).alloc (.cells c3 t3)).drewN k
theorem Lit3.below {w w' : World} (h : Lit3 w w') : Below w.heap.size w w' := by
  obtain ⟨_, _, _, _, _, _, k, rfl⟩ := h; exact belD (belA (belA (belA (belR w) _) _) _) k
end Go.Proofs.Ytfhmaincnlaapaa
namespace Go.Proofs.Ytfhmaincnlaapaa
set_option linter.unusedVariables false
open Ieee

/-- the bits below the sign -/
def rg (b : Nat) : Nat := b % 9223372036854775808
def ng (b : Nat) : Bool := b / 9223372036854775808 % 2 == 1
/-- infinity's rung -/
def irg : Nat := 9218868437227405312
def nanB (b : Nat) : Bool := decide (irg < rg b)
def mg (r : Nat) : Nat := if r < 4503599627370496 then r else 4503599627370496 + r % 4503599627370496
def ex (r : Nat) : Nat := if r < 4503599627370496 then 0 else r / 4503599627370496 - 1
/-- what a rung is worth, in units of 2^-1074 -/
def vl (r : Nat) : Nat := mg r * 2 ^ ex r
def sv (b : Nat) : Int := if ng b then -(vl (rg b) : Int) else (vl (rg b) : Int)
/-- the key -/
def keyB (b : Nat) : Nat := if nanB b then 18446744073709551615 else if ng b then 9223372036854775807 - rg b else 9223372036854775808 + rg b

theorem sw_eq : double.signWeight = 9223372036854775808 := by decide
theorem bi_eq : double.binade = 4503599627370496 := by decide
theorem ir_eq : double.infRung = 9218868437227405312 := by decide
theorem lp_eq : double.leastPlace = -1074 := by decide

theorem read_num (b : Nat) (h : rg b < irg) : double.read b = .number (ng b) (mg (rg b)) (-1074 + (ex (rg b) : Nat)) := by
  unfold Format.read
  simp only [sw_eq, bi_eq, ir_eq, lp_eq]
  unfold rg irg at *
  unfold mg ex ng
  split
  · simp
  · rfl
theorem read_inf (b : Nat) (h : rg b = irg) : double.read b = .infinity (ng b) := by
  unfold Format.read
  simp only [sw_eq, bi_eq, ir_eq, lp_eq]
  unfold rg irg at *
  unfold ng
  rw [if_neg (by omega), if_neg (by omega), if_pos h]
theorem read_nan (b : Nat) (h : irg < rg b) : double.read b = .nan (ng b) (rg b - irg) := by
  unfold Format.read
  simp only [sw_eq, bi_eq, ir_eq, lp_eq]
  unfold rg irg at *
  unfold ng
  rw [if_neg (by omega), if_neg (by omega), if_neg (by omega)]

theorem vl_lt {r s : Nat} (h : r < s) : vl r < vl s := by
  unfold vl mg ex
  by_cases hr : r < 4503599627370496
  · by_cases hs : s < 4503599627370496
    · simp [hr, hs]; exact h
    · rw [if_pos hr, if_pos hr, if_neg hs, if_neg hs]
      have : 1 ≤ 2 ^ (s / 4503599627370496 - 1) := Nat.one_le_two_pow
      calc r * 2 ^ 0 = r := by simp
        _ < (4503599627370496 + s % 4503599627370496) * 1 := by omega
        _ ≤ _ := Nat.mul_le_mul_left _ this
  · have hs : ¬ s < 4503599627370496 := by omega
    rw [if_neg hr, if_neg hr, if_neg hs, if_neg hs]
    obtain ⟨q, hq⟩ : ∃ q, r / 4503599627370496 = q + 1 := ⟨r / 4503599627370496 - 1, by omega⟩
    obtain ⟨p, hp⟩ : ∃ p, s / 4503599627370496 = p + 1 := ⟨s / 4503599627370496 - 1, by omega⟩
    rw [hq, hp, Nat.add_sub_cancel, Nat.add_sub_cancel]
    by_cases e : q = p
    · subst e
      exact Nat.mul_lt_mul_of_pos_right (by omega) (Nat.two_pow_pos _)
    · have hlt : q + 1 ≤ p := by omega
      have h2 : 2 ^ (q + 1) ≤ 2 ^ p := Nat.pow_le_pow_right (by decide) hlt
      calc (4503599627370496 + r % 4503599627370496) * 2 ^ q < (2 * 4503599627370496) * 2 ^ q := Nat.mul_lt_mul_of_pos_right (by omega) (Nat.two_pow_pos _)
        _ = 4503599627370496 * 2 ^ (q + 1) := by rw [Nat.pow_succ]; omega
        _ ≤ 4503599627370496 * 2 ^ p := Nat.mul_le_mul_left _ h2
        _ ≤ _ := Nat.mul_le_mul_right _ (by omega)
theorem vl_inj {r s : Nat} (h : vl r = vl s) : r = s := by
  rcases Nat.lt_trichotomy r s with h1 | h1 | h1
  · have := vl_lt h1; omega
  · exact h1
  · have := vl_lt h1; omega
theorem vl_zero : vl 0 = 0 := rfl
theorem vl_pos {r : Nat} (h : 0 < r) : 0 < vl r := by have := vl_lt h; rw [vl_zero] at this; exact this

theorem icmp_lt {x y : Int} (h : x < y) : compare x y = .lt := by simp [compare, compareOfLessAndEq, h]
theorem icmp_gt {x y : Int} (h : y < x) : compare x y = .gt := by
  have h1 : ¬ x < y := by omega
  have h2 : x ≠ y := by omega
  simp [compare, compareOfLessAndEq, h1, h2]
theorem compare_mul (x y : Int) (c : Nat) (hc : 0 < c) : compare (x * (c : Int)) (y * (c : Int)) = compare x y := by
  have hc' : (0 : Int) < c := by omega
  rcases Int.lt_trichotomy x y with h | h | h
  · rw [icmp_lt h, icmp_lt (Int.mul_lt_mul_of_pos_right h hc')]
  · subst h; simp
  · rw [icmp_gt h, icmp_gt (Int.mul_lt_mul_of_pos_right h hc')]
theorem signed_mul (s : Bool) (m k c : Nat) : signed s m k * ((2 ^ c : Nat) : Int) = if s then -((m * 2 ^ (k + c) : Nat) : Int) else ((m * 2 ^ (k + c) : Nat) : Int) := by
  unfold signed
  rw [Nat.shiftLeft_eq, Nat.pow_add, ← Nat.mul_assoc]
  split <;> simp [Int.neg_mul]
/-- numbers stand to one another as what they are worth -/
theorem order_num (a b : Nat) (ha : rg a < irg) (hb : rg b < irg) : double.order a b = some (compare (sv a) (sv b)) := by
  unfold Format.order
  rw [read_num a ha, read_num b hb]
  simp only [Datum.order]
  congr 1
  generalize hi : ex (rg a) = i
  generalize hj : ex (rg b) = j
  have e1 : ((-1074 + (i : Int)) - min (-1074 + (i : Int)) (-1074 + (j : Int))).toNat + min i j = i := by omega
  have e2 : ((-1074 + (j : Int)) - min (-1074 + (i : Int)) (-1074 + (j : Int))).toNat + min i j = j := by omega
  rw [← compare_mul _ _ (2 ^ min i j) (Nat.two_pow_pos _), signed_mul, signed_mul, e1, e2]
  unfold sv vl
  rw [hi, hj]
theorem vl_irg (r : Nat) (h : r < irg) : vl r < vl irg := vl_lt h
theorem order_any (a b : Nat) (ha : rg a ≤ irg) (hb : rg b ≤ irg) : double.order a b = some (compare (sv a) (sv b)) := by
  by_cases h1 : rg a = irg
  · by_cases h2 : rg b = irg
    · unfold Format.order
      rw [read_inf a h1, read_inf b h2]
      simp only [Datum.order, sv, h1, h2]
      have hp := vl_pos (show 0 < irg by decide)
      generalize vl irg = x at *
      congr 1
      cases ng a <;> cases ng b <;> simp <;> (first | rfl | (symm; first | (exact icmp_lt (by omega)) | (exact icmp_gt (by omega))))
    · unfold Format.order
      rw [read_inf a h1, read_num b (by omega)]
      simp only [Datum.order, sv, h1]
      have hv := vl_irg (rg b) (by omega)
      congr 1
      cases ng a <;> cases ng b <;> simp <;> (symm; first | (exact icmp_lt (by omega)) | (exact icmp_gt (by omega)))
  · by_cases h2 : rg b = irg
    · unfold Format.order
      rw [read_num a (by omega), read_inf b h2]
      simp only [Datum.order, sv, h2]
      have hv := vl_irg (rg a) (by omega)
      congr 1
      cases ng a <;> cases ng b <;> simp <;> (symm; first | (exact icmp_lt (by omega)) | (exact icmp_gt (by omega)))
    · exact order_num a b (by omega) (by omega)
theorem order_nan (a b : Nat) (h : irg < rg a ∨ irg < rg b) : double.order a b = none := by
  unfold Format.order
  by_cases ha : irg < rg a
  · rw [read_nan a ha]; cases double.read b <;> rfl
  · rw [read_nan b (by omega)]; cases double.read a <;> rfl
theorem order_self (b : Nat) : (double.order b b != some .eq) = nanB b := by
  unfold nanB
  by_cases h : irg < rg b
  · rw [order_nan b b (.inl h), decide_eq_true h]; rfl
  · rw [order_any b b (by omega) (by omega), decide_eq_false h]; simp
theorem rg_lt (b : Nat) : rg b < 9223372036854775808 := Nat.mod_lt _ (by decide)
theorem keyB_lt (b : Nat) : keyB b < 18446744073709551616 := by
  unfold keyB; have := rg_lt b; split; omega; split <;> omega
theorem ng_iff (b : Nat) (hb : b < 18446744073709551616) : ng b = decide (9223372036854775808 ≤ b) := by
  unfold ng; rw [Bool.eq_iff_iff]; simp; omega
/-- THE KEYS STAND IN THE ORDER OF THE NUMBERS, NaN last, -0 ahead of 0 -/
theorem key_lt (a b : Nat) (ha : nanB a = false) (hb : nanB b = false) : decide (keyB a < keyB b) = (decide (sv a < sv b) || (decide (sv a = sv b) && (ng a && !ng b))) := by
  have h1 : rg a ≤ irg := by unfold nanB at ha; simpa using ha
  have h2 : rg b ≤ irg := by unfold nanB at hb; simpa using hb
  unfold irg at h1 h2
  simp only [keyB, ha, hb]
  unfold sv
  have t := Nat.lt_trichotomy (rg a) (rg b)
  have hl : rg a < rg b → vl (rg a) < vl (rg b) := vl_lt
  have hg : rg b < rg a → vl (rg b) < vl (rg a) := vl_lt
  have z1 : 0 < rg a → 0 < vl (rg a) := vl_pos
  have z2 : 0 < rg b → 0 < vl (rg b) := vl_pos
  have z3 : rg a = 0 → vl (rg a) = 0 := fun h => by rw [h]; rfl
  have z4 : rg b = 0 → vl (rg b) = 0 := fun h => by rw [h]; rfl
  have e3 : rg a = rg b → vl (rg a) = vl (rg b) := fun h => by rw [h]
  generalize vl (rg a) = x at *
  generalize vl (rg b) = y at *
  generalize rg a = r at *
  generalize rg b = s at *
  rw [Bool.eq_iff_iff]
  cases ng a <;> cases ng b <;> simp <;> omega
end Go.Proofs.Ytfhmaincnlaapaa
namespace Go.Proofs.Ytfhmaincnlaapaa
open Go.ChangeShapes Go.WideShapes Go.ChangeAt Go.RowKit
set_option linter.unusedVariables false
theorem f64bits (b : Nat) (w : World) : (callFunc 169 #[.float .f64 b]).run Try.prog w = .ok (.value (.int .u64 (b : Int))) w := by kernel_rfl

theorem and63 (b : Nat) (h : b < 18446744073709551616) : bits .and .u64 (b : Int) 9223372036854775807 = ((rg b : Nat) : Int) := by
  have e : (9223372036854775807 : Int) = ((9223372036854775807 : Nat) : Int) := rfl
  rw [e, u64_and_nat _ _ h (by omega)]
  congr 1
  exact Nat.and_two_pow_sub_one_eq_mod b 63

theorem order_selfF (b : Nat) : (FloatKind.f64.format.order b b != some .eq) = nanB b := order_self b
theorem key_any (b : Nat) (w : World) (hb : b < 18446744073709551616) :
    Calls Try.prog 154 #[.float .f64 b] w fun e w' => e = .returned (.int .u64 (keyB b : Nat)) ∧ w = w' := by
  have hf := f64bits b
  have hn := order_selfF b
  have hd := and63 b hb
  have hr := rg_lt b
  unfold keyB
  have hni := ng_iff b hb
  have hrb : rg b = b - if 9223372036854775808 ≤ b then 9223372036854775808 else 0 := by unfold rg; split <;> omega
  cases h : nanB b
  · rw [h] at hn
    by_cases hg : 9223372036854775808 ≤ b
    · rw [if_pos hg] at hrb
      rw [hni, decide_eq_true hg]
      have t2 : (((b : Int) / 9223372036854775808) == 1) = true := by rw [beq_iff_eq]; omega
      have HR := Lib.hid hrb; have HN := Lib.hid hni; clear hrb hni
      go_enter Try.func154, Try.ntmps154
      go_wp2
      go_ret
      exact ⟨by simp; omega, rfl⟩
    · rw [if_neg hg] at hrb
      rw [hni, decide_eq_false hg]
      have t2 : (((b : Int) / 9223372036854775808) == 1) = false := by rw [beq_eq_false_iff_ne]; omega
      have HR := Lib.hid hrb; have HN := Lib.hid hni; clear hrb hni
      go_enter Try.func154, Try.ntmps154
      go_wp2
      go_ret
      exact ⟨by have := HR.out; simp; omega, rfl⟩
  · rw [h] at hn
    have HR := Lib.hid hrb; have HN := Lib.hid hni; clear hrb hni
    go_enter Try.func154, Try.ntmps154
    go_wp2
    go_ret
    exact ⟨rfl, rfl⟩
/-! bushelref03 -/
theorem run_sub_bad {P : Program} (t : TypeId) (w : World) (x y : Nat) (h : FloatKind.f64.format.sub x y = none) : ∃ q, nanB q = true ∧ q < 18446744073709551616 ∧ (binOp .sub t (.float .f64 x) (.float .f64 y)).run P w = .ok (.float .f64 q) w.drew := by
  refine ⟨Question.cut (.nanBits .f64 x y) (w.tape w.drawn (.nanBits .f64 x y)), ?_, ?_, ?_⟩
  · generalize w.tape w.drawn (.nanBits .f64 x y) = t
    have h1 := Nat.mod_lt (t / 2) (show 0 < 4503599627370495 by decide)
    refine decide_eq_true ?_
    show 9218868437227405312 < (t % 2 * 9223372036854775808 + 9218868437227405312 + 1 + t / 2 % 4503599627370495) % 9223372036854775808
    generalize t / 2 % 4503599627370495 = y at *
    omega
  · generalize w.tape w.drawn (.nanBits .f64 x y) = t
    have h1 := Nat.mod_lt (t / 2) (show 0 < 4503599627370495 by decide)
    show (t % 2 * 9223372036854775808 + 9218868437227405312 + 1 + t / 2 % 4503599627370495) < _
    generalize t / 2 % 4503599627370495 = y at *
    omega
  · simp [binOp, Op.floatArith, h, Question.forced]
theorem order_zero (b : Nat) (h : nanB b = false) : (FloatKind.f64.format.order b 0 == some .eq) = decide (rg b = 0) := by
  have h1 : rg b ≤ irg := by unfold nanB at h; simpa using h
  have := order_any b 0 h1 (by decide)
  show (Ieee.double.order b 0 == some .eq) = _
  rw [this]
  have e0 : sv 0 = 0 := by decide
  rw [e0]
  by_cases hz : rg b = 0
  · have : sv b = 0 := by unfold sv; rw [hz]; simp [vl_zero]
    rw [this]; simp [hz]
  · have hp := vl_pos (show 0 < rg b by omega)
    have hne : sv b ≠ 0 := by unfold sv; split <;> omega
    rcases Int.lt_or_gt_of_ne hne with hl | hl
    · rw [icmp_lt hl]; simp [hz]
    · rw [icmp_gt hl]; simp [hz]
theorem sub_self_num (b : Nat) (h : rg b < irg) : FloatKind.f64.format.sub b b = some 0 := by
  show Ieee.double.sub b b = some 0
  unfold Ieee.Format.sub
  rw [read_num b h]
  simp only [Ieee.Datum.opposite, Ieee.Datum.sum, Ieee.signed]
  generalize mg (rg b) = m
  have : (-1074 + (ex (rg b) : Int) - min (-1074 + (ex (rg b) : Int)) (-1074 + (ex (rg b) : Int))).toNat = 0 := by omega
  rw [this]
  cases ng b <;> simp [Ieee.Format.write, Ieee.Format.nearest, Ieee.Format.word, Int.add_right_neg, Int.add_left_neg]
theorem sub_self_inf (b : Nat) (h : rg b = irg) : FloatKind.f64.format.sub b b = none := by
  show Ieee.double.sub b b = none
  unfold Ieee.Format.sub
  rw [read_inf b h]
  cases ng b <;> rfl
def kindF (b : Nat) : Nat := if nanB b then 3 else if rg b = 0 then 0 else if rg b = irg then 2 else 1
theorem refKind_any (b : Nat) (w : World) (hb : b < 18446744073709551616) :
    Calls Try.prog 140 #[.float .f64 b] w fun e w' => e = .returned (.int .i64 (kindF b : Nat)) ∧ ∃ n, w' = w.drewN n := by
  have hn := order_selfF b
  unfold kindF
  cases h : nanB b
  · rw [h] at hn
    have hz := order_zero b h
    by_cases h0 : rg b = 0
    · rw [decide_eq_true h0] at hz
      rw [if_neg (by simp), if_pos h0]
      have H0 := Lib.hid h0; clear h0
      go_enter Try.func140, Try.ntmps140
      go_wp2
      go_ret
      exact ⟨rfl, 0, rfl⟩
    · rw [decide_eq_false h0] at hz
      rw [if_neg (by simp), if_neg h0]
      by_cases hi : rg b = irg
      · rw [if_pos hi]
        have hs := sub_self_inf b hi
        obtain ⟨q, hq, hql, hrun⟩ := run_sub_bad (P := Try.prog) 115 w b b hs
        have hq0 : (FloatKind.f64.format.order q 0 != some .eq) = true := by
          have : FloatKind.f64.format.order q 0 = none := order_nan q 0 (.inl (by unfold nanB at hq; simpa using hq))
          rw [this]; rfl
        have H0 := Lib.hid h0; have HI := Lib.hid hi; clear h0 hi
        go_enter Try.func140, Try.ntmps140
        go_wp2
        go_ret
        exact ⟨rfl, 1, rfl⟩
      · rw [if_neg hi]
        have h1 : rg b < irg := by unfold nanB at h; have := of_decide_eq_false h; omega
        have hrun := run_float_arith (P := Try.prog) w .sub 115 .f64 b b 0 (sub_self_num b h1)
        have hq0 : (FloatKind.f64.format.order 0 0 != some .eq) = false := by decide
        have H0 := Lib.hid h0; have HI := Lib.hid hi; clear h0 hi
        go_enter Try.func140, Try.ntmps140
        go_wp2
        go_ret
        exact ⟨rfl, 0, rfl⟩
  · rw [h] at hn
    go_enter Try.func140, Try.ntmps140
    go_wp2
    go_ret
    exact ⟨rfl, 0, rfl⟩

theorem order_cmp (a b : Nat) (ha : nanB a = false) (hb : nanB b = false) : FloatKind.f64.format.order a b = some (compare (sv a) (sv b)) := by
  have h1 : rg a ≤ irg := by unfold nanB at ha; simpa using ha
  have h2 : rg b ≤ irg := by unfold nanB at hb; simpa using hb
  exact order_any a b h1 h2
theorem order_lt (a b : Nat) (ha : nanB a = false) (hb : nanB b = false) : (FloatKind.f64.format.order a b == some .lt) = decide (sv a < sv b) := by
  rw [order_cmp a b ha hb]
  rcases Int.lt_trichotomy (sv a) (sv b) with h | h | h
  · rw [icmp_lt h]; simp [h]
  · rw [h]; simp
  · rw [icmp_gt h]; simp; omega
theorem order_eq (a b : Nat) (ha : nanB a = false) (hb : nanB b = false) : (FloatKind.f64.format.order a b == some .eq) = decide (sv a = sv b) := by
  rw [order_cmp a b ha hb]
  rcases Int.lt_trichotomy (sv a) (sv b) with h | h | h
  · rw [icmp_lt h]; simp; omega
  · rw [h]; simp
  · rw [icmp_gt h]; simp; omega
theorem div_one_zero (b : Nat) (h : rg b = 0) : FloatKind.f64.format.div 4607182418800017408 b = some (if ng b then 18442240474082181120 else 9218868437227405312) := by
  show Ieee.double.div 4607182418800017408 b = _
  unfold Ieee.Format.div
  rw [read_num b (by rw [h]; decide), read_num 4607182418800017408 (by decide), h]
  cases ng b <;> decide
/-- has a number a minus? (a number that is one) -/
theorem below_any (b : Nat) (w : World) (hb : b < 18446744073709551616) (h : nanB b = false) :
    Calls Try.prog 141 #[.float .f64 b] w fun e w' => e = .returned (.bool (ng b)) ∧ w = w' := by
  have hz := order_zero b h
  have hl : (FloatKind.f64.format.order b 0 == some .lt) = (ng b && decide (rg b ≠ 0)) := by
    rw [order_lt b 0 h (by decide), show sv 0 = 0 from by decide]
    have hp : 0 < rg b → 0 < vl (rg b) := vl_pos
    have hq : rg b = 0 → vl (rg b) = 0 := fun h => by rw [h]; rfl
    unfold sv
    rw [Bool.eq_iff_iff]
    cases ng b <;> simp <;> omega
  by_cases h0 : rg b = 0
  · rw [decide_eq_true h0] at hz
    have hd := div_one_zero b h0
    have hrun := run_float_arith (P := Try.prog) w .quo 115 .f64 4607182418800017408 b _ hd
    rw [show (ng b && decide (rg b ≠ 0)) = false by simp [h0]] at hl
    cases hg : ng b
    · rw [hg] at hrun
      simp only [Bool.false_eq_true, if_false] at hrun
      have hlt : (FloatKind.f64.format.order 9218868437227405312 0 == some .lt) = false := by decide
      have H0 := Lib.hid h0; have HD := Lib.hid hd; have HG := Lib.hid hg; clear h0 hd hg
      go_enter Try.func141, Try.ntmps141
      go_wp2
      go_ret
      exact ⟨rfl, rfl⟩
    · rw [hg] at hrun
      simp only [if_true] at hrun
      have hlt : (FloatKind.f64.format.order 18442240474082181120 0 == some .lt) = true := by decide
      have H0 := Lib.hid h0; have HD := Lib.hid hd; have HG := Lib.hid hg; clear h0 hd hg
      go_enter Try.func141, Try.ntmps141
      go_wp2
      go_ret
      exact ⟨rfl, rfl⟩
  · rw [decide_eq_false h0] at hz
    rw [show (ng b && decide (rg b ≠ 0)) = ng b by simp [h0]] at hl
    cases hg : ng b
    · rw [hg] at hl
      have H0 := Lib.hid h0; have HG := Lib.hid hg; clear h0 hg
      go_enter Try.func141, Try.ntmps141
      go_wp2
      go_ret
      exact ⟨rfl, rfl⟩
    · rw [hg] at hl
      have H0 := Lib.hid h0; have HG := Lib.hid hg; clear h0 hg
      go_enter Try.func141, Try.ntmps141
      go_wp2
      go_ret
      exact ⟨rfl, rfl⟩
end Go.Proofs.Ytfhmaincnlaapaa
namespace Go.Proofs.Ytfhmaincnlaapaa
open Go.ChangeShapes Go.WideShapes Go.ChangeAt Go.RowKit
set_option linter.unusedVariables false
theorem kindF_nan (b : Nat) (h : nanB b = true) : kindF b = 3 := by unfold kindF; rw [h]; rfl
theorem kindF_num (b : Nat) (h : nanB b = false) : kindF b ≠ 3 := by unfold kindF; rw [h]; split <;> (try split) <;> (try split) <;> simp_all
theorem keyB_nan (b : Nat) (h : nanB b = true) : keyB b = 18446744073709551615 := by unfold keyB; rw [h]; rfl
theorem keyB_num (b : Nat) (h : nanB b = false) : keyB b < 18446744073709551615 := by
  have hr : rg b ≤ irg := by unfold nanB at h; simpa using h
  unfold irg at hr
  unfold keyB; rw [h]; simp only [Bool.false_eq_true, if_false]; split <;> omega
theorem key_eq (a b : Nat) (ha : nanB a = false) (hb : nanB b = false) : decide (keyB a = keyB b) = (decide (sv a = sv b) && (ng a == ng b)) := by
  have h1 : rg a ≤ irg := by unfold nanB at ha; simpa using ha
  have h2 : rg b ≤ irg := by unfold nanB at hb; simpa using hb
  unfold irg at h1 h2
  simp only [keyB, ha, hb]
  unfold sv
  have hl : vl (rg a) = vl (rg b) → rg a = rg b := vl_inj
  have z1 : 0 < rg a → 0 < vl (rg a) := vl_pos
  have z2 : 0 < rg b → 0 < vl (rg b) := vl_pos
  have e3 : rg a = rg b → vl (rg a) = vl (rg b) := fun h => by rw [h]
  generalize vl (rg a) = x at *
  generalize vl (rg b) = y at *
  generalize rg a = r at *
  generalize rg b = s at *
  rw [Bool.eq_iff_iff]
  cases ng a <;> cases ng b <;> simp <;> omega
/-- some draws, however they are written -/
def Drws (w w' : World) : Prop := ∃ k, w' = w.drewN k
theorem drws_refl (w : World) : Drws w w := ⟨0, rfl⟩
theorem drws_step {w w' : World} (h : Drws w w') (n : Nat) : Drws w (w'.drewN n) := by
  obtain ⟨k, rfl⟩ := h; exact ⟨k + n, World.drewN_drewN _ _ _⟩
theorem refFLess_any (a b : Nat) (w : World) (ha : a < 18446744073709551616) (hb : b < 18446744073709551616) :
    Calls Try.prog 105 #[.float .f64 a, .float .f64 b] w fun e w' => e = .returned (.bool (decide (keyB a < keyB b))) ∧ Drws w w' := by
  cases na : nanB a
  · have t1 : ((kindF a : Int) == 3) = false := by rw [beq_eq_false_iff_ne]; have := kindF_num a na; omega
    have t1' : ((kindF a : Int) != 3) = true := by rw [bne_iff_ne]; have := kindF_num a na; omega
    cases nb : nanB b
    · have t2 : ((kindF b : Int) == 3) = false := by rw [beq_eq_false_iff_ne]; have := kindF_num b nb; omega
      have hl := order_lt a b na nb
      have he := order_eq a b na nb
      rw [key_lt a b na nb]
      have NA := Lib.hid na; have NB := Lib.hid nb; clear na nb
      have A := Lib.hid hl; have E := Lib.hid he; clear hl he
      by_cases c1 : sv a < sv b
      · have hl : (FloatKind.f64.format.order a b == some .lt) = true := by rw [A.out]; simp [c1]
        have he : (FloatKind.f64.format.order a b == some .eq) = false := by rw [E.out]; simp; omega
        have C := Lib.hid c1; clear c1
        go_enter Try.func105, Try.ntmps105
        go_wp2_with (first | (go_at_call 140; (first | (with_reducible refine (refKind_any a _ ha).mono ?_) | (with_reducible refine (refKind_any b _ hb).mono ?_)); rintro e w' ⟨rfl, n, rfl⟩) | (go_at_call 141; (first | (with_reducible refine (below_any a _ ha NA.out).mono ?_) | (with_reducible refine (below_any b _ hb NB.out).mono ?_)); rintro e w' ⟨rfl, rfl⟩))
        go_ret
        exact ⟨by simp [C.out], by first | exact drws_refl _ | exact drws_step (drws_refl _) _ | exact drws_step (drws_step (drws_refl _) _) _ | exact drws_step (drws_step (drws_step (drws_refl _) _) _) _ | exact drws_step (drws_step (drws_step (drws_step (drws_refl _) _) _) _) _⟩
      · have hl : (FloatKind.f64.format.order a b == some .lt) = false := by rw [A.out]; simp [c1]
        by_cases c2 : sv a = sv b
        · have he : (FloatKind.f64.format.order a b == some .eq) = true := by rw [E.out]; simp [c2]
          have C := Lib.hid c1; have D := Lib.hid c2; clear c1 c2
          cases ga : ng a
          all_goals
            cases gb : ng b
            all_goals
              skip
              go_enter Try.func105, Try.ntmps105
              go_wp2_with (first | (go_at_call 140; (first | (with_reducible refine (refKind_any a _ ha).mono ?_) | (with_reducible refine (refKind_any b _ hb).mono ?_)); rintro e w' ⟨rfl, n, rfl⟩) | (go_at_call 141; (first | (with_reducible refine (below_any a _ ha NA.out).mono ?_) | (with_reducible refine (below_any b _ hb NB.out).mono ?_)); rintro e w' ⟨rfl, rfl⟩))
              go_ret
              exact ⟨by simp [D.out], by first | exact drws_refl _ | exact drws_step (drws_refl _) _ | exact drws_step (drws_step (drws_refl _) _) _ | exact drws_step (drws_step (drws_step (drws_refl _) _) _) _ | exact drws_step (drws_step (drws_step (drws_step (drws_refl _) _) _) _) _⟩
        · have he : (FloatKind.f64.format.order a b == some .eq) = false := by rw [E.out]; simp [c2]
          have C := Lib.hid c1; have D := Lib.hid c2; clear c1 c2
          go_enter Try.func105, Try.ntmps105
          go_wp2_with (first | (go_at_call 140; (first | (with_reducible refine (refKind_any a _ ha).mono ?_) | (with_reducible refine (refKind_any b _ hb).mono ?_)); rintro e w' ⟨rfl, n, rfl⟩) | (go_at_call 141; (first | (with_reducible refine (below_any a _ ha NA.out).mono ?_) | (with_reducible refine (below_any b _ hb NB.out).mono ?_)); rintro e w' ⟨rfl, rfl⟩))
          go_ret
          exact ⟨by simp [C.out, D.out], by first | exact drws_refl _ | exact drws_step (drws_refl _) _ | exact drws_step (drws_step (drws_refl _) _) _ | exact drws_step (drws_step (drws_step (drws_refl _) _) _) _ | exact drws_step (drws_step (drws_step (drws_step (drws_refl _) _) _) _) _⟩
    · have t2 : ((kindF b : Int) == 3) = true := by rw [kindF_nan b nb]; rfl
      have hlt : decide (keyB a < keyB b) = true := by have := keyB_num a na; rw [keyB_nan b nb]; simpa using this
      rw [hlt]
      have NA := Lib.hid na; have NB := Lib.hid nb; have HL := Lib.hid hlt; clear na nb hlt
      go_enter Try.func105, Try.ntmps105
      go_wp2_with (go_at_call 140; (first | (with_reducible refine (refKind_any a _ ha).mono ?_) | (with_reducible refine (refKind_any b _ hb).mono ?_)); rintro e w' ⟨rfl, n, rfl⟩)
      go_ret
      exact ⟨rfl, by first | exact drws_refl _ | exact drws_step (drws_refl _) _ | exact drws_step (drws_step (drws_refl _) _) _ | exact drws_step (drws_step (drws_step (drws_refl _) _) _) _⟩
  · have t1 : ((kindF a : Int) == 3) = true := by rw [kindF_nan a na]; rfl
    have t1' : ((kindF a : Int) != 3) = false := by rw [kindF_nan a na]; rfl
    have hlt : decide (keyB a < keyB b) = false := by have := keyB_lt b; rw [keyB_nan a na]; simp; omega
    rw [hlt]
    have NA := Lib.hid na; have HL := Lib.hid hlt; clear na hlt
    go_enter Try.func105, Try.ntmps105
    go_wp2_with (go_at_call 140; (first | (with_reducible refine (refKind_any a _ ha).mono ?_) | (with_reducible refine (refKind_any b _ hb).mono ?_)); rintro e w' ⟨rfl, n, rfl⟩)
    go_ret
    exact ⟨rfl, by first | exact drws_refl _ | exact drws_step (drws_refl _) _ | exact drws_step (drws_step (drws_refl _) _) _ | exact drws_step (drws_step (drws_step (drws_refl _) _) _) _⟩
theorem refFSame_any (a b : Nat) (w : World) (ha : a < 18446744073709551616) (hb : b < 18446744073709551616) :
    Calls Try.prog 78 #[.float .f64 a, .float .f64 b] w fun e w' => e = .returned (.bool (decide (keyB a = keyB b))) ∧ Drws w w' := by
  cases na : nanB a
  · have t1 : ((kindF a : Int) == 3) = false := by rw [beq_eq_false_iff_ne]; have := kindF_num a na; omega
    have t1' : ((kindF a : Int) != 3) = true := by rw [bne_iff_ne]; have := kindF_num a na; omega
    cases nb : nanB b
    · have t2 : ((kindF b : Int) == 3) = false := by rw [beq_eq_false_iff_ne]; have := kindF_num b nb; omega
      have hl := order_lt a b na nb
      have he := order_eq a b na nb
      rw [key_eq a b na nb]
      have NA := Lib.hid na; have NB := Lib.hid nb; clear na nb
      have A := Lib.hid hl; have E := Lib.hid he; clear hl he
      by_cases c1 : sv a < sv b
      · have hl : (FloatKind.f64.format.order a b == some .lt) = true := by rw [A.out]; simp [c1]
        have he : (FloatKind.f64.format.order a b == some .eq) = false := by rw [E.out]; simp; omega
        have C := Lib.hid c1; clear c1
        go_enter Try.func78, Try.ntmps78
        go_wp2_with (first | (go_at_call 140; (first | (with_reducible refine (refKind_any a _ ha).mono ?_) | (with_reducible refine (refKind_any b _ hb).mono ?_)); rintro e w' ⟨rfl, n, rfl⟩) | (go_at_call 141; (first | (with_reducible refine (below_any a _ ha NA.out).mono ?_) | (with_reducible refine (below_any b _ hb NB.out).mono ?_)); rintro e w' ⟨rfl, rfl⟩))
        go_ret
        exact ⟨by have := C.out; simp; omega, by first | exact drws_refl _ | exact drws_step (drws_refl _) _ | exact drws_step (drws_step (drws_refl _) _) _ | exact drws_step (drws_step (drws_step (drws_refl _) _) _) _ | exact drws_step (drws_step (drws_step (drws_step (drws_refl _) _) _) _) _⟩
      · have hl : (FloatKind.f64.format.order a b == some .lt) = false := by rw [A.out]; simp [c1]
        by_cases c2 : sv a = sv b
        · have he : (FloatKind.f64.format.order a b == some .eq) = true := by rw [E.out]; simp [c2]
          have C := Lib.hid c1; have D := Lib.hid c2; clear c1 c2
          cases ga : ng a
          all_goals
            cases gb : ng b
            all_goals
              skip
              go_enter Try.func78, Try.ntmps78
              go_wp2_with (first | (go_at_call 140; (first | (with_reducible refine (refKind_any a _ ha).mono ?_) | (with_reducible refine (refKind_any b _ hb).mono ?_)); rintro e w' ⟨rfl, n, rfl⟩) | (go_at_call 141; (first | (with_reducible refine (below_any a _ ha NA.out).mono ?_) | (with_reducible refine (below_any b _ hb NB.out).mono ?_)); rintro e w' ⟨rfl, rfl⟩))
              go_ret
              exact ⟨by simp [D.out], by first | exact drws_refl _ | exact drws_step (drws_refl _) _ | exact drws_step (drws_step (drws_refl _) _) _ | exact drws_step (drws_step (drws_step (drws_refl _) _) _) _ | exact drws_step (drws_step (drws_step (drws_step (drws_refl _) _) _) _) _⟩
        · have he : (FloatKind.f64.format.order a b == some .eq) = false := by rw [E.out]; simp [c2]
          have C := Lib.hid c1; have D := Lib.hid c2; clear c1 c2
          go_enter Try.func78, Try.ntmps78
          go_wp2_with (first | (go_at_call 140; (first | (with_reducible refine (refKind_any a _ ha).mono ?_) | (with_reducible refine (refKind_any b _ hb).mono ?_)); rintro e w' ⟨rfl, n, rfl⟩) | (go_at_call 141; (first | (with_reducible refine (below_any a _ ha NA.out).mono ?_) | (with_reducible refine (below_any b _ hb NB.out).mono ?_)); rintro e w' ⟨rfl, rfl⟩))
          go_ret
          exact ⟨by simp [D.out], by first | exact drws_refl _ | exact drws_step (drws_refl _) _ | exact drws_step (drws_step (drws_refl _) _) _ | exact drws_step (drws_step (drws_step (drws_refl _) _) _) _ | exact drws_step (drws_step (drws_step (drws_step (drws_refl _) _) _) _) _⟩
    · have t2 : ((kindF b : Int) == 3) = true := by rw [kindF_nan b nb]; rfl
      have t3 : ((kindF a : Int) == (kindF b : Int)) = false := by rw [beq_eq_false_iff_ne, kindF_nan b nb]; have := kindF_num a na; omega
      have hlt : decide (keyB a = keyB b) = false := by have := keyB_num a na; rw [keyB_nan b nb]; simp; omega
      rw [hlt]
      have NA := Lib.hid na; have NB := Lib.hid nb; have HL := Lib.hid hlt; clear na nb hlt
      go_enter Try.func78, Try.ntmps78
      go_wp2_with (go_at_call 140; (first | (with_reducible refine (refKind_any a _ ha).mono ?_) | (with_reducible refine (refKind_any b _ hb).mono ?_)); rintro e w' ⟨rfl, n, rfl⟩)
      go_ret
      exact ⟨rfl, by first | exact drws_refl _ | exact drws_step (drws_refl _) _ | exact drws_step (drws_step (drws_refl _) _) _ | exact drws_step (drws_step (drws_step (drws_refl _) _) _) _ | exact drws_step (drws_step (drws_step (drws_step (drws_refl _) _) _) _) _⟩
  · have t1 : ((kindF a : Int) == 3) = true := by rw [kindF_nan a na]; rfl
    have t3 : ((kindF a : Int) == (kindF b : Int)) = decide (keyB a = keyB b) := by
      rw [kindF_nan a na, keyB_nan a na]
      cases nb : nanB b
      · have h1 := kindF_num b nb; have h2 := keyB_num b nb
        rw [decide_eq_false (by omega), beq_eq_false_iff_ne]; omega
      · rw [kindF_nan b nb, keyB_nan b nb]; rfl
    generalize decide (keyB a = keyB b) = r at *
    have NA := Lib.hid na; clear na
    go_enter Try.func78, Try.ntmps78
    go_wp2_with (go_at_call 140; (first | (with_reducible refine (refKind_any a _ ha).mono ?_) | (with_reducible refine (refKind_any b _ hb).mono ?_)); rintro e w' ⟨rfl, n, rfl⟩)
    go_ret
    exact ⟨rfl, by first | exact drws_refl _ | exact drws_step (drws_refl _) _ | exact drws_step (drws_step (drws_refl _) _) _ | exact drws_step (drws_step (drws_step (drws_refl _) _) _) _ | exact drws_step (drws_step (drws_step (drws_step (drws_refl _) _) _) _) _⟩
end Go.Proofs.Ytfhmaincnlaapaa
namespace Go.Proofs.Ytfhmaincnlaapaa
open Go.ChangeShapes Go.WideShapes Go.ChangeAt Go.RowKit
set_option linter.unusedVariables false

end Go.Proofs.Ytfhmaincnlaapaa
namespace Go.Proofs.Ytfhmaincnlaapaa
open Go.ChangeShapes Go.WideShapes Go.ChangeAt Go.RowKit
set_option linter.unusedVariables false

end Go.Proofs.Ytfhmaincnlaapaa
namespace Go.Proofs.Ytfhmaincnlaapaa
open Go.ChangeShapes Go.WideShapes Go.ChangeAt Go.RowKit
set_option linter.unusedVariables false

/-- what was read -/
structure GotS where
  u : Nat
  i : Int
  t : List UInt8
  n : Nat
  e : Nat
def GotS.v (g : GotS) : Value := .agg #[.int .u64 (g.u : Int), .int .i64 g.i, .string ⟨g.t.toArray⟩, .int .i64 (g.n : Int), .int .i64 (g.e : Int)]
def got0S (e : Nat) : GotS := ⟨0, 0, [], 0, e⟩
def mx (ms : Int) : Nat := (max ms 0).toNat
def rdI (t : List UInt8) : GotS := if (getI t).2.2 ≠ 0 then got0S (getI t).2.2 else ⟨0, (getI t).1, [], (getI t).2.1, 0⟩
section
variable (mu : Nat) (ai : Int) (f : Nat) (s : ByteArray) (ms : Int) (A : Option Addr) (m c B : Nat) (t : List UInt8) (w : World)

end
end Go.Proofs.Ytfhmaincnlaapaa
namespace Go.Proofs.Ytfhmaincnlaapaa
open Go.ChangeShapes Go.WideShapes Go.ChangeAt Go.RowKit
set_option linter.unusedVariables false

section
variable (mu : Nat) (ai : Int) (f : Nat) (s : ByteArray) (ms : Int) (A : Option Addr) (m c B : Nat) (t : List UInt8) (w : World)
end
end Go.Proofs.Ytfhmaincnlaapaa
namespace Go.Proofs.Ytfhmaincnlaapaa
open Go.ChangeShapes Go.WideShapes Go.ChangeAt Go.RowKit
set_option linter.unusedVariables false

end Go.Proofs.Ytfhmaincnlaapaa
namespace Go.Proofs.Ytfhmaincnlaapaa
open Go.ChangeShapes Go.WideShapes Go.ChangeAt Go.RowKit
set_option linter.unusedVariables false

end Go.Proofs.Ytfhmaincnlaapaa
namespace Go.Proofs.Ytfhmaincnlaapaa
open Go.ChangeShapes Go.WideShapes Go.ChangeAt Go.RowKit
set_option linter.unusedVariables false

/-- a thing that is asked for -/
structure AskS where
  d : Int
  u : Nat
  i : Int
  f : Nat
  s : ByteArray
  m : Int
end Go.Proofs.Ytfhmaincnlaapaa
namespace Go.Proofs.Ytfhmaincnlaapaa
open Go.ChangeShapes Go.WideShapes Go.ChangeAt Go.RowKit
set_option linter.unusedVariables false

section
variable {w : World} {B n : Nat} {A : Option Addr} {l : List AskS}
end
end Go.Proofs.Ytfhmaincnlaapaa
