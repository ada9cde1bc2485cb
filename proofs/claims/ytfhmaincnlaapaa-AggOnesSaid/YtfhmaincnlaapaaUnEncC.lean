/-
  Schemas and cells as trees.
  bushelref02.Same, bushelref14.Same, bushelref15.Same.
  What agg.Get comes to; what is put of a right cell is got.
  fact.one.
  What fact.Get comes to; what is put is got.
  bushelref12.Light.
  bushellaw12.awake.
  CELLS, without the program: their bytes; whether one is right.
  LEAVES, without the program: what two lists share.
-/
import Derived.Laws.BitsAllLaws
import Derived.Deep.LoopGhost
import Derived.Deep.DeepCutAuto
import Derived.Deep.RegionLawGrows
import Derived.StillTailTactics
import Derived.Test.YtfhmaincnlaapaaUnSy2
import Derived.Test.YtfhmaincnlaapaaUnRefRead
import Derived.Test.YtfhmaincnlaapaaUnBufSmall
import Derived.Test.YtfhmaincnlaapaaUnRefNodesW
import Derived.Test.YtfhmaincnlaapaaUnSchemaCheck
import Derived.Test.YtfhmaincnlaapaaUnNumMath
namespace Go.Proofs.Ytfhmaincnlaapaa
open Go.ChangeShapes Go.WideShapes Go.ChangeAt Go.RowKit
set_option linter.unusedVariables false

def pk (kd : Int) (b : Nat) (st : Pst) (l : List (List UInt8 × Bool)) : Pst := l.foldl (fun st x => pput kd b st x.1 x.2) st
def sumA (l : List Sht) : Nat := (l.map Sht.a).sum
end Go.Proofs.Ytfhmaincnlaapaa
namespace Go.Proofs.Ytfhmaincnlaapaa
open Go.ChangeShapes Go.WideShapes Go.ChangeAt Go.RowKit
set_option linter.unusedVariables false

/-- what the first bytes of a sum tell -/
def hd (b : List UInt8) (i : Nat) : Nat := (b.getD i 0).toNat
def headE (b : List UInt8) : Nat :=
  if 0 < b.length ∧ (63 < hd b 0 ∨ (hd b 0 / 32 % 2 = 1 ∧ hd b 0 / 16 % 2 = 0)) then 6
  else if 1 < b.length ∧ (69 < hd b 1 ∨ (0 < hd b 1 ∧ hd b 0 / 16 % 2 = 0)) then 6
  else if 2 < b.length ∧ (70 < hd b 1 + hd b 2 ∨ (0 < hd b 2 ∧ hd b 0 / 16 % 2 = 0) ∨ (hd b 2 = 0 ∧ (0 < hd b 1 ∨ hd b 0 / 32 % 2 = 1))) then 6
  else 0
/-- word i of a sum's bytes -/
def wordB (b : List UInt8) (i : Nat) : Nat := bv ((b.drop (3 + 4 * i)).take 4)
/-- the words from number i on, n in all -/
def wordsE (b : List UInt8) (n : Nat) : Nat → Nat
  | 0 => if 3 + 4 * n < b.length then 7 else 0
  | k + 1 => if b.length < 3 + 4 * (n - (k + 1)) + 4 then 5 else if (n - (k + 1) = 0 ∨ k = 0) ∧ wordB b (n - (k + 1)) = 0 then 6 else wordsE b n k
def readE (b : List UInt8) : Nat := if headE b ≠ 0 then headE b else if b.length < 3 then 5 else wordsE b (hd b 2) (hd b 2)
/-- how many keys a set has -/
def fullP (S : Sch) : Nat := if checkN S = 0 then fullN S else 0
def keysP (S : Sch) (mask : Nat) : Nat → Nat
  | 0 => 1
  | k + 1 => if mask.testBit k then keysP S mask k * (szAt S k).toNat else keysP S mask k
def keysOf (S : Sch) (mask : Nat) : Option Nat := if checkN S = 0 ∧ mask < p2 S.dims.length then some (keysP S mask S.dims.length) else none
def okW (x : WholeS) : Bool := decide (0 ≤ x.abs) && decide (x.sum ≤ x.abs) && decide (-x.abs ≤ x.sum) && decide (x.mn ≤ x.mx) && decide (x.sq.length ≤ 7) && decide (tsz x.sq = x.sq.length)
def okR (x : RealS) : Bool := decide (readE x.sum = 0) && decide (keyB x.mn ≤ keyB x.mx)
def rightC (S : Sch) (mask : Nat) (C : CellS) : Bool :=
  match keysOf S mask with
  | none => false
  | some n => decide (C.key < n) && decide (1 ≤ C.count) && decide (C.ints.length = S.ints.length) && decide (C.nums.length = S.nums.length) && C.ints.all okW && C.nums.all okR
theorem and_hi (a n : Nat) (hn : n ≤ 31) (ha : a < 4294967296) : a &&& (4294967295 - (p2 n - 1)) = a / p2 n * p2 n := by
  have e : 4294967295 - (p2 n - 1) = (p2 (32 - n) - 1) * p2 n := by
    have h1 : p2 (32 - n) * p2 n = 4294967296 := by
      unfold p2; rw [← Nat.pow_add, show 32 - n + n = 32 from by omega]
    have := p2_pos n
    rw [Nat.sub_mul, h1, Nat.one_mul]; omega
  rw [e]
  unfold p2
  apply Nat.eq_of_testBit_eq; intro i
  rw [Nat.testBit_and, Nat.testBit_mul_two_pow, Nat.testBit_mul_two_pow, Nat.testBit_two_pow_sub_one, Nat.testBit_div_two_pow]
  by_cases hi : n ≤ i
  · by_cases h32 : i < 32
    · have h1 : decide (i - n < 32 - n) = true := decide_eq_true (by omega)
      rw [h1, show i - n + n = i from by omega]
      simp [hi]
    · have h0 : a.testBit i = false := Nat.testBit_lt_two_pow (Nat.lt_of_lt_of_le ha (by have := Nat.pow_le_pow_right (show 0 < 2 by decide) (show 32 ≤ i by omega); simpa using this))
      rw [show i - n + n = i from by omega, h0]
      simp
  · simp [hi]
theorem bit_of (x i : Nat) : (x / p2 i) % 2 = if x.testBit i then 1 else 0 := by
  rw [Nat.testBit_eq_decide_div_mod_eq]
  unfold p2
  by_cases h : x / 2 ^ i % 2 = 1
  · simp [h]
  · have : x / 2 ^ i % 2 = 0 := by omega
    simp [this]
theorem and32 : ∀ x : Fin 256, x.val &&& 32 = x.val / 32 % 2 * 32 := by decide +kernel
theorem and16 : ∀ x : Fin 256, x.val &&& 16 = x.val / 16 % 2 * 16 := by decide +kernel
theorem not32 : ∀ x : Fin 256, x.val &&& (255 - 32) = x.val - x.val / 32 % 2 * 32 := by decide +kernel
theorem or_byte32 (X b : Nat) (hb : b < 256) : X * 256 ||| b = X * 256 + b := by
  have := Nat.shiftLeft_add_eq_or_of_lt (show b < 2 ^ 8 from hb) X
  rw [Nat.shiftLeft_eq] at this
  exact this.symm
def magP (g : Nat → Nat) (m i : Nat) : List Nat := List.replicate (m - i) 0 ++ ((List.range i).map g).reverse
theorem magP_len (g : Nat → Nat) (m i : Nat) (h : i ≤ m) : (magP g m i).length = m := by unfold magP; simp; omega
theorem magP_succ (g : Nat → Nat) (m i : Nat) (h : i < m) : (magP g m i).set (m - 1 - i) (g i) = magP g m (i + 1) := by
  unfold magP
  obtain ⟨k, hk⟩ : ∃ k, m - i = k + 1 := ⟨m - i - 1, by omega⟩
  have h1 : m - 1 - i = k := by omega
  have h2 : m - (i + 1) = k := by omega
  rw [hk, h1, h2, List.range_succ, List.map_append, List.reverse_append]
  rw [List.replicate_succ', List.append_assoc, List.set_append_right _ _ (by simp)]
  simp
theorem magP_get (g : Nat → Nat) (m i p : Nat) (h : i < m) : ((magP g m i).set (m - 1 - i) p)[m - 1 - i]? = some p := by
  rw [List.getElem?_set_self (by rw [magP_len g m i (by omega)]; omega)]
theorem magP_cur (g : Nat → Nat) (m i : Nat) (h : i < m) : (magP g m i)[m - 1 - i]? = some 0 := by
  unfold magP
  rw [List.getElem?_append_left (by simp; omega), List.getElem?_replicate, if_pos (by omega)]
theorem magP_at (g : Nat → Nat) (m i j : Nat) (h : j < i) (hi : i ≤ m) : (magP g m i)[m - 1 - j]? = some (g j) := by
  unfold magP
  rw [List.getElem?_append_right (by simp; omega)]
  rw [List.length_replicate, show m - 1 - j - (m - i) = i - 1 - j from by omega, List.getElem?_reverse (by simp; omega)]
  simp only [List.length_map, List.length_range]
  rw [show i - 1 - (i - 1 - j) = j from by omega]
  simp [h]
theorem all_take_succ {α : Type} (p : α → Bool) (l : List α) (k : Nat) (h : k < l.length) : (l.take (k + 1)).all p = ((l.take k).all p && p l[k]) := by
  rw [List.take_succ_eq_append_getElem h, List.all_append]; simp
theorem all_no {α : Type} (p : α → Bool) (l : List α) (k : Nat) (h : k < l.length) (hp : p l[k] = false) : l.all p = false := by
  rw [List.all_eq_false]; exact ⟨l[k], List.getElem_mem h, by simp [hp]⟩
theorem rightC_none (S : Sch) (mask : Nat) (C : CellS) (h : keysOf S mask = none) : rightC S mask C = false := by unfold rightC; rw [h]
theorem rightC_some (S : Sch) (mask n : Nat) (C : CellS) (h : keysOf S mask = some n) : rightC S mask C = (decide (C.key < n) && decide (1 ≤ C.count) && decide (C.ints.length = S.ints.length) && decide (C.nums.length = S.nums.length) && C.ints.all okW && C.nums.all okR) := by unfold rightC; rw [h]
theorem headE_ok {b : List UInt8} (h0 : headE b = 0) (h3 : 3 ≤ b.length) : hd b 1 + hd b 2 ≤ 70 ∧ hd b 0 ≤ 63 ∧ (hd b 2 = 0 → hd b 1 = 0) := by
  unfold headE at h0
  (repeat' split at h0) <;> first | (cases h0; done) | (refine ⟨?_, ?_, ?_⟩ <;> omega)
theorem readE_head {b : List UInt8} (h : headE b ≠ 0) : readE b = headE b := if_pos h
theorem readE_short {b : List UInt8} (h : headE b = 0) (h3 : ¬ 3 ≤ b.length) : readE b = 5 := by unfold readE; rw [if_neg (by omega), if_pos (by omega)]
theorem readE_words {b : List UInt8} (h : headE b = 0) (h3 : 3 ≤ b.length) : readE b = wordsE b (hd b 2) (hd b 2) := by unfold readE; rw [if_neg (by omega), if_neg (by omega)]
end Go.Proofs.Ytfhmaincnlaapaa
namespace Go.Proofs.Ytfhmaincnlaapaa
open Go.ChangeShapes Go.WideShapes Go.ChangeAt Go.RowKit
set_option linter.unusedVariables false

end Go.Proofs.Ytfhmaincnlaapaa
namespace Go.Proofs.Ytfhmaincnlaapaa
open Go.ChangeShapes Go.WideShapes Go.ChangeAt Go.RowKit
set_option linter.unusedVariables false

def lightF (F : FactS) : Bool := decide (F.codes.length ≤ 20) && decide (F.ints.length ≤ 20) && decide (F.nums.length ≤ 20)
def lightFs (l : List FactS) : Bool := l.all lightF
theorem lightFs_no {l : List FactS} (k : Nat) (hk : k < l.length) (h : lightF l[k] = false) : lightFs l = false := by
  unfold lightFs; rw [List.all_eq_false]; exact ⟨_, List.getElem_mem hk, by rw [h]; decide⟩
def lightTo (l : List FactS) (k : Nat) : Prop := ∀ j (hj : j < l.length), j < k → lightF l[j] = true
theorem lightTo.snoc {l : List FactS} {k : Nat} (h : lightTo l k) (hk : k < l.length) (hx : lightF l[k] = true) : lightTo l (k + 1) := fun j hj hjk => by
  by_cases e : j = k
  · subst e; exact hx
  · exact h j hj (by omega)
theorem lightTo.all {l : List FactS} (h : lightTo l l.length) : lightFs l = true := by
  unfold lightFs; rw [List.all_eq_true]
  intro x hx
  obtain ⟨j, hj, rfl⟩ := List.getElem_of_mem hx
  exact h j hj hj
set_option maxRecDepth 20000 in
set_option maxHeartbeats 1000000 in
theorem lightFs_any (w : World) (B : Nat) (A : Option Addr) (c : Nat) (l : List FactS) (g : SlR factR w B l A c) :
    Calls Try.prog 24 #[.slice A l.length c] w fun y w' => y = .returned (.bool (lightFs l)) ∧ w = w' := by
  have hml : l.length ≤ 9223372036854775807 := by have h1 := g.1; have h2 := g.2.1; unfold maxLen at h2; omega
  have G := Lib.hid g
  clear g
  go_enter Try.func24, Try.ntmps24
  go_wp2
  go_loop [3] (fun i => ∃ k : Nat, k ≤ l.length ∧ i = .int .i64 (k : Int) ∧ Hid (lightTo l k)) (fun i => l.length - (intOf i).toNat)
  case atStart => exact ⟨0, by omega, rfl, fun j _ hj => by omega⟩
  case round =>
    obtain ⟨k, hk, rfl, HA⟩ := hrel
    by_cases hlt : k < l.length
    · obtain ⟨a, D0, d0, D1, d1, D2, d2, rfl, hab, x0, x1, x2, _, _⟩ := G.out.fact3 hlt
      have q1 : (0 : Int) ≤ (k : Int) := by omega
      have q2 : (k : Int) < (l.length : Int) := by omega
      have hst := fun h => HA.out.snoc hlt h
      have hno := fun h => lightFs_no k hlt h
      generalize l[k] = F at *
      have HST := Lib.hid hst; have HNO := Lib.hid hno; clear hst hno
      by_cases h0 : F.codes.length ≤ 20
      case neg =>
        have HN := Lib.hid (HNO.out (by unfold lightF; rw [decide_eq_false h0]; rfl))
        go_wp2
        go_ret
        exact ⟨by rw [HN.out]; rfl, rfl⟩
      by_cases h1 : F.ints.length ≤ 20
      case neg =>
        have HN := Lib.hid (HNO.out (by unfold lightF; rw [decide_eq_false h1, Bool.and_false]; rfl))
        go_wp2
        go_ret
        exact ⟨by rw [HN.out]; rfl, rfl⟩
      by_cases h2 : F.nums.length ≤ 20
      case neg =>
        have HN := Lib.hid (HNO.out (by unfold lightF; rw [decide_eq_false h2, Bool.and_false]))
        go_wp2
        go_ret
        exact ⟨by rw [HN.out]; rfl, rfl⟩
      have HY := Lib.hid (HST.out (by unfold lightF; rw [decide_eq_true h0, decide_eq_true h1, decide_eq_true h2]; rfl))
      go_wp2
      go_round
      case rel => exact ⟨k + 1, by omega, by go_num, HY⟩
      case measure => simp [intOf]; omega
    · obtain rfl : k = l.length := by omega
      have HY := Lib.hid (HA.out.all)
      go_wp2
      go_ret
      exact ⟨by rw [HY.out]; rfl, rfl⟩
end Go.Proofs.Ytfhmaincnlaapaa
namespace Go.Proofs.Ytfhmaincnlaapaa
open Go.ChangeShapes Go.WideShapes Go.ChangeAt Go.RowKit
set_option linter.unusedVariables false

theorem getD_mem {α : Type} {z : α} {l : List α} {k : Nat} (h : k < l.length) : l.getD k z ∈ l := by simp [List.getD, h]
end Go.Proofs.Ytfhmaincnlaapaa
namespace Go.Proofs.Ytfhmaincnlaapaa
open Go.ChangeShapes Go.WideShapes Go.ChangeAt Go.RowKit
set_option linter.unusedVariables false

/-- a fact that is being read -/
structure OneRel (w wr : World) (g : Nat) (t : List UInt8) (SV : Array Value) (v0 v1 v2 : Value) (a b : List Int) (c : List Nat) (p e : Nat) : Prop where
  s : Blk wr w.heap.size 26 SV
  r : Blk wr (w.heap.size + 1) 79 #[.slice none 0 0, .slice none 0 0, .slice none 0 0]
  f : Blk wr (w.heap.size + 1 + 1) 79 #[v0, v1, v2]
  o0 : wr.ownsRow (w.heap.size + 1 + 1 + 1) 3 1 v0 a.length (i64s a)
  o1 : wr.ownsRow (w.heap.size + 1 + 1 + 1) 2 1 v1 b.length (i64s b)
  o2 : wr.ownsRow (w.heap.size + 1 + 1 + 1) 115 1 v2 c.length (f64s c)
  i : InS wr g t p e
  n : Only g w wr
section
variable {w wr w2 w3 : World} {g : Nat} {t : List UInt8} {SV : Array Value} {v0 v1 v2 v' : Value} {a b : List Int} {c : List Nat} {p e p' e' : Nat}
theorem OneRel.lt (h : OneRel w wr g t SV v0 v1 v2 a b c p e) : w.heap.size + 1 + 1 + 1 ≤ wr.heap.size := h.f.lt
theorem OneRel.drew (h : OneRel w wr g t SV v0 v1 v2 a b c p e) : OneRel w wr.drew g t SV v0 v1 v2 a b c p e :=
  ⟨h.s, h.r, h.f, own_drewN h.o0 1, own_drewN h.o1 1, own_drewN h.o2 1, h.i, h.n.drew⟩
theorem OneRel.alloc (h : OneRel w wr g t SV v0 v1 v2 a b c p e) (o : Obj) : OneRel w (wr.alloc o) g t SV v0 v1 v2 a b c p e :=
  ⟨h.s.alloc o, h.r.alloc o, h.f.alloc o, h.o0.alloc o, h.o1.alloc o, h.o2.alloc o, h.i.below (belA (belR wr) o) h.i.lt, h.n.alloc o⟩
theorem own_far {w : World} {base n g : Nat} {e : TypeId} {size : Nat} {v : Value} {xs : List Value} (h : w.ownsRow base e size v n xs) (hg : g < base) : v.ownBlock ≠ some g := fun he => by have := (h.lt g he).1; omega
theorem OneRel.only (h : OneRel w wr g t SV v0 v1 v2 a b c p e) (hg : g < w.heap.size) (k : Only g wr w2) (hi : InS w2 g t p' e') : OneRel w w2 g t SV v0 v1 v2 a b c p' e' :=
  ⟨k.blk h.s (by omega), k.blk h.r (by omega), k.blk h.f (by omega), k.own h.o0 (own_far h.o0 (by omega)), k.own h.o1 (own_far h.o1 (by omega)), k.own h.o2 (own_far h.o2 (by omega)), hi, h.n.trans k⟩
theorem OneRel.fin (h : OneRel w wr g t SV v0 v1 v2 a b c p e) (hg : g < w.heap.size) :
    (((wr.setCell ⟨w.heap.size + 1, 0, none⟩ v0).setCell ⟨w.heap.size + 1, 1, none⟩ v1).setCell ⟨w.heap.size + 1, 2, none⟩ v2).ownsRow w.heap.size 3 1 v0 a.length (i64s a) ∧
    (((wr.setCell ⟨w.heap.size + 1, 0, none⟩ v0).setCell ⟨w.heap.size + 1, 1, none⟩ v1).setCell ⟨w.heap.size + 1, 2, none⟩ v2).ownsRow w.heap.size 2 1 v1 b.length (i64s b) ∧
    (((wr.setCell ⟨w.heap.size + 1, 0, none⟩ v0).setCell ⟨w.heap.size + 1, 1, none⟩ v1).setCell ⟨w.heap.size + 1, 2, none⟩ v2).ownsRow w.heap.size 115 1 v2 c.length (f64s c) ∧
    InS (((wr.setCell ⟨w.heap.size + 1, 0, none⟩ v0).setCell ⟨w.heap.size + 1, 1, none⟩ v1).setCell ⟨w.heap.size + 1, 2, none⟩ v2) g t p e ∧
    Only g w (((wr.setCell ⟨w.heap.size + 1, 0, none⟩ v0).setCell ⟨w.heap.size + 1, 1, none⟩ v1).setCell ⟨w.heap.size + 1, 2, none⟩ v2) := by
  have hset := ((Only.set1 wr (w.heap.size + 1) 0 v0).trans (Only.set1 (wr.setCell ⟨w.heap.size + 1, 0, none⟩ v0) (w.heap.size + 1) 1 v1)).trans (Only.set1 ((wr.setCell ⟨w.heap.size + 1, 0, none⟩ v0).setCell ⟨w.heap.size + 1, 1, none⟩ v1) (w.heap.size + 1) 2 v2)
  have hz := h.lt
  exact ⟨own_mono (hset.own h.o0 (own_far h.o0 (by omega))) (by omega), own_mono (hset.own h.o1 (own_far h.o1 (by omega))) (by omega), own_mono (hset.own h.o2 (own_far h.o2 (by omega))) (by omega),
    h.i.below (hset.below (B := w.heap.size + 1) (Nat.le_refl _) (by omega)) (by omega), ((h.n.set_ (.inr (by simp only; omega)) _).set_ (.inr (by simp only; omega)) _).set_ (.inr (by simp only; omega)) _⟩
end
end Go.Proofs.Ytfhmaincnlaapaa
namespace Go.Proofs.Ytfhmaincnlaapaa
open Go.ChangeShapes Go.WideShapes Go.ChangeAt Go.RowKit
set_option linter.unusedVariables false

def zeroC : CellS := ⟨0, 0, [], []⟩
/-- two cells alike -/
def sameW (x y : WholeS) : Bool := decide (x.sum = y.sum) && decide (x.abs = y.abs) && decide (x.mn = y.mn) && decide (x.mx = y.mx) && decide (x.sq = y.sq)
def sameR (x y : RealS) : Bool := decide (x.sum = y.sum) && decide (keyB x.mn = keyB y.mn) && decide (keyB x.mx = keyB y.mx)
def sameWs : List WholeS → List WholeS → Bool
  | [], [] => true
  | x :: l, y :: m => sameW x y && sameWs l m
  | _, _ => false
def sameRs : List RealS → List RealS → Bool
  | [], [] => true
  | x :: l, y :: m => sameR x y && sameRs l m
  | _, _ => false
def sameC (C D : CellS) : Bool := decide (C.key = D.key) && decide (C.count = D.count) && sameWs C.ints D.ints && sameRs C.nums D.nums
theorem sameW_eq {x y : WholeS} (h : sameW x y = true) : x = y := by
  unfold sameW at h
  simp only [Bool.and_eq_true, decide_eq_true_iff] at h
  obtain ⟨⟨⟨⟨h1, h2⟩, h3⟩, h4⟩, h5⟩ := h
  cases x; cases y; simp only at h1 h2 h3 h4 h5; subst h1 h2 h3 h4 h5; rfl
theorem sameW_self (x : WholeS) : sameW x x = true := by unfold sameW; simp
theorem sameR_self (x : RealS) : sameR x x = true := by unfold sameR; simp
theorem sameWs_eq {l m : List WholeS} (h : sameWs l m = true) : l = m := by
  induction l generalizing m with
  | nil => cases m with
    | nil => rfl
    | cons y m => cases h
  | cons x l ih => cases m with
    | nil => cases h
    | cons y m =>
      unfold sameWs at h
      rw [Bool.and_eq_true] at h
      rw [sameW_eq h.1, ih h.2]
theorem sameWs_self : ∀ l : List WholeS, sameWs l l = true
  | [] => rfl
  | x :: l => by unfold sameWs; rw [sameW_self, sameWs_self l]; rfl
theorem sameRs_self : ∀ l : List RealS, sameRs l l = true
  | [] => rfl
  | x :: l => by unfold sameRs; rw [sameR_self, sameRs_self l]; rfl
theorem sameC_self (C : CellS) : sameC C C = true := by unfold sameC; rw [sameWs_self, sameRs_self]; simp
theorem sameRs_len {l m : List RealS} (h : sameRs l m = true) : l.length = m.length := by
  induction l generalizing m with
  | nil => cases m with
    | nil => rfl
    | cons y m => cases h
  | cons x l ih => cases m with
    | nil => cases h
    | cons y m =>
      unfold sameRs at h
      rw [Bool.and_eq_true] at h
      rw [List.length_cons, List.length_cons, ih h.2]
theorem sameRs_snoc {l m : List RealS} {x y : RealS} (h : sameRs l m = true) (k : sameR x y = true) : sameRs (l ++ [x]) (m ++ [y]) = true := by
  induction l generalizing m with
  | nil => cases m with
    | nil => show (sameR x y && sameRs [] []) = true; rw [k]; rfl
    | cons y m => cases h
  | cons x l ih => cases m with
    | nil => cases h
    | cons y m =>
      unfold sameRs at h
      rw [Bool.and_eq_true] at h
      rw [List.cons_append, List.cons_append]
      unfold sameRs
      rw [h.1, ih h.2]; rfl
/-! ### what is put is got -/
end Go.Proofs.Ytfhmaincnlaapaa
namespace Go.Proofs.Ytfhmaincnlaapaa
open Go.ChangeShapes Go.WideShapes Go.ChangeAt Go.RowKit
set_option linter.unusedVariables false

theorem run_store_fS {P : Program} {w : World} {a : Addr} {m : Mode} (k : FloatKind) (b : Nat) : (store a (.float k b) m).run P w = stored P w a (.float k b) m := run_store P w a _ m rfl
attribute [local go_sem] run_store_fS
theorem take_same {l m : List Nat} {k : Nat} (h : l.take k = m.take k) (h1 : k < l.length) (h2 : k < m.length) (e : l[k] = m[k]) : l.take (k + 1) = m.take (k + 1) := by
  rw [List.take_succ_eq_append_getElem h1, List.take_succ_eq_append_getElem h2, h, e]
theorem eq_of_take {l m : List Nat} (hl : l.length = m.length) (h : l.take l.length = m.take l.length) : l = m := by
  rw [List.take_length] at h
  rw [h, hl, List.take_length]
theorem u32n_get (l : List Nat) (j : Nat) (h : j < l.length) : (u32n l)[j]? = some (.int .u32 ((l[j] : Nat) : Int)) := by simp [u32n, h]
theorem rd_word {w : World} {B n : Nat} {A : Option Addr} {l : List Nat} {k : Nat} (h : Rd w B 1 A n (u32n l)) (hk : k < l.length) : ∃ a, A = some a ∧ a.block < B ∧ w.cell? (a.add k) = some (.int .u32 ((l[k] : Nat) : Int)) := by
  obtain ⟨a, u, e, hb, hx, hc⟩ := h.at1 (k := k) (by have := h.1; simp at this; omega)
  rw [u32n_get l k hk] at hx
  injection hx with hx
  exact ⟨a, e, hb, by rw [hc, hx]⟩
set_option maxRecDepth 20000 in
theorem same02_any (w : World) (B : Nat) (A A' : Option Addr) (c c' : Nat) (l m : List Nat) (h : Rd w B 1 A l.length (u32n l)) (h' : Rd w B 1 A' m.length (u32n m)) (hn : l.length ≤ 9223372036854775807) (hm : m.length ≤ 9223372036854775807) :
    Calls Try.prog 65 #[.slice A l.length c, .slice A' m.length c'] w fun y w' => y = .returned (.bool (decide (l = m))) ∧ Drw w w' := by
  have H := Lib.hid h; have H' := Lib.hid h'; clear h h'
  by_cases hl : l.length = m.length
  · have t1 : ((l.length : Int) != (m.length : Int)) = false := by rw [hl]; simp
    have HL := Lib.hid hl; clear hl
    go_enter Try.func65, Try.ntmps65
    go_wp2
    go_loopw [5] (fun i wr => ∃ k : Nat, k ≤ l.length ∧ i = .int .i64 (k : Int) ∧ Hid (l.take k = m.take k) ∧ Hid (Drw w wr)) (fun i _ => l.length - (intOf i).toNat)
    case atStart => exact ⟨0, by omega, rfl, rfl, Drw.refl _⟩
    case round =>
      obtain ⟨k, hk, rfl, HT, HD⟩ := hrel
      by_cases hlt : k < l.length
      · have hltm : k < m.length := by rw [← HL.out]; exact hlt
        obtain ⟨a, rfl, hab, x0⟩ := rd_word (rd_drw H.out HD.out) hlt
        obtain ⟨a', rfl, hab', y0⟩ := rd_word (rd_drw H'.out HD.out) hltm
        have q1 : (0 : Int) ≤ (k : Int) := by omega
        have q2 : (k : Int) < (l.length : Int) := by omega
        have q3 : (k : Int) < (m.length : Int) := by omega
        have hnx := take_same HT.out hlt hltm
        have hne : l[k] ≠ m[k] → decide (l = m) = false := fun hh => decide_eq_false fun e => hh (by subst e; rfl)
        generalize l[k] = x at *
        generalize m[k] = y at *
        by_cases g : x = y
        · subst g
          have t2 : ((x : Int) != (x : Int)) = false := by simp
          have HNX := Lib.hid (hnx rfl)
          clear hnx hne
          go_wp2
          go_quiet (fail)
          go_wp2
          go_roundw
          case rel => exact ⟨k + 1, by omega, by go_num, HNX.out, HD.out.drewN _⟩
          case measure => simp [intOf]; omega
        · have t2 : ((x : Int) != (y : Int)) = true := by rw [bne_iff_ne]; omega
          have HF := Lib.hid (hne g)
          clear hnx hne g
          go_wp2
          go_quiet (fail)
          go_wp2
          go_ret
          exact ⟨by rw [HF.out]; rfl, HD.out.drewN _⟩
      · obtain rfl : k = l.length := by omega
        have HF := Lib.hid (decide_eq_true (eq_of_take HL.out HT.out))
        have q2 : ¬ (l.length : Int) < (l.length : Int) := by omega
        go_wp2
        go_ret
        exact ⟨by rw [HF.out]; rfl, HD.out⟩
  · have t1 : ((l.length : Int) != (m.length : Int)) = true := by rw [bne_iff_ne]; omega
    have HF := Lib.hid (decide_eq_false (p := l = m) fun e => hl (by rw [e]))
    clear hl
    go_enter Try.func65, Try.ntmps65
    go_wp2
    go_ret
    exact ⟨by rw [HF.out]; rfl, Drw.refl _⟩
/-! ### cells -/
theorem sameRs_at {l m : List RealS} (h : sameRs l m = true) (k : Nat) (hk : k < l.length) (hm : k < m.length) : sameR l[k] m[k] = true := by
  induction l generalizing m k with
  | nil => simp at hk
  | cons x l ih => cases m with
    | nil => simp at hm
    | cons y m =>
      unfold sameRs at h
      rw [Bool.and_eq_true] at h
      cases k with
      | zero => exact h.1
      | succ k => exact ih h.2 k (by simpa using hk) (by simpa using hm)
theorem sameC_parts {C D : CellS} (h : sameC C D = true) : C.key = D.key ∧ C.count = D.count ∧ C.ints = D.ints ∧ sameRs C.nums D.nums = true := by
  unfold sameC at h
  simp only [Bool.and_eq_true, decide_eq_true_iff] at h
  exact ⟨h.1.1.1, h.1.1.2, sameWs_eq h.1.2, h.2⟩
theorem sameC_no {C D : CellS} (h : ¬ (C.key = D.key ∧ C.count = D.count ∧ C.ints = D.ints ∧ sameRs C.nums D.nums = true)) : sameC C D = false := by
  rw [← Bool.not_eq_true]; exact fun hh => h (sameC_parts hh)
theorem sameC_yes {C D : CellS} (h1 : C.key = D.key) (h2 : C.count = D.count) (h3 : C.ints = D.ints) (h4 : sameRs C.nums D.nums = true) : sameC C D = true := by
  unfold sameC; rw [h3, sameWs_self, h4]; simp [h1, h2]
theorem takeW_same {l m : List WholeS} {k : Nat} (h : l.take k = m.take k) (h1 : k < l.length) (h2 : k < m.length) (e : l[k] = m[k]) : l.take (k + 1) = m.take (k + 1) := by
  rw [List.take_succ_eq_append_getElem h1, List.take_succ_eq_append_getElem h2, h, e]
theorem eqW_of_take {l m : List WholeS} (hl : l.length = m.length) (h : l.take l.length = m.take l.length) : l = m := by
  rw [List.take_length] at h
  rw [h, hl, List.take_length]
theorem takeR_same {l m : List RealS} {k : Nat} (h : sameRs (l.take k) (m.take k) = true) (h1 : k < l.length) (h2 : k < m.length) (e : sameR l[k] m[k] = true) : sameRs (l.take (k + 1)) (m.take (k + 1)) = true := by
  rw [List.take_succ_eq_append_getElem h1, List.take_succ_eq_append_getElem h2]; exact sameRs_snoc h e
theorem eqR_of_take {l m : List RealS} (hl : l.length = m.length) (h : sameRs (l.take l.length) (m.take l.length) = true) : sameRs l m = true := by
  rw [List.take_length, hl, List.take_length] at h; exact h
/-- two whole measures' cells in blocks of the call's own -/
structure TwoW (w wr : World) (g1 g2 : Nat) (C D : Array Value) : Prop where
  a : Blk wr g1 52 C
  b : Blk wr g2 52 D
  n : Below w.heap.size w wr
theorem TwoW.below {w wr w' : World} {g1 g2 : Nat} {C D : Array Value} (h : TwoW w wr g1 g2 C D) (hb : Below wr.heap.size wr w') : TwoW w w' g1 g2 C D :=
  ⟨h.a.below hb h.a.lt, h.b.below hb h.b.lt, belT h.n hb⟩
set_option maxRecDepth 20000 in
set_option maxHeartbeats 8000000 in
theorem same14_any (w : World) (B : Nat) (C : CellS) (A2 : Option Addr) (c2 : Nat) (A3 : Option Addr) (c3 : Nat) (D : CellS) (D2 : Option Addr) (d2 : Nat) (D3 : Option Addr) (d3 : Nat) (hv : CellV w B C A2 c2 A3 c3) (hu : CellV w B D D2 d2 D3 d3) (hB : B ≤ w.heap.size) :
    Calls Try.prog 36 #[.agg #[.int .u64 (C.key : Int), .int .i64 C.count, .slice A2 C.ints.length c2, .slice A3 C.nums.length c3], .agg #[.int .u64 (D.key : Int), .int .i64 D.count, .slice D2 D.ints.length d2, .slice D3 D.nums.length d3]] w
      fun y w' => y = .returned (.bool (sameC C D)) ∧ Below w.heap.size w w' := by
  have hml : C.ints.length ≤ 9223372036854775807 := by have h1 := hv.ints.1; have h2 := hv.ints.2.1; unfold maxLen at h2; omega
  have hmn : C.nums.length ≤ 9223372036854775807 := by have h1 := hv.nums.1; have h2 := hv.nums.2.1; unfold maxLen at h2; omega
  obtain ⟨W0, hW0⟩ : ∃ W0, W0 = (w.alloc (.cells #[.int .u64 (C.key : Int), .int .i64 C.count, .slice A2 C.ints.length c2, .slice A3 C.nums.length c3] 52)).alloc (.cells #[.int .u64 (D.key : Int), .int .i64 D.count, .slice D2 D.ints.length d2, .slice D3 D.nums.length d3] 52) := ⟨_, rfl⟩
  have ht0 : TwoW w W0 w.heap.size (w.heap.size + 1) #[.int .u64 (C.key : Int), .int .i64 C.count, .slice A2 C.ints.length c2, .slice A3 C.nums.length c3] #[.int .u64 (D.key : Int), .int .i64 D.count, .slice D2 D.ints.length d2, .slice D3 D.nums.length d3] := by
    rw [hW0]
    exact ⟨(Blk.new w _ _).alloc _, by have := Blk.new (w.alloc (.cells #[.int .u64 (C.key : Int), .int .i64 C.count, .slice A2 C.ints.length c2, .slice A3 C.nums.length c3] 52)) 52 #[.int .u64 (D.key : Int), .int .i64 D.count, .slice D2 D.ints.length d2, .slice D3 D.nums.length d3]; simpa using this, belA (belA (belR w) _) _⟩
  have HT0 := Lib.hid ht0; have HW0 := Lib.hid hW0; have HV := Lib.hid hv; have HU := Lib.hid hu
  clear ht0 hW0 hv hu
  have r0 := HT0.out.a.cell 0; have r1 := HT0.out.a.cell 1; have r2 := HT0.out.a.cell 2; have r3 := HT0.out.a.cell 3
  have s0 := HT0.out.b.cell 0; have s1 := HT0.out.b.cell 1; have s2 := HT0.out.b.cell 2; have s3 := HT0.out.b.cell 3
  simp at r0 r1 r2 r3 s0 s1 s2 s3
  rw [HW0.out] at r0 r1 r2 r3 s0 s1 s2 s3
  clear r0 r1 r2 r3 s0 s1 s2 s3
  by_cases g1 : C.key = D.key
  case neg =>
    have t1 : ((C.key : Int) != (D.key : Int)) = true := by rw [bne_iff_ne]; omega
    have HF := Lib.hid (sameC_no (C := C) (D := D) fun h => g1 h.1)
    clear g1
    go_enter Try.func36, Try.ntmps36
    go_wp2
    go_ret
    exact ⟨by rw [HF.out]; rfl, by have := HT0.out.n; rw [HW0.out] at this; exact this⟩
  by_cases g2 : C.count = D.count
  case neg =>
    have t1 : ((C.key : Int) != (D.key : Int)) = false := by rw [bne_eq_false_iff_eq]; omega
    have t2 : (C.count != D.count) = true := by rw [bne_iff_ne]; omega
    have HF := Lib.hid (sameC_no (C := C) (D := D) fun h => g2 h.2.1)
    clear g1 g2
    go_enter Try.func36, Try.ntmps36
    go_wp2
    go_ret
    exact ⟨by rw [HF.out]; rfl, by have := HT0.out.n; rw [HW0.out] at this; exact this⟩
  by_cases g3 : C.ints.length = D.ints.length
  case neg =>
    have t1 : ((C.key : Int) != (D.key : Int)) = false := by rw [bne_eq_false_iff_eq]; omega
    have t2 : (C.count != D.count) = false := by rw [bne_eq_false_iff_eq]; omega
    have t3 : ((C.ints.length : Int) != (D.ints.length : Int)) = true := by rw [bne_iff_ne]; omega
    have HF := Lib.hid (sameC_no (C := C) (D := D) fun h => g3 (by rw [h.2.2.1]))
    clear g1 g2 g3
    go_enter Try.func36, Try.ntmps36
    go_wp2
    go_ret
    exact ⟨by rw [HF.out]; rfl, by have := HT0.out.n; rw [HW0.out] at this; exact this⟩
  by_cases g4 : C.nums.length = D.nums.length
  case neg =>
    have t1 : ((C.key : Int) != (D.key : Int)) = false := by rw [bne_eq_false_iff_eq]; omega
    have t2 : (C.count != D.count) = false := by rw [bne_eq_false_iff_eq]; omega
    have t3 : ((C.ints.length : Int) != (D.ints.length : Int)) = false := by rw [bne_eq_false_iff_eq]; omega
    have t4 : ((C.nums.length : Int) != (D.nums.length : Int)) = true := by rw [bne_iff_ne]; omega
    have HF := Lib.hid (sameC_no (C := C) (D := D) fun h => g4 (sameRs_len h.2.2.2))
    clear g1 g2 g3 g4
    go_enter Try.func36, Try.ntmps36
    go_wp2
    go_ret
    exact ⟨by rw [HF.out]; rfl, by have := HT0.out.n; rw [HW0.out] at this; exact this⟩
  have t1 : ((C.key : Int) != (D.key : Int)) = false := by rw [bne_eq_false_iff_eq]; omega
  have t2 : (C.count != D.count) = false := by rw [bne_eq_false_iff_eq]; omega
  have t3 : ((C.ints.length : Int) != (D.ints.length : Int)) = false := by rw [bne_eq_false_iff_eq]; omega
  have t4 : ((C.nums.length : Int) != (D.nums.length : Int)) = false := by rw [bne_eq_false_iff_eq]; omega
  have HYES := Lib.hid (sameC_yes (C := C) (D := D) g1 g2)
  have G3 := Lib.hid g3; have G4 := Lib.hid g4
  clear g1 g2 g3 g4
  go_enter Try.func36, Try.ntmps36
  go_wp2
  clear t1 t2 t3 t4
  rw [← HW0.out]
  have hzw : w.heap.size + 1 < W0.heap.size := by rw [HW0.out]; simp
  go_loopw [5] (fun i wr => ∃ k : Nat, k ≤ C.ints.length ∧ i = .int .i64 (k : Int) ∧ Hid (C.ints.take k = D.ints.take k) ∧ Hid (TwoW w wr w.heap.size (w.heap.size + 1) #[.int .u64 (C.key : Int), .int .i64 C.count, .slice A2 C.ints.length c2, .slice A3 C.nums.length c3] #[.int .u64 (D.key : Int), .int .i64 D.count, .slice D2 D.ints.length d2, .slice D3 D.nums.length d3])) (fun i _ => C.ints.length - (intOf i).toNat)
  case atStart => exact ⟨0, by omega, rfl, rfl, HT0.out⟩
  case round =>
    obtain ⟨k, hk, rfl, HE, HT⟩ := hrel
    have r2 := HT.out.a.cell 2; have s2 := HT.out.b.cell 2
    simp at r2 s2
    by_cases hlt : k < C.ints.length
    · have hltm : k < D.ints.length := by rw [← G3.out]; exact hlt
      obtain ⟨a, Aq, cq, ea, hab, x0, x1, x2, x3, x4, hRq, hq1, hq2, hq3, hs, ha, hmi, hmx⟩ := (HV.out.ints.keep (HT.out.n.mono hB) (Nat.le_refl _)).wholeAt hlt
      obtain ⟨b, Bq, bq, eb, hbb, y0, y1, y2, y3, y4, hSq, hp1, hp2, hp3, ps, pa, pmi, pmx⟩ := (HU.out.ints.keep (HT.out.n.mono hB) (Nat.le_refl _)).wholeAt hltm
      have q1 : (0 : Int) ≤ (k : Int) := by omega
      have q2 : (k : Int) < (C.ints.length : Int) := by omega
      have q3 : (k : Int) < (D.ints.length : Int) := by omega
      have hnx := takeW_same HE.out hlt hltm
      have hne : C.ints[k] ≠ D.ints[k] → sameC C D = false := fun hh => sameC_no fun h => hh (by have := h.2.2.1; simp only [this])
      subst ea eb
      have hzr : w.heap.size + 1 < wr.heap.size := HT.out.b.lt
      have hza : (a.add (k * 5)).block < wr.heap.size := by rw [block_add]; omega
      have hzb : (b.add (k * 5)).block < wr.heap.size := by rw [block_add]; omega
      have hzr2 : w.heap.size < wr.heap.size := by omega
      have hza2 : (a.add (k * 5)).block < wr.heap.size + 1 := by omega
      have hzb2 : (b.add (k * 5)).block < wr.heap.size + 1 := by omega
      generalize C.ints[k] = X at *
      generalize D.ints[k] = Y at *
      have HNX := Lib.hid hnx; have HNE := Lib.hid hne
      have HRq := Lib.hid hRq; have HSq := Lib.hid hSq
      have hmq : X.sq.length ≤ 9223372036854775807 := by unfold maxLen at hq2; omega
      have hmp : Y.sq.length ≤ 9223372036854775807 := by unfold maxLen at hp2; omega
      have hA1 := ((Blk.new wr 114 #[.int .i64 X.sum, .int .i64 X.abs, .slice Aq X.sq.length cq, .int .i64 X.mn, .int .i64 X.mx]).alloc (.cells #[.int .i64 Y.sum, .int .i64 Y.abs, .slice Bq Y.sq.length bq, .int .i64 Y.mn, .int .i64 Y.mx] 114)).drew
      have hA2 := (Blk.new (wr.alloc (.cells #[.int .i64 X.sum, .int .i64 X.abs, .slice Aq X.sq.length cq, .int .i64 X.mn, .int .i64 X.mx] 114)) 114 #[.int .i64 Y.sum, .int .i64 Y.abs, .slice Bq Y.sq.length bq, .int .i64 Y.mn, .int .i64 Y.mx]).drew
      have hA3 := ((Blk.new wr 114 #[.int .i64 Y.sum, .int .i64 Y.abs, .slice Bq Y.sq.length bq, .int .i64 Y.mn, .int .i64 Y.mx]).alloc (.cells #[.int .i64 X.sum, .int .i64 X.abs, .slice Aq X.sq.length cq, .int .i64 X.mn, .int .i64 X.mx] 114)).drew
      have hA4 := (Blk.new (wr.alloc (.cells #[.int .i64 Y.sum, .int .i64 Y.abs, .slice Bq Y.sq.length bq, .int .i64 Y.mn, .int .i64 Y.mx] 114)) 114 #[.int .i64 X.sum, .int .i64 X.abs, .slice Aq X.sq.length cq, .int .i64 X.mn, .int .i64 X.mx]).drew
      have hz1 : (wr.alloc (.cells #[.int .i64 X.sum, .int .i64 X.abs, .slice Aq X.sq.length cq, .int .i64 X.mn, .int .i64 X.mx] 114)).heap.size = wr.heap.size + 1 := by simp
      have hz2 : (wr.alloc (.cells #[.int .i64 Y.sum, .int .i64 Y.abs, .slice Bq Y.sq.length bq, .int .i64 Y.mn, .int .i64 Y.mx] 114)).heap.size = wr.heap.size + 1 := by simp
      rw [hz1] at hA2; rw [hz2] at hA4
      have hA5 := (belA (belA (belR wr) (.cells #[.int .i64 X.sum, .int .i64 X.abs, .slice Aq X.sq.length cq, .int .i64 X.mn, .int .i64 X.mx] 114)) (.cells #[.int .i64 Y.sum, .int .i64 Y.abs, .slice Bq Y.sq.length bq, .int .i64 Y.mn, .int .i64 Y.mx] 114)).drew
      have hA6 := (belA (belA (belR wr) (.cells #[.int .i64 Y.sum, .int .i64 Y.abs, .slice Bq Y.sq.length bq, .int .i64 Y.mn, .int .i64 Y.mx] 114)) (.cells #[.int .i64 X.sum, .int .i64 X.abs, .slice Aq X.sq.length cq, .int .i64 X.mn, .int .i64 X.mx] 114)).drew
      have HA1 := Lib.hid hA1; have HA2 := Lib.hid hA2; have HA3 := Lib.hid hA3; have HA4 := Lib.hid hA4; have HA5 := Lib.hid hA5; have HA6 := Lib.hid hA6
      have hzB : B ≤ wr.heap.size := Nat.le_trans hB HT.out.n.size
      clear hnx hne hRq hSq hA1 hA2 hA3 hA4 hz1 hz2 hA5 hA6
      go_upto_region 6 with (fail)
      go_cut [6, 7] (fun v6 v7 wx => ∃ gx gy : Nat, v6 = .pointer (some ⟨gx, 0, none⟩) ∧ v7 = .pointer (some ⟨gy, 0, none⟩) ∧ Hid (Blk wx gx 114 #[.int .i64 X.sum, .int .i64 X.abs, .slice Aq X.sq.length cq, .int .i64 X.mn, .int .i64 X.mx]) ∧ Hid (Blk wx gy 114 #[.int .i64 Y.sum, .int .i64 Y.abs, .slice Bq Y.sq.length bq, .int .i64 Y.mn, .int .i64 Y.mx]) ∧ Hid (Below wr.heap.size wr wx))
      case first =>
        go_region
        all_goals
          go_wp2
          go_meet
          case rel => first | exact ⟨_, _, rfl, rfl, HA1.out, HA2.out, HA5.out⟩ | exact ⟨_, _, rfl, rfl, HA4.out, HA3.out, HA6.out⟩
      case rest =>
        obtain ⟨gx, gy, rfl, rfl, HX, HY, HBx⟩ := hcut
        clear x0 x1 x2 x3 x4 y0 y1 y2 y3 y4 HA1 HA2 HA3 HA4 HA5 HA6
        have x0 := HX.out.cell 0; have x1 := HX.out.cell 1; have x2 := HX.out.cell 2; have x3 := HX.out.cell 3; have x4 := HX.out.cell 4
        have y0 := HY.out.cell 0; have y1 := HY.out.cell 1; have y2 := HY.out.cell 2; have y3 := HY.out.cell 3; have y4 := HY.out.cell 4
        simp at x0 x1 x2 x3 x4 y0 y1 y2 y3 y4
        have HTX := Lib.hid (HT.out.below HBx.out)
        have HSM := Lib.hid (same02_any _ B Aq Bq cq bq X.sq Y.sq (HRq.out.below (HBx.out.mono hzB)) (HSq.out.below (HBx.out.mono hzB)) hmq hmp)
        by_cases e1 : X.sum = Y.sum
        case neg =>
          have t1 : (X.sum != Y.sum) = true := by rw [bne_iff_ne]; exact e1
          have HF := Lib.hid (HNE.out fun hh => e1 (by rw [hh]))
          clear e1
          go_wp2
          go_ret
          exact ⟨by rw [HF.out]; rfl, HTX.out.n⟩
        have t1 : (X.sum != Y.sum) = false := by rw [bne_eq_false_iff_eq]; exact e1
        by_cases e2 : X.abs = Y.abs
        case neg =>
          have t2 : (X.abs != Y.abs) = true := by rw [bne_iff_ne]; exact e2
          have HF := Lib.hid (HNE.out fun hh => e2 (by rw [hh]))
          clear e1 e2
          go_wp2
          go_ret
          exact ⟨by rw [HF.out]; rfl, HTX.out.n⟩
        have t2 : (X.abs != Y.abs) = false := by rw [bne_eq_false_iff_eq]; exact e2
        by_cases e3 : X.mn = Y.mn
        case neg =>
          have t3 : (X.mn != Y.mn) = true := by rw [bne_iff_ne]; exact e3
          have HF := Lib.hid (HNE.out fun hh => e3 (by rw [hh]))
          clear e1 e2 e3
          go_wp2
          go_ret
          exact ⟨by rw [HF.out]; rfl, HTX.out.n⟩
        have t3 : (X.mn != Y.mn) = false := by rw [bne_eq_false_iff_eq]; exact e3
        by_cases e4 : X.mx = Y.mx
        case neg =>
          have t4 : (X.mx != Y.mx) = true := by rw [bne_iff_ne]; exact e4
          have HF := Lib.hid (HNE.out fun hh => e4 (by rw [hh]))
          clear e1 e2 e3 e4
          go_wp2
          go_ret
          exact ⟨by rw [HF.out]; rfl, HTX.out.n⟩
        have t4 : (X.mx != Y.mx) = false := by rw [bne_eq_false_iff_eq]; exact e4
        by_cases e5 : X.sq = Y.sq
        case neg =>
          have hsm := HSM.out
          rw [decide_eq_false e5] at hsm
          have HS2 := Lib.hid hsm
          have HF := Lib.hid (HNE.out fun hh => e5 (by rw [hh]))
          clear e1 e2 e3 e4 e5 hsm HSM
          go_wp2_with (go_at_call 65; (with_reducible refine HS2.out.mono ?_); rintro y w5 ⟨rfl, hd5⟩; have HB5 := Lib.hid (hd5.below HTX.out.n); clear hd5)
          go_ret
          exact ⟨by rw [HF.out]; rfl, HB5.out⟩
        have hsm := HSM.out
        rw [decide_eq_true e5] at hsm
        have HS2 := Lib.hid hsm
        have hxy : X = Y := by cases X; cases Y; simp only at e1 e2 e3 e4 e5; subst e1 e2 e3 e4 e5; rfl
        have HNX2 := Lib.hid (HNX.out hxy)
        clear e1 e2 e3 e4 e5 hsm HSM hxy
        go_wp2_with (go_at_call 65; (with_reducible refine HS2.out.mono ?_); rintro y w5 ⟨rfl, hd5⟩; have HT5 := Lib.hid (HTX.out.below (hd5.below (belR _))); clear hd5)
        go_roundw
        case rel => exact ⟨k + 1, by omega, by go_num, HNX2.out, HT5.out⟩
        case measure => simp [intOf]; omega
    · obtain rfl : k = C.ints.length := by omega
      have HE2 := Lib.hid (eqW_of_take G3.out HE.out)
      have q2 : ¬ (C.ints.length : Int) < (C.ints.length : Int) := by omega
      go_wp2
      clear r2 s2
      go_loopw [8] (fun i wr => ∃ k : Nat, k ≤ C.nums.length ∧ i = .int .i64 (k : Int) ∧ Hid (sameRs (C.nums.take k) (D.nums.take k) = true) ∧ Hid (TwoW w wr w.heap.size (w.heap.size + 1) #[.int .u64 (C.key : Int), .int .i64 C.count, .slice A2 C.ints.length c2, .slice A3 C.nums.length c3] #[.int .u64 (D.key : Int), .int .i64 D.count, .slice D2 D.ints.length d2, .slice D3 D.nums.length d3])) (fun i _ => C.nums.length - (intOf i).toNat)
      case atStart => exact ⟨0, by omega, rfl, rfl, HT.out⟩
      case round =>
        obtain ⟨k, hk, rfl, HE, HT⟩ := hrel
        have r3 := HT.out.a.cell 3; have s3 := HT.out.b.cell 3
        simp at r3 s3
        by_cases hlt : k < C.nums.length
        · have hltm : k < D.nums.length := by rw [← G4.out]; exact hlt
          obtain ⟨a, Aq, cq, ea, hab, x0, x1, x2, hRq, hq1, hq2, hs, ha⟩ := (HV.out.nums.keep (HT.out.n.mono hB) (Nat.le_refl _)).realAt hlt
          obtain ⟨b, Bq, bq, eb, hbb, y0, y1, y2, hSq, hp1, hp2, ps, pa⟩ := (HU.out.nums.keep (HT.out.n.mono hB) (Nat.le_refl _)).realAt hltm
          have q1 : (0 : Int) ≤ (k : Int) := by omega
          have q2 : (k : Int) < (C.nums.length : Int) := by omega
          have q3 : (k : Int) < (D.nums.length : Int) := by omega
          have hnx := takeR_same HE.out hlt hltm
          have hne : sameR C.nums[k] D.nums[k] = false → sameC C D = false := fun hh => sameC_no fun h => by have := sameRs_at h.2.2.2 k hlt hltm; rw [hh] at this; cases this
          subst ea eb
          have hzr : w.heap.size + 1 < wr.heap.size := HT.out.b.lt
          have hza : (a.add (k * 3)).block < wr.heap.size := by rw [block_add]; omega
          have hzb : (b.add (k * 3)).block < wr.heap.size := by rw [block_add]; omega
          have hzr2 : w.heap.size < wr.heap.size := by omega
          have hza2 : (a.add (k * 3)).block < wr.heap.size + 1 := by omega
          have hzb2 : (b.add (k * 3)).block < wr.heap.size + 1 := by omega
          generalize C.nums[k] = X at *
          generalize D.nums[k] = Y at *
          obtain ⟨s1, m1, M1⟩ := X
          obtain ⟨s2, m2, M2⟩ := Y
          simp only at x0 x1 x2 y0 y1 y2 hRq hSq hs ha ps pa hq1 hp1
          have HNX := Lib.hid hnx; have HNE := Lib.hid hne
          have HRq := Lib.hid hRq; have HSq := Lib.hid hSq
          have hA1 := ((Blk.new wr 117 #[.slice Aq s1.length cq, .float .f64 m1, .float .f64 M1]).alloc (.cells #[.slice Bq s2.length bq, .float .f64 m2, .float .f64 M2] 117)).drew
          have hA2 := (Blk.new (wr.alloc (.cells #[.slice Aq s1.length cq, .float .f64 m1, .float .f64 M1] 117)) 117 #[.slice Bq s2.length bq, .float .f64 m2, .float .f64 M2]).drew
          have hA3 := ((Blk.new wr 117 #[.slice Bq s2.length bq, .float .f64 m2, .float .f64 M2]).alloc (.cells #[.slice Aq s1.length cq, .float .f64 m1, .float .f64 M1] 117)).drew
          have hA4 := (Blk.new (wr.alloc (.cells #[.slice Bq s2.length bq, .float .f64 m2, .float .f64 M2] 117)) 117 #[.slice Aq s1.length cq, .float .f64 m1, .float .f64 M1]).drew
          have hz1 : (wr.alloc (.cells #[.slice Aq s1.length cq, .float .f64 m1, .float .f64 M1] 117)).heap.size = wr.heap.size + 1 := by simp
          have hz2 : (wr.alloc (.cells #[.slice Bq s2.length bq, .float .f64 m2, .float .f64 M2] 117)).heap.size = wr.heap.size + 1 := by simp
          rw [hz1] at hA2; rw [hz2] at hA4
          have hA5 := (belA (belA (belR wr) (.cells #[.slice Aq s1.length cq, .float .f64 m1, .float .f64 M1] 117)) (.cells #[.slice Bq s2.length bq, .float .f64 m2, .float .f64 M2] 117)).drew
          have hA6 := (belA (belA (belR wr) (.cells #[.slice Bq s2.length bq, .float .f64 m2, .float .f64 M2] 117)) (.cells #[.slice Aq s1.length cq, .float .f64 m1, .float .f64 M1] 117)).drew
          have HA1 := Lib.hid hA1; have HA2 := Lib.hid hA2; have HA3 := Lib.hid hA3; have HA4 := Lib.hid hA4; have HA5 := Lib.hid hA5; have HA6 := Lib.hid hA6
          have hzB : B ≤ wr.heap.size := Nat.le_trans hB HT.out.n.size
          clear hnx hne hRq hSq hA1 hA2 hA3 hA4 hz1 hz2 hA5 hA6
          go_upto_region 12 with (fail)
          go_cut [9, 10] (fun v6 v7 wx => ∃ gx gy : Nat, v6 = .pointer (some ⟨gx, 0, none⟩) ∧ v7 = .pointer (some ⟨gy, 0, none⟩) ∧ Hid (Blk wx gx 117 #[.slice Aq s1.length cq, .float .f64 m1, .float .f64 M1]) ∧ Hid (Blk wx gy 117 #[.slice Bq s2.length bq, .float .f64 m2, .float .f64 M2]) ∧ Hid (Below wr.heap.size wr wx))
          case first =>
            go_region
            all_goals
              go_wp2
              go_meet
              case rel => first | exact ⟨_, _, rfl, rfl, HA1.out, HA2.out, HA5.out⟩ | exact ⟨_, _, rfl, rfl, HA4.out, HA3.out, HA6.out⟩
          case rest =>
            obtain ⟨gx, gy, rfl, rfl, HX, HY, HBx⟩ := hcut
            clear x0 x1 x2 y0 y1 y2 HA1 HA2 HA3 HA4 HA5 HA6
            have x0 := HX.out.cell 0; have x1 := HX.out.cell 1; have x2 := HX.out.cell 2
            have y0 := HY.out.cell 0; have y1 := HY.out.cell 1; have y2 := HY.out.cell 2
            simp at x0 x1 x2 y0 y1 y2
            have HTX := Lib.hid (HT.out.below HBx.out)
            have hcv := run_str (P := Try.prog) (src := 53) (dst := 9) (c := cq) (HRq.out.below (HBx.out.mono hzB)) Try.underlying53 Try.underlying5 Try.underlying9
            have hcv' := run_str (P := Try.prog) (src := 53) (dst := 9) (c := bq) (HSq.out.below (HBx.out.mono hzB)) Try.underlying53 Try.underlying5 Try.underlying9
            have HS1 := Lib.hid (fun W => refFSame_any m1 m2 W hs ps)
            have HS2 := Lib.hid (fun W => refFSame_any M1 M2 W ha pa)
            by_cases e1 : s1 = s2
            case neg =>
              have HF := Lib.hid (HNE.out (by rw [← Bool.not_eq_true]; intro hh; unfold sameR at hh; simp only [Bool.and_eq_true, decide_eq_true_iff] at hh; exact e1 hh.1.1))
              go_wp2
              go_ret
              exact ⟨by rw [HF.out]; rfl, HTX.out.n⟩
            subst e1
            by_cases e2 : keyB m1 = keyB m2
            case neg =>
              have hsm := HS1.out
              rw [decide_eq_false e2] at hsm
              have HSM := Lib.hid hsm
              have HF := Lib.hid (HNE.out (by rw [← Bool.not_eq_true]; intro hh; unfold sameR at hh; simp only [Bool.and_eq_true, decide_eq_true_iff] at hh; exact e2 hh.1.2))
              clear e2 hsm HS1
              go_wp2_with (go_at_call 78; (with_reducible refine (HSM.out _).mono ?_); rintro y w5 ⟨rfl, hd5⟩; have HB5 := Lib.hid (Drw.below hd5 HTX.out.n); clear hd5)
              go_ret
              exact ⟨by rw [HF.out]; rfl, HB5.out⟩
            by_cases e3 : keyB M1 = keyB M2
            case neg =>
              have hsm := HS1.out
              rw [decide_eq_true e2] at hsm
              have hsn := HS2.out
              rw [decide_eq_false e3] at hsn
              have HSM := Lib.hid hsm; have HSN := Lib.hid hsn
              have HF := Lib.hid (HNE.out (by rw [← Bool.not_eq_true]; intro hh; unfold sameR at hh; simp only [Bool.and_eq_true, decide_eq_true_iff] at hh; exact e3 hh.2))
              clear e2 e3 hsm hsn HS1 HS2
              go_wp2_with (first
                | (go_at_call 78; (with_reducible refine (HSM.out _).mono ?_); rintro y w5 ⟨rfl, hd5⟩; have HB5 := Lib.hid (Drw.below hd5 HTX.out.n); have HX5 := HX.out.drw hd5; have HY5 := HY.out.drw hd5; have x25 := HX5.cell 2; have y25 := HY5.cell 2; simp at x25 y25; clear hd5 HX5 HY5 HSM)
                | (go_at_call 78; (with_reducible refine (HSN.out _).mono ?_); rintro y w6 ⟨rfl, hd6⟩; have HB6 := Lib.hid (Drw.below hd6 HB5.out); clear hd6))
              go_ret
              exact ⟨by rw [HF.out]; rfl, HB6.out⟩
            have hsm := HS1.out
            rw [decide_eq_true e2] at hsm
            have hsn := HS2.out
            rw [decide_eq_true e3] at hsn
            have HSM := Lib.hid hsm; have HSN := Lib.hid hsn
            have HNX2 := Lib.hid (HNX.out (by unfold sameR; simp [e2, e3]))
            clear e2 e3 hsm hsn HS1 HS2
            go_wp2_with (first
              | (go_at_call 78; (with_reducible refine (HSM.out _).mono ?_); rintro y w5 ⟨rfl, hd5⟩; have HT5 := Lib.hid (HTX.out.below (Drw.below hd5 (belR _))); have HX5 := HX.out.drw hd5; have HY5 := HY.out.drw hd5; have x25 := HX5.cell 2; have y25 := HY5.cell 2; simp at x25 y25; clear hd5 HX5 HY5 HSM)
              | (go_at_call 78; (with_reducible refine (HSN.out _).mono ?_); rintro y w6 ⟨rfl, hd6⟩; have HT6 := Lib.hid (HT5.out.below (Drw.below hd6 (belR _))); clear hd6))
            go_roundw
            case rel => exact ⟨k + 1, by omega, by go_num, HNX2.out, HT6.out⟩
            case measure => simp [intOf]; omega
        · obtain rfl : k = C.nums.length := by omega
          have HF := Lib.hid (HYES.out HE2.out (eqR_of_take G4.out HE.out))
          have q2 : ¬ (C.nums.length : Int) < (C.nums.length : Int) := by omega
          go_wp2
          go_ret
          exact ⟨by rw [HF.out]; rfl, HT.out.n⟩
end Go.Proofs.Ytfhmaincnlaapaa
namespace Go.Proofs.Ytfhmaincnlaapaa.Sy
open Go.ChangeShapes Go.WideShapes Go.ChangeAt Go.RowKit
set_option linter.unusedVariables false
def encStr (s : ByteArray) : List AV := [.v (.string s)]
def encI64 (z : Int) : List AV := [.v (.int .i64 z)]
def encU32 (z : Int) : List AV := [.v (.int .u32 z)]
def encDim (d : ByteArray × Int) : List AV := encStr d.1 ++ encI64 d.2
def encSch (S : Sch) : List AV := encL encDim S.dims ++ (encL encStr S.ints ++ (encL encStr S.nums ++ encL encU32 S.views))
def okStr (s : ByteArray) : Prop := s.size ≤ maxLen
def okI64 (z : Int) : Prop := (Lit.int .i64 z).wf = true
def okU32 (z : Int) : Prop := (Lit.int .u32 z).wf = true
def okSch (S : Sch) : Prop := (∀ d ∈ S.dims, okStr d.1 ∧ okI64 d.2) ∧ (∀ x ∈ S.ints, okStr x) ∧ (∀ x ∈ S.nums, okStr x) ∧ ∀ x ∈ S.views, okU32 x
theorem enc_str : Enc strR encStr okStr := Enc.val
theorem enc_i64 : Enc i64R encI64 okI64 := Enc.val
theorem enc_u32 : Enc u32R encU32 okU32 := Enc.val
theorem enc_sch : Enc schR encSch okSch := Enc.two (Enc.sl (Enc.two enc_str enc_i64)) (Enc.two (Enc.sl enc_str) (Enc.two (Enc.sl enc_str) (Enc.sl enc_u32)))
theorem okSch_of {S : Sch} (h : SchOk S) : okSch S := ⟨fun d hd => ⟨(h.dims d hd).1, WalkArith.wf_i64 (h.dims d hd).2⟩, h.ints, h.nums, fun x hx => WalkArith.wf_u32 (h.views x hx)⟩
def encU8 (b : UInt8) : List AV := [.v (.int .u8 (b.toNat : Int))]
def encU32n (n : Nat) : List AV := [.v (.int .u32 (n : Int))]
def encU64n (n : Nat) : List AV := [.v (.int .u64 (n : Int))]
def encF64 (b : Nat) : List AV := [.v (.float .f64 b)]
def encWh (X : WholeS) : List AV := encI64 X.sum ++ (encI64 X.abs ++ (encL encU32n X.sq ++ (encI64 X.mn ++ encI64 X.mx)))
def encRe (X : RealS) : List AV := encL encU8 X.sum ++ (encF64 X.mn ++ encF64 X.mx)
def encCl (C : CellS) : List AV := encU64n C.key ++ (encI64 C.count ++ (encL encWh C.ints ++ encL encRe C.nums))
def okWh (X : WholeS) : Prop := okI64 X.sum ∧ okI64 X.abs ∧ (∀ n ∈ X.sq, n < 4294967296) ∧ okI64 X.mn ∧ okI64 X.mx
def okRe (X : RealS) : Prop := (∀ b ∈ X.sum, True) ∧ X.mn < 18446744073709551616 ∧ X.mx < 18446744073709551616
def okCl (C : CellS) : Prop := C.key < 18446744073709551616 ∧ okI64 C.count ∧ (∀ X ∈ C.ints, okWh X) ∧ ∀ X ∈ C.nums, okRe X
theorem enc_wh : Enc wholeR encWh okWh := Enc.two enc_i64 (Enc.two enc_i64 (Enc.two (Enc.sl Enc.val) (Enc.two enc_i64 enc_i64)))
theorem enc_re : Enc realR encRe okRe := Enc.two (Enc.sl Enc.val) (Enc.two Enc.val Enc.val)
theorem enc_cl : Enc cellR encCl okCl := Enc.two Enc.val (Enc.two enc_i64 (Enc.two (Enc.sl enc_wh) (Enc.sl enc_re)))
theorem len2 {α : Type} : ∀ {l : List α}, l.length = 2 → ∃ a b, l = [a, b]
  | [a, b], _ => ⟨a, b, rfl⟩
theorem len3 {α : Type} : ∀ {l : List α}, l.length = 3 → ∃ a b c, l = [a, b, c]
  | [a, b, c], _ => ⟨a, b, c, rfl⟩
/-! ### opened -/
theorem sch_open {E : Env} {S : Sch} {u : Value} (hF : ∀ b, E.F b → b < E.w.heap.size) (ho : okSch S) (h : Sees1 E (.agg (encSch S)) u) : SchAt E.w E.w.heap.size u S := by
  obtain ⟨cs, rfl, hr⟩ := enc_sch.unsee hF rfl h ho
  exact (schR_at (cs := cs.toArray) (by simpa using hr)).1
theorem cell_open {E : Env} {C : CellS} {u : Value} (hF : ∀ b, E.F b → b < E.w.heap.size) (ho : okCl C) (h : Sees1 E (.agg (encCl C)) u) : ∃ A2 c2 A3 c3, u = .agg #[.int .u64 (C.key : Int), .int .i64 C.count, .slice A2 C.ints.length c2, .slice A3 C.nums.length c3] ∧ CellV E.w E.w.heap.size C A2 c2 A3 c3 := by
  obtain ⟨cs, rfl, hr⟩ := enc_cl.unsee hF rfl h ho
  obtain ⟨A2, c2, A3, c3, rfl, hv⟩ := cellR_at hr
  exact ⟨A2, c2, A3, c3, rfl, hv⟩
theorem dim_mk {w : World} {B : Nat} : ∀ {l : List (ByteArray × Int)}, (∀ x ∈ l, okStr x.1 ∧ okI64 x.2) → Chunk dimR w B l (dimC l)
  | [], _ => rfl
  | x :: l, h => ⟨[.string x.1, .int .i64 x.2], dimC l, rfl, ⟨[_], [_], rfl, ⟨rfl, (h x (by simp)).1⟩, rfl, (h x (by simp)).2⟩, dim_mk fun y hy => h y (by simp [hy])⟩
theorem sch_see {E : Env} {B : Nat} {S : Sch} {v : Value} (hF : ∀ b, b < B → E.F b) (h : SchAt E.w B v S) (ho : SchOk S) : Sees1 E (.agg (encSch S)) v := by
  obtain ⟨A0, c0, A1, c1, A2, c2, A3, c3, rfl, r0, r1, r2, r3, b0, b1, b2, b3⟩ := h
  have ok := okSch_of ho
  exact enc_sch.see (B := B) (x := S) (cs := [.slice A0 S.dims.length c0, .slice A1 S.ints.length c1, .slice A2 S.nums.length c2, .slice A3 S.views.length c3]) hF
    ⟨[_], [_, _, _], rfl, ⟨A0, c0, _, rfl, b0.1, b0.2, r0, dim_mk ok.1⟩, [_], [_, _], rfl, ⟨A1, c1, _, rfl, b1.1, b1.2, r1, chunk_val.2 ⟨rfl, ok.2.1⟩⟩, [_], [_], rfl, ⟨A2, c2, _, rfl, b2.1, b2.2, r2, chunk_val.2 ⟨rfl, ok.2.2.1⟩⟩, A3, c3, _, rfl, b3.1, b3.2, r3, chunk_val.2 ⟨rfl, ok.2.2.2⟩⟩
/-! ### what is known -/
theorem light_fn {S : Sch} (ho : okSch S) : FnOk Try.prog 9 ⟨[.agg (encSch S)], [], .v (.bool (lightB S)), []⟩ :=
  FnOk.of_calls rfl fun E vs hF hl hs => by
    obtain ⟨u, rfl⟩ : ∃ u, vs = [u] := List.length_eq_one_iff.1 hl
    exact light_any E.w E.w.heap.size u S (sch_open hF ho (hs 0 _ u rfl rfl)) (Nat.le_refl _)
theorem same_fn {C D : CellS} (hC : okCl C) (hD : okCl D) : FnOk Try.prog 36 ⟨[.agg (encCl C), .agg (encCl D)], [], .v (.bool (sameC C D)), []⟩ :=
  FnOk.of_calls rfl fun E vs hF hl hz => by
    obtain ⟨u, x, rfl⟩ : ∃ u x, vs = [u, x] := len2 hl
    obtain ⟨A2, c2, A3, c3, rfl, hv⟩ := cell_open hF hC (hz 0 _ u rfl rfl)
    obtain ⟨B2, d2, B3, d3, rfl, hu⟩ := cell_open hF hD (hz 1 _ x rfl rfl)
    exact same14_any E.w E.w.heap.size C A2 c2 A3 c3 D B2 d2 B3 d3 hv hu (Nat.le_refl _)
end Go.Proofs.Ytfhmaincnlaapaa.Sy
