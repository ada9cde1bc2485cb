/-
  CELLS, without the program: their bytes; whether one is right.
  LEAVES, without the program: what two lists share.
  fact.Same, bushelref12.Same.
  fact.Same, bushelref12.Same (slices.Equal, slices.EqualFunc with flo.Same).
  fact.Check, fact.Batch, bushelref12.Batch.
  fact.fits, bushelref12.Fits.
  schema.Check.
  names.Twice: a map from each text to where it stands.
  Layer 11: which schema is right (plain).
  bushelref11: Two, In, Sub.
  THE WRITER's lay, U, I, F, T, B once more: what blocks of other types they keep.
  THE WRITER's I, F, T, B.
  An argument of cells: what its cells read as.
  An argument of facts: what its cells read as.
  An argument of asks: a slice of structs of six fields.
  An argument that is a schema: what its cells read as.
  READING DATA WITH DEPTH: how a thing is read out of cells; slices and structs of such things; what a law's argument reads as.
-/
import Derived.Deep.Slices
import Derived.Deep.Fields
import Derived.ChangeArms
import Derived.IntWalk
import Derived.Deep.RegionHeldLaw
import Derived.Deep.LoopGhost
import Derived.Deep.DeepCutAuto
import Derived.Deep.RegionHeld3
import Derived.Maps.OwnSet
import Derived.Maps.OwnOps
import Derived.StringKeys
import Derived.StillTailTactics
import Derived.Test.YtfhmaincnlaapaaAjSy3
import Derived.Test.YtfhmaincnlaapaaAjNumMath
import Derived.Test.YtfhmaincnlaapaaAjBufInU
import Derived.Test.YtfhmaincnlaapaaAjBufSmall
namespace Go.Proofs.Ytfhmaincnlaapaa
open Go.ChangeShapes Go.WideShapes Go.ChangeAt Go.RowKit Go.Deep
set_option linter.unusedVariables false

/-- how a thing is read out of some cells; what it leads to lies below block B -/
structure Rp (α : Type) where
  size : Nat
  rep : World → Nat → α → List Value → Prop
  len : ∀ {w : World} {B : Nat} {x : α} {cs : List Value}, rep w B x cs → cs.length = size
  one : ∀ {w : World} {B : Nat} {x : α} {cs : List Value}, rep w B x cs → ∀ u ∈ cs, u.oneCell' = true
  keep : ∀ {w w' : World} {B B' : Nat} {x : α} {cs : List Value}, rep w B x cs → Below B w w' → B ≤ B' → rep w' B' x cs

def Rp.val {α : Type} (f : α → Value) (ok : α → Prop) (h1 : ∀ x, (f x).oneCell' = true) : Rp α where
  size := 1
  rep _ _ x cs := cs = [f x] ∧ ok x
  len h := by rw [h.1]; rfl
  one h := by rw [h.1]; intro u hu; rw [List.mem_singleton] at hu; rw [hu]; exact h1 _
  keep h _ _ := h
def Rp.two {α β γ : Type} (p : α → β) (q : α → γ) (R : Rp β) (S : Rp γ) : Rp α where
  size := R.size + S.size
  rep w B x cs := ∃ c d, cs = c ++ d ∧ R.rep w B (p x) c ∧ S.rep w B (q x) d
  len h := by obtain ⟨c, d, rfl, h1, h2⟩ := h; rw [List.length_append, R.len h1, S.len h2]
  one h := by
    obtain ⟨c, d, rfl, h1, h2⟩ := h
    intro u hu
    rcases List.mem_append.1 hu with hu | hu
    · exact R.one h1 u hu
    · exact S.one h2 u hu
  keep h hb hB := by obtain ⟨c, d, rfl, h1, h2⟩ := h; exact ⟨c, d, rfl, R.keep h1 hb hB, S.keep h2 hb hB⟩

/-- the cells of a list of things -/
def Chunk {α : Type} (R : Rp α) (w : World) (B : Nat) : List α → List Value → Prop
  | [], xs => xs = []
  | x :: l, xs => ∃ c rest, xs = c ++ rest ∧ R.rep w B x c ∧ Chunk R w B l rest
section
variable {α : Type} {R : Rp α} {w w' : World} {B B' : Nat} {l m : List α} {xs ys : List Value}
theorem Chunk.len (h : Chunk R w B l xs) : xs.length = l.length * R.size := by
  induction l generalizing xs with
  | nil => cases h; simp
  | cons x l ih => obtain ⟨c, rest, rfl, h1, h2⟩ := h; rw [List.length_append, R.len h1, ih h2, List.length_cons, Nat.succ_mul]; omega
theorem Chunk.one (h : Chunk R w B l xs) : ∀ u ∈ xs, u.oneCell' = true := by
  induction l generalizing xs with
  | nil => cases h; simp
  | cons x l ih =>
    obtain ⟨c, rest, rfl, h1, h2⟩ := h
    intro u hu
    rcases List.mem_append.1 hu with hu | hu
    · exact R.one h1 u hu
    · exact ih h2 u hu
theorem Chunk.keep (h : Chunk R w B l xs) (hb : Below B w w') (hB : B ≤ B') : Chunk R w' B' l xs := by
  induction l generalizing xs with
  | nil => exact h
  | cons x l ih => obtain ⟨c, rest, rfl, h1, h2⟩ := h; exact ⟨c, rest, rfl, R.keep h1 hb hB, ih h2⟩
theorem Chunk.nil : Chunk R w B [] [] := rfl
theorem Chunk.app (h : Chunk R w B l xs) (k : Chunk R w B m ys) : Chunk R w B (l ++ m) (xs ++ ys) := by
  induction l generalizing xs with
  | nil => cases h; exact k
  | cons x l ih => obtain ⟨c, rest, rfl, h1, h2⟩ := h; exact ⟨c, rest ++ ys, by rw [List.append_assoc], h1, ih h2⟩
theorem Chunk.snoc {x : α} {c : List Value} (h : Chunk R w B l xs) (k : R.rep w B x c) : Chunk R w B (l ++ [x]) (xs ++ c) := h.app ⟨c, [], by simp, k, rfl⟩
theorem Chunk.get (h : Chunk R w B l xs) (i : Nat) (hi : i < l.length) : ∃ c, R.rep w B l[i] c ∧ ∀ j, j < R.size → xs[i * R.size + j]? = c[j]? := by
  induction l generalizing xs i with
  | nil => simp at hi
  | cons x l ih =>
    obtain ⟨c, rest, rfl, h1, h2⟩ := h
    have hl := R.len h1
    cases i with
    | zero => exact ⟨c, h1, fun j hj => by rw [Nat.zero_mul, Nat.zero_add, List.getElem?_append_left (by omega)]⟩
    | succ i =>
      obtain ⟨c', k1, k2⟩ := ih h2 i (by simpa using hi)
      refine ⟨c', k1, fun j hj => ?_⟩
      rw [List.getElem?_append_right (by rw [hl, Nat.succ_mul]; omega), hl, show (i + 1) * R.size + j - R.size = i * R.size + j from by rw [Nat.succ_mul]; omega]
      exact k2 j hj
theorem chunk_val {β : Type} {f : β → Value} {ok : β → Prop} {h1 : ∀ x, (f x).oneCell' = true} {l : List β} : Chunk (Rp.val f ok h1) w B l xs ↔ xs = l.map f ∧ ∀ x ∈ l, ok x := by
  induction l generalizing xs with
  | nil => simp [Chunk]
  | cons x l ih =>
    constructor
    · rintro ⟨c, rest, rfl, ⟨rfl, h2⟩, h3⟩
      obtain ⟨rfl, h4⟩ := ih.1 h3
      exact ⟨rfl, fun y hy => by rcases List.mem_cons.1 hy with rfl | hy; exact h2; exact h4 y hy⟩
    · rintro ⟨rfl, h2⟩
      exact ⟨[f x], l.map f, rfl, ⟨rfl, h2 x (by simp)⟩, ih.2 ⟨rfl, fun y hy => h2 y (by simp [hy])⟩⟩
end

def Rp.sl {α : Type} (R : Rp α) : Rp (List α) where
  size := 1
  rep w B l cs := ∃ A c xs, cs = [.slice A l.length c] ∧ l.length ≤ c ∧ c ≤ maxLen ∧ Rd w B R.size A l.length xs ∧ Chunk R w B l xs
  len h := by obtain ⟨A, c, xs, rfl, _⟩ := h; rfl
  one h := by obtain ⟨A, c, xs, rfl, _⟩ := h; intro u hu; rw [List.mem_singleton] at hu; rw [hu]; rfl
  keep h hb hB := by obtain ⟨A, c, xs, rfl, h1, h2, h3, h4⟩ := h; exact ⟨A, c, xs, rfl, h1, h2, (h3.below hb).more hB, h4.keep hb hB⟩

/-- a slice value that reads as a list of things -/
def SlR {α : Type} (R : Rp α) (w : World) (B : Nat) (l : List α) (A : Option Addr) (c : Nat) : Prop := l.length ≤ c ∧ c ≤ maxLen ∧ ∃ xs, Rd w B R.size A l.length xs ∧ Chunk R w B l xs
section
variable {α : Type} {R : Rp α} {w w' : World} {B B' c : Nat} {A : Option Addr} {l : List α}
theorem SlR.keep (h : SlR R w B l A c) (hb : Below B w w') (hB : B ≤ B') : SlR R w' B' l A c := by
  obtain ⟨h1, h2, xs, h3, h4⟩ := h; exact ⟨h1, h2, xs, (h3.below hb).more hB, h4.keep hb hB⟩
theorem SlR.mono (h : SlR R w B l A c) (hB : B ≤ B') : SlR R w B' l A c := h.keep (Below.refl _ _) hB
theorem SlR.drewN (h : SlR R w B l A c) (k : Nat) : SlR R (w.drewN k) B l A c := h.keep (below_drewN (Below.refl _ _) k) (Nat.le_refl _)
theorem SlR.get (h : SlR R w B l A c) {i : Nat} (hi : i < l.length) : ∃ a cs, A = some a ∧ a.block < B ∧ R.rep w B l[i] cs ∧ ∀ j, j < R.size → w.cell? (a.add (i * R.size + j)) = cs[j]? := by
  obtain ⟨_, _, xs, h3, h4⟩ := h
  obtain ⟨a, rfl, hb, hc⟩ := h3.2 (by omega)
  obtain ⟨cs, h5, h6⟩ := h4.get i hi
  refine ⟨a, cs, rfl, hb, h5, fun j hj => ?_⟩
  have hl : j < cs.length := by rw [R.len h5]; exact hj
  have e := h6 j hj
  rw [List.getElem?_eq_getElem hl] at e
  rw [List.getElem?_eq_getElem hl]
  exact hc _ _ e
theorem SlR.nil : SlR R w B [] none 0 := ⟨Nat.le_refl _, by simp [maxLen], [], Rd.nil, rfl⟩
theorem SlR.own {base : Nat} {e : TypeId} {xs : List Value} (h : w.ownsRow base e R.size (.slice A l.length c) l.length xs) (hx : Chunk R w w.heap.size l xs) : SlR R w w.heap.size l A c := by
  have := Rd.own h
  obtain ⟨A', c', e', h1, h2, _⟩ : ∃ A' c', (Value.slice A l.length c) = .slice A' l.length c' ∧ l.length ≤ c' ∧ c' ≤ maxLen ∧ l.length ≤ maxLen := own_form h
  injection e' with _ _ e'
  exact ⟨by omega, by omega, xs, this, hx⟩
end

/-! ### what an argument reads as -/
def Opens {α : Type} (P : Program) (t : TypeId) (R : Rp α) : Prop :=
  ∀ (H : Type) (enc : TypeId × Value → H) (w : World) (base : Nat) (spare : Nat → Bool) (held : Bool) (fuel : Nat) (cs : List Value) (x : DataW H × List MemPlace), DataW.trod enc P w base spare held fuel t cs = some x → ∃ y, R.rep w w.heap.size y cs
section
variable {P : Program} {t : TypeId}
theorem opens_slice {α : Type} {R : Rp α} {e : TypeId} (ht : P.underlying t = some (.slice e)) (hC : P.cellsOf e = R.size) (hp : 0 < R.size) (he : Opens P e R) : Opens P t R.sl := by
  intro H enc w base spare held fuel cs x h
  rcases open_slice ht h with ⟨rfl, _⟩ | ⟨a, len, cap, m, n, D, Pl, rfl, hb, hl, hm, hmm, hx, hi⟩
  · exact ⟨[], none, 0, [], rfl, Nat.le_refl _, by simp [maxLen], Rd.nil, rfl⟩
  · have key : ∀ i, i < len → ∃ yc : α × List Value, R.rep w w.heap.size yc.1 yc.2 ∧ ∀ j, j < R.size → w.cell? (a.add (i * R.size + j)) = yc.2[j]? := by
      intro i hil
      obtain ⟨cs', hc, ht'⟩ := hi i (by split at hmm <;> omega)
      obtain ⟨_, hcl, hat⟩ := World.cells?_some hc
      obtain ⟨y, hy⟩ := he H enc w base spare held n cs' _ ht'
      refine ⟨(y, cs'), hy, fun j hj => ?_⟩
      have := hat j (by omega)
      rw [Go.Deep.add_add, hC] at this
      exact this
    have build : ∀ k, k ≤ len → ∃ (l : List α) (xs : List Value), l.length = k ∧ Chunk R w w.heap.size l xs ∧ ∀ i j, i < k → j < R.size → w.cell? (a.add (i * R.size + j)) = xs[i * R.size + j]? := by
      intro k
      induction k with
      | zero => intro _; exact ⟨[], [], rfl, rfl, fun i j hi => by omega⟩
      | succ k ih =>
        intro hk
        obtain ⟨l, xs, rfl, h1, h2⟩ := ih (by omega)
        obtain ⟨⟨y, c⟩, h3, h4⟩ := key l.length (by omega)
        refine ⟨l ++ [y], xs ++ c, by simp, h1.snoc h3, fun i j hi hj => ?_⟩
        have hxl := h1.len
        have hcl := R.len h3
        by_cases e : i = l.length
        · subst e
          rw [List.getElem?_append_right (by omega), hxl, Nat.add_sub_cancel_left]; exact h4 j hj
        · have : (i + 1) * R.size ≤ l.length * R.size := Nat.mul_le_mul_right _ (by omega)
          rw [Nat.succ_mul] at this
          rw [List.getElem?_append_left (by omega)]; exact h2 i j (by omega) hj
    obtain ⟨l, xs, rfl, h1, h2⟩ := build len (Nat.le_refl _)
    refine ⟨l, some a, cap, xs, rfl, hl, hm, ⟨h1.len, fun hn => ⟨a, rfl, ?_, fun j u hu => ?_⟩⟩, h1⟩
    · have := h2 0 0 hn hp
      rw [Nat.zero_mul, Nat.zero_add] at this
      have hx0 : 0 < xs.length := by rw [h1.len]; exact Nat.mul_pos hn hp
      rw [List.getElem?_eq_getElem hx0] at this
      have := World.block_lt_of_cell? w _ this
      rwa [block_add] at this
    · have hj : j < xs.length := (List.getElem?_eq_some_iff.1 hu).1
      rw [h1.len] at hj
      have hd : j / R.size < l.length := Nat.div_lt_of_lt_mul (by rw [Nat.mul_comm]; exact hj)
      have := h2 (j / R.size) (j % R.size) hd (Nat.mod_lt _ hp)
      rw [Nat.mul_comm, Nat.div_add_mod] at this
      rw [this]; exact hu
theorem opens_int {k : IntKind} (ht : P.underlying t = some (.int k)) (h1 : ∀ x : Int, (Value.int k x).oneCell' = true) : Opens P t (Rp.val (Value.int k) (fun z => (Lit.int k z).wf = true) h1) := by
  intro H enc w base spare held fuel cs x h
  obtain ⟨s, rfl, _, hs⟩ := DataW.trod_int ht h
  exact ⟨s, rfl, hs⟩
theorem opens_three {α β γ δ : Type} {R : Rp β} {S : Rp γ} {T : Rp δ} {p : α → β} {q : α → γ} {r : α → δ} {t : TypeId} {f0 f1 f2 : Field} (ht : P.underlying t = some (.struct #[f0, f1, f2])) (ho0 : f0.offset = 0) (ho1 : f1.offset = R.size) (ho2 : f2.offset = R.size + S.size) (hs0 : P.cellsOf f0.type = R.size) (hs1 : P.cellsOf f1.type = S.size) (hs2 : P.cellsOf f2.type = T.size) (hC : P.cellsOf t = R.size + S.size + T.size)
    (h0 : Opens P f0.type R) (h1 : Opens P f1.type S) (h2 : Opens P f2.type T) (mk : β → γ → δ → α) (hp : ∀ a b c, p (mk a b c) = a) (hq : ∀ a b c, q (mk a b c) = b) (hr : ∀ a b c, r (mk a b c) = c) : Opens P t (Rp.two p id R (Rp.two q r S T)) := by
  intro H enc w base spare held fuel cs x h
  obtain ⟨xs, n, _, hx, hlen, hxl, hg⟩ := DataW.trod_struct ht h
  rw [hC] at hlen
  match xs, hxl with
  | [a0, a1, a2], _ =>
    have g0 := hg 0 f0 rfl
    have g1 := hg 1 f1 rfl
    have g2 := hg 2 f2 rfl
    rw [ho0, hs0, List.drop_zero] at g0
    rw [ho1, hs1] at g1
    rw [ho2, hs2] at g2
    obtain ⟨b0, r0⟩ := h0 H enc w base spare held n _ _ g0
    obtain ⟨b1, r1⟩ := h1 H enc w base spare held n _ _ g1
    obtain ⟨b2, r2⟩ := h2 H enc w base spare held n _ _ g2
    rw [List.take_of_length_le (by rw [List.length_drop]; omega), ← List.drop_drop] at r2
    exact ⟨mk b0 b1 b2, _, _, (List.take_append_drop R.size cs).symm, by rw [hp]; exact r0, _, _, (List.take_append_drop S.size _).symm, by simp only [id_eq]; rw [hq]; exact r1, by simp only [id_eq]; rw [hr]; exact r2⟩
theorem opens_four {α β γ δ ε : Type} {R : Rp β} {S : Rp γ} {T : Rp δ} {U : Rp ε} {p : α → β} {q : α → γ} {r : α → δ} {s : α → ε} {t : TypeId} {f0 f1 f2 f3 : Field} (ht : P.underlying t = some (.struct #[f0, f1, f2, f3])) (ho0 : f0.offset = 0) (ho1 : f1.offset = R.size) (ho2 : f2.offset = R.size + S.size) (ho3 : f3.offset = R.size + S.size + T.size) (hs0 : P.cellsOf f0.type = R.size) (hs1 : P.cellsOf f1.type = S.size) (hs2 : P.cellsOf f2.type = T.size) (hs3 : P.cellsOf f3.type = U.size) (hC : P.cellsOf t = R.size + S.size + T.size + U.size)
    (h0 : Opens P f0.type R) (h1 : Opens P f1.type S) (h2 : Opens P f2.type T) (h3 : Opens P f3.type U) (mk : β → γ → δ → ε → α) (hp : ∀ a b c d, p (mk a b c d) = a) (hq : ∀ a b c d, q (mk a b c d) = b) (hr : ∀ a b c d, r (mk a b c d) = c) (hs : ∀ a b c d, s (mk a b c d) = d) : Opens P t (Rp.two p id R (Rp.two q id S (Rp.two r s T U))) := by
  intro H enc w base spare held fuel cs x h
  obtain ⟨xs, n, _, hx, hlen, hxl, hg⟩ := DataW.trod_struct ht h
  rw [hC] at hlen
  match xs, hxl with
  | [a0, a1, a2, a3], _ =>
    have g0 := hg 0 f0 rfl
    have g1 := hg 1 f1 rfl
    have g2 := hg 2 f2 rfl
    have g3 := hg 3 f3 rfl
    rw [ho0, hs0, List.drop_zero] at g0
    rw [ho1, hs1] at g1
    rw [ho2, hs2] at g2
    rw [ho3, hs3] at g3
    obtain ⟨b0, r0⟩ := h0 H enc w base spare held n _ _ g0
    obtain ⟨b1, r1⟩ := h1 H enc w base spare held n _ _ g1
    obtain ⟨b2, r2⟩ := h2 H enc w base spare held n _ _ g2
    obtain ⟨b3, r3⟩ := h3 H enc w base spare held n _ _ g3
    rw [← List.drop_drop] at r2
    rw [List.take_of_length_le (by rw [List.length_drop]; omega), ← List.drop_drop, ← List.drop_drop] at r3
    exact ⟨mk b0 b1 b2 b3, _, _, (List.take_append_drop R.size cs).symm, by rw [hp]; exact r0, _, _, (List.take_append_drop S.size _).symm, by simp only [id_eq]; rw [hq]; exact r1, _, _, (List.take_append_drop T.size _).symm, by simp only [id_eq]; rw [hr]; exact r2, by simp only [id_eq]; rw [hs]; exact r3⟩
end
end Go.Proofs.Ytfhmaincnlaapaa
namespace Go.Proofs.Ytfhmaincnlaapaa
open Go.ChangeShapes Go.WideShapes Go.ChangeAt Go.RowKit Go.Deep Go.Joins
set_option linter.unusedVariables false

structure Sch where
  dims : List (ByteArray × Int)
  ints : List ByteArray
  nums : List ByteArray
  views : List Int
abbrev i64R : Rp Int := Rp.val (Value.int .i64) (fun z => (Lit.int .i64 z).wf = true) (fun _ => rfl)
def dimC (l : List (ByteArray × Int)) : List Value := l.flatMap fun x => [.string x.1, .int .i64 x.2]
abbrev u32s (l : List Int) : List Value := l.map (Value.int .u32)
/-- a value that is a schema, in world w, all that it leads to below block B -/
def SchAt (w : World) (B : Nat) (v : Value) (S : Sch) : Prop :=
  ∃ A0 c0 A1 c1 A2 c2 A3 c3, v = .agg #[.slice A0 S.dims.length c0, .slice A1 S.ints.length c1, .slice A2 S.nums.length c2, .slice A3 S.views.length c3] ∧
    Rd w B 2 A0 S.dims.length (dimC S.dims) ∧ Rd w B 1 A1 S.ints.length (strs S.ints) ∧ Rd w B 1 A2 S.nums.length (strs S.nums) ∧ Rd w B 1 A3 S.views.length (u32s S.views) ∧
    (S.dims.length ≤ c0 ∧ c0 ≤ maxLen) ∧ (S.ints.length ≤ c1 ∧ c1 ≤ maxLen) ∧ (S.nums.length ≤ c2 ∧ c2 ≤ maxLen) ∧ (S.views.length ≤ c3 ∧ c3 ≤ maxLen)
end Go.Proofs.Ytfhmaincnlaapaa
namespace Go.Proofs.Ytfhmaincnlaapaa
open Go.ChangeShapes Go.WideShapes Go.ChangeAt Go.RowKit Go.Deep
set_option linter.unusedVariables false

theorem opens_f64 {P : Program} {t : TypeId} (ht : P.underlying t = some (.float .f64)) (h1 : ∀ x : Nat, (Value.float .f64 x).oneCell' = true) : Opens P t (Rp.val (Value.float .f64) (fun b => b < 18446744073709551616) h1) := by
  intro H enc w base spare held fuel cs x h
  obtain ⟨s, rfl, hs⟩ := trod_f64 ht h
  exact ⟨s, rfl, hs⟩
end Go.Proofs.Ytfhmaincnlaapaa
namespace Go.Proofs.Ytfhmaincnlaapaa
open Go.ChangeShapes Go.WideShapes Go.ChangeAt Go.RowKit Go.Deep Go.Joins
set_option linter.unusedVariables false

structure FactS where
  codes : List Int
  ints : List Int
  nums : List Nat
abbrev f64R : Rp Nat := Rp.val (Value.float .f64) (fun b => b < 18446744073709551616) (fun _ => rfl)
abbrev i64s (l : List Int) : List Value := l.map (Value.int .i64)
abbrev f64s (l : List Nat) : List Value := l.map (Value.float .f64)
/-- three slices that are a fact's -/
def FactV (w : World) (B : Nat) (F : FactS) (v0 v1 v2 : Value) : Prop :=
  ∃ A0 c0 A1 c1 A2 c2, v0 = .slice A0 F.codes.length c0 ∧ v1 = .slice A1 F.ints.length c1 ∧ v2 = .slice A2 F.nums.length c2 ∧
    Rd w B 1 A0 F.codes.length (i64s F.codes) ∧ Rd w B 1 A1 F.ints.length (i64s F.ints) ∧ Rd w B 1 A2 F.nums.length (f64s F.nums) ∧
    (F.codes.length ≤ c0 ∧ c0 ≤ maxLen) ∧ (F.ints.length ≤ c1 ∧ c1 ≤ maxLen) ∧ (F.nums.length ≤ c2 ∧ c2 ≤ maxLen)
end Go.Proofs.Ytfhmaincnlaapaa
namespace Go.Proofs.Ytfhmaincnlaapaa
open Go.ChangeShapes Go.WideShapes Go.ChangeAt Go.RowKit Go.Deep Go.Joins
set_option linter.unusedVariables false

theorem opens_u64n {P : Program} {t : TypeId} (ht : P.underlying t = some (.int .u64)) (h1 : ∀ n : Nat, (Value.int .u64 (n : Int)).oneCell' = true) : Opens P t (Rp.val (fun n : Nat => Value.int .u64 (n : Int)) (fun n => n < 18446744073709551616) h1) := by
  intro H enc w base spare held fuel cs x h
  obtain ⟨z, rfl, _, hz⟩ := DataW.trod_int ht h
  have hb := bounds_u64 hz
  exact ⟨z.toNat, by simp only [show ((z.toNat : Nat) : Int) = z from by omega], show z.toNat < _ by omega⟩
theorem opens_u32n {P : Program} {t : TypeId} (ht : P.underlying t = some (.int .u32)) (h1 : ∀ n : Nat, (Value.int .u32 (n : Int)).oneCell' = true) : Opens P t (Rp.val (fun n : Nat => Value.int .u32 (n : Int)) (fun n => n < 4294967296) h1) := by
  intro H enc w base spare held fuel cs x h
  obtain ⟨z, rfl, _, hz⟩ := DataW.trod_int ht h
  have hb := bounds_u32 hz
  exact ⟨z.toNat, by simp only [show ((z.toNat : Nat) : Int) = z from by omega], show z.toNat < _ by omega⟩
theorem opens_u8n {P : Program} {t : TypeId} (ht : P.underlying t = some (.int .u8)) (h1 : ∀ b : UInt8, (Value.int .u8 (b.toNat : Int)).oneCell' = true) : Opens P t (Rp.val (fun b : UInt8 => Value.int .u8 (b.toNat : Int)) (fun _ => True) h1) := by
  intro H enc w base spare held fuel cs x h
  obtain ⟨z, rfl, _, hz⟩ := DataW.trod_int ht h
  have hb := bounds_u8 hz
  refine ⟨UInt8.ofNat z.toNat, ?_, trivial⟩
  have : (UInt8.ofNat z.toNat).toNat = z.toNat := by
    rw [UInt8.toNat_ofNat']; omega
  simp only [this, show ((z.toNat : Nat) : Int) = z from by omega]
/-- five fields -/
theorem opens_five {P : Program} {t : TypeId} {α β0 β1 β2 β3 β4 : Type} {R0 : Rp β0} {R1 : Rp β1} {R2 : Rp β2} {R3 : Rp β3} {R4 : Rp β4} {p0 : α → β0} {p1 : α → β1} {p2 : α → β2} {p3 : α → β3} {p4 : α → β4} {f0 f1 f2 f3 f4 : Field}
    (ht : P.underlying t = some (.struct #[f0, f1, f2, f3, f4])) (o0 : f0.offset = 0) (o1 : f1.offset = R0.size) (o2 : f2.offset = R0.size + R1.size) (o3 : f3.offset = R0.size + R1.size + R2.size) (o4 : f4.offset = R0.size + R1.size + R2.size + R3.size)
    (s0 : P.cellsOf f0.type = R0.size) (s1 : P.cellsOf f1.type = R1.size) (s2 : P.cellsOf f2.type = R2.size) (s3 : P.cellsOf f3.type = R3.size) (s4 : P.cellsOf f4.type = R4.size) (hC : P.cellsOf t = R0.size + R1.size + R2.size + R3.size + R4.size)
    (h0 : Opens P f0.type R0) (h1 : Opens P f1.type R1) (h2 : Opens P f2.type R2) (h3 : Opens P f3.type R3) (h4 : Opens P f4.type R4) (mk : β0 → β1 → β2 → β3 → β4 → α)
    (q0 : ∀ a b c d e, p0 (mk a b c d e) = a) (q1 : ∀ a b c d e, p1 (mk a b c d e) = b) (q2 : ∀ a b c d e, p2 (mk a b c d e) = c) (q3 : ∀ a b c d e, p3 (mk a b c d e) = d) (q4 : ∀ a b c d e, p4 (mk a b c d e) = e) :
    Opens P t (Rp.two p0 id R0 (Rp.two p1 id R1 (Rp.two p2 id R2 (Rp.two p3 p4 R3 R4)))) := by
  intro H enc w base spare held fuel cs x h
  obtain ⟨xs, n, _, hx, hlen, hxl, hg⟩ := DataW.trod_struct ht h
  rw [hC] at hlen
  match xs, hxl with
  | [a0, a1, a2, a3, a4], _ =>
    have g0 := hg 0 f0 rfl
    have g1 := hg 1 f1 rfl
    have g2 := hg 2 f2 rfl
    have g3 := hg 3 f3 rfl
    have g4 := hg 4 f4 rfl
    rw [o0, s0, List.drop_zero] at g0
    rw [o1, s1] at g1
    rw [o2, s2] at g2
    rw [o3, s3] at g3
    rw [o4, s4] at g4
    obtain ⟨b0, r0⟩ := h0 H enc w base spare held n _ _ g0
    obtain ⟨b1, r1⟩ := h1 H enc w base spare held n _ _ g1
    obtain ⟨b2, r2⟩ := h2 H enc w base spare held n _ _ g2
    obtain ⟨b3, r3⟩ := h3 H enc w base spare held n _ _ g3
    obtain ⟨b4, r4⟩ := h4 H enc w base spare held n _ _ g4
    rw [← List.drop_drop] at r2
    rw [← List.drop_drop, ← List.drop_drop] at r3
    rw [List.take_of_length_le (by rw [List.length_drop]; omega), ← List.drop_drop, ← List.drop_drop, ← List.drop_drop] at r4
    exact ⟨mk b0 b1 b2 b3 b4, _, _, (List.take_append_drop R0.size cs).symm, by rw [q0]; exact r0, _, _, (List.take_append_drop R1.size _).symm, by simp only [id_eq]; rw [q1]; exact r1, _, _, (List.take_append_drop R2.size _).symm, by simp only [id_eq]; rw [q2]; exact r2,
      _, _, (List.take_append_drop R3.size _).symm, by simp only [id_eq]; rw [q3]; exact r3, by simp only [id_eq]; rw [q4]; exact r4⟩
structure WholeS where
  sum : Int
  abs : Int
  sq : List Nat
  mn : Int
  mx : Int
structure RealS where
  sum : List UInt8
  mn : Nat
  mx : Nat
structure CellS where
  key : Nat
  count : Int
  ints : List WholeS
  nums : List RealS
abbrev u64nR : Rp Nat := Rp.val (fun n : Nat => Value.int .u64 (n : Int)) (fun n => n < 18446744073709551616) (fun _ => rfl)
abbrev u32nR : Rp Nat := Rp.val (fun n : Nat => Value.int .u32 (n : Int)) (fun n => n < 4294967296) (fun _ => rfl)
abbrev u8R : Rp UInt8 := Rp.val (fun b : UInt8 => Value.int .u8 (b.toNat : Int)) (fun _ => True) (fun _ => rfl)
def wholeR : Rp WholeS := Rp.two WholeS.sum id i64R (Rp.two WholeS.abs id i64R (Rp.two WholeS.sq id u32nR.sl (Rp.two WholeS.mn WholeS.mx i64R i64R)))
def realR : Rp RealS := Rp.two RealS.sum id u8R.sl (Rp.two RealS.mn RealS.mx f64R f64R)
def cellR : Rp CellS := Rp.two CellS.key id u64nR (Rp.two CellS.count id i64R (Rp.two CellS.ints CellS.nums wholeR.sl realR.sl))
theorem opens_whole : Opens Try.prog 114 wholeR :=
  opens_five Try.underlying114 rfl rfl rfl rfl rfl (by kernel_rfl) (by kernel_rfl) (by kernel_rfl) (by kernel_rfl) (by kernel_rfl) (by kernel_rfl)
    (opens_int Try.underlying2 _) (opens_int Try.underlying2 _) (opens_slice Try.underlying24 (by kernel_rfl) (by decide) (opens_u32n Try.underlying33 _)) (opens_int Try.underlying2 _) (opens_int Try.underlying2 _)
    WholeS.mk (fun _ _ _ _ _ => rfl) (fun _ _ _ _ _ => rfl) (fun _ _ _ _ _ => rfl) (fun _ _ _ _ _ => rfl) (fun _ _ _ _ _ => rfl)
theorem opens_real : Opens Try.prog 117 realR :=
  opens_three Try.underlying117 rfl rfl rfl (by kernel_rfl) (by kernel_rfl) (by kernel_rfl) (by kernel_rfl)
    (opens_slice Try.underlying53 (by kernel_rfl) (by decide) (opens_u8n Try.underlying5 _)) (opens_f64 Try.underlying115 _) (opens_f64 Try.underlying115 _) RealS.mk (fun _ _ _ => rfl) (fun _ _ _ => rfl) (fun _ _ _ => rfl)
theorem opens_cell : Opens Try.prog 52 cellR :=
  opens_four Try.underlying52 rfl rfl rfl rfl (by kernel_rfl) (by kernel_rfl) (by kernel_rfl) (by kernel_rfl) (by kernel_rfl)
    (opens_u64n Try.underlying48 _) (opens_int Try.underlying2 _) (opens_slice Try.underlying49 (by kernel_rfl) (by decide) opens_whole) (opens_slice Try.underlying50 (by kernel_rfl) (by decide) opens_real)
    CellS.mk (fun _ _ _ _ => rfl) (fun _ _ _ _ => rfl) (fun _ _ _ _ => rfl) (fun _ _ _ _ => rfl)
abbrev u32n (l : List Nat) : List Value := l.map (fun n : Nat => Value.int .u32 (n : Int))
/-- a whole measure's five cells -/
theorem wholeR_at {w : World} {B : Nat} {x : WholeS} {cs : List Value} (h : wholeR.rep w B x cs) : ∃ A c, cs = [.int .i64 x.sum, .int .i64 x.abs, .slice A x.sq.length c, .int .i64 x.mn, .int .i64 x.mx] ∧ Rd w B 1 A x.sq.length (u32n x.sq) ∧ x.sq.length ≤ c ∧ c ≤ maxLen ∧
    (∀ n ∈ x.sq, n < 4294967296) ∧ (-9223372036854775808 ≤ x.sum ∧ x.sum ≤ 9223372036854775807) ∧ (-9223372036854775808 ≤ x.abs ∧ x.abs ≤ 9223372036854775807) ∧ (-9223372036854775808 ≤ x.mn ∧ x.mn ≤ 9223372036854775807) ∧ (-9223372036854775808 ≤ x.mx ∧ x.mx ≤ 9223372036854775807) := by
  obtain ⟨_, _, rfl, ⟨rfl, w0⟩, _, _, rfl, ⟨rfl, w1⟩, _, _, rfl, ⟨A, c, xs, rfl, a2, b2, r2, k2⟩, _, _, rfl, ⟨rfl, w3⟩, rfl, w4⟩ := h
  obtain ⟨rfl, d2⟩ := chunk_val.1 k2
  exact ⟨A, c, rfl, r2, a2, b2, d2, bounds_i64 w0, bounds_i64 w1, bounds_i64 w3, bounds_i64 w4⟩
theorem realR_at {w : World} {B : Nat} {x : RealS} {cs : List Value} (h : realR.rep w B x cs) : ∃ A c, cs = [.slice A x.sum.length c, .float .f64 x.mn, .float .f64 x.mx] ∧ Rd w B 1 A x.sum.length (u8s x.sum) ∧ x.sum.length ≤ c ∧ c ≤ maxLen ∧ x.mn < 18446744073709551616 ∧ x.mx < 18446744073709551616 := by
  obtain ⟨_, _, rfl, ⟨A, c, xs, rfl, a2, b2, r2, k2⟩, _, _, rfl, ⟨rfl, w3⟩, rfl, w4⟩ := h
  obtain ⟨rfl, d2⟩ := chunk_val.1 k2
  exact ⟨A, c, rfl, r2, a2, b2, w3, w4⟩
/-- a cell, its lists at A2 and A3 -/
structure CellV (w : World) (B : Nat) (C : CellS) (A2 : Option Addr) (c2 : Nat) (A3 : Option Addr) (c3 : Nat) : Prop where
  key : C.key < 18446744073709551616
  count : -9223372036854775808 ≤ C.count ∧ C.count ≤ 9223372036854775807
  ints : SlR wholeR w B C.ints A2 c2
  nums : SlR realR w B C.nums A3 c3
theorem CellV.keep {w w' : World} {B B' : Nat} {C : CellS} {A2 A3 : Option Addr} {c2 c3 : Nat} (h : CellV w B C A2 c2 A3 c3) (hb : Below B w w') (hB : B ≤ B') : CellV w' B' C A2 c2 A3 c3 := ⟨h.key, h.count, h.ints.keep hb hB, h.nums.keep hb hB⟩
def cellC (C : CellS) (A2 : Option Addr) (c2 : Nat) (A3 : Option Addr) (c3 : Nat) : List Value := [.int .u64 (C.key : Int), .int .i64 C.count, .slice A2 C.ints.length c2, .slice A3 C.nums.length c3]
theorem cellR_at {w : World} {B : Nat} {C : CellS} {cs : List Value} (h : cellR.rep w B C cs) : ∃ A2 c2 A3 c3, cs = cellC C A2 c2 A3 c3 ∧ CellV w B C A2 c2 A3 c3 := by
  obtain ⟨_, _, rfl, ⟨rfl, w0⟩, _, _, rfl, ⟨rfl, w1⟩, _, _, rfl, ⟨A2, c2, x2, rfl, a2, b2, r2, k2⟩, A3, c3, x3, rfl, a3, b3, r3, k3⟩ := h
  exact ⟨A2, c2, A3, c3, rfl, ⟨w0, bounds_i64 w1, ⟨a2, b2, x2, r2, k2⟩, ⟨a3, b3, x3, r3, k3⟩⟩⟩
theorem cellR_mk {w : World} {B : Nat} {C : CellS} {A2 A3 : Option Addr} {c2 c3 : Nat} (h : CellV w B C A2 c2 A3 c3) : cellR.rep w B C (cellC C A2 c2 A3 c3) := by
  obtain ⟨w0, w1, ⟨a2, b2, x2, r2, k2⟩, a3, b3, x3, r3, k3⟩ := h
  exact ⟨[_], [_, _, _], rfl, ⟨rfl, w0⟩, [_], [_, _], rfl, ⟨rfl, WalkArith.wf_i64 w1⟩, [_], [_], rfl, ⟨A2, c2, x2, rfl, a2, b2, r2, k2⟩, A3, c3, x3, rfl, a3, b3, r3, k3⟩
/-- measure k of a slice of whole measures -/
theorem SlR.wholeAt {w : World} {B c : Nat} {l : List WholeS} {A : Option Addr} (h : SlR wholeR w B l A c) {k : Nat} (hk : k < l.length) : ∃ a A2 c2, A = some a ∧ a.block < B ∧ w.cell? (a.add (k * 5)) = some (.int .i64 l[k].sum) ∧
    w.cell? ⟨(a.add (k * 5)).block, (a.add (k * 5)).off + 1, none⟩ = some (.int .i64 l[k].abs) ∧ w.cell? ⟨(a.add (k * 5)).block, (a.add (k * 5)).off + 2, none⟩ = some (.slice A2 l[k].sq.length c2) ∧
    w.cell? ⟨(a.add (k * 5)).block, (a.add (k * 5)).off + 3, none⟩ = some (.int .i64 l[k].mn) ∧ w.cell? ⟨(a.add (k * 5)).block, (a.add (k * 5)).off + 4, none⟩ = some (.int .i64 l[k].mx) ∧
    Rd w B 1 A2 l[k].sq.length (u32n l[k].sq) ∧ l[k].sq.length ≤ c2 ∧ c2 ≤ maxLen ∧ (∀ n ∈ l[k].sq, n < 4294967296) ∧ (-9223372036854775808 ≤ l[k].sum ∧ l[k].sum ≤ 9223372036854775807) ∧ (-9223372036854775808 ≤ l[k].abs ∧ l[k].abs ≤ 9223372036854775807) ∧
    (-9223372036854775808 ≤ l[k].mn ∧ l[k].mn ≤ 9223372036854775807) ∧ (-9223372036854775808 ≤ l[k].mx ∧ l[k].mx ≤ 9223372036854775807) := by
  obtain ⟨a, cs, rfl, hb, hr, hc⟩ := h.get hk
  obtain ⟨A2, c2, rfl, hv⟩ := wholeR_at hr
  have key : ∀ j, j < 5 → w.cell? (a.add (k * 5 + j)) = ([.int .i64 l[k].sum, .int .i64 l[k].abs, .slice A2 l[k].sq.length c2, .int .i64 l[k].mn, .int .i64 l[k].mx] : List Value)[j]? := fun j hj => hc j hj
  refine ⟨a, A2, c2, rfl, hb, key 0 (by decide), ?_, ?_, ?_, ?_, hv⟩
  · have := key 1 (by decide)
    rw [← add_add', add_succ] at this
    exact this
  · have := key 2 (by decide)
    rw [← add_add', show (2 : Nat) = 1 + 1 from rfl, add_succ] at this
    exact this
  · have := key 3 (by decide)
    rw [← add_add', show (3 : Nat) = 2 + 1 from rfl, add_succ] at this
    exact this
  · have := key 4 (by decide)
    rw [← add_add', show (4 : Nat) = 3 + 1 from rfl, add_succ] at this
    exact this
theorem SlR.realAt {w : World} {B c : Nat} {l : List RealS} {A : Option Addr} (h : SlR realR w B l A c) {k : Nat} (hk : k < l.length) : ∃ a A2 c2, A = some a ∧ a.block < B ∧ w.cell? (a.add (k * 3)) = some (.slice A2 l[k].sum.length c2) ∧
    w.cell? ⟨(a.add (k * 3)).block, (a.add (k * 3)).off + 1, none⟩ = some (.float .f64 l[k].mn) ∧ w.cell? ⟨(a.add (k * 3)).block, (a.add (k * 3)).off + 2, none⟩ = some (.float .f64 l[k].mx) ∧
    Rd w B 1 A2 l[k].sum.length (u8s l[k].sum) ∧ l[k].sum.length ≤ c2 ∧ c2 ≤ maxLen ∧ l[k].mn < 18446744073709551616 ∧ l[k].mx < 18446744073709551616 := by
  obtain ⟨a, cs, rfl, hb, hr, hc⟩ := h.get hk
  obtain ⟨A2, c2, rfl, hv⟩ := realR_at hr
  have key : ∀ j, j < 3 → w.cell? (a.add (k * 3 + j)) = ([.slice A2 l[k].sum.length c2, .float .f64 l[k].mn, .float .f64 l[k].mx] : List Value)[j]? := fun j hj => hc j hj
  refine ⟨a, A2, c2, rfl, hb, key 0 (by decide), ?_, ?_, hv⟩
  · have := key 1 (by decide)
    rw [← add_add', add_succ] at this
    exact this
  · have := key 2 (by decide)
    rw [← add_add', show (2 : Nat) = 1 + 1 from rfl, add_succ] at this
    exact this
end Go.Proofs.Ytfhmaincnlaapaa
namespace Go.Proofs.Ytfhmaincnlaapaa
open Go.ChangeShapes Go.WideShapes Go.ChangeAt Go.RowKit
set_option linter.unusedVariables false

end Go.Proofs.Ytfhmaincnlaapaa
namespace Go.Proofs.Ytfhmaincnlaapaa
open Go.ChangeShapes Go.WideShapes Go.ChangeAt Go.RowKit
set_option linter.unusedVariables false

/-- whatever block is neither a writer nor bytes stands as it was -/
def KeptK (w w' : World) : Prop := ∀ h t cs, Blk w h t cs → t ≠ 216 → t ≠ 5 → Blk w' h t cs
theorem KeptK.refl (w : World) : KeptK w w := fun _ _ _ h _ _ => h
theorem KeptK.trans {a b c : World} (h : KeptK a b) (k : KeptK b c) : KeptK a c := fun g t cs hb h1 h2 => k g t cs (h g t cs hb h1 h2) h1 h2
theorem KeptK.drewN {a b : World} (h : KeptK a b) (n : Nat) : KeptK a (b.drewN n) := fun g t cs hb h1 h2 => h g t cs hb h1 h2
end Go.Proofs.Ytfhmaincnlaapaa
namespace Go.Proofs.Ytfhmaincnlaapaa
open Go.ChangeShapes Go.WideShapes Go.ChangeAt Go.RowKit
set_option linter.unusedVariables false

/-- two to the n, kept shut -/
def p2 (n : Nat) : Nat := 2 ^ n
/-- is dimension i in a set? -/
def inB (m i : Nat) : Bool := decide (m / p2 i % 2 = 1)
end Go.Proofs.Ytfhmaincnlaapaa
namespace Go.Proofs.Ytfhmaincnlaapaa
open Go.ChangeShapes Go.WideShapes Go.ChangeAt Go.RowKit
set_option linter.unusedVariables false

/-- dimension k's size -/
def szAt (S : Sch) (k : Nat) : Int := (S.dims.getD k (⟨#[]⟩, 0)).2
def manyOk (S : Sch) : Prop := 1 ≤ S.dims.length ∧ S.dims.length ≤ 6 ∧ S.ints.length ≤ 3 ∧ S.nums.length ≤ 2 ∧ S.views.length ≤ 15
instance (S : Sch) : Decidable (manyOk S) := by unfold manyOk; infer_instance
end Go.Proofs.Ytfhmaincnlaapaa
namespace Go.Proofs.Ytfhmaincnlaapaa
open Go.ChangeShapes Go.WideShapes Go.ChangeAt Go.RowKit Go.Maps Go.WideMaps
set_option linter.unusedVariables false

theorem run_makeMap_h {P : Program} (t k e : TypeId) (kd : IntKind) (n : Int) (ht : P.underlying t = some (.map k e)) (w : World) :
    (Instr.makeMap t (some (.int kd n))).run P w = .ok (.map (some w.heap.size)) (w.alloc (.map #[] 0)) := by
  simp [Instr.makeMap, run_underlying ht]; rfl
theorem wf_of_i64 {z : Int} (h1 : -9223372036854775808 ≤ z) (h2 : z ≤ 9223372036854775807) : (Lit.int .i64 z).wf = true := by
  simp [Lit.wf, IntKind.min, IntKind.max, IntKind.signed, IntKind.bits]; omega
theorem law_str : Keyed Try.prog 9 := string_keyed Try.underlying9
theorem zero_i64 (w : World) : (zeroValue 3).run Try.prog w = .ok (.int .i64 0) w := by kernel_rfl
/-- the map's keys are the texts of a list -/
def MetIs (l : List ByteArray) (D : DataW Unit) : Prop := IsMap D ∧ ∀ s : ByteArray, has D (.string s.data.toList) = memB l s
theorem MetIs.nil : MetIs [] (.map []) := ⟨isMap_empty, fun s => rfl⟩
theorem MetIs.snoc {l : List ByteArray} {D : DataW Unit} (h : MetIs l D) (x : ByteArray) (d : DataW Unit) : MetIs (l ++ [x]) (D.put (.string x.data.toList) d) := by
  refine ⟨h.1.put _ _, fun s => ?_⟩
  have e : memB (l ++ [x]) s = (memB l s || (x.toList == s.toList)) := by unfold memB; rw [List.any_append]; simp
  rw [e]
  by_cases hs : s.data.toList = x.data.toList
  · rw [hs, has_put_same h.1 (by simp [WideAt.IsKeyLit]) d]
    have : (x.toList == s.toList) = true := by rw [ByteArray.toList_eq, ByteArray.toList_eq, hs]; simp
    rw [this, Bool.or_true]
  · rw [has_put_other (by intro e; injection e with e; exact hs e) d, h.2 s]
    have : (x.toList == s.toList) = false := by rw [ByteArray.toList_eq, ByteArray.toList_eq, beq_eq_false_iff_ne]; exact fun e => hs e.symm
    rw [this, Bool.or_false]
set_option maxRecDepth 20000 in
set_option maxHeartbeats 1000000 in
theorem twice_any (w : World) (A : Option Addr) (n c B : Nat) (l : List ByteArray) (h : Rd w B 1 A n (strs l)) (hB : B ≤ w.heap.size) (hn : n ≤ 1000000) (hl : ∀ x ∈ l, x.size ≤ maxLen) :
    Calls Try.prog 102 #[.slice A n c] w fun y w' => ∃ z, y = .returned (.int .i64 z) ∧ TwIs l z ∧ Below w.heap.size w w' := by
  obtain rfl : n = l.length := h.str_len
  have hmm := fun k W => @run_makeMap_h Try.prog 207 9 3 .i64 k Try.underlying207 W
  have H := Lib.hid h; have HL := Lib.hid hl; clear h hl
  go_enter Try.func102, Try.ntmps102
  go_wp2
  go_loopw [13] (fun i wr => ∃ k : Nat, k ≤ l.length ∧ i = .int .i64 (k : Int) ∧ Hid (dupTo l k = false) ∧ (∃ D : DataW Unit, wr.ownsMap Try.prog 9 (plainElem Try.prog 3) w.heap.size k D ∧ Hid (MetIs (l.take k) D)) ∧ Below w.heap.size w wr) (fun i _ => l.length - (intOf i).toNat)
  case atStart => exact ⟨0, by omega, rfl, rfl, ⟨.map [], World.ownsMap_made _ _ _ _, MetIs.nil⟩, belA (belR w) _⟩
  case round =>
    obtain ⟨k, hk, rfl, HA, ⟨D, hown, HM⟩, hb⟩ := hrel
    have hz := hb.size
    by_cases hlt : k < l.length
    · obtain ⟨a, rfl, hab, x0⟩ := (H.out.below (hb.mono hB)).str hlt
      have q1 : (0 : Int) ≤ (k : Int) := by omega
      have q2 : (k : Int) < (l.length : Int) := by omega
      have hst := dupTo_succ l k hlt
      rw [HA.out, Bool.false_or] at hst
      have hmo := dupTo_mono l k hlt
      have hsn : l.take (k + 1) = l.take k ++ [l[k]] := List.take_succ_eq_append_getElem hlt
      have hxs := HL.out l[k] (List.getElem_mem hlt)
      generalize l[k] = x at *
      have hkey : keyOf Try.prog 9 (.string x) = some (.string x.data.toList) := keyOf_string_mk Try.underlying9 hxs
      have hhas := HM.out.2 x
      have hwf : (Lit.int .i64 (k : Int)).wf = true := wf_of_i64 (by omega) (by omega)
      have HWF := Lib.hid hwf; clear hwf
      have HST := Lib.hid hst; have HMO := Lib.hid hmo; have HSN := Lib.hid hsn; have HK := Lib.hid hkey; have HX := Lib.hid hxs; have HO := Lib.hid hown; have HB := Lib.hid hb
      clear hst hmo hsn hkey hxs hown hb
      cases hm : memB (l.take k) x with
      | true =>
        rw [hm] at hhas
        have hy := HMO.out hm
        have HY := Lib.hid hy; have HH := Lib.hid hhas; clear hy hm hhas
        go_wp2_with (at_lookup; refine wpList_lookup_own_ok_int _ rfl _ _ 207 rfl 9 3 .i64 law_str Try.underlying207 Try.underlying3 (zero_i64 _) w.heap.size k D rfl HO.out _ _ rfl HK.out ?_; intro c0 hat hwc; rw [HH.out]; clear hat hwc)
        go_ret
        exact ⟨_, rfl, .inr ⟨q1, HY.out⟩, HB.out⟩
      | false =>
        rw [hm] at hhas HST
        have HH := Lib.hid hhas; clear hm hhas
        go_wp2_with (first
          | (at_lookup; refine wpList_lookup_own_ok_int _ rfl _ _ 207 rfl 9 3 .i64 law_str Try.underlying207 Try.underlying3 (zero_i64 _) w.heap.size k D rfl HO.out _ _ rfl HK.out ?_; intro c0 hat hwc; rw [HH.out]; clear hat hwc)
          | (at_mapUpdate; refine wpList_mapUpdate_own _ rfl _ _ _ 207 rfl 9 3 law_str Try.underlying207 _ w.heap.size k D rfl HO.out (by unfold maxLen; omega) _ _ _ rfl rfl HK.out _ [] (plainElem_int Try.underlying3 HWF.out) ?_; intro w1 hown1 hgrow1; have HO1 := Lib.hid hown1; have HG1 := Lib.hid hgrow1; clear hown1 hgrow1))
        go_roundw
        case rel => exact ⟨k + 1, by omega, by go_num, HST, ⟨_, HO1.out, by rw [HSN.out]; exact HM.out.snoc x _⟩, HB.out.grown HG1.out HB.out.size (fun j hj => by cases hj; exact Nat.le_refl _)⟩
        case measure => simp [intOf]; omega
    · obtain rfl : k = l.length := by omega
      have HA2 : Hid (dupB l = false) := HA
      have HB := Lib.hid hb; have HO := Lib.hid hown; clear hb hown
      go_wp2
      go_ret
      exact ⟨_, rfl, .inl ⟨rfl, HA2.out⟩, HB.out⟩
end Go.Proofs.Ytfhmaincnlaapaa
namespace Go.Proofs.Ytfhmaincnlaapaa
open Go.ChangeShapes Go.WideShapes Go.ChangeAt Go.RowKit
set_option linter.unusedVariables false

def namesTo (L : List ByteArray) (k : Nat) : Prop := ∀ j (hj : j < L.length), j < k → isB L[j] = true
theorem namesTo.snoc {L : List ByteArray} {k : Nat} (h : namesTo L k) (hk : k < L.length) (hx : isB L[k] = true) : namesTo L (k + 1) := fun j hj hjk => by
  by_cases e : j = k
  · subst e; exact hx
  · exact h j hj (by omega)
end Go.Proofs.Ytfhmaincnlaapaa
namespace Go.Proofs.Ytfhmaincnlaapaa
open Go.ChangeShapes Go.WideShapes Go.ChangeAt Go.RowKit
set_option linter.unusedVariables false

def FactAt (w : World) (B : Nat) (v : Value) (F : FactS) : Prop := ∃ v0 v1 v2, v = .agg #[v0, v1, v2] ∧ FactV w B F v0 v1 v2
theorem FactV.keep {w w' : World} {B B' : Nat} {F : FactS} {v0 v1 v2 : Value} (h : FactV w B F v0 v1 v2) (hb : Below B w w') (hB : B ≤ B') : FactV w' B' F v0 v1 v2 := by
  obtain ⟨A0, c0, A1, c1, A2, c2, e0, e1, e2, r0, r1, r2, b⟩ := h
  exact ⟨A0, c0, A1, c1, A2, c2, e0, e1, e2, (r0.below hb).more hB, (r1.below hb).more hB, (r2.below hb).more hB, b⟩
theorem SchAt.keep {w w' : World} {B B' : Nat} {v : Value} {S : Sch} (h : SchAt w B v S) (hb : Below B w w') (hB : B ≤ B') : SchAt w' B' v S := by
  obtain ⟨A0, c0, A1, c1, A2, c2, A3, c3, e, r0, r1, r2, r3, b⟩ := h
  exact ⟨A0, c0, A1, c1, A2, c2, A3, c3, e, (r0.below hb).more hB, (r1.below hb).more hB, (r2.below hb).more hB, (r3.below hb).more hB, b⟩
theorem FactAt.keep {w w' : World} {B : Nat} {v : Value} {F : FactS} (h : FactAt w B v F) (hb : Below B w w') : FactAt w' B v F := by
  obtain ⟨v0, v1, v2, e, hv⟩ := h
  exact ⟨v0, v1, v2, e, hv.keep hb (Nat.le_refl _)⟩
def codeAt (F : FactS) (k : Nat) : Int := F.codes.getD k 0
theorem Rd.i64 {w : World} {B : Nat} {A : Option Addr} {l : List Int} (h : Rd w B 1 A l.length (i64s l)) {k : Nat} (hk : k < l.length) : ∃ a, A = some a ∧ a.block < B ∧ w.cell? (a.add k) = some (.int .i64 (l.getD k 0)) := by
  obtain ⟨a, u, rfl, hb, hx, hc⟩ := h.at1 hk
  refine ⟨a, rfl, hb, ?_⟩
  rw [show (i64s l)[k]? = some (.int .i64 (l.getD k 0)) from by simp [i64s, List.getD, hk]] at hx
  rw [hc]; exact hx.symm
def codeOk (S : Sch) (F : FactS) (k : Nat) : Bool := decide (0 ≤ codeAt F k) && decide (codeAt F k < szAt S k)
def codesTo (S : Sch) (F : FactS) (k : Nat) : Bool := (List.range k).all (codeOk S F)
def lensOk (S : Sch) (F : FactS) : Prop := F.codes.length = S.dims.length ∧ F.ints.length = S.ints.length ∧ F.nums.length = S.nums.length
instance (S : Sch) (F : FactS) : Decidable (lensOk S F) := by unfold lensOk; infer_instance
/-- why a fact is none of a schema; 0: it is -/
def fitsN (S : Sch) (F : FactS) : Nat := if lensOk S F then (if codesTo S F F.codes.length = true then 0 else 2) else 3
end Go.Proofs.Ytfhmaincnlaapaa
namespace Go.Proofs.Ytfhmaincnlaapaa
open Go.ChangeShapes Go.WideShapes Go.ChangeAt Go.RowKit
set_option linter.unusedVariables false

def fitsAt (S : Sch) (l : List FactS) (k : Nat) : Nat := fitsN S (l.getD k ⟨[], [], []⟩)
theorem i64_ne0 {n : Nat} (h : n ≠ 0) : ((n : Int) != 0) = true := by rw [bne_iff_ne]; omega
def okTo (S : Sch) (l : List FactS) (k : Nat) : Prop := ∀ j, j < k → fitsAt S l j = 0
theorem okTo.snoc {S : Sch} {l : List FactS} {k : Nat} (h : okTo S l k) (hk : fitsAt S l k = 0) : okTo S l (k + 1) := fun j hj => by
  by_cases e : j = k
  · subst e; exact hk
  · exact h j (by omega)
end Go.Proofs.Ytfhmaincnlaapaa
namespace Go.Proofs.Ytfhmaincnlaapaa
open Go.ChangeShapes Go.WideShapes Go.ChangeAt Go.RowKit
set_option linter.unusedVariables false

def eqTo {α : Type} (z : α) (l m : List α) (k : Nat) : Prop := ∀ j, j < k → l.getD j z = m.getD j z
theorem eqTo.snoc {α : Type} {z : α} {l m : List α} {k : Nat} (h : eqTo z l m k) (hk : l.getD k z = m.getD k z) : eqTo z l m (k + 1) := fun j hj => by
  by_cases e : j = k
  · subst e; exact hk
  · exact h j (by omega)
theorem eqTo.all {α : Type} {z : α} {l m : List α} (hl : l.length = m.length) (h : eqTo z l m l.length) : l = m := by
  apply List.ext_getElem hl
  intro j h1 h2
  have := h j h1
  simpa [List.getD, h1, h2] using this
theorem Rd.f64 {w : World} {B : Nat} {A : Option Addr} {l : List Nat} (h : Rd w B 1 A l.length (f64s l)) {k : Nat} (hk : k < l.length) : ∃ a, A = some a ∧ a.block < B ∧ w.cell? (a.add k) = some (.float .f64 (l.getD k 0)) := by
  obtain ⟨a, u, rfl, hb, hx, hc⟩ := h.at1 hk
  refine ⟨a, rfl, hb, ?_⟩
  rw [show (f64s l)[k]? = some (.float .f64 (l.getD k 0)) from by simp [f64s, List.getD, hk]] at hx
  rw [hc]; exact hx.symm
end Go.Proofs.Ytfhmaincnlaapaa
namespace Go.Proofs.Ytfhmaincnlaapaa
open Go.ChangeShapes Go.WideShapes Go.ChangeAt Go.RowKit
set_option linter.unusedVariables false

end Go.Proofs.Ytfhmaincnlaapaa
namespace Go.Proofs.Ytfhmaincnlaapaa
open Go.ChangeShapes Go.WideShapes Go.ChangeAt Go.RowKit
set_option linter.unusedVariables false

def pk (kd : Int) (b : Nat) (st : Pst) (l : List (List UInt8 × Bool)) : Pst := l.foldl (fun st x => pput kd b st x.1 x.2) st
def sumA (l : List Sht) : Nat := (l.map Sht.a).sum
end Go.Proofs.Ytfhmaincnlaapaa
namespace Go.Proofs.Ytfhmaincnlaapaa
open Go.ChangeShapes Go.WideShapes Go.ChangeAt Go.RowKit
set_option linter.unusedVariables false

/-- a cell is small enough -/
def lightW (x : WholeS) : Bool := decide (x.sq.length ≤ 20)
def lightR (x : RealS) : Bool := decide (x.sum.length ≤ 300)
def lightC (C : CellS) : Bool := decide (C.ints.length ≤ 10) && decide (C.nums.length ≤ 10) && C.ints.all lightW && C.nums.all lightR
/-- what the first bytes of a sum tell -/
def hd (b : List UInt8) (i : Nat) : Nat := (b.getD i 0).toNat
def headE (b : List UInt8) : Nat :=
  if 0 < b.length ∧ (63 < hd b 0 ∨ (hd b 0 / 32 % 2 = 1 ∧ hd b 0 / 16 % 2 = 0)) then 6
  else if 1 < b.length ∧ (69 < hd b 1 ∨ (0 < hd b 1 ∧ hd b 0 / 16 % 2 = 0)) then 6
  else if 2 < b.length ∧ (70 < hd b 1 + hd b 2 ∨ (0 < hd b 2 ∧ hd b 0 / 16 % 2 = 0) ∨ (hd b 2 = 0 ∧ (0 < hd b 1 ∨ hd b 0 / 32 % 2 = 1))) then 6
  else 0
/-- word i of a sum's bytes -/
def wordB (b : List UInt8) (i : Nat) : Nat := bv ((b.drop (3 + 4 * i)).take 4)
/-- the words from number i on, n in all -/
def wordsE (b : List UInt8) (n : Nat) : Nat → Nat
  | 0 => if 3 + 4 * n < b.length then 7 else 0
  | k + 1 => if b.length < 3 + 4 * (n - (k + 1)) + 4 then 5 else if (n - (k + 1) = 0 ∨ k = 0) ∧ wordB b (n - (k + 1)) = 0 then 6 else wordsE b n k
def readE (b : List UInt8) : Nat := if headE b ≠ 0 then headE b else if b.length < 3 then 5 else wordsE b (hd b 2) (hd b 2)
theorem and32 : ∀ x : Fin 256, x.val &&& 32 = x.val / 32 % 2 * 32 := by decide +kernel
theorem and16 : ∀ x : Fin 256, x.val &&& 16 = x.val / 16 % 2 * 16 := by decide +kernel
theorem not32 : ∀ x : Fin 256, x.val &&& (255 - 32) = x.val - x.val / 32 % 2 * 32 := by decide +kernel
theorem or_byte32 (X b : Nat) (hb : b < 256) : X * 256 ||| b = X * 256 + b := by
  have := Nat.shiftLeft_add_eq_or_of_lt (show b < 2 ^ 8 from hb) X
  rw [Nat.shiftLeft_eq] at this
  exact this.symm
def magP (g : Nat → Nat) (m i : Nat) : List Nat := List.replicate (m - i) 0 ++ ((List.range i).map g).reverse
theorem magP_len (g : Nat → Nat) (m i : Nat) (h : i ≤ m) : (magP g m i).length = m := by unfold magP; simp; omega
theorem magP_succ (g : Nat → Nat) (m i : Nat) (h : i < m) : (magP g m i).set (m - 1 - i) (g i) = magP g m (i + 1) := by
  unfold magP
  obtain ⟨k, hk⟩ : ∃ k, m - i = k + 1 := ⟨m - i - 1, by omega⟩
  have h1 : m - 1 - i = k := by omega
  have h2 : m - (i + 1) = k := by omega
  rw [hk, h1, h2, List.range_succ, List.map_append, List.reverse_append]
  rw [List.replicate_succ', List.append_assoc, List.set_append_right _ _ (by simp)]
  simp
theorem magP_get (g : Nat → Nat) (m i p : Nat) (h : i < m) : ((magP g m i).set (m - 1 - i) p)[m - 1 - i]? = some p := by
  rw [List.getElem?_set_self (by rw [magP_len g m i (by omega)]; omega)]
theorem magP_cur (g : Nat → Nat) (m i : Nat) (h : i < m) : (magP g m i)[m - 1 - i]? = some 0 := by
  unfold magP
  rw [List.getElem?_append_left (by simp; omega), List.getElem?_replicate, if_pos (by omega)]
theorem magP_at (g : Nat → Nat) (m i j : Nat) (h : j < i) (hi : i ≤ m) : (magP g m i)[m - 1 - j]? = some (g j) := by
  unfold magP
  rw [List.getElem?_append_right (by simp; omega)]
  rw [List.length_replicate, show m - 1 - j - (m - i) = i - 1 - j from by omega, List.getElem?_reverse (by simp; omega)]
  simp only [List.length_map, List.length_range]
  rw [show i - 1 - (i - 1 - j) = j from by omega]
  simp [h]
theorem all_take_succ {α : Type} (p : α → Bool) (l : List α) (k : Nat) (h : k < l.length) : (l.take (k + 1)).all p = ((l.take k).all p && p l[k]) := by
  rw [List.take_succ_eq_append_getElem h, List.all_append]; simp
theorem all_no {α : Type} (p : α → Bool) (l : List α) (k : Nat) (h : k < l.length) (hp : p l[k] = false) : l.all p = false := by
  rw [List.all_eq_false]; exact ⟨l[k], List.getElem_mem h, by simp [hp]⟩
theorem headE_ok {b : List UInt8} (h0 : headE b = 0) (h3 : 3 ≤ b.length) : hd b 1 + hd b 2 ≤ 70 ∧ hd b 0 ≤ 63 ∧ (hd b 2 = 0 → hd b 1 = 0) := by
  unfold headE at h0
  (repeat' split at h0) <;> first | (cases h0; done) | (refine ⟨?_, ?_, ?_⟩ <;> omega)
theorem readE_head {b : List UInt8} (h : headE b ≠ 0) : readE b = headE b := if_pos h
theorem readE_short {b : List UInt8} (h : headE b = 0) (h3 : ¬ 3 ≤ b.length) : readE b = 5 := by unfold readE; rw [if_neg (by omega), if_pos (by omega)]
theorem readE_words {b : List UInt8} (h : headE b = 0) (h3 : 3 ≤ b.length) : readE b = wordsE b (hd b 2) (hd b 2) := by unfold readE; rw [if_neg (by omega), if_neg (by omega)]
end Go.Proofs.Ytfhmaincnlaapaa
