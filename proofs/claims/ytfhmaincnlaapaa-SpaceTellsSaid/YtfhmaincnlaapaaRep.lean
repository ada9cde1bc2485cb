/-
  READING DATA WITH DEPTH: how a thing is read out of cells; slices and structs of such things; what a law's argument reads as.
-/
import Derived.Test.YtfhmaincnlaapaaBlk
import Derived.Deep.Slices
import Derived.Deep.Fields
import Derived.ChangeArms
namespace Go.Proofs.Ytfhmaincnlaapaa
open Go.ChangeShapes Go.WideShapes Go.ChangeAt Go.RowKit Go.Deep
set_option linter.unusedVariables false

/-- how a thing is read out of some cells; what it leads to lies below block B -/
structure Rp (α : Type) where
  size : Nat
  rep : World → Nat → α → List Value → Prop
  len : ∀ {w : World} {B : Nat} {x : α} {cs : List Value}, rep w B x cs → cs.length = size
  one : ∀ {w : World} {B : Nat} {x : α} {cs : List Value}, rep w B x cs → ∀ u ∈ cs, u.oneCell' = true
  keep : ∀ {w w' : World} {B B' : Nat} {x : α} {cs : List Value}, rep w B x cs → Below B w w' → B ≤ B' → rep w' B' x cs

def Rp.val {α : Type} (f : α → Value) (ok : α → Prop) (h1 : ∀ x, (f x).oneCell' = true) : Rp α where
  size := 1
  rep _ _ x cs := cs = [f x] ∧ ok x
  len h := by rw [h.1]; rfl
  one h := by rw [h.1]; intro u hu; rw [List.mem_singleton] at hu; rw [hu]; exact h1 _
  keep h _ _ := h
def Rp.two {α β γ : Type} (p : α → β) (q : α → γ) (R : Rp β) (S : Rp γ) : Rp α where
  size := R.size + S.size
  rep w B x cs := ∃ c d, cs = c ++ d ∧ R.rep w B (p x) c ∧ S.rep w B (q x) d
  len h := by obtain ⟨c, d, rfl, h1, h2⟩ := h; rw [List.length_append, R.len h1, S.len h2]
  one h := by
    obtain ⟨c, d, rfl, h1, h2⟩ := h
    intro u hu
    rcases List.mem_append.1 hu with hu | hu
    · exact R.one h1 u hu
    · exact S.one h2 u hu
  keep h hb hB := by obtain ⟨c, d, rfl, h1, h2⟩ := h; exact ⟨c, d, rfl, R.keep h1 hb hB, S.keep h2 hb hB⟩

/-- the cells of a list of things -/
def Chunk {α : Type} (R : Rp α) (w : World) (B : Nat) : List α → List Value → Prop
  | [], xs => xs = []
  | x :: l, xs => ∃ c rest, xs = c ++ rest ∧ R.rep w B x c ∧ Chunk R w B l rest
section
variable {α : Type} {R : Rp α} {w w' : World} {B B' : Nat} {l m : List α} {xs ys : List Value}
theorem Chunk.len (h : Chunk R w B l xs) : xs.length = l.length * R.size := by
  induction l generalizing xs with
  | nil => cases h; simp
  | cons x l ih => obtain ⟨c, rest, rfl, h1, h2⟩ := h; rw [List.length_append, R.len h1, ih h2, List.length_cons, Nat.succ_mul]; omega
theorem Chunk.one (h : Chunk R w B l xs) : ∀ u ∈ xs, u.oneCell' = true := by
  induction l generalizing xs with
  | nil => cases h; simp
  | cons x l ih =>
    obtain ⟨c, rest, rfl, h1, h2⟩ := h
    intro u hu
    rcases List.mem_append.1 hu with hu | hu
    · exact R.one h1 u hu
    · exact ih h2 u hu
theorem Chunk.keep (h : Chunk R w B l xs) (hb : Below B w w') (hB : B ≤ B') : Chunk R w' B' l xs := by
  induction l generalizing xs with
  | nil => exact h
  | cons x l ih => obtain ⟨c, rest, rfl, h1, h2⟩ := h; exact ⟨c, rest, rfl, R.keep h1 hb hB, ih h2⟩
theorem Chunk.nil : Chunk R w B [] [] := rfl
theorem Chunk.app (h : Chunk R w B l xs) (k : Chunk R w B m ys) : Chunk R w B (l ++ m) (xs ++ ys) := by
  induction l generalizing xs with
  | nil => cases h; exact k
  | cons x l ih => obtain ⟨c, rest, rfl, h1, h2⟩ := h; exact ⟨c, rest ++ ys, by rw [List.append_assoc], h1, ih h2⟩
theorem Chunk.snoc {x : α} {c : List Value} (h : Chunk R w B l xs) (k : R.rep w B x c) : Chunk R w B (l ++ [x]) (xs ++ c) := h.app ⟨c, [], by simp, k, rfl⟩
theorem Chunk.get (h : Chunk R w B l xs) (i : Nat) (hi : i < l.length) : ∃ c, R.rep w B l[i] c ∧ ∀ j, j < R.size → xs[i * R.size + j]? = c[j]? := by
  induction l generalizing xs i with
  | nil => simp at hi
  | cons x l ih =>
    obtain ⟨c, rest, rfl, h1, h2⟩ := h
    have hl := R.len h1
    cases i with
    | zero => exact ⟨c, h1, fun j hj => by rw [Nat.zero_mul, Nat.zero_add, List.getElem?_append_left (by omega)]⟩
    | succ i =>
      obtain ⟨c', k1, k2⟩ := ih h2 i (by simpa using hi)
      refine ⟨c', k1, fun j hj => ?_⟩
      rw [List.getElem?_append_right (by rw [hl, Nat.succ_mul]; omega), hl, show (i + 1) * R.size + j - R.size = i * R.size + j from by rw [Nat.succ_mul]; omega]
      exact k2 j hj
theorem chunk_val {β : Type} {f : β → Value} {ok : β → Prop} {h1 : ∀ x, (f x).oneCell' = true} {l : List β} : Chunk (Rp.val f ok h1) w B l xs ↔ xs = l.map f ∧ ∀ x ∈ l, ok x := by
  induction l generalizing xs with
  | nil => simp [Chunk]
  | cons x l ih =>
    constructor
    · rintro ⟨c, rest, rfl, ⟨rfl, h2⟩, h3⟩
      obtain ⟨rfl, h4⟩ := ih.1 h3
      exact ⟨rfl, fun y hy => by rcases List.mem_cons.1 hy with rfl | hy; exact h2; exact h4 y hy⟩
    · rintro ⟨rfl, h2⟩
      exact ⟨[f x], l.map f, rfl, ⟨rfl, h2 x (by simp)⟩, ih.2 ⟨rfl, fun y hy => h2 y (by simp [hy])⟩⟩
end

def Rp.sl {α : Type} (R : Rp α) : Rp (List α) where
  size := 1
  rep w B l cs := ∃ A c xs, cs = [.slice A l.length c] ∧ l.length ≤ c ∧ c ≤ maxLen ∧ Rd w B R.size A l.length xs ∧ Chunk R w B l xs
  len h := by obtain ⟨A, c, xs, rfl, _⟩ := h; rfl
  one h := by obtain ⟨A, c, xs, rfl, _⟩ := h; intro u hu; rw [List.mem_singleton] at hu; rw [hu]; rfl
  keep h hb hB := by obtain ⟨A, c, xs, rfl, h1, h2, h3, h4⟩ := h; exact ⟨A, c, xs, rfl, h1, h2, (h3.below hb).more hB, h4.keep hb hB⟩

/-- a slice value that reads as a list of things -/
def SlR {α : Type} (R : Rp α) (w : World) (B : Nat) (l : List α) (A : Option Addr) (c : Nat) : Prop := l.length ≤ c ∧ c ≤ maxLen ∧ ∃ xs, Rd w B R.size A l.length xs ∧ Chunk R w B l xs
section
variable {α : Type} {R : Rp α} {w w' : World} {B B' c : Nat} {A : Option Addr} {l : List α}
theorem Rp.sl_iff {v : Value} : R.sl.rep w B l [v] ↔ ∃ A c, v = .slice A l.length c ∧ SlR R w B l A c := by
  constructor
  · rintro ⟨A, c, xs, e, h1, h2, h3, h4⟩; injection e with e; exact ⟨A, c, e, h1, h2, xs, h3, h4⟩
  · rintro ⟨A, c, rfl, h1, h2, xs, h3, h4⟩; exact ⟨A, c, xs, rfl, h1, h2, h3, h4⟩
theorem SlR.keep (h : SlR R w B l A c) (hb : Below B w w') (hB : B ≤ B') : SlR R w' B' l A c := by
  obtain ⟨h1, h2, xs, h3, h4⟩ := h; exact ⟨h1, h2, xs, (h3.below hb).more hB, h4.keep hb hB⟩
theorem SlR.mono (h : SlR R w B l A c) (hB : B ≤ B') : SlR R w B' l A c := h.keep (Below.refl _ _) hB
theorem SlR.drewN (h : SlR R w B l A c) (k : Nat) : SlR R (w.drewN k) B l A c := h.keep (below_drewN (Below.refl _ _) k) (Nat.le_refl _)
theorem SlR.get (h : SlR R w B l A c) {i : Nat} (hi : i < l.length) : ∃ a cs, A = some a ∧ a.block < B ∧ R.rep w B l[i] cs ∧ ∀ j, j < R.size → w.cell? (a.add (i * R.size + j)) = cs[j]? := by
  obtain ⟨_, _, xs, h3, h4⟩ := h
  obtain ⟨a, rfl, hb, hc⟩ := h3.2 (by omega)
  obtain ⟨cs, h5, h6⟩ := h4.get i hi
  refine ⟨a, cs, rfl, hb, h5, fun j hj => ?_⟩
  have hl : j < cs.length := by rw [R.len h5]; exact hj
  have e := h6 j hj
  rw [List.getElem?_eq_getElem hl] at e
  rw [List.getElem?_eq_getElem hl]
  exact hc _ _ e
theorem SlR.nil : SlR R w B [] none 0 := ⟨Nat.le_refl _, by simp [maxLen], [], Rd.nil, rfl⟩
theorem SlR.own {base : Nat} {e : TypeId} {xs : List Value} (h : w.ownsRow base e R.size (.slice A l.length c) l.length xs) (hx : Chunk R w w.heap.size l xs) : SlR R w w.heap.size l A c := by
  have := Rd.own h
  obtain ⟨A', c', e', h1, h2, _⟩ : ∃ A' c', (Value.slice A l.length c) = .slice A' l.length c' ∧ l.length ≤ c' ∧ c' ≤ maxLen ∧ l.length ≤ maxLen := own_form h
  injection e' with _ _ e'
  exact ⟨by omega, by omega, xs, this, hx⟩
end

/-! ### what an argument reads as -/
def Opens {α : Type} (P : Program) (t : TypeId) (R : Rp α) : Prop :=
  ∀ (H : Type) (enc : TypeId × Value → H) (w : World) (base : Nat) (spare : Nat → Bool) (held : Bool) (fuel : Nat) (cs : List Value) (x : DataW H × List MemPlace), DataW.trod enc P w base spare held fuel t cs = some x → ∃ y, R.rep w w.heap.size y cs
section
variable {P : Program} {t : TypeId}
theorem opens_slice {α : Type} {R : Rp α} {e : TypeId} (ht : P.underlying t = some (.slice e)) (hC : P.cellsOf e = R.size) (hp : 0 < R.size) (he : Opens P e R) : Opens P t R.sl := by
  intro H enc w base spare held fuel cs x h
  rcases open_slice ht h with ⟨rfl, _⟩ | ⟨a, len, cap, m, n, D, Pl, rfl, hb, hl, hm, hmm, hx, hi⟩
  · exact ⟨[], none, 0, [], rfl, Nat.le_refl _, by simp [maxLen], Rd.nil, rfl⟩
  · have key : ∀ i, i < len → ∃ yc : α × List Value, R.rep w w.heap.size yc.1 yc.2 ∧ ∀ j, j < R.size → w.cell? (a.add (i * R.size + j)) = yc.2[j]? := by
      intro i hil
      obtain ⟨cs', hc, ht'⟩ := hi i (by split at hmm <;> omega)
      obtain ⟨_, hcl, hat⟩ := World.cells?_some hc
      obtain ⟨y, hy⟩ := he H enc w base spare held n cs' _ ht'
      refine ⟨(y, cs'), hy, fun j hj => ?_⟩
      have := hat j (by omega)
      rw [Go.Deep.add_add, hC] at this
      exact this
    have build : ∀ k, k ≤ len → ∃ (l : List α) (xs : List Value), l.length = k ∧ Chunk R w w.heap.size l xs ∧ ∀ i j, i < k → j < R.size → w.cell? (a.add (i * R.size + j)) = xs[i * R.size + j]? := by
      intro k
      induction k with
      | zero => intro _; exact ⟨[], [], rfl, rfl, fun i j hi => by omega⟩
      | succ k ih =>
        intro hk
        obtain ⟨l, xs, rfl, h1, h2⟩ := ih (by omega)
        obtain ⟨⟨y, c⟩, h3, h4⟩ := key l.length (by omega)
        refine ⟨l ++ [y], xs ++ c, by simp, h1.snoc h3, fun i j hi hj => ?_⟩
        have hxl := h1.len
        have hcl := R.len h3
        by_cases e : i = l.length
        · subst e
          rw [List.getElem?_append_right (by omega), hxl, Nat.add_sub_cancel_left]; exact h4 j hj
        · have : (i + 1) * R.size ≤ l.length * R.size := Nat.mul_le_mul_right _ (by omega)
          rw [Nat.succ_mul] at this
          rw [List.getElem?_append_left (by omega)]; exact h2 i j (by omega) hj
    obtain ⟨l, xs, rfl, h1, h2⟩ := build len (Nat.le_refl _)
    refine ⟨l, some a, cap, xs, rfl, hl, hm, ⟨h1.len, fun hn => ⟨a, rfl, ?_, fun j u hu => ?_⟩⟩, h1⟩
    · have := h2 0 0 hn hp
      rw [Nat.zero_mul, Nat.zero_add] at this
      have hx0 : 0 < xs.length := by rw [h1.len]; exact Nat.mul_pos hn hp
      rw [List.getElem?_eq_getElem hx0] at this
      have := World.block_lt_of_cell? w _ this
      rwa [block_add] at this
    · have hj : j < xs.length := (List.getElem?_eq_some_iff.1 hu).1
      rw [h1.len] at hj
      have hd : j / R.size < l.length := Nat.div_lt_of_lt_mul (by rw [Nat.mul_comm]; exact hj)
      have := h2 (j / R.size) (j % R.size) hd (Nat.mod_lt _ hp)
      rw [Nat.mul_comm, Nat.div_add_mod] at this
      rw [this]; exact hu
theorem opens_string (ht : P.underlying t = some .string) (h1 : ∀ x : ByteArray, (Value.string x).oneCell' = true) : Opens P t (Rp.val Value.string (fun s => s.size ≤ maxLen) h1) := by
  intro H enc w base spare held fuel cs x h
  obtain ⟨s, rfl, _, hs⟩ := DataW.trod_string ht h
  exact ⟨s, rfl, hs⟩
theorem opens_int {k : IntKind} (ht : P.underlying t = some (.int k)) (h1 : ∀ x : Int, (Value.int k x).oneCell' = true) : Opens P t (Rp.val (Value.int k) (fun z => (Lit.int k z).wf = true) h1) := by
  intro H enc w base spare held fuel cs x h
  obtain ⟨s, rfl, _, hs⟩ := DataW.trod_int ht h
  exact ⟨s, rfl, hs⟩
theorem opens_two {α β γ : Type} {R : Rp β} {S : Rp γ} {p : α → β} {q : α → γ} {t : TypeId} {f0 f1 : Field} (ht : P.underlying t = some (.struct #[f0, f1])) (ho0 : f0.offset = 0) (ho1 : f1.offset = R.size) (hs0 : P.cellsOf f0.type = R.size) (hs1 : P.cellsOf f1.type = S.size) (hC : P.cellsOf t = R.size + S.size)
    (h0 : Opens P f0.type R) (h1 : Opens P f1.type S) (mk : β → γ → α) (hp : ∀ a b, p (mk a b) = a) (hq : ∀ a b, q (mk a b) = b) : Opens P t (Rp.two p q R S) := by
  intro H enc w base spare held fuel cs x h
  obtain ⟨xs, n, _, hx, hlen, hxl, hg⟩ := DataW.trod_struct ht h
  rw [hC] at hlen
  match xs, hxl with
  | [a0, a1], _ =>
    have g0 := hg 0 f0 rfl
    have g1 := hg 1 f1 rfl
    rw [ho0, hs0, List.drop_zero] at g0
    rw [ho1, hs1] at g1
    obtain ⟨b0, r0⟩ := h0 H enc w base spare held n _ _ g0
    obtain ⟨b1, r1⟩ := h1 H enc w base spare held n _ _ g1
    rw [List.take_of_length_le (by rw [List.length_drop]; omega)] at r1
    exact ⟨mk b0 b1, _, _, (List.take_append_drop R.size cs).symm, by rw [hp]; exact r0, by rw [hq]; exact r1⟩
theorem opens_three {α β γ δ : Type} {R : Rp β} {S : Rp γ} {T : Rp δ} {p : α → β} {q : α → γ} {r : α → δ} {t : TypeId} {f0 f1 f2 : Field} (ht : P.underlying t = some (.struct #[f0, f1, f2])) (ho0 : f0.offset = 0) (ho1 : f1.offset = R.size) (ho2 : f2.offset = R.size + S.size) (hs0 : P.cellsOf f0.type = R.size) (hs1 : P.cellsOf f1.type = S.size) (hs2 : P.cellsOf f2.type = T.size) (hC : P.cellsOf t = R.size + S.size + T.size)
    (h0 : Opens P f0.type R) (h1 : Opens P f1.type S) (h2 : Opens P f2.type T) (mk : β → γ → δ → α) (hp : ∀ a b c, p (mk a b c) = a) (hq : ∀ a b c, q (mk a b c) = b) (hr : ∀ a b c, r (mk a b c) = c) : Opens P t (Rp.two p id R (Rp.two q r S T)) := by
  intro H enc w base spare held fuel cs x h
  obtain ⟨xs, n, _, hx, hlen, hxl, hg⟩ := DataW.trod_struct ht h
  rw [hC] at hlen
  match xs, hxl with
  | [a0, a1, a2], _ =>
    have g0 := hg 0 f0 rfl
    have g1 := hg 1 f1 rfl
    have g2 := hg 2 f2 rfl
    rw [ho0, hs0, List.drop_zero] at g0
    rw [ho1, hs1] at g1
    rw [ho2, hs2] at g2
    obtain ⟨b0, r0⟩ := h0 H enc w base spare held n _ _ g0
    obtain ⟨b1, r1⟩ := h1 H enc w base spare held n _ _ g1
    obtain ⟨b2, r2⟩ := h2 H enc w base spare held n _ _ g2
    rw [List.take_of_length_le (by rw [List.length_drop]; omega), ← List.drop_drop] at r2
    exact ⟨mk b0 b1 b2, _, _, (List.take_append_drop R.size cs).symm, by rw [hp]; exact r0, _, _, (List.take_append_drop S.size _).symm, by simp only [id_eq]; rw [hq]; exact r1, by simp only [id_eq]; rw [hr]; exact r2⟩
theorem opens_four {α β γ δ ε : Type} {R : Rp β} {S : Rp γ} {T : Rp δ} {U : Rp ε} {p : α → β} {q : α → γ} {r : α → δ} {s : α → ε} {t : TypeId} {f0 f1 f2 f3 : Field} (ht : P.underlying t = some (.struct #[f0, f1, f2, f3])) (ho0 : f0.offset = 0) (ho1 : f1.offset = R.size) (ho2 : f2.offset = R.size + S.size) (ho3 : f3.offset = R.size + S.size + T.size) (hs0 : P.cellsOf f0.type = R.size) (hs1 : P.cellsOf f1.type = S.size) (hs2 : P.cellsOf f2.type = T.size) (hs3 : P.cellsOf f3.type = U.size) (hC : P.cellsOf t = R.size + S.size + T.size + U.size)
    (h0 : Opens P f0.type R) (h1 : Opens P f1.type S) (h2 : Opens P f2.type T) (h3 : Opens P f3.type U) (mk : β → γ → δ → ε → α) (hp : ∀ a b c d, p (mk a b c d) = a) (hq : ∀ a b c d, q (mk a b c d) = b) (hr : ∀ a b c d, r (mk a b c d) = c) (hs : ∀ a b c d, s (mk a b c d) = d) : Opens P t (Rp.two p id R (Rp.two q id S (Rp.two r s T U))) := by
  intro H enc w base spare held fuel cs x h
  obtain ⟨xs, n, _, hx, hlen, hxl, hg⟩ := DataW.trod_struct ht h
  rw [hC] at hlen
  match xs, hxl with
  | [a0, a1, a2, a3], _ =>
    have g0 := hg 0 f0 rfl
    have g1 := hg 1 f1 rfl
    have g2 := hg 2 f2 rfl
    have g3 := hg 3 f3 rfl
    rw [ho0, hs0, List.drop_zero] at g0
    rw [ho1, hs1] at g1
    rw [ho2, hs2] at g2
    rw [ho3, hs3] at g3
    obtain ⟨b0, r0⟩ := h0 H enc w base spare held n _ _ g0
    obtain ⟨b1, r1⟩ := h1 H enc w base spare held n _ _ g1
    obtain ⟨b2, r2⟩ := h2 H enc w base spare held n _ _ g2
    obtain ⟨b3, r3⟩ := h3 H enc w base spare held n _ _ g3
    rw [← List.drop_drop] at r2
    rw [List.take_of_length_le (by rw [List.length_drop]; omega), ← List.drop_drop, ← List.drop_drop] at r3
    exact ⟨mk b0 b1 b2 b3, _, _, (List.take_append_drop R.size cs).symm, by rw [hp]; exact r0, _, _, (List.take_append_drop S.size _).symm, by simp only [id_eq]; rw [hq]; exact r1, _, _, (List.take_append_drop T.size _).symm, by simp only [id_eq]; rw [hr]; exact r2, by simp only [id_eq]; rw [hs]; exact r3⟩
theorem open_arg_sl {α : Type} {R : Rp α} {H : Type} {enc : TypeId × Value → H} {w : World} {base : Nat} {spare : Nat → Bool} {held : Bool} {r : Reach} {b0 : Nat} {e : TypeId} {v : Value} {d : DataW H} {ps : List MemPlace} (ht : P.underlying t = some (.slice e)) (hC : P.cellsOf e = R.size) (hp : 0 < R.size) (he : Opens P e R)
    (hv : Value.okWide P w r b0 t v) (h : DataW.Trod enc P w base spare held t v d ps) : ∃ l A c, v = .slice A l.length c ∧ SlR R w w.heap.size l A c := by
  obtain ⟨a, len, cap, rfl⟩ := okWide_slice ht hv
  obtain ⟨fuel, hf⟩ := h
  obtain ⟨y, hy⟩ := opens_slice ht hC hp he H enc w base spare held fuel _ _ hf
  obtain ⟨A, c, xs, e1, h1, h2, h3, h4⟩ := hy
  simp [Value.cells] at e1
  obtain ⟨rfl, rfl, rfl⟩ := e1
  exact ⟨y, _, _, rfl, h1, h2, xs, h3, h4⟩
end
end Go.Proofs.Ytfhmaincnlaapaa
