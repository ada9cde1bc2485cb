/-
  A BLOCK THAT IS KNOWN WHOLE; ONLY ONE BLOCK HAS TURNED.
-/
import Derived.Test.YtpnolgghbenekaaWords
namespace Go.Proofs.Ytpnolgghbenekaa
open Go.ChangeShapes Go.WideShapes Go.ChangeAt Go.RowKit
set_option linter.unusedVariables false

/-- block g is just the cells cs of type t, none frozen -/
def Blk (w : World) (g : Nat) (t : TypeId) (cs : Array Value) : Prop := w.heap[g]? = some (.cells cs t (0, 0))
/-- a world with some draws more -/
def Drw (w w' : World) : Prop := ∃ k, w' = w.drewN k
theorem Drw.refl (w : World) : Drw w w := ⟨0, rfl⟩
theorem Drw.trans {a b c : World} (h : Drw a b) (k : Drw b c) : Drw a c := by
  obtain ⟨i, rfl⟩ := h; obtain ⟨j, rfl⟩ := k; exact ⟨_, World.drewN_drewN _ _ _⟩
theorem Drw.drew {a b : World} (h : Drw a b) : Drw a b.drew := h.trans ⟨1, rfl⟩
theorem Drw.drewN {a b : World} (h : Drw a b) (k : Nat) : Drw a (b.drewN k) := h.trans ⟨k, rfl⟩
theorem Drw.below {B : Nat} {a b c : World} (h : Drw b c) (k : Below B a b) : Below B a c := by obtain ⟨i, rfl⟩ := h; exact below_drewN k i

section
variable {w w' : World} {g : Nat} {t : TypeId} {cs : Array Value}
theorem Blk.lt (h : Blk w g t cs) : g < w.heap.size := by
  rcases Nat.lt_or_ge g w.heap.size with hlt | hge
  · exact hlt
  · unfold Blk at h; rw [Array.getElem?_eq_none hge] at h; cases h
theorem Blk.cell (h : Blk w g t cs) (i : Nat) : w.cell? ⟨g, i, none⟩ = cs[i]? := cell_of_row w g i cs t (0, 0) h
theorem Blk.frozen (h : Blk w g t cs) (i : Nat) : w.frozen? ⟨g, i, none⟩ = false := by
  unfold Blk at h
  simp [World.frozen?, h]
theorem Blk.new (w : World) (t : TypeId) (cs : Array Value) : Blk (w.alloc (.cells cs t)) w.heap.size t cs := heap_alloc_new w _
theorem Blk.drew (h : Blk w g t cs) : Blk w.drew g t cs := h
theorem Blk.drewN (h : Blk w g t cs) (n : Nat) : Blk (w.drewN n) g t cs := h
theorem Blk.drw (h : Blk w g t cs) (k : Drw w w') : Blk w' g t cs := by obtain ⟨n, rfl⟩ := k; exact h
theorem Blk.alloc (h : Blk w g t cs) (o : Obj) : Blk (w.alloc o) g t cs := (Below.heap_alloc w o g h.lt).trans h
theorem Blk.set_ (h : Blk w g t cs) (i : Nat) (u : Value) : Blk (w.setCell ⟨g, i, none⟩ u) g t (cs.setIfInBounds i u) := by
  unfold Blk at h ⊢
  simp [World.setCell, Array.getElem?_modify, h]
theorem Blk.far (h : Blk w g t cs) {p : Addr} (hp : g ≠ p.block) (u : Value) : Blk (w.setCell p u) g t cs := (Below.heap_setCell w p u g hp).trans h
theorem Blk.below {B : Nat} (h : Blk w g t cs) (hb : Below B w w') (hg : g < B) : Blk w' g t cs := (hb.block g hg).trans h
theorem Blk.grown {row : Option Nat} (h : Blk w g t cs) (hb : w.grownBy w' row) (hg : some g ≠ row) : Blk w' g t cs := (hb.block g h.lt hg).trans h
theorem Blk.ne_ {g' : Nat} {t' : TypeId} {cs' : Array Value} (h : Blk w g t cs) (h' : Blk w g' t' cs') (hne : t ≠ t') : g ≠ g' := by
  rintro rfl
  unfold Blk at h h'
  rw [h] at h'
  injection h' with h'
  injection h' with _ ht
  exact hne ht
theorem own_blk_ne {base : Nat} {e : TypeId} {size n : Nat} {v : Value} {xs : List Value} (h : w.ownsRow base e size v n xs) (hg : Blk w g t cs) (hne : e ≠ t) : v.ownBlock ≠ some g := by
  rcases h.2 with ⟨rfl, _⟩ | ⟨g', cap, cur, rfl, _, hh, _⟩
  · simp [Value.ownBlock]
  · intro he
    have : g' = g := by simpa [Value.ownBlock] using he
    subst this
    exact Blk.ne_ (t := e) hh hg hne rfl
theorem Appd.blk {v v' : Value} (h : Appd w w' v v') (hg : Blk w g t cs) (hne : v.ownBlock ≠ some g) : Blk w' g t cs := hg.grown h.1 (fun e => hne e.symm)
end

/-- of what was there only block g has turned -/
def Only (g : Nat) (a w : World) : Prop := a.grownBy w (some g)
section
variable {a b c w : World} {g : Nat}
theorem Only.refl (g : Nat) (a : World) : Only g a a := World.grownBy.refl a _
theorem Only.trans (h : Only g a b) (k : Only g b c) : Only g a c :=
  ⟨k.os.trans h.os, k.tape.trans h.tape, k.output.trans h.output, Nat.le_trans h.size k.size, fun i hi hne => (k.block i (Nat.lt_of_lt_of_le hi h.size) hne).trans (h.block i hi hne)⟩
theorem Only.drewN (h : Only g a w) (n : Nat) : Only g a (w.drewN n) := ⟨h.os, h.tape, h.output, h.size, h.block⟩
theorem Only.drew (h : Only g a w) : Only g a w.drew := ⟨h.os, h.tape, h.output, h.size, h.block⟩
theorem Only.drw (h : Only g a b) (k : Drw b c) : Only g a c := by obtain ⟨n, rfl⟩ := k; exact h.drewN n
theorem Only.alloc (h : Only g a w) (o : Obj) : Only g a (w.alloc o) :=
  ⟨h.os, h.tape, h.output, Nat.le_trans h.size (by simp), fun i hi hne => (Below.heap_alloc w o i (Nat.lt_of_lt_of_le hi h.size)).trans (h.block i hi hne)⟩
theorem Only.set_ (h : Only g a w) {p : Addr} (hp : p.block = g ∨ a.heap.size ≤ p.block) (u : Value) : Only g a (w.setCell p u) :=
  ⟨h.os, h.tape, h.output, by simpa [World.setCell] using h.size, fun i hi hne => (Below.heap_setCell w p u i (by
    rintro rfl
    rcases hp with hp | hp
    · exact hne (by rw [hp])
    · omega)).trans (h.block i hi hne)⟩
theorem Only.of_below (h : Below a.heap.size a w) (g : Nat) : Only g a w := ⟨h.os, h.tape, h.output, h.size, fun i hi _ => h.block i hi⟩
theorem Only.belowT (h : Only g a b) (k : Below b.heap.size b c) : Only g a c := h.trans (Only.of_below k g)
theorem Only.appd {v v' : Value} (h : Only g a b) (k : Appd b c v v') (hv : ∀ j, v.ownBlock = some j → j = g ∨ a.heap.size ≤ j) : Only g a c :=
  ⟨k.1.os.trans h.os, k.1.tape.trans h.tape, k.1.output.trans h.output, Nat.le_trans h.size k.1.size, fun i hi hne => (k.1.block i (Nat.lt_of_lt_of_le hi h.size) (by
    intro e
    rcases hv i e.symm with e' | e'
    · exact hne (by rw [e'])
    · omega)).trans (h.block i hi hne)⟩
theorem Only.below {B : Nat} (h : Only g a b) (hB : B ≤ g) (hs : B ≤ a.heap.size) : Below B a b :=
  ⟨h.os, h.tape, h.output, h.size, fun i hi => h.block i (by omega) (by intro e; injection e with e; omega)⟩
theorem Only.blk {t : TypeId} {g' : Nat} {cs : Array Value} (h : Only g a b) (hb : Blk a g' t cs) (hne : g' ≠ g) : Blk b g' t cs := hb.grown h (by intro e; injection e with e; exact hne e)
theorem Only.rd {B size n : Nat} {A : Option Addr} {xs : List Value} (h : Only g a b) (hr : Rd a B size A n xs) (hB : B ≤ g) (hs : B ≤ a.heap.size) : Rd b B size A n xs := hr.below (h.below hB hs)
/-- an owned row whose block is not g -/
theorem Only.own {base n : Nat} {e : TypeId} {size : Nat} {v : Value} {xs : List Value} (h : Only g a b) (ho : a.ownsRow base e size v n xs) (hne : v.ownBlock ≠ some g) : b.ownsRow base e size v n xs := by
  refine ⟨ho.1, ?_⟩
  rcases ho.2 with h2 | ⟨g', cap, cur, rfl, hg, hh, r⟩
  · exact .inl h2
  · refine .inr ⟨g', cap, cur, rfl, hg, ?_, r⟩
    rw [h.block g' (by have := (Array.getElem?_eq_some_iff.1 hh).1; omega) (by intro e; exact hne e)]; exact hh
end
theorem belA {a b : World} (h : Below a.heap.size a b) (o : Obj) : Below a.heap.size a (b.alloc o) := h.alloc h.size o
theorem belW {a b c : World} (h : Below a.heap.size a b) (k : Drw b c) : Below a.heap.size a c := k.below h
theorem belS {a b : World} (h : Below a.heap.size a b) {p : Addr} (hp : a.heap.size ≤ p.block) (u : Value) : Below a.heap.size a (b.setCell p u) := h.setCell hp u
/-- rules for the walk: draws outermost (laid into the context ahead of a walk) -/
theorem sdN : ∀ (w : World) (n : Nat) (a : Addr) (v : Value), (w.drewN n).setCell a v = (w.setCell a v).drewN n := fun _ _ _ _ => rfl
theorem adN : ∀ (w : World) (n : Nat) (o : Obj), (w.drewN n).alloc o = (w.alloc o).drewN n := fun _ _ _ => rfl
/-- a quiet call inside a region that draws its order -/
theorem qcall {P : Program} {f : FuncId} {args : Array Value} {w : World} {n : Nat} {v : Value}
    (h : Calls P f args (w.drewN n) fun e w' => e = .returned v ∧ Drw (w.drewN n) w') : Calls P f args (w.drewN n) fun e w'' => e = .returned v ∧ ∃ m, w'' = w.drewN m :=
  h.mono fun _ _ ⟨he, m, hm⟩ => ⟨he, n + m, by rw [hm, World.drewN_drewN]⟩
theorem qcallS {P : Program} {f : FuncId} {args : Array Value} {w : World} {n : Nat} {v : Value}
    (h : Calls P f args (w.drewN n) fun e w' => e = .returned v ∧ w.drewN n = w') : Calls P f args (w.drewN n) fun e w'' => e = .returned v ∧ ∃ m, w'' = w.drewN m :=
  h.mono fun _ _ ⟨he, hm⟩ => ⟨he, n, hm.symm⟩
theorem Below.toOnly {a b : World} (g : Nat) (h : Below a.heap.size a b) : Only g a b := Only.of_below h g
end Go.Proofs.Ytpnolgghbenekaa
