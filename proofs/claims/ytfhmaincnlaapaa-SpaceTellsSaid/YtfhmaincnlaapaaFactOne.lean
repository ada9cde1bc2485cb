/-
  fact.one.
-/
import Derived.Test.YtfhmaincnlaapaaFactGetPure
import Derived.Test.YtfhmaincnlaapaaRefNodesW
import Derived.Test.YtfhmaincnlaapaaFactLight
import Derived.Deep.RegionLawGrows
namespace Go.Proofs.Ytfhmaincnlaapaa
open Go.ChangeShapes Go.WideShapes Go.ChangeAt Go.RowKit
set_option linter.unusedVariables false

theorem info_int : (Try.prog.info? 3).map (fun i => (i.zero, i.size, i.bytes)) = some (some (.int .i64 0), 1, 8) := by kernel_rfl
theorem info_i64 : (Try.prog.info? 2).map (fun i => (i.zero, i.size, i.bytes)) = some (some (.int .i64 0), 1, 8) := by kernel_rfl
theorem info_f64 : (Try.prog.info? 115).map (fun i => (i.zero, i.size, i.bytes)) = some (some (.float .f64 0), 1, 8) := by kernel_rfl
theorem i64s_one (l : List Int) : ∀ u ∈ i64s l, u.oneCell' = true := by intro u hu; obtain ⟨x, _, rfl⟩ := List.mem_map.1 hu; rfl
theorem f64s_one (l : List Nat) : ∀ u ∈ f64s l, u.oneCell' = true := by intro u hu; obtain ⟨x, _, rfl⟩ := List.mem_map.1 hu; rfl
/-- the element that an append lays behind -/
theorem rd_new (w : World) (t : TypeId) (u : Value) : Rd (w.alloc (.cells #[u] t)) (w.heap.size + 1) 1 (some ⟨w.heap.size, 0, none⟩) 1 [u] :=
  ⟨rfl, fun _ => ⟨_, rfl, Nat.lt_succ_self _, fun j x hj => by
    cases j with
    | zero => rw [add_zero', World.cell?_alloc_mark w #[u] t (0, 0) 0]; simpa using hj
    | succ j => simp at hj⟩⟩
/-- a fact that is being read -/
structure OneRel (w wr : World) (g : Nat) (t : List UInt8) (SV : Array Value) (v0 v1 v2 : Value) (a b : List Int) (c : List Nat) (p e : Nat) : Prop where
  s : Blk wr w.heap.size 26 SV
  r : Blk wr (w.heap.size + 1) 79 #[.slice none 0 0, .slice none 0 0, .slice none 0 0]
  f : Blk wr (w.heap.size + 1 + 1) 79 #[v0, v1, v2]
  o0 : wr.ownsRow (w.heap.size + 1 + 1 + 1) 3 1 v0 a.length (i64s a)
  o1 : wr.ownsRow (w.heap.size + 1 + 1 + 1) 2 1 v1 b.length (i64s b)
  o2 : wr.ownsRow (w.heap.size + 1 + 1 + 1) 115 1 v2 c.length (f64s c)
  i : InS wr g t p e
  n : Only g w wr
section
variable {w wr w2 w3 : World} {g : Nat} {t : List UInt8} {SV : Array Value} {v0 v1 v2 v' : Value} {a b : List Int} {c : List Nat} {p e p' e' : Nat}
theorem OneRel.lt (h : OneRel w wr g t SV v0 v1 v2 a b c p e) : w.heap.size + 1 + 1 + 1 ≤ wr.heap.size := h.f.lt
theorem OneRel.drew (h : OneRel w wr g t SV v0 v1 v2 a b c p e) : OneRel w wr.drew g t SV v0 v1 v2 a b c p e :=
  ⟨h.s, h.r, h.f, own_drewN h.o0 1, own_drewN h.o1 1, own_drewN h.o2 1, h.i, h.n.drew⟩
theorem own_new {w : World} {base n : Nat} {e : TypeId} {size : Nat} {v : Value} {xs : List Value} (h : w.ownsRow base e size v n xs) (o : Obj) : (w.alloc o).ownsRow base e size v n xs := h.alloc o
theorem OneRel.alloc (h : OneRel w wr g t SV v0 v1 v2 a b c p e) (o : Obj) : OneRel w (wr.alloc o) g t SV v0 v1 v2 a b c p e :=
  ⟨h.s.alloc o, h.r.alloc o, h.f.alloc o, h.o0.alloc o, h.o1.alloc o, h.o2.alloc o, h.i.below (belA (belR wr) o) h.i.lt, h.n.alloc o⟩
theorem own_far {w : World} {base n g : Nat} {e : TypeId} {size : Nat} {v : Value} {xs : List Value} (h : w.ownsRow base e size v n xs) (hg : g < base) : v.ownBlock ≠ some g := fun he => by have := (h.lt g he).1; omega
theorem OneRel.only (h : OneRel w wr g t SV v0 v1 v2 a b c p e) (hg : g < w.heap.size) (k : Only g wr w2) (hi : InS w2 g t p' e') : OneRel w w2 g t SV v0 v1 v2 a b c p' e' :=
  ⟨k.blk h.s (by omega), k.blk h.r (by omega), k.blk h.f (by omega), k.own h.o0 (own_far h.o0 (by omega)), k.own h.o1 (own_far h.o1 (by omega)), k.own h.o2 (own_far h.o2 (by omega)), hi, h.n.trans k⟩
theorem OneRel.appd (h : OneRel w wr g t SV v0 v1 v2 a b c p e) (hg : g < w.heap.size) {u : Value} (k : Appd wr w3 u v') (hu : ∀ j, u.ownBlock = some j → w.heap.size + 1 + 1 + 1 ≤ j) :
    Blk w3 w.heap.size 26 SV ∧ Blk w3 (w.heap.size + 1) 79 #[.slice none 0 0, .slice none 0 0, .slice none 0 0] ∧ Blk w3 (w.heap.size + 1 + 1) 79 #[v0, v1, v2] ∧ InS w3 g t p e ∧ Only g w w3 := by
  have hb : Below (w.heap.size + 1 + 1 + 1) wr w3 := (Below.refl _ _).grown k.1 h.lt hu
  exact ⟨h.s.below hb (by omega), h.r.below hb (by omega), h.f.below hb (by omega), h.i.below hb (by omega), h.n.appd k fun j hj => .inr (by have := hu j hj; omega)⟩
theorem OneRel.put0 (h : OneRel w wr g t SV v0 v1 v2 a b c p e) (hg : g < w.heap.size) (x : Int) (ho : w3.ownsRow (w.heap.size + 1 + 1 + 1) 3 1 v' (a.length + 1) (i64s a ++ [.int .i64 x])) (k : Appd wr w3 v0 v') :
    Blk w3 (w.heap.size + 1 + 1) 79 #[v0, v1, v2] ∧ OneRel w (w3.setCell ⟨w.heap.size + 1 + 1, 0, none⟩ v') g t SV v' v1 v2 (a ++ [x]) b c p e := by
  obtain ⟨hs, hr, hf, hi, hn⟩ := h.appd hg k fun j hj => (h.o0.lt j hj).1
  have h1 := k.kept h.o1 (own_own_ne h.o1 h.o0 (by decide)); have h2 := k.kept h.o2 (own_own_ne h.o2 h.o0 (by decide))
  have hset := Only.set1 w3 (w.heap.size + 1 + 1) 0 v'
  have hbel : Below (w.heap.size + 1 + 1) w3 (w3.setCell ⟨w.heap.size + 1 + 1, 0, none⟩ v') := (Below.refl (w.heap.size + 1 + 1) w3).setCell (p := ⟨w.heap.size + 1 + 1, 0, none⟩) (Nat.le_refl _) v'
  refine ⟨hf, hset.blk hs (by omega), hset.blk hr (by omega), by simpa using hf.set_ 0 v', ?_, hset.own h1 (own_far h1 (by omega)), hset.own h2 (own_far h2 (by omega)), hi.below hbel (by omega), hn.set_ (.inr (by simp only; omega)) _⟩
  have := hset.own ho (own_far ho (by omega))
  simpa [i64s] using this
theorem OneRel.put1 (h : OneRel w wr g t SV v0 v1 v2 a b c p e) (hg : g < w.heap.size) (x : Int) (ho : w3.ownsRow (w.heap.size + 1 + 1 + 1) 2 1 v' (b.length + 1) (i64s b ++ [.int .i64 x])) (k : Appd wr w3 v1 v') :
    Blk w3 (w.heap.size + 1 + 1) 79 #[v0, v1, v2] ∧ OneRel w (w3.setCell ⟨w.heap.size + 1 + 1, 1, none⟩ v') g t SV v0 v' v2 a (b ++ [x]) c p e := by
  obtain ⟨hs, hr, hf, hi, hn⟩ := h.appd hg k fun j hj => (h.o1.lt j hj).1
  have h1 := k.kept h.o0 (own_own_ne h.o0 h.o1 (by decide)); have h2 := k.kept h.o2 (own_own_ne h.o2 h.o1 (by decide))
  have hset := Only.set1 w3 (w.heap.size + 1 + 1) 1 v'
  have hbel : Below (w.heap.size + 1 + 1) w3 (w3.setCell ⟨w.heap.size + 1 + 1, 1, none⟩ v') := (Below.refl (w.heap.size + 1 + 1) w3).setCell (p := ⟨w.heap.size + 1 + 1, 1, none⟩) (Nat.le_refl _) v'
  refine ⟨hf, hset.blk hs (by omega), hset.blk hr (by omega), by simpa using hf.set_ 1 v', hset.own h1 (own_far h1 (by omega)), ?_, hset.own h2 (own_far h2 (by omega)), hi.below hbel (by omega), hn.set_ (.inr (by simp only; omega)) _⟩
  have := hset.own ho (own_far ho (by omega))
  simpa [i64s] using this
theorem OneRel.put2 (h : OneRel w wr g t SV v0 v1 v2 a b c p e) (hg : g < w.heap.size) (x : Nat) (ho : w3.ownsRow (w.heap.size + 1 + 1 + 1) 115 1 v' (c.length + 1) (f64s c ++ [.float .f64 x])) (k : Appd wr w3 v2 v') :
    Blk w3 (w.heap.size + 1 + 1) 79 #[v0, v1, v2] ∧ OneRel w (w3.setCell ⟨w.heap.size + 1 + 1, 2, none⟩ v') g t SV v0 v1 v' a b (c ++ [x]) p e := by
  obtain ⟨hs, hr, hf, hi, hn⟩ := h.appd hg k fun j hj => (h.o2.lt j hj).1
  have h1 := k.kept h.o0 (own_own_ne h.o0 h.o2 (by decide)); have h2 := k.kept h.o1 (own_own_ne h.o1 h.o2 (by decide))
  have hset := Only.set1 w3 (w.heap.size + 1 + 1) 2 v'
  have hbel : Below (w.heap.size + 1 + 1) w3 (w3.setCell ⟨w.heap.size + 1 + 1, 2, none⟩ v') := (Below.refl (w.heap.size + 1 + 1) w3).setCell (p := ⟨w.heap.size + 1 + 1, 2, none⟩) (Nat.le_refl _) v'
  refine ⟨hf, hset.blk hs (by omega), hset.blk hr (by omega), by simpa using hf.set_ 2 v', hset.own h1 (own_far h1 (by omega)), hset.own h2 (own_far h2 (by omega)), ?_, hi.below hbel (by omega), hn.set_ (.inr (by simp only; omega)) _⟩
  have := hset.own ho (own_far ho (by omega))
  simpa [f64s] using this
theorem OneRel.fin (h : OneRel w wr g t SV v0 v1 v2 a b c p e) (hg : g < w.heap.size) :
    (((wr.setCell ⟨w.heap.size + 1, 0, none⟩ v0).setCell ⟨w.heap.size + 1, 1, none⟩ v1).setCell ⟨w.heap.size + 1, 2, none⟩ v2).ownsRow w.heap.size 3 1 v0 a.length (i64s a) ∧
    (((wr.setCell ⟨w.heap.size + 1, 0, none⟩ v0).setCell ⟨w.heap.size + 1, 1, none⟩ v1).setCell ⟨w.heap.size + 1, 2, none⟩ v2).ownsRow w.heap.size 2 1 v1 b.length (i64s b) ∧
    (((wr.setCell ⟨w.heap.size + 1, 0, none⟩ v0).setCell ⟨w.heap.size + 1, 1, none⟩ v1).setCell ⟨w.heap.size + 1, 2, none⟩ v2).ownsRow w.heap.size 115 1 v2 c.length (f64s c) ∧
    InS (((wr.setCell ⟨w.heap.size + 1, 0, none⟩ v0).setCell ⟨w.heap.size + 1, 1, none⟩ v1).setCell ⟨w.heap.size + 1, 2, none⟩ v2) g t p e ∧
    Only g w (((wr.setCell ⟨w.heap.size + 1, 0, none⟩ v0).setCell ⟨w.heap.size + 1, 1, none⟩ v1).setCell ⟨w.heap.size + 1, 2, none⟩ v2) := by
  have hset := ((Only.set1 wr (w.heap.size + 1) 0 v0).trans (Only.set1 (wr.setCell ⟨w.heap.size + 1, 0, none⟩ v0) (w.heap.size + 1) 1 v1)).trans (Only.set1 ((wr.setCell ⟨w.heap.size + 1, 0, none⟩ v0).setCell ⟨w.heap.size + 1, 1, none⟩ v1) (w.heap.size + 1) 2 v2)
  have hz := h.lt
  exact ⟨own_mono (hset.own h.o0 (own_far h.o0 (by omega))) (by omega), own_mono (hset.own h.o1 (own_far h.o1 (by omega))) (by omega), own_mono (hset.own h.o2 (own_far h.o2 (by omega))) (by omega),
    h.i.below (hset.below (B := w.heap.size + 1) (Nat.le_refl _) (by omega)) (by omega), ((h.n.set_ (.inr (by simp only; omega)) _).set_ (.inr (by simp only; omega)) _).set_ (.inr (by simp only; omega)) _⟩
end
end Go.Proofs.Ytfhmaincnlaapaa
