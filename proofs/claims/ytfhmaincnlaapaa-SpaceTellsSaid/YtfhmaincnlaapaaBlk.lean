/-
  A BLOCK THAT IS KNOWN WHOLE; ONLY ONE BLOCK HAS TURNED.
  WORDS FOR MEMORY: a slice that reads as a list of cells, a list of bytes as cells, what an append to a row of the call's own leaves.
-/
import Derived.Test.YtfhmaincnlaapaaRows
import Derived.WalkKit
import Derived.ProofKit
import Derived.OpenShut
import Derived.WalkLawsBesides
import Derived.WalkSpells
import Derived.Handy
import Derived.Lib.Hide
import Derived.Deep.QuietTactic
import Derived.BigQuiet
import Derived.Deep.AppendLies
import Derived.Deep.Draws
import Derived.Deep.OwnRows
import Derived.Maps.AppendAt
import Derived.Maps.Range
import Derived.Deep.RegionWith
import Derived.Deep.RegionHeld3
import Derived.Deep.DeepFit
namespace Go.Proofs.Ytfhmaincnlaapaa
open Go.ChangeShapes Go.WideShapes Go.ChangeAt Go.RowKit

theorem belT {a b c : World} (h : Below a.heap.size a b) (k : Below b.heap.size b c) : Below a.heap.size a c := h.trans (k.mono h.size)
theorem belD {a b : World} (h : Below a.heap.size a b) (n : Nat) : Below a.heap.size a (b.drewN n) := ⟨h.os, h.tape, h.output, h.size, h.block⟩
theorem belR (a : World) : Below a.heap.size a a := Below.refl _ _

/-- a float's bits: for a loop's measure -/
def bitsOf : Value → Nat
  | .float _ b => b
  | _ => 0
/-- a slice's length: for a loop's measure -/
def lenOf : Value → Nat
  | .slice _ n _ => n
  | _ => 0

/-- bytes as cells -/
def u8s (l : List UInt8) : List Value := l.map fun b => .int .u8 (b.toNat : Int)
theorem u8s_length (l : List UInt8) : (u8s l).length = l.length := by simp [u8s]
theorem u8s_append (l m : List UInt8) : u8s (l ++ m) = u8s l ++ u8s m := by simp [u8s]
theorem u8s_get (l : List UInt8) (j : Nat) (h : j < l.length) : (u8s l)[j]? = some (.int .u8 ((l[j]'h).toNat : Int)) := by
  simp [u8s, h]
theorem u8s_one (l : List UInt8) : ∀ u ∈ u8s l, u.oneCell' = true := by
  intro u hu
  simp only [u8s, List.mem_map] at hu
  obtain ⟨b, _, rfl⟩ := hu
  rfl

theorem block_add (a : Addr) (n : Nat) : (a.add n).block = a.block := by unfold Addr.add; split <;> rfl
theorem add_succ (a : Addr) (k : Nat) : a.add (k + 1) = ⟨a.block, a.off + (k + 1), none⟩ := by simp [Addr.add]
theorem add_zero' (a : Addr) : a.add 0 = a := by simp [Addr.add]
theorem add_add' (a : Addr) (i j : Nat) : (a.add i).add j = a.add (i + j) := by
  unfold Addr.add
  by_cases hi : i = 0 <;> by_cases hj : j = 0 <;> simp [hi, hj, Nat.add_assoc]

/-- The n elements (of 'size' cells each) that a slice at A has are the cells xs; they lie below block B. -/
def Rd (w : World) (B size : Nat) (A : Option Addr) (n : Nat) (xs : List Value) : Prop :=
  xs.length = n * size ∧ (0 < n → ∃ a, A = some a ∧ a.block < B ∧ ∀ j u, xs[j]? = some u → w.cell? (a.add j) = some u)

section
variable {w w' : World} {B B' size n : Nat} {A : Option Addr} {xs : List Value}
theorem Rd.nil : Rd w B size A 0 [] := ⟨by simp, fun h => absurd h (by omega)⟩
theorem Rd.keep (h : Rd w B size A n xs) (hk : ∀ p : Addr, p.block < B → w'.cell? p = w.cell? p) : Rd w' B size A n xs :=
  ⟨h.1, fun hn => by
    obtain ⟨a, e, hb, hc⟩ := h.2 hn
    exact ⟨a, e, hb, fun j u hu => (hk _ (by rw [block_add]; exact hb)).trans (hc j u hu)⟩⟩
theorem Rd.more (h : Rd w B size A n xs) (hB : B ≤ B') : Rd w B' size A n xs :=
  ⟨h.1, fun hn => by
    obtain ⟨a, e, hb, hc⟩ := h.2 hn
    exact ⟨a, e, by omega, hc⟩⟩
theorem Rd.below (h : Rd w B size A n xs) (hb : Below B w w') : Rd w' B size A n xs := h.keep fun _ hp => hb.cell hp
theorem Rd.drewN (h : Rd w B size A n xs) (k : Nat) : Rd (w.drewN k) B size A n xs := h
theorem Rd.drew (h : Rd w B size A n xs) : Rd w.drew B size A n xs := h
theorem Rd.alloc (h : Rd w B size A n xs) (hB : B ≤ w.heap.size) (o : Obj) : Rd (w.alloc o) B size A n xs := h.keep fun p hp => World.cell?_alloc_lt w o p (by omega)
theorem Rd.at1 {k : Nat} (h : Rd w B 1 A n xs) (hk : k < n) : ∃ a u, A = some a ∧ a.block < B ∧ xs[k]? = some u ∧ w.cell? (a.add k) = some u := by
  obtain ⟨a, e, hb, hc⟩ := h.2 (by omega)
  have hl : k < xs.length := by have := h.1; omega
  exact ⟨a, xs[k], e, hb, List.getElem?_eq_getElem hl, hc k _ (List.getElem?_eq_getElem hl)⟩
theorem Rd.u8 {l : List UInt8} (h : Rd w B 1 A n (u8s l)) : l.length = n := by have := h.1; rw [u8s_length] at this; omega
theorem Rd.byte {l : List UInt8} {k : Nat} (h : Rd w B 1 A n (u8s l)) (hk : k < l.length) : ∃ a, A = some a ∧ a.block < B ∧ w.cell? (a.add k) = some (.int .u8 ((l[k]'hk).toNat : Int)) := by
  obtain ⟨a, u, e, hb, hx, hc⟩ := h.at1 (k := k) (by have := h.u8; omega)
  rw [u8s_get l k hk] at hx
  injection hx with hx
  exact ⟨a, e, hb, by rw [hc, hx]⟩
theorem Rd.own {base : Nat} {e : TypeId} {c : Nat} (h : w.ownsRow base e size (.slice A n c) n xs) : Rd w w.heap.size size A n xs := by
  refine ⟨h.1, fun hn => ?_⟩
  obtain ⟨g, cap, hv, _, hlt⟩ := h.form hn
  have hA : A = some ⟨g, 0, none⟩ := by injection hv
  subst hA
  exact ⟨_, rfl, hlt, h.cells (g := g) rfl⟩
end

/-- a cut of a slice that came in, in the model's own spelling -/
theorem Rd.cut {w : World} {B size n : Nat} {A : Option Addr} {xs : List Value} (h : Rd w B size A n xs) {k c : Nat} (hk : k ≤ n) (hc : n ≤ c) :
    Rd w B size (if c = k then A else A.map (·.add (k * size))) (n - k) (xs.drop (k * size)) := by
  refine ⟨by rw [List.length_drop, h.1, Nat.sub_mul], fun hn => ?_⟩
  obtain ⟨a, rfl, hb, hcell⟩ := h.2 (by omega)
  rw [if_neg (by omega)]
  refine ⟨a.add (k * size), rfl, by rw [block_add]; exact hb, fun j u hu => ?_⟩
  rw [add_add']
  exact hcell _ u (by rw [← hu, List.getElem?_drop])
theorem Rd.take {w : World} {B n k : Nat} {A : Option Addr} {l : List UInt8} (h : Rd w B 1 A n (u8s l)) (hk : k ≤ n) : Rd w B 1 A k (u8s (l.take k)) := by
  have hl := h.u8
  refine ⟨by rw [u8s_length, List.length_take]; omega, fun hn => ?_⟩
  obtain ⟨a, rfl, hb, hcell⟩ := h.2 (by omega)
  refine ⟨a, rfl, hb, fun j u hu => hcell j u ?_⟩
  unfold u8s at *
  rw [List.getElem?_map, List.getElem?_take] at hu
  split at hu
  · rw [List.getElem?_map]; exact hu
  · cases hu
theorem u8s_drop (l : List UInt8) (k : Nat) : (u8s l).drop k = u8s (l.drop k) := by simp [u8s, List.map_drop]

/-- what stands behind the first element, as the walk spells it: there is room behind it (c > 1), or not -/
theorem Rd.rest {w : World} {B n : Nat} {a : Addr} {x : UInt8} {t : List UInt8} (h : Rd w B 1 (some a) (n + 1) (u8s (x :: t))) : Rd w B 1 (some ⟨a.block, a.off + 1, none⟩) n (u8s t) := by
  have := h.cut (k := 1) (c := n + 2) (by omega) (by omega)
  rw [if_neg (by omega), u8s_drop] at this
  simpa [Addr.add] using this
theorem Rd.rest0 {w : World} {B n : Nat} {a : Addr} {x : UInt8} {t : List UInt8} (h : Rd w B 1 (some a) (n + 1) (u8s (x :: t))) (h0 : n = 0) : Rd w B 1 (some a) n (u8s t) := by
  subst h0
  have hl := h.u8
  have : t = [] := List.eq_nil_of_length_eq_zero (by simpa using hl)
  subst this
  exact ⟨by simp [u8s], fun h => by omega⟩

/-- The call's own: 'Below' over draws. -/
theorem below_drewN {B : Nat} {a w : World} (h : Below B a w) (n : Nat) : Below B a (w.drewN n) := ⟨h.os, h.tape, h.output, h.size, h.block⟩

/-- What an append (or several) to the slice v leaves: the slice v' in the world w'; but for v's own block nothing that was there has turned. -/
def Appd (w w' : World) (v v' : Value) : Prop := w.grownBy w' v.ownBlock ∧ (v'.ownBlock = v.ownBlock ∨ ∃ k, v'.ownBlock = some k ∧ w.heap.size ≤ k)
theorem Appd.refl (w : World) (v : Value) : Appd w w v v := ⟨World.grownBy.refl w _, .inl rfl⟩
theorem Appd.trans {a b c : World} {u v x : Value} (h : Appd a b u v) (k : Appd b c v x) : Appd a c u x := by
  refine ⟨h.1.andThen k.1 fun j hj => ?_, ?_⟩
  · rcases h.2 with e | ⟨i, e, hi⟩
    · exact .inr (by rw [← e]; exact hj)
    · rw [e] at hj; injection hj with hj; exact .inl (by omega)
  · rcases k.2 with e | ⟨i, e, hi⟩
    · rcases h.2 with e' | ⟨i', e', hi'⟩
      · exact .inl (e.trans e')
      · exact .inr ⟨i', e.trans e', hi'⟩
    · exact .inr ⟨i, e, Nat.le_trans h.1.size hi⟩
theorem Appd.drewN {a b : World} {u v : Value} (h : Appd a b u v) (n : Nat) : Appd a (b.drewN n) u v := ⟨⟨h.1.os, h.1.tape, h.1.output, h.1.size, h.1.block⟩, h.2⟩
theorem Appd.drew {a b : World} {u v : Value} (h : Appd a b u v) : Appd a b.drew u v := ⟨⟨h.1.os, h.1.tape, h.1.output, h.1.size, h.1.block⟩, h.2⟩
theorem Appd.alloc {a b : World} {u v : Value} (h : Appd a b u v) (o : Obj) : Appd a (b.alloc o) u v :=
  ⟨h.1.andThen (World.grownBy_alloc b o none) (fun j hj => by cases hj), h.2⟩
theorem Appd.of_alloc {a b : World} {u v : Value} {o : Obj} (h : Appd (a.alloc o) b u v) : Appd a b u v := by
  refine ⟨(World.grownBy_alloc a o u.ownBlock).trans h.1, h.2.imp id ?_⟩
  rintro ⟨k, e, hk⟩
  have : (a.alloc o).heap.size = a.heap.size + 1 := by simp
  exact ⟨k, e, by omega⟩
theorem u8s_snoc (l : List UInt8) (b : UInt8) (u : Value) (h : u = .int .u8 (b.toNat : Int)) : u8s l ++ [u] = u8s (l ++ [b]) := by rw [h]; simp [u8s]
theorem Appd.below {a b : World} {u v : Value} {B n : Nat} {e : TypeId} {size : Nat} {xs : List Value} (h : Appd a b u v) (hB : B ≤ a.heap.size) (ho : a.ownsRow B e size u n xs) : Below B a b :=
  (Below.refl _ _).grown h.1 hB fun k hk => (ho.lt k hk).1
theorem Appd.below_nil {a b : World} {v : Value} {B : Nat} (h : Appd a b (.slice none 0 0) v) (hB : B ≤ a.heap.size) : Below B a b :=
  (Below.refl _ _).grown h.1 hB fun k hk => by cases hk
/-- an owned row stands while another one is appended to -/
theorem Appd.kept {a b : World} {u v x : Value} {B n : Nat} {e : TypeId} {size : Nat} {xs : List Value} (h : Appd a b u v) (ho : a.ownsRow B e size x n xs) (hne : x.ownBlock = none ∨ x.ownBlock ≠ u.ownBlock) : b.ownsRow B e size x n xs :=
  ho.kept h.1 hne
/-- the same row, seen from another number on -/
theorem own_base {w : World} {base base' n : Nat} {e : TypeId} {size : Nat} {v : Value} {xs : List Value} (h : w.ownsRow base e size v n xs) (hb : ∀ k, v.ownBlock = some k → base' ≤ k) : w.ownsRow base' e size v n xs := by
  refine ⟨h.1, ?_⟩
  rcases h.2 with h2 | ⟨g, cap, cur, rfl, hg, r⟩
  · exact .inl h2
  · exact .inr ⟨g, cap, cur, rfl, hb g rfl, r⟩
theorem own_mono {w : World} {base base' n : Nat} {e : TypeId} {size : Nat} {v : Value} {xs : List Value} (h : w.ownsRow base e size v n xs) (hb : base' ≤ base) : w.ownsRow base' e size v n xs :=
  own_base h fun k hk => Nat.le_trans hb (h.lt k hk).1
theorem own_below {w w' : World} {base n : Nat} {e : TypeId} {size : Nat} {v : Value} {xs : List Value} (h : w.ownsRow base e size v n xs) {B : Nat} (hb : Below B w w') (hB : w.heap.size ≤ B) : w'.ownsRow base e size v n xs := by
  refine ⟨h.1, ?_⟩
  rcases h.2 with h2 | ⟨g, cap, cur, rfl, hg, hh, r⟩
  · exact .inl h2
  · exact .inr ⟨g, cap, cur, rfl, hg, by rw [hb.block g (by have := (Array.getElem?_eq_some_iff.1 hh).1; omega)]; exact hh, r⟩
theorem own_drewN {w : World} {base n : Nat} {e : TypeId} {size : Nat} {v : Value} {xs : List Value} (h : w.ownsRow base e size v n xs) (k : Nat) : (w.drewN k).ownsRow base e size v n xs := h

section
variable {P : Program}
/-- APPEND OF ONE ELEMENT (its cell stands in the new block w0.heap.size). -/
theorem wpList_app1 {ops : Array Oper} {rest : List Oper} {o : Oper} {a : Act} {Q : Exit → Act → World → Prop} (w0 : World) (u : Value) (hu : u.oneCell' = true) (hgd : o.guard = none) (s x : Operand) (t : TypeId)
    (ho : o.op = .call { callee := .builtin .append, args := #[s, x], argTypes := #[t, t] })
    (base : Nat) (e : TypeId) (z : Value) (bytes : Nat) (hinf : (P.info? e).map (fun i => (i.zero, i.size, i.bytes)) = some (some z, 1, bytes)) (hzs : z.cells.size = 1) (ht : P.underlying t = some (.slice e))
    (v : Value) (n : Nat) (xs : List Value) (hown : w0.ownsRow base e 1 v n xs) (hs : a.eval s = v) (hx : a.eval x = .slice (some ⟨w0.heap.size, 0, none⟩) 1 1)
    (hbytes : (n + 1) * bytes ≤ 140737488355328) (h63 : n + 1 ≤ 140737488355328) (hbase : base ≤ w0.heap.size)
    (h : ∀ v' w', w'.ownsRow base e 1 v' (n + 1) (xs ++ [u]) → Appd w0 w' v v' → wpList P ops Q rest (a.put o.dst v') w') :
    wpList P ops Q (o :: rest) a (w0.alloc (.cells #[u] e)) := by
  obtain ⟨i, hi, hz, hs1, hby⟩ := info_parts hinf
  have hsz : (w0.alloc (.cells #[u] e)).heap.size = w0.heap.size + 1 := by simp
  refine wpList_append_own_at _ hgd s x t ho base e i z 1 bytes ht hi hz hs1 hby hzs (by decide) v n xs hs (hown.alloc _) ⟨w0.heap.size, 0, none⟩ 1 1 [u] hx rfl
    (cell_one_new _ _ _) (by simpa using hu) (by simp only [maxLen]; omega) hbytes (by omega) ?_
  intro v' w' h1 h2 _ h4
  exact h v' w' h1 (Appd.of_alloc ⟨h2, h4.imp id fun e => ⟨_, e, Nat.le_refl _⟩⟩)

/-- APPEND OF SOME ELEMENTS of one cell each, written out (they stand in the new block w0.heap.size). -/
theorem wpList_appL {ops : Array Oper} {rest : List Oper} {o : Oper} {a : Act} {Q : Exit → Act → World → Prop} (w0 : World) (us : List Value) (m : Nat) (hm : us.length = m) (hu : ∀ u ∈ us, u.oneCell' = true) (hgd : o.guard = none) (s x : Operand) (t : TypeId)
    (ho : o.op = .call { callee := .builtin .append, args := #[s, x], argTypes := #[t, t] })
    (base : Nat) (e : TypeId) (z : Value) (bytes : Nat) (hinf : (P.info? e).map (fun i => (i.zero, i.size, i.bytes)) = some (some z, 1, bytes)) (hzs : z.cells.size = 1) (ht : P.underlying t = some (.slice e))
    (v : Value) (n : Nat) (xs : List Value) (hown : w0.ownsRow base e 1 v n xs) (hs : a.eval s = v) (hx : a.eval x = .slice (some ⟨w0.heap.size, 0, none⟩) m m)
    (hbytes : (n + m) * bytes ≤ 140737488355328) (h63 : n + m ≤ 140737488355328) (hbase : base ≤ w0.heap.size)
    (h : ∀ v' w', w'.ownsRow base e 1 v' (n + m) (xs ++ us) → Appd w0 w' v v' → wpList P ops Q rest (a.put o.dst v') w') :
    wpList P ops Q (o :: rest) a (w0.alloc (.cells us.toArray e)) := by
  obtain ⟨i, hi, hz, hs1, hby⟩ := info_parts hinf
  have hsz : (w0.alloc (.cells us.toArray e)).heap.size = w0.heap.size + 1 := by simp
  refine wpList_append_own_at _ hgd s x t ho base e i z 1 bytes ht hi hz hs1 hby hzs (by decide) v n xs hs (hown.alloc _) ⟨w0.heap.size, 0, none⟩ m m us hx (by omega)
    (fun j u hj => ?_) hu (by simp only [maxLen]; omega) hbytes (by omega) ?_
  · have hadd : (⟨w0.heap.size, 0, none⟩ : Addr).add j = ⟨w0.heap.size, j, none⟩ := by unfold Addr.add; split <;> simp_all
    rw [hadd, World.cell?_alloc_mark w0 us.toArray e (0, 0) j]
    simpa using hj
  · intro v' w' h1 h2 _ h4
    exact h v' w' h1 (Appd.of_alloc ⟨h2, h4.imp id fun e => ⟨_, e, Nat.le_refl _⟩⟩)

/-- APPEND OF A SLICE, nil or not. -/
theorem wpList_appS {ops : Array Oper} {rest : List Oper} {o : Oper} {a : Act} {Q : Exit → Act → World → Prop} (w : World) (hgd : o.guard = none) (s x : Operand) (t : TypeId)
    (ho : o.op = .call { callee := .builtin .append, args := #[s, x], argTypes := #[t, t] })
    (base : Nat) (e : TypeId) (z : Value) (size bytes : Nat) (hinf : (P.info? e).map (fun i => (i.zero, i.size, i.bytes)) = some (some z, size, bytes)) (hzs : z.cells.size = size) (hsz : 0 < size) (ht : P.underlying t = some (.slice e))
    (v : Value) (n : Nat) (xs : List Value) (hown : w.ownsRow base e size v n xs) (hs : a.eval s = v)
    (B : Nat) (A : Option Addr) (m c : Nat) (news : List Value) (hr : Rd w B size A m news) (hx : a.eval x = .slice A m c) (h1 : ∀ u ∈ news, u.oneCell' = true)
    (hbytes : (n + m) * bytes ≤ 140737488355328) (h63 : n + m ≤ 140737488355328) (hbase : base ≤ w.heap.size)
    (h : ∀ v' w', w'.ownsRow base e size v' (n + m) (xs ++ news) → Appd w w' v v' → wpList P ops Q rest (a.put o.dst v') w') :
    wpList P ops Q (o :: rest) a w := by
  obtain ⟨i, hi, hz, hs1, hby⟩ := info_parts hinf
  rcases A with _ | ad
  · have hm : m = 0 := by
      rcases Nat.eq_zero_or_pos m with h0 | h0
      · exact h0
      · obtain ⟨_, h, _⟩ := hr.2 h0
        cases h
    subst hm
    have hn : news = [] := List.eq_nil_of_length_eq_zero (by simpa using hr.1)
    subst hn
    have hrun : (Builtin.append_ #[t, t] o.type #[v, .slice none 0 c]).run P w = .ok v w := by
      rcases hown.2 with ⟨rfl, rfl⟩ | ⟨g, cap, cur, rfl, _, _, hnc, _⟩
      · simp [Builtin.append_, run_underlying ht, sizeOf, typeInfo, hi, Builtin.lenOf, Builtin.firstCells]
      · simp [Builtin.append_, run_underlying ht, sizeOf, typeInfo, hi, Builtin.lenOf, Builtin.firstCells, hnc, storeCells]
    refine wpList_plain hgd fun K hK => ?_
    unfold Oper.wp execOp
    simp only [ho, resolve, invoke, builtin, Sem.run_bind, Sem.run_pure, Result.andThen_ok, List.map_toArray, List.map_cons, List.map_nil, hs, hx, hrun]
    exact hK _ _ (h v w (by simpa using hown) (Appd.refl _ _))
  · have hcells : ∀ j u, news[j]? = some u → w.cell? (ad.add j) = some u := by
      intro j u hu
      rcases Nat.eq_zero_or_pos m with h0 | h0
      · subst h0
        have hn : news = [] := List.eq_nil_of_length_eq_zero (by simpa using hr.1)
        subst hn
        simp at hu
      · obtain ⟨ad', h, _, hc⟩ := hr.2 h0
        injection h with h
        subst h
        exact hc j u hu
    refine wpList_append_own_at _ hgd s x t ho base e i z size bytes ht hi hz hs1 hby hzs hsz v n xs hs hown ad m c news hx hr.1 hcells h1 (by simp only [maxLen]; omega) hbytes hbase ?_
    intro v' w' h1 h2 _ h4
    exact h v' w' h1 ⟨h2, h4.imp id fun e => ⟨_, e, Nat.le_refl _⟩⟩
end

/-- the form of a slice of the call's own -/
theorem own_form {w : World} {base n : Nat} {e : TypeId} {size : Nat} {v : Value} {xs : List Value} (h : w.ownsRow base e size v n xs) : ∃ A c, v = .slice A n c ∧ n ≤ c ∧ c ≤ maxLen ∧ n ≤ maxLen := by
  rcases h.2 with ⟨rfl, rfl⟩ | ⟨g, cap, cur, rfl, _, _, hnc, hcm, _⟩
  · exact ⟨none, 0, rfl, Nat.le_refl _, by simp [maxLen], by simp [maxLen]⟩
  · exact ⟨_, cap, rfl, hnc, hcm, Nat.le_trans hnc hcm⟩
/-- string(b) of a slice that reads as bytes -/
theorem run_str {P : Program} {w : World} {src dst e : TypeId} {B n c : Nat} {A : Option Addr} {l : List UInt8} (h : Rd w B 1 A n (u8s l)) (hs : P.underlying src = some (.slice e)) (he : P.underlying e = some (.int .u8)) (hd : P.underlying dst = some .string) :
    (convert src dst (.slice A n c)).run P w = .ok (.string ⟨l.toArray⟩) w := by
  obtain rfl : n = l.length := h.u8.symm
  cases A with
  | none =>
    have h0 : l = [] := by
      apply List.eq_nil_of_length_eq_zero
      rcases Nat.eq_zero_or_pos l.length with h0 | h0
      · exact h0
      · obtain ⟨_, h, _⟩ := h.2 h0; cases h
    subst h0
    exact run_convert_bytes_nil w src e hs he _ _ dst hd
  | some a =>
    refine run_convert_bytes_back w src dst e a c l hs he hd fun j hj => ?_
    obtain ⟨a', e', _, hc⟩ := h.byte hj
    injection e' with e'
    subst e'
    exact hc
theorem run_str_own {P : Program} {w : World} {src dst e t : TypeId} {base n : Nat} {v : Value} {l : List UInt8} (ho : w.ownsRow base t 1 v n (u8s l)) (hs : P.underlying src = some (.slice e)) (he : P.underlying e = some (.int .u8)) (hd : P.underlying dst = some .string) :
    (convert src dst v).run P w = .ok (.string ⟨l.toArray⟩) w := by
  obtain ⟨A, c, rfl, _⟩ := own_form ho
  exact run_str (Rd.own ho) hs he hd

/-- which bytes stand ahead of which -/
def ltB : List UInt8 → List UInt8 → Bool
  | [], [] => false
  | [], _ :: _ => true
  | _ :: _, [] => false
  | a :: l, b :: m => if a = b then ltB l m else decide (a < b)
theorem ltB_self : ∀ l : List UInt8, ltB l l = false
  | [] => rfl
  | _ :: l => by simp [ltB, ltB_self l]
theorem ltB_drop (l m : List UInt8) (k : Nat) (hl : k < l.length) (hm : k < m.length) : ltB (l.drop k) (m.drop k) = if l[k] = m[k] then ltB (l.drop (k + 1)) (m.drop (k + 1)) else decide (l[k] < m[k]) := by
  rw [List.drop_eq_getElem_cons hl, List.drop_eq_getElem_cons hm, ltB]
theorem ltB_end (l m : List UInt8) (k : Nat) (h : k = min l.length m.length) : ltB (l.drop k) (m.drop k) = decide (l.length < m.length) := by
  rcases Nat.lt_trichotomy l.length m.length with h1 | h1 | h1
  · have hk : k = l.length := by omega
    rw [hk, List.drop_length, List.drop_eq_getElem_cons h1]
    simp [ltB, h1]
  · have hk : k = l.length := by omega
    have hk' : k = m.length := by omega
    have e1 : l.drop k = [] := List.drop_eq_nil_of_le (by omega)
    have e2 : m.drop k = [] := List.drop_eq_nil_of_le (by omega)
    rw [e1, e2]
    simp [ltB, h1]
  · have hk : k = m.length := by omega
    rw [hk, List.drop_length, List.drop_eq_getElem_cons h1]
    simp [ltB]; omega
theorem u8_lt (a b : UInt8) : decide (((a.toNat : Nat) : Int) < (b.toNat : Int)) = decide (a < b) := by
  rw [Bool.eq_iff_iff]; simp [UInt8.lt_iff_toNat_lt]
theorem u8_ltN (a b : UInt8) : decide (a < b) = decide (a.toNat < b.toNat) := by
  rw [Bool.eq_iff_iff]; simp [UInt8.lt_iff_toNat_lt]
theorem drew2 (w : World) (a b : Nat) : ∃ k, (w.drewN a).drewN b = w.drewN k := ⟨_, World.drewN_drewN _ _ _⟩
theorem drew3 (w : World) (a b c : Nat) : ∃ k, ((w.drewN a).drewN b).drewN c = w.drewN k := ⟨_, by rw [World.drewN_drewN, World.drewN_drewN]⟩
theorem u8_eq (a b : UInt8) : (((a.toNat : Nat) : Int) == (b.toNat : Int)) = decide (a = b) := by
  rw [Bool.eq_iff_iff]; simp
  exact ⟨fun h => UInt8.toNat_inj.1 (by omega), fun h => by rw [h]⟩
end Go.Proofs.Ytfhmaincnlaapaa
namespace Go.Proofs.Ytfhmaincnlaapaa
open Go.ChangeShapes Go.WideShapes Go.ChangeAt Go.RowKit
set_option linter.unusedVariables false

/-- block g is just the cells cs of type t, none frozen -/
def Blk (w : World) (g : Nat) (t : TypeId) (cs : Array Value) : Prop := w.heap[g]? = some (.cells cs t (0, 0))
/-- a world with some draws more -/
def Drw (w w' : World) : Prop := ∃ k, w' = w.drewN k
theorem Drw.refl (w : World) : Drw w w := ⟨0, rfl⟩
theorem Drw.trans {a b c : World} (h : Drw a b) (k : Drw b c) : Drw a c := by
  obtain ⟨i, rfl⟩ := h; obtain ⟨j, rfl⟩ := k; exact ⟨_, World.drewN_drewN _ _ _⟩
theorem Drw.drew {a b : World} (h : Drw a b) : Drw a b.drew := h.trans ⟨1, rfl⟩
theorem Drw.drewN {a b : World} (h : Drw a b) (k : Nat) : Drw a (b.drewN k) := h.trans ⟨k, rfl⟩
theorem Drw.below {B : Nat} {a b c : World} (h : Drw b c) (k : Below B a b) : Below B a c := by obtain ⟨i, rfl⟩ := h; exact below_drewN k i

section
variable {w w' : World} {g : Nat} {t : TypeId} {cs : Array Value}
theorem Blk.lt (h : Blk w g t cs) : g < w.heap.size := by
  rcases Nat.lt_or_ge g w.heap.size with hlt | hge
  · exact hlt
  · unfold Blk at h; rw [Array.getElem?_eq_none hge] at h; cases h
theorem Blk.cell (h : Blk w g t cs) (i : Nat) : w.cell? ⟨g, i, none⟩ = cs[i]? := cell_of_row w g i cs t (0, 0) h
theorem Blk.frozen (h : Blk w g t cs) (i : Nat) : w.frozen? ⟨g, i, none⟩ = false := by
  unfold Blk at h
  simp [World.frozen?, h]
theorem Blk.new (w : World) (t : TypeId) (cs : Array Value) : Blk (w.alloc (.cells cs t)) w.heap.size t cs := heap_alloc_new w _
theorem Blk.drew (h : Blk w g t cs) : Blk w.drew g t cs := h
theorem Blk.drewN (h : Blk w g t cs) (n : Nat) : Blk (w.drewN n) g t cs := h
theorem Blk.drw (h : Blk w g t cs) (k : Drw w w') : Blk w' g t cs := by obtain ⟨n, rfl⟩ := k; exact h
theorem Blk.alloc (h : Blk w g t cs) (o : Obj) : Blk (w.alloc o) g t cs := (Below.heap_alloc w o g h.lt).trans h
theorem Blk.set_ (h : Blk w g t cs) (i : Nat) (u : Value) : Blk (w.setCell ⟨g, i, none⟩ u) g t (cs.setIfInBounds i u) := by
  unfold Blk at h ⊢
  simp [World.setCell, Array.getElem?_modify, h]
theorem Blk.far (h : Blk w g t cs) {p : Addr} (hp : g ≠ p.block) (u : Value) : Blk (w.setCell p u) g t cs := (Below.heap_setCell w p u g hp).trans h
theorem Blk.below {B : Nat} (h : Blk w g t cs) (hb : Below B w w') (hg : g < B) : Blk w' g t cs := (hb.block g hg).trans h
theorem Blk.grown {row : Option Nat} (h : Blk w g t cs) (hb : w.grownBy w' row) (hg : some g ≠ row) : Blk w' g t cs := (hb.block g h.lt hg).trans h
theorem Blk.ne_ {g' : Nat} {t' : TypeId} {cs' : Array Value} (h : Blk w g t cs) (h' : Blk w g' t' cs') (hne : t ≠ t') : g ≠ g' := by
  rintro rfl
  unfold Blk at h h'
  rw [h] at h'
  injection h' with h'
  injection h' with _ ht
  exact hne ht
theorem own_blk_ne {base : Nat} {e : TypeId} {size n : Nat} {v : Value} {xs : List Value} (h : w.ownsRow base e size v n xs) (hg : Blk w g t cs) (hne : e ≠ t) : v.ownBlock ≠ some g := by
  rcases h.2 with ⟨rfl, _⟩ | ⟨g', cap, cur, rfl, _, hh, _⟩
  · simp [Value.ownBlock]
  · intro he
    have : g' = g := by simpa [Value.ownBlock] using he
    subst this
    exact Blk.ne_ (t := e) hh hg hne rfl
theorem Appd.blk {v v' : Value} (h : Appd w w' v v') (hg : Blk w g t cs) (hne : v.ownBlock ≠ some g) : Blk w' g t cs := hg.grown h.1 (fun e => hne e.symm)
end

/-- of what was there only block g has turned -/
def Only (g : Nat) (a w : World) : Prop := a.grownBy w (some g)
section
variable {a b c w : World} {g : Nat}
theorem Only.refl (g : Nat) (a : World) : Only g a a := World.grownBy.refl a _
theorem Only.trans (h : Only g a b) (k : Only g b c) : Only g a c :=
  ⟨k.os.trans h.os, k.tape.trans h.tape, k.output.trans h.output, Nat.le_trans h.size k.size, fun i hi hne => (k.block i (Nat.lt_of_lt_of_le hi h.size) hne).trans (h.block i hi hne)⟩
theorem Only.drewN (h : Only g a w) (n : Nat) : Only g a (w.drewN n) := ⟨h.os, h.tape, h.output, h.size, h.block⟩
theorem Only.drew (h : Only g a w) : Only g a w.drew := ⟨h.os, h.tape, h.output, h.size, h.block⟩
theorem Only.drw (h : Only g a b) (k : Drw b c) : Only g a c := by obtain ⟨n, rfl⟩ := k; exact h.drewN n
theorem Only.alloc (h : Only g a w) (o : Obj) : Only g a (w.alloc o) :=
  ⟨h.os, h.tape, h.output, Nat.le_trans h.size (by simp), fun i hi hne => (Below.heap_alloc w o i (Nat.lt_of_lt_of_le hi h.size)).trans (h.block i hi hne)⟩
theorem Only.set_ (h : Only g a w) {p : Addr} (hp : p.block = g ∨ a.heap.size ≤ p.block) (u : Value) : Only g a (w.setCell p u) :=
  ⟨h.os, h.tape, h.output, by simpa [World.setCell] using h.size, fun i hi hne => (Below.heap_setCell w p u i (by
    rintro rfl
    rcases hp with hp | hp
    · exact hne (by rw [hp])
    · omega)).trans (h.block i hi hne)⟩
theorem Only.of_below (h : Below a.heap.size a w) (g : Nat) : Only g a w := ⟨h.os, h.tape, h.output, h.size, fun i hi _ => h.block i hi⟩
theorem Only.belowT (h : Only g a b) (k : Below b.heap.size b c) : Only g a c := h.trans (Only.of_below k g)
theorem Only.appd {v v' : Value} (h : Only g a b) (k : Appd b c v v') (hv : ∀ j, v.ownBlock = some j → j = g ∨ a.heap.size ≤ j) : Only g a c :=
  ⟨k.1.os.trans h.os, k.1.tape.trans h.tape, k.1.output.trans h.output, Nat.le_trans h.size k.1.size, fun i hi hne => (k.1.block i (Nat.lt_of_lt_of_le hi h.size) (by
    intro e
    rcases hv i e.symm with e' | e'
    · exact hne (by rw [e'])
    · omega)).trans (h.block i hi hne)⟩
theorem Only.below {B : Nat} (h : Only g a b) (hB : B ≤ g) (hs : B ≤ a.heap.size) : Below B a b :=
  ⟨h.os, h.tape, h.output, h.size, fun i hi => h.block i (by omega) (by intro e; injection e with e; omega)⟩
theorem Only.blk {t : TypeId} {g' : Nat} {cs : Array Value} (h : Only g a b) (hb : Blk a g' t cs) (hne : g' ≠ g) : Blk b g' t cs := hb.grown h (by intro e; injection e with e; exact hne e)
theorem Only.rd {B size n : Nat} {A : Option Addr} {xs : List Value} (h : Only g a b) (hr : Rd a B size A n xs) (hB : B ≤ g) (hs : B ≤ a.heap.size) : Rd b B size A n xs := hr.below (h.below hB hs)
/-- an owned row whose block is not g -/
theorem Only.own {base n : Nat} {e : TypeId} {size : Nat} {v : Value} {xs : List Value} (h : Only g a b) (ho : a.ownsRow base e size v n xs) (hne : v.ownBlock ≠ some g) : b.ownsRow base e size v n xs := by
  refine ⟨ho.1, ?_⟩
  rcases ho.2 with h2 | ⟨g', cap, cur, rfl, hg, hh, r⟩
  · exact .inl h2
  · refine .inr ⟨g', cap, cur, rfl, hg, ?_, r⟩
    rw [h.block g' (by have := (Array.getElem?_eq_some_iff.1 hh).1; omega) (by intro e; exact hne e)]; exact hh
end
theorem belA {a b : World} (h : Below a.heap.size a b) (o : Obj) : Below a.heap.size a (b.alloc o) := h.alloc h.size o
theorem belW {a b c : World} (h : Below a.heap.size a b) (k : Drw b c) : Below a.heap.size a c := k.below h
theorem belS {a b : World} (h : Below a.heap.size a b) {p : Addr} (hp : a.heap.size ≤ p.block) (u : Value) : Below a.heap.size a (b.setCell p u) := h.setCell hp u
/-- rules for the walk: draws outermost (laid into the context ahead of a walk) -/
theorem sdN : ∀ (w : World) (n : Nat) (a : Addr) (v : Value), (w.drewN n).setCell a v = (w.setCell a v).drewN n := fun _ _ _ _ => rfl
theorem adN : ∀ (w : World) (n : Nat) (o : Obj), (w.drewN n).alloc o = (w.alloc o).drewN n := fun _ _ _ => rfl
/-- a quiet call inside a region that draws its order -/
theorem qcall {P : Program} {f : FuncId} {args : Array Value} {w : World} {n : Nat} {v : Value}
    (h : Calls P f args (w.drewN n) fun e w' => e = .returned v ∧ Drw (w.drewN n) w') : Calls P f args (w.drewN n) fun e w'' => e = .returned v ∧ ∃ m, w'' = w.drewN m :=
  h.mono fun _ _ ⟨he, m, hm⟩ => ⟨he, n + m, by rw [hm, World.drewN_drewN]⟩
theorem qcallS {P : Program} {f : FuncId} {args : Array Value} {w : World} {n : Nat} {v : Value}
    (h : Calls P f args (w.drewN n) fun e w' => e = .returned v ∧ w.drewN n = w') : Calls P f args (w.drewN n) fun e w'' => e = .returned v ∧ ∃ m, w'' = w.drewN m :=
  h.mono fun _ _ ⟨he, hm⟩ => ⟨he, n, hm.symm⟩
theorem Below.toOnly {a b : World} (g : Nat) (h : Below a.heap.size a b) : Only g a b := Only.of_below h g
end Go.Proofs.Ytfhmaincnlaapaa
