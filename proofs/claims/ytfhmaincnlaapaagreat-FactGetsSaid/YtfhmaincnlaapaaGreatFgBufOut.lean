/-
  THE WRITER buf.Out: NewOut, lay, Bytes, U.
  code.number, GetU, GetI, GetT: what they read of any bytes.
  PLAIN LEAN: what is read of bytes (layer 7): numbers, numbers with a sign, texts; what was put is got.
  WHAT code.wide, bytes, U, I, T GIVE: the codes of layer 7, in a slice of the call's own.
  PLAIN LEAN: numbers and texts as bytes (layer 7's codes), with no program in sight.
  WHAT A LAW's ARGUMENTS READ AS: openers for the frames of the laws.
  A BLOCK THAT IS KNOWN WHOLE; ONLY ONE BLOCK HAS TURNED.
  WORDS FOR MEMORY: a slice that reads as a list of cells, a list of bytes as cells, what an append to a row of the call's own leaves.
-/
import Derived.Test.YtfhmaincnlaapaaGreatRows
import Derived.WalkKit
import Derived.ProofKit
import Derived.OpenShut
import Derived.WalkLawsBesides
import Derived.WalkSpells
import Derived.Handy
import Derived.Lib.Hide
import Derived.Deep.QuietTactic
import Derived.BigQuiet
import Derived.Deep.AppendLies
import Derived.Deep.Draws
import Derived.Deep.OwnRows
import Derived.Maps.AppendAt
import Derived.Maps.Range
import Derived.Deep.RegionWith
import Derived.Deep.RegionHeld3
import Derived.Deep.DeepFit
import Derived.ChangeOld
import Derived.ShutString
import Derived.Lib.SmallJoins
import Derived.Deep.Slices
import Derived.Deep.Fields
import Derived.Laws.Cover2
namespace Go.Proofs.YtfhmaincnlaapaaGreat
open Go.ChangeShapes Go.WideShapes Go.ChangeAt Go.RowKit

theorem belT {a b c : World} (h : Below a.heap.size a b) (k : Below b.heap.size b c) : Below a.heap.size a c := h.trans (k.mono h.size)
theorem belD {a b : World} (h : Below a.heap.size a b) (n : Nat) : Below a.heap.size a (b.drewN n) := ⟨h.os, h.tape, h.output, h.size, h.block⟩
theorem belR (a : World) : Below a.heap.size a a := Below.refl _ _

/-- a float's bits: for a loop's measure -/
def bitsOf : Value → Nat
  | .float _ b => b
  | _ => 0
/-- a slice's length: for a loop's measure -/
def lenOf : Value → Nat
  | .slice _ n _ => n
  | _ => 0

/-- bytes as cells -/
def u8s (l : List UInt8) : List Value := l.map fun b => .int .u8 (b.toNat : Int)
theorem u8s_length (l : List UInt8) : (u8s l).length = l.length := by simp [u8s]
theorem u8s_append (l m : List UInt8) : u8s (l ++ m) = u8s l ++ u8s m := by simp [u8s]
theorem u8s_get (l : List UInt8) (j : Nat) (h : j < l.length) : (u8s l)[j]? = some (.int .u8 ((l[j]'h).toNat : Int)) := by
  simp [u8s, h]
theorem u8s_one (l : List UInt8) : ∀ u ∈ u8s l, u.oneCell' = true := by
  intro u hu
  simp only [u8s, List.mem_map] at hu
  obtain ⟨b, _, rfl⟩ := hu
  rfl

theorem block_add (a : Addr) (n : Nat) : (a.add n).block = a.block := by unfold Addr.add; split <;> rfl
theorem add_succ (a : Addr) (k : Nat) : a.add (k + 1) = ⟨a.block, a.off + (k + 1), none⟩ := by simp [Addr.add]
theorem add_zero' (a : Addr) : a.add 0 = a := by simp [Addr.add]
theorem add_add' (a : Addr) (i j : Nat) : (a.add i).add j = a.add (i + j) := by
  unfold Addr.add
  by_cases hi : i = 0 <;> by_cases hj : j = 0 <;> simp [hi, hj, Nat.add_assoc]

/-- The n elements (of 'size' cells each) that a slice at A has are the cells xs; they lie below block B. -/
def Rd (w : World) (B size : Nat) (A : Option Addr) (n : Nat) (xs : List Value) : Prop :=
  xs.length = n * size ∧ (0 < n → ∃ a, A = some a ∧ a.block < B ∧ ∀ j u, xs[j]? = some u → w.cell? (a.add j) = some u)

section
variable {w w' : World} {B B' size n : Nat} {A : Option Addr} {xs : List Value}
theorem Rd.nil : Rd w B size A 0 [] := ⟨by simp, fun h => absurd h (by omega)⟩
theorem Rd.keep (h : Rd w B size A n xs) (hk : ∀ p : Addr, p.block < B → w'.cell? p = w.cell? p) : Rd w' B size A n xs :=
  ⟨h.1, fun hn => by
    obtain ⟨a, e, hb, hc⟩ := h.2 hn
    exact ⟨a, e, hb, fun j u hu => (hk _ (by rw [block_add]; exact hb)).trans (hc j u hu)⟩⟩
theorem Rd.more (h : Rd w B size A n xs) (hB : B ≤ B') : Rd w B' size A n xs :=
  ⟨h.1, fun hn => by
    obtain ⟨a, e, hb, hc⟩ := h.2 hn
    exact ⟨a, e, by omega, hc⟩⟩
theorem Rd.below (h : Rd w B size A n xs) (hb : Below B w w') : Rd w' B size A n xs := h.keep fun _ hp => hb.cell hp
theorem Rd.drewN (h : Rd w B size A n xs) (k : Nat) : Rd (w.drewN k) B size A n xs := h
theorem Rd.drew (h : Rd w B size A n xs) : Rd w.drew B size A n xs := h
theorem Rd.alloc (h : Rd w B size A n xs) (hB : B ≤ w.heap.size) (o : Obj) : Rd (w.alloc o) B size A n xs := h.keep fun p hp => World.cell?_alloc_lt w o p (by omega)
theorem Rd.at1 {k : Nat} (h : Rd w B 1 A n xs) (hk : k < n) : ∃ a u, A = some a ∧ a.block < B ∧ xs[k]? = some u ∧ w.cell? (a.add k) = some u := by
  obtain ⟨a, e, hb, hc⟩ := h.2 (by omega)
  have hl : k < xs.length := by have := h.1; omega
  exact ⟨a, xs[k], e, hb, List.getElem?_eq_getElem hl, hc k _ (List.getElem?_eq_getElem hl)⟩
theorem Rd.u8 {l : List UInt8} (h : Rd w B 1 A n (u8s l)) : l.length = n := by have := h.1; rw [u8s_length] at this; omega
theorem Rd.byte {l : List UInt8} {k : Nat} (h : Rd w B 1 A n (u8s l)) (hk : k < l.length) : ∃ a, A = some a ∧ a.block < B ∧ w.cell? (a.add k) = some (.int .u8 ((l[k]'hk).toNat : Int)) := by
  obtain ⟨a, u, e, hb, hx, hc⟩ := h.at1 (k := k) (by have := h.u8; omega)
  rw [u8s_get l k hk] at hx
  injection hx with hx
  exact ⟨a, e, hb, by rw [hc, hx]⟩
theorem Rd.own {base : Nat} {e : TypeId} {c : Nat} (h : w.ownsRow base e size (.slice A n c) n xs) : Rd w w.heap.size size A n xs := by
  refine ⟨h.1, fun hn => ?_⟩
  obtain ⟨g, cap, hv, _, hlt⟩ := h.form hn
  have hA : A = some ⟨g, 0, none⟩ := by injection hv
  subst hA
  exact ⟨_, rfl, hlt, h.cells (g := g) rfl⟩
end

/-- a cut of a slice that came in, in the model's own spelling -/
theorem Rd.cut {w : World} {B size n : Nat} {A : Option Addr} {xs : List Value} (h : Rd w B size A n xs) {k c : Nat} (hk : k ≤ n) (hc : n ≤ c) :
    Rd w B size (if c = k then A else A.map (·.add (k * size))) (n - k) (xs.drop (k * size)) := by
  refine ⟨by rw [List.length_drop, h.1, Nat.sub_mul], fun hn => ?_⟩
  obtain ⟨a, rfl, hb, hcell⟩ := h.2 (by omega)
  rw [if_neg (by omega)]
  refine ⟨a.add (k * size), rfl, by rw [block_add]; exact hb, fun j u hu => ?_⟩
  rw [add_add']
  exact hcell _ u (by rw [← hu, List.getElem?_drop])
theorem Rd.take {w : World} {B n k : Nat} {A : Option Addr} {l : List UInt8} (h : Rd w B 1 A n (u8s l)) (hk : k ≤ n) : Rd w B 1 A k (u8s (l.take k)) := by
  have hl := h.u8
  refine ⟨by rw [u8s_length, List.length_take]; omega, fun hn => ?_⟩
  obtain ⟨a, rfl, hb, hcell⟩ := h.2 (by omega)
  refine ⟨a, rfl, hb, fun j u hu => hcell j u ?_⟩
  unfold u8s at *
  rw [List.getElem?_map, List.getElem?_take] at hu
  split at hu
  · rw [List.getElem?_map]; exact hu
  · cases hu
theorem u8s_drop (l : List UInt8) (k : Nat) : (u8s l).drop k = u8s (l.drop k) := by simp [u8s, List.map_drop]

/-- what stands behind the first element, as the walk spells it: there is room behind it (c > 1), or not -/
theorem Rd.rest {w : World} {B n : Nat} {a : Addr} {x : UInt8} {t : List UInt8} (h : Rd w B 1 (some a) (n + 1) (u8s (x :: t))) : Rd w B 1 (some ⟨a.block, a.off + 1, none⟩) n (u8s t) := by
  have := h.cut (k := 1) (c := n + 2) (by omega) (by omega)
  rw [if_neg (by omega), u8s_drop] at this
  simpa [Addr.add] using this
theorem Rd.rest0 {w : World} {B n : Nat} {a : Addr} {x : UInt8} {t : List UInt8} (h : Rd w B 1 (some a) (n + 1) (u8s (x :: t))) (h0 : n = 0) : Rd w B 1 (some a) n (u8s t) := by
  subst h0
  have hl := h.u8
  have : t = [] := List.eq_nil_of_length_eq_zero (by simpa using hl)
  subst this
  exact ⟨by simp [u8s], fun h => by omega⟩

/-- The call's own: 'Below' over draws. -/
theorem below_drewN {B : Nat} {a w : World} (h : Below B a w) (n : Nat) : Below B a (w.drewN n) := ⟨h.os, h.tape, h.output, h.size, h.block⟩

/-- What an append (or several) to the slice v leaves: the slice v' in the world w'; but for v's own block nothing that was there has turned. -/
def Appd (w w' : World) (v v' : Value) : Prop := w.grownBy w' v.ownBlock ∧ (v'.ownBlock = v.ownBlock ∨ ∃ k, v'.ownBlock = some k ∧ w.heap.size ≤ k)
theorem Appd.refl (w : World) (v : Value) : Appd w w v v := ⟨World.grownBy.refl w _, .inl rfl⟩
theorem Appd.trans {a b c : World} {u v x : Value} (h : Appd a b u v) (k : Appd b c v x) : Appd a c u x := by
  refine ⟨h.1.andThen k.1 fun j hj => ?_, ?_⟩
  · rcases h.2 with e | ⟨i, e, hi⟩
    · exact .inr (by rw [← e]; exact hj)
    · rw [e] at hj; injection hj with hj; exact .inl (by omega)
  · rcases k.2 with e | ⟨i, e, hi⟩
    · rcases h.2 with e' | ⟨i', e', hi'⟩
      · exact .inl (e.trans e')
      · exact .inr ⟨i', e.trans e', hi'⟩
    · exact .inr ⟨i, e, Nat.le_trans h.1.size hi⟩
theorem Appd.drewN {a b : World} {u v : Value} (h : Appd a b u v) (n : Nat) : Appd a (b.drewN n) u v := ⟨⟨h.1.os, h.1.tape, h.1.output, h.1.size, h.1.block⟩, h.2⟩
theorem Appd.drew {a b : World} {u v : Value} (h : Appd a b u v) : Appd a b.drew u v := ⟨⟨h.1.os, h.1.tape, h.1.output, h.1.size, h.1.block⟩, h.2⟩
theorem Appd.alloc {a b : World} {u v : Value} (h : Appd a b u v) (o : Obj) : Appd a (b.alloc o) u v :=
  ⟨h.1.andThen (World.grownBy_alloc b o none) (fun j hj => by cases hj), h.2⟩
theorem Appd.of_alloc {a b : World} {u v : Value} {o : Obj} (h : Appd (a.alloc o) b u v) : Appd a b u v := by
  refine ⟨(World.grownBy_alloc a o u.ownBlock).trans h.1, h.2.imp id ?_⟩
  rintro ⟨k, e, hk⟩
  have : (a.alloc o).heap.size = a.heap.size + 1 := by simp
  exact ⟨k, e, by omega⟩
theorem u8s_snoc (l : List UInt8) (b : UInt8) (u : Value) (h : u = .int .u8 (b.toNat : Int)) : u8s l ++ [u] = u8s (l ++ [b]) := by rw [h]; simp [u8s]
theorem Appd.below {a b : World} {u v : Value} {B n : Nat} {e : TypeId} {size : Nat} {xs : List Value} (h : Appd a b u v) (hB : B ≤ a.heap.size) (ho : a.ownsRow B e size u n xs) : Below B a b :=
  (Below.refl _ _).grown h.1 hB fun k hk => (ho.lt k hk).1
theorem Appd.below_nil {a b : World} {v : Value} {B : Nat} (h : Appd a b (.slice none 0 0) v) (hB : B ≤ a.heap.size) : Below B a b :=
  (Below.refl _ _).grown h.1 hB fun k hk => by cases hk
/-- an owned row stands while another one is appended to -/
theorem Appd.kept {a b : World} {u v x : Value} {B n : Nat} {e : TypeId} {size : Nat} {xs : List Value} (h : Appd a b u v) (ho : a.ownsRow B e size x n xs) (hne : x.ownBlock = none ∨ x.ownBlock ≠ u.ownBlock) : b.ownsRow B e size x n xs :=
  ho.kept h.1 hne
/-- the same row, seen from another number on -/
theorem own_base {w : World} {base base' n : Nat} {e : TypeId} {size : Nat} {v : Value} {xs : List Value} (h : w.ownsRow base e size v n xs) (hb : ∀ k, v.ownBlock = some k → base' ≤ k) : w.ownsRow base' e size v n xs := by
  refine ⟨h.1, ?_⟩
  rcases h.2 with h2 | ⟨g, cap, cur, rfl, hg, r⟩
  · exact .inl h2
  · exact .inr ⟨g, cap, cur, rfl, hb g rfl, r⟩
theorem own_mono {w : World} {base base' n : Nat} {e : TypeId} {size : Nat} {v : Value} {xs : List Value} (h : w.ownsRow base e size v n xs) (hb : base' ≤ base) : w.ownsRow base' e size v n xs :=
  own_base h fun k hk => Nat.le_trans hb (h.lt k hk).1
theorem own_below {w w' : World} {base n : Nat} {e : TypeId} {size : Nat} {v : Value} {xs : List Value} (h : w.ownsRow base e size v n xs) {B : Nat} (hb : Below B w w') (hB : w.heap.size ≤ B) : w'.ownsRow base e size v n xs := by
  refine ⟨h.1, ?_⟩
  rcases h.2 with h2 | ⟨g, cap, cur, rfl, hg, hh, r⟩
  · exact .inl h2
  · exact .inr ⟨g, cap, cur, rfl, hg, by rw [hb.block g (by have := (Array.getElem?_eq_some_iff.1 hh).1; omega)]; exact hh, r⟩
theorem own_drewN {w : World} {base n : Nat} {e : TypeId} {size : Nat} {v : Value} {xs : List Value} (h : w.ownsRow base e size v n xs) (k : Nat) : (w.drewN k).ownsRow base e size v n xs := h

section
variable {P : Program}
/-- APPEND OF ONE ELEMENT (its cell stands in the new block w0.heap.size). -/
theorem wpList_app1 {ops : Array Oper} {rest : List Oper} {o : Oper} {a : Act} {Q : Exit → Act → World → Prop} (w0 : World) (u : Value) (hu : u.oneCell' = true) (hgd : o.guard = none) (s x : Operand) (t : TypeId)
    (ho : o.op = .call { callee := .builtin .append, args := #[s, x], argTypes := #[t, t] })
    (base : Nat) (e : TypeId) (z : Value) (bytes : Nat) (hinf : (P.info? e).map (fun i => (i.zero, i.size, i.bytes)) = some (some z, 1, bytes)) (hzs : z.cells.size = 1) (ht : P.underlying t = some (.slice e))
    (v : Value) (n : Nat) (xs : List Value) (hown : w0.ownsRow base e 1 v n xs) (hs : a.eval s = v) (hx : a.eval x = .slice (some ⟨w0.heap.size, 0, none⟩) 1 1)
    (hbytes : (n + 1) * bytes ≤ 140737488355328) (h63 : n + 1 ≤ 140737488355328) (hbase : base ≤ w0.heap.size)
    (h : ∀ v' w', w'.ownsRow base e 1 v' (n + 1) (xs ++ [u]) → Appd w0 w' v v' → wpList P ops Q rest (a.put o.dst v') w') :
    wpList P ops Q (o :: rest) a (w0.alloc (.cells #[u] e)) := by
  obtain ⟨i, hi, hz, hs1, hby⟩ := info_parts hinf
  have hsz : (w0.alloc (.cells #[u] e)).heap.size = w0.heap.size + 1 := by simp
  refine wpList_append_own_at _ hgd s x t ho base e i z 1 bytes ht hi hz hs1 hby hzs (by decide) v n xs hs (hown.alloc _) ⟨w0.heap.size, 0, none⟩ 1 1 [u] hx rfl
    (cell_one_new _ _ _) (by simpa using hu) (by simp only [maxLen]; omega) hbytes (by omega) ?_
  intro v' w' h1 h2 _ h4
  exact h v' w' h1 (Appd.of_alloc ⟨h2, h4.imp id fun e => ⟨_, e, Nat.le_refl _⟩⟩)

/-- APPEND OF A SLICE, nil or not. -/
theorem wpList_appS {ops : Array Oper} {rest : List Oper} {o : Oper} {a : Act} {Q : Exit → Act → World → Prop} (w : World) (hgd : o.guard = none) (s x : Operand) (t : TypeId)
    (ho : o.op = .call { callee := .builtin .append, args := #[s, x], argTypes := #[t, t] })
    (base : Nat) (e : TypeId) (z : Value) (size bytes : Nat) (hinf : (P.info? e).map (fun i => (i.zero, i.size, i.bytes)) = some (some z, size, bytes)) (hzs : z.cells.size = size) (hsz : 0 < size) (ht : P.underlying t = some (.slice e))
    (v : Value) (n : Nat) (xs : List Value) (hown : w.ownsRow base e size v n xs) (hs : a.eval s = v)
    (B : Nat) (A : Option Addr) (m c : Nat) (news : List Value) (hr : Rd w B size A m news) (hx : a.eval x = .slice A m c) (h1 : ∀ u ∈ news, u.oneCell' = true)
    (hbytes : (n + m) * bytes ≤ 140737488355328) (h63 : n + m ≤ 140737488355328) (hbase : base ≤ w.heap.size)
    (h : ∀ v' w', w'.ownsRow base e size v' (n + m) (xs ++ news) → Appd w w' v v' → wpList P ops Q rest (a.put o.dst v') w') :
    wpList P ops Q (o :: rest) a w := by
  obtain ⟨i, hi, hz, hs1, hby⟩ := info_parts hinf
  rcases A with _ | ad
  · have hm : m = 0 := by
      rcases Nat.eq_zero_or_pos m with h0 | h0
      · exact h0
      · obtain ⟨_, h, _⟩ := hr.2 h0
        cases h
    subst hm
    have hn : news = [] := List.eq_nil_of_length_eq_zero (by simpa using hr.1)
    subst hn
    have hrun : (Builtin.append_ #[t, t] o.type #[v, .slice none 0 c]).run P w = .ok v w := by
      rcases hown.2 with ⟨rfl, rfl⟩ | ⟨g, cap, cur, rfl, _, _, hnc, _⟩
      · simp [Builtin.append_, run_underlying ht, sizeOf, typeInfo, hi, Builtin.lenOf, Builtin.firstCells]
      · simp [Builtin.append_, run_underlying ht, sizeOf, typeInfo, hi, Builtin.lenOf, Builtin.firstCells, hnc, storeCells]
    refine wpList_plain hgd fun K hK => ?_
    unfold Oper.wp execOp
    simp only [ho, resolve, invoke, builtin, Sem.run_bind, Sem.run_pure, Result.andThen_ok, List.map_toArray, List.map_cons, List.map_nil, hs, hx, hrun]
    exact hK _ _ (h v w (by simpa using hown) (Appd.refl _ _))
  · have hcells : ∀ j u, news[j]? = some u → w.cell? (ad.add j) = some u := by
      intro j u hu
      rcases Nat.eq_zero_or_pos m with h0 | h0
      · subst h0
        have hn : news = [] := List.eq_nil_of_length_eq_zero (by simpa using hr.1)
        subst hn
        simp at hu
      · obtain ⟨ad', h, _, hc⟩ := hr.2 h0
        injection h with h
        subst h
        exact hc j u hu
    refine wpList_append_own_at _ hgd s x t ho base e i z size bytes ht hi hz hs1 hby hzs hsz v n xs hs hown ad m c news hx hr.1 hcells h1 (by simp only [maxLen]; omega) hbytes hbase ?_
    intro v' w' h1 h2 _ h4
    exact h v' w' h1 ⟨h2, h4.imp id fun e => ⟨_, e, Nat.le_refl _⟩⟩
end

/-- the form of a slice of the call's own -/
theorem own_form {w : World} {base n : Nat} {e : TypeId} {size : Nat} {v : Value} {xs : List Value} (h : w.ownsRow base e size v n xs) : ∃ A c, v = .slice A n c ∧ n ≤ c ∧ c ≤ maxLen ∧ n ≤ maxLen := by
  rcases h.2 with ⟨rfl, rfl⟩ | ⟨g, cap, cur, rfl, _, _, hnc, hcm, _⟩
  · exact ⟨none, 0, rfl, Nat.le_refl _, by simp [maxLen], by simp [maxLen]⟩
  · exact ⟨_, cap, rfl, hnc, hcm, Nat.le_trans hnc hcm⟩
/-- string(b) of a slice that reads as bytes -/
theorem run_str {P : Program} {w : World} {src dst e : TypeId} {B n c : Nat} {A : Option Addr} {l : List UInt8} (h : Rd w B 1 A n (u8s l)) (hs : P.underlying src = some (.slice e)) (he : P.underlying e = some (.int .u8)) (hd : P.underlying dst = some .string) :
    (convert src dst (.slice A n c)).run P w = .ok (.string ⟨l.toArray⟩) w := by
  obtain rfl : n = l.length := h.u8.symm
  cases A with
  | none =>
    have h0 : l = [] := by
      apply List.eq_nil_of_length_eq_zero
      rcases Nat.eq_zero_or_pos l.length with h0 | h0
      · exact h0
      · obtain ⟨_, h, _⟩ := h.2 h0; cases h
    subst h0
    exact run_convert_bytes_nil w src e hs he _ _ dst hd
  | some a =>
    refine run_convert_bytes_back w src dst e a c l hs he hd fun j hj => ?_
    obtain ⟨a', e', _, hc⟩ := h.byte hj
    injection e' with e'
    subst e'
    exact hc
theorem run_str_own {P : Program} {w : World} {src dst e t : TypeId} {base n : Nat} {v : Value} {l : List UInt8} (ho : w.ownsRow base t 1 v n (u8s l)) (hs : P.underlying src = some (.slice e)) (he : P.underlying e = some (.int .u8)) (hd : P.underlying dst = some .string) :
    (convert src dst v).run P w = .ok (.string ⟨l.toArray⟩) w := by
  obtain ⟨A, c, rfl, _⟩ := own_form ho
  exact run_str (Rd.own ho) hs he hd

end Go.Proofs.YtfhmaincnlaapaaGreat
namespace Go.Proofs.YtfhmaincnlaapaaGreat
open Go.ChangeShapes Go.WideShapes Go.ChangeAt Go.RowKit
set_option linter.unusedVariables false

/-- block g is just the cells cs of type t, none frozen -/
def Blk (w : World) (g : Nat) (t : TypeId) (cs : Array Value) : Prop := w.heap[g]? = some (.cells cs t (0, 0))
/-- a world with some draws more -/
def Drw (w w' : World) : Prop := ∃ k, w' = w.drewN k
theorem Drw.refl (w : World) : Drw w w := ⟨0, rfl⟩
theorem Drw.trans {a b c : World} (h : Drw a b) (k : Drw b c) : Drw a c := by
  obtain ⟨i, rfl⟩ := h; obtain ⟨j, rfl⟩ := k; exact ⟨_, World.drewN_drewN _ _ _⟩
theorem Drw.drew {a b : World} (h : Drw a b) : Drw a b.drew := h.trans ⟨1, rfl⟩
theorem Drw.drewN {a b : World} (h : Drw a b) (k : Nat) : Drw a (b.drewN k) := h.trans ⟨k, rfl⟩
theorem Drw.below {B : Nat} {a b c : World} (h : Drw b c) (k : Below B a b) : Below B a c := by obtain ⟨i, rfl⟩ := h; exact below_drewN k i

section
variable {w w' : World} {g : Nat} {t : TypeId} {cs : Array Value}
theorem Blk.lt (h : Blk w g t cs) : g < w.heap.size := by
  rcases Nat.lt_or_ge g w.heap.size with hlt | hge
  · exact hlt
  · unfold Blk at h; rw [Array.getElem?_eq_none hge] at h; cases h
theorem Blk.cell (h : Blk w g t cs) (i : Nat) : w.cell? ⟨g, i, none⟩ = cs[i]? := cell_of_row w g i cs t (0, 0) h
theorem Blk.frozen (h : Blk w g t cs) (i : Nat) : w.frozen? ⟨g, i, none⟩ = false := by
  unfold Blk at h
  simp [World.frozen?, h]
theorem Blk.new (w : World) (t : TypeId) (cs : Array Value) : Blk (w.alloc (.cells cs t)) w.heap.size t cs := heap_alloc_new w _
theorem Blk.drew (h : Blk w g t cs) : Blk w.drew g t cs := h
theorem Blk.drewN (h : Blk w g t cs) (n : Nat) : Blk (w.drewN n) g t cs := h
theorem Blk.drw (h : Blk w g t cs) (k : Drw w w') : Blk w' g t cs := by obtain ⟨n, rfl⟩ := k; exact h
theorem Blk.alloc (h : Blk w g t cs) (o : Obj) : Blk (w.alloc o) g t cs := (Below.heap_alloc w o g h.lt).trans h
theorem Blk.set_ (h : Blk w g t cs) (i : Nat) (u : Value) : Blk (w.setCell ⟨g, i, none⟩ u) g t (cs.setIfInBounds i u) := by
  unfold Blk at h ⊢
  simp [World.setCell, Array.getElem?_modify, h]
theorem Blk.far (h : Blk w g t cs) {p : Addr} (hp : g ≠ p.block) (u : Value) : Blk (w.setCell p u) g t cs := (Below.heap_setCell w p u g hp).trans h
theorem Blk.below {B : Nat} (h : Blk w g t cs) (hb : Below B w w') (hg : g < B) : Blk w' g t cs := (hb.block g hg).trans h
theorem Blk.grown {row : Option Nat} (h : Blk w g t cs) (hb : w.grownBy w' row) (hg : some g ≠ row) : Blk w' g t cs := (hb.block g h.lt hg).trans h
theorem Blk.ne_ {g' : Nat} {t' : TypeId} {cs' : Array Value} (h : Blk w g t cs) (h' : Blk w g' t' cs') (hne : t ≠ t') : g ≠ g' := by
  rintro rfl
  unfold Blk at h h'
  rw [h] at h'
  injection h' with h'
  injection h' with _ ht
  exact hne ht
theorem own_blk_ne {base : Nat} {e : TypeId} {size n : Nat} {v : Value} {xs : List Value} (h : w.ownsRow base e size v n xs) (hg : Blk w g t cs) (hne : e ≠ t) : v.ownBlock ≠ some g := by
  rcases h.2 with ⟨rfl, _⟩ | ⟨g', cap, cur, rfl, _, hh, _⟩
  · simp [Value.ownBlock]
  · intro he
    have : g' = g := by simpa [Value.ownBlock] using he
    subst this
    exact Blk.ne_ (t := e) hh hg hne rfl
theorem Appd.blk {v v' : Value} (h : Appd w w' v v') (hg : Blk w g t cs) (hne : v.ownBlock ≠ some g) : Blk w' g t cs := hg.grown h.1 (fun e => hne e.symm)
end

/-- of what was there only block g has turned -/
def Only (g : Nat) (a w : World) : Prop := a.grownBy w (some g)
section
variable {a b c w : World} {g : Nat}
theorem Only.refl (g : Nat) (a : World) : Only g a a := World.grownBy.refl a _
theorem Only.trans (h : Only g a b) (k : Only g b c) : Only g a c :=
  ⟨k.os.trans h.os, k.tape.trans h.tape, k.output.trans h.output, Nat.le_trans h.size k.size, fun i hi hne => (k.block i (Nat.lt_of_lt_of_le hi h.size) hne).trans (h.block i hi hne)⟩
theorem Only.drewN (h : Only g a w) (n : Nat) : Only g a (w.drewN n) := ⟨h.os, h.tape, h.output, h.size, h.block⟩
theorem Only.drew (h : Only g a w) : Only g a w.drew := ⟨h.os, h.tape, h.output, h.size, h.block⟩
theorem Only.drw (h : Only g a b) (k : Drw b c) : Only g a c := by obtain ⟨n, rfl⟩ := k; exact h.drewN n
theorem Only.alloc (h : Only g a w) (o : Obj) : Only g a (w.alloc o) :=
  ⟨h.os, h.tape, h.output, Nat.le_trans h.size (by simp), fun i hi hne => (Below.heap_alloc w o i (Nat.lt_of_lt_of_le hi h.size)).trans (h.block i hi hne)⟩
theorem Only.set_ (h : Only g a w) {p : Addr} (hp : p.block = g ∨ a.heap.size ≤ p.block) (u : Value) : Only g a (w.setCell p u) :=
  ⟨h.os, h.tape, h.output, by simpa [World.setCell] using h.size, fun i hi hne => (Below.heap_setCell w p u i (by
    rintro rfl
    rcases hp with hp | hp
    · exact hne (by rw [hp])
    · omega)).trans (h.block i hi hne)⟩
theorem Only.of_below (h : Below a.heap.size a w) (g : Nat) : Only g a w := ⟨h.os, h.tape, h.output, h.size, fun i hi _ => h.block i hi⟩
theorem Only.belowT (h : Only g a b) (k : Below b.heap.size b c) : Only g a c := h.trans (Only.of_below k g)
theorem Only.appd {v v' : Value} (h : Only g a b) (k : Appd b c v v') (hv : ∀ j, v.ownBlock = some j → j = g ∨ a.heap.size ≤ j) : Only g a c :=
  ⟨k.1.os.trans h.os, k.1.tape.trans h.tape, k.1.output.trans h.output, Nat.le_trans h.size k.1.size, fun i hi hne => (k.1.block i (Nat.lt_of_lt_of_le hi h.size) (by
    intro e
    rcases hv i e.symm with e' | e'
    · exact hne (by rw [e'])
    · omega)).trans (h.block i hi hne)⟩
theorem Only.below {B : Nat} (h : Only g a b) (hB : B ≤ g) (hs : B ≤ a.heap.size) : Below B a b :=
  ⟨h.os, h.tape, h.output, h.size, fun i hi => h.block i (by omega) (by intro e; injection e with e; omega)⟩
theorem Only.blk {t : TypeId} {g' : Nat} {cs : Array Value} (h : Only g a b) (hb : Blk a g' t cs) (hne : g' ≠ g) : Blk b g' t cs := hb.grown h (by intro e; injection e with e; exact hne e)
theorem Only.rd {B size n : Nat} {A : Option Addr} {xs : List Value} (h : Only g a b) (hr : Rd a B size A n xs) (hB : B ≤ g) (hs : B ≤ a.heap.size) : Rd b B size A n xs := hr.below (h.below hB hs)
/-- an owned row whose block is not g -/
theorem Only.own {base n : Nat} {e : TypeId} {size : Nat} {v : Value} {xs : List Value} (h : Only g a b) (ho : a.ownsRow base e size v n xs) (hne : v.ownBlock ≠ some g) : b.ownsRow base e size v n xs := by
  refine ⟨ho.1, ?_⟩
  rcases ho.2 with h2 | ⟨g', cap, cur, rfl, hg, hh, r⟩
  · exact .inl h2
  · refine .inr ⟨g', cap, cur, rfl, hg, ?_, r⟩
    rw [h.block g' (by have := (Array.getElem?_eq_some_iff.1 hh).1; omega) (by intro e; exact hne e)]; exact hh
end
theorem belA {a b : World} (h : Below a.heap.size a b) (o : Obj) : Below a.heap.size a (b.alloc o) := h.alloc h.size o
theorem belW {a b c : World} (h : Below a.heap.size a b) (k : Drw b c) : Below a.heap.size a c := k.below h
/-- rules for the walk: draws outermost (laid into the context ahead of a walk) -/
theorem sdN : ∀ (w : World) (n : Nat) (a : Addr) (v : Value), (w.drewN n).setCell a v = (w.setCell a v).drewN n := fun _ _ _ _ => rfl
theorem adN : ∀ (w : World) (n : Nat) (o : Obj), (w.drewN n).alloc o = (w.alloc o).drewN n := fun _ _ _ => rfl
/-- a quiet call inside a region that draws its order -/
theorem qcall {P : Program} {f : FuncId} {args : Array Value} {w : World} {n : Nat} {v : Value}
    (h : Calls P f args (w.drewN n) fun e w' => e = .returned v ∧ Drw (w.drewN n) w') : Calls P f args (w.drewN n) fun e w'' => e = .returned v ∧ ∃ m, w'' = w.drewN m :=
  h.mono fun _ _ ⟨he, m, hm⟩ => ⟨he, n + m, by rw [hm, World.drewN_drewN]⟩
theorem qcallS {P : Program} {f : FuncId} {args : Array Value} {w : World} {n : Nat} {v : Value}
    (h : Calls P f args (w.drewN n) fun e w' => e = .returned v ∧ w.drewN n = w') : Calls P f args (w.drewN n) fun e w'' => e = .returned v ∧ ∃ m, w'' = w.drewN m :=
  h.mono fun _ _ ⟨he, hm⟩ => ⟨he, n, hm.symm⟩
end Go.Proofs.YtfhmaincnlaapaaGreat
namespace Go.Proofs.YtfhmaincnlaapaaGreat
open Go.ChangeShapes Go.WideShapes Go.ChangeAt Go.RowKit Go.Deep Go.Joins
open Go.ChangeMaps (open_string shut_string)
set_option linter.unusedVariables false

theorem laidOut : laidOutB Tryz.prog = true := by kernel_rfl
theorem own : ownKnob Tryz.prog.godebug = none := by kernel_rfl

section
variable {H : Type} {enc : TypeId × Value → H} {P : Program} {w : World} {base : Nat} {spare : Nat → Bool} {held : Bool}
theorem block_of_cell {w : World} {a : Addr} {u : Value} (h : w.cell? a = some u) : a.block < w.heap.size := World.block_lt_of_cell? w a h
theorem bytes_of_wf (zs : List Int) (h : ∀ n ∈ zs, (Lit.int .u8 n).wf = true) : u8s (zs.map fun n => UInt8.ofNat n.toNat) = zs.map (Value.int .u8) := by
  simp only [u8s, List.map_map]
  apply List.map_congr_left
  intro n hn
  have := bounds_u8 (h n hn)
  simp only [Function.comp, UInt8.toNat_ofNat']
  congr 1
  omega
theorem open_bytes1 {t e : TypeId} {fuel : Nat} {cs : List Value} {x : DataW H × List MemPlace} (ht : P.underlying t = some (.slice e)) (he : P.underlying e = some (.int .u8)) (hC : P.cellsOf e = 1)
    (hf : DataW.trod enc P w base spare held fuel t cs = some x) :
    ∃ A n c l, cs = [.slice A n c] ∧ n ≤ c ∧ c ≤ maxLen ∧ Rd w w.heap.size 1 A n (u8s l) := by
  rcases open_ints ht he hC hf with ⟨hcs, _⟩ | ⟨x, len, cap, zs, hcs, _, hl, hm, hz, _, hcell, hwz⟩
  · exact ⟨none, 0, 0, [], hcs, Nat.le_refl _, by simp [maxLen], Rd.nil⟩
  · have hz' : len ≤ zs.length := by rw [hz]; split <;> omega
    refine ⟨some x, len, cap, (zs.take len).map fun n => UInt8.ofNat n.toNat, hcs, hl, hm, ?_⟩
    rw [bytes_of_wf _ (fun n hn => hwz n (List.mem_of_mem_take hn))]
    refine ⟨by simp; omega, fun hn => ⟨x, rfl, ?_, fun j u hu => ?_⟩⟩
    · have := hcell 0 (by omega)
      rw [show x.add 0 = x by simp [Addr.add]] at this
      exact block_of_cell this
    · rw [List.getElem?_map, List.getElem?_take] at hu
      split at hu
      · rename_i hj
        rw [hcell j (by omega)]
        have : zs[j]? = some (zs.getD j 0) := by rw [List.getD_eq_getElem?_getD, List.getElem?_eq_getElem (by omega)]; rfl
        rw [this] at hu
        exact hu
      · cases hu
theorem open_bytes {r : Reach} {b0 : Nat} {t e : TypeId} {v : Value} {d : DataW H} {ps : List MemPlace} (ht : P.underlying t = some (.slice e)) (he : P.underlying e = some (.int .u8)) (hC : P.cellsOf e = 1)
    (hv : Value.okWide P w r b0 t v) (h : DataW.Trod enc P w base spare held t v d ps) :
    ∃ A n c l, v = .slice A n c ∧ n ≤ c ∧ c ≤ maxLen ∧ Rd w w.heap.size 1 A n (u8s l) := by
  obtain ⟨a, len, cap, rfl⟩ := okWide_slice ht hv
  obtain ⟨fuel, hf⟩ := h
  obtain ⟨A, n, c, l, hcs, h1, h2, h3⟩ := open_bytes1 ht he hC hf
  simp [Value.cells] at hcs
  obtain ⟨rfl, rfl, rfl⟩ := hcs
  exact ⟨_, _, _, l, rfl, h1, h2, h3⟩
end
end Go.Proofs.YtfhmaincnlaapaaGreat
namespace Go.Proofs.YtfhmaincnlaapaaGreat
set_option linter.unusedVariables false

/-- how many bytes a number below 2^64 has (none: 0) -/
def wdF : Nat → Nat → Nat
  | 0, _ => 0
  | f + 1, x => if x = 0 then 0 else wdF f (x / 256) + 1
def wd (x : Nat) : Nat := wdF 8 x
/-- the lowest k bytes of a number, the highest first -/
def be : Nat → Nat → List UInt8
  | 0, _ => []
  | k + 1, x => UInt8.ofNat (x / 256 ^ k) :: be k x
theorem be_length (k x : Nat) : (be k x).length = k := by
  induction k with
  | zero => rfl
  | succ k ih => simp [be, ih]
theorem be_get (k x j : Nat) (h : j < k) : (be k x)[j]? = some (UInt8.ofNat (x / 256 ^ (k - 1 - j))) := by
  induction k generalizing j with
  | zero => omega
  | succ k ih =>
    cases j with
    | zero => simp [be]
    | succ j => simp only [be, List.getElem?_cons_succ]; rw [ih j (by omega)]; congr 4; omega
theorem be_take (k x j : Nat) (h : j < k) : (be k x).take (j + 1) = (be k x).take j ++ [UInt8.ofNat (x / 256 ^ (k - 1 - j))] := by
  rw [List.take_add_one, be_get k x j h]; rfl
theorem be_snoc (k x : Nat) : be (k + 1) x = be k (x / 256) ++ [UInt8.ofNat x] := by
  induction k with
  | zero => simp [be]
  | succ k ih =>
    rw [be, ih]
    conv => rhs; rw [be]
    simp only [List.cons_append]
    congr 2
    rw [Nat.div_div_eq_div_mul, Nat.pow_succ, Nat.mul_comm]
theorem wdF_le (f x : Nat) : wdF f x ≤ f := by
  induction f generalizing x with
  | zero => simp [wdF]
  | succ f ih => simp only [wdF]; split; omega; have := ih (x / 256); omega
theorem wd_le (x : Nat) : wd x ≤ 8 := wdF_le 8 x
theorem wdF_lt (f x : Nat) (h : x < 256 ^ f) : x < 256 ^ wdF f x := by
  induction f generalizing x with
  | zero => simpa [wdF] using h
  | succ f ih =>
    simp only [wdF]
    split
    · omega
    · have := ih (x / 256) (by rw [Nat.pow_succ] at h; omega)
      rw [Nat.pow_succ]; omega
theorem wdF_ge (f x : Nat) (h0 : 0 < x) (h : x < 256 ^ f) : 256 ^ (wdF f x - 1) ≤ x := by
  induction f generalizing x with
  | zero => simp at h; omega
  | succ f ih =>
    simp only [wdF]
    rw [if_neg (by omega)]
    by_cases hx : x / 256 = 0
    · have : wdF f (x / 256) = 0 := by rw [hx]; cases f <;> simp [wdF]
      rw [this]; simp; omega
    · have := ih (x / 256) (by omega) (by rw [Nat.pow_succ] at h; omega)
      have hw : 1 ≤ wdF f (x / 256) := by
        cases f with
        | zero => simp at h; omega
        | succ f => simp only [wdF]; rw [if_neg hx]; omega
      have e : wdF f (x / 256) + 1 - 1 = (wdF f (x / 256) - 1) + 1 := by omega
      rw [e, Nat.pow_succ]; omega
/-- a number's fuel does not matter once it is enough -/
theorem wdF_more (f x : Nat) (h : x < 256 ^ f) : wdF (f + 1) x = wdF f x := by
  induction f generalizing x with
  | zero => simp at h; simp [wdF, h]
  | succ f ih =>
    rw [wdF]
    split
    · rename_i h0; simp [wdF, h0]
    · rename_i h0
      rw [ih (x / 256) (by rw [Nat.pow_succ] at h; omega)]
      conv => rhs; rw [wdF]
      rw [if_neg h0]
theorem wd_step (x : Nat) (h : x < 18446744073709551616) (h0 : 0 < x) : wd x = wd (x / 256) + 1 := by
  unfold wd
  rw [show wdF 8 x = (if x = 0 then 0 else wdF 7 (x / 256) + 1) from rfl, if_neg (by omega), wdF_more 7 (x / 256) (by simp; omega)]
theorem wd_zero : wd 0 = 0 := rfl
theorem wd_lt (x : Nat) (h : x < 18446744073709551616) : x < 256 ^ wd x := wdF_lt 8 x (by simpa using h)
theorem wd_ge (x : Nat) (h0 : 0 < x) (h : x < 18446744073709551616) : 256 ^ (wd x - 1) ≤ x := wdF_ge 8 x h0 (by simpa using h)

theorem be_cell (x j m k : Nat) (h : j + 1 + m = k) : Value.int IntKind.u8 ((x : Int) / 2 ^ (8 * j) % 256) = .int .u8 ((UInt8.ofNat (x / 256 ^ (k - 1 - m))).toNat : Int) := by
  have e : k - 1 - m = j := by omega
  rw [e, UInt8.toNat_ofNat', show (256 : Nat) = 2 ^ 8 from rfl, ← Nat.pow_mul]
  simp

theorem nat_not64 (y : Nat) (h : y < 18446744073709551616) : 18446744073709551615 ^^^ y = 18446744073709551615 - y := by
  have e : (BitVec.allOnes 64 ^^^ BitVec.ofNat 64 y).toNat = 18446744073709551615 - y := by
    rw [BitVec.allOnes_xor, BitVec.toNat_not, BitVec.toNat_ofNat, Nat.mod_eq_of_lt (by omega)]
  rw [BitVec.toNat_xor, BitVec.toNat_ofNat, Nat.mod_eq_of_lt (by omega)] at e
  simpa using e
theorem bits_not64 (y : Nat) (h : y < 18446744073709551616) : bits .xor .u64 IntKind.u64.max (y : Int) = ((18446744073709551615 - y : Nat) : Int) := by
  have e : IntKind.u64.max = ((18446744073709551615 : Nat) : Int) := by decide
  rw [e, u64_xor_nat _ _ (by omega) h, nat_not64 y h]

/-- the codes -/
def encU (x : Nat) : List UInt8 := UInt8.ofNat (wd x) :: be (wd x) x
def encI (z : Int) : List UInt8 :=
  if 0 ≤ z then UInt8.ofNat (9 + wd z.toNat) :: be (wd z.toNat) z.toNat
  else UInt8.ofNat (8 - wd (-(z + 1)).toNat) :: be (wd (-(z + 1)).toNat) (18446744073709551615 - (-(z + 1)).toNat)
theorem encU_length (x : Nat) : (encU x).length = wd x + 1 := by simp [encU, be_length]
theorem be_flip (k y : Nat) (hk : k ≤ 8) (hy : y < 18446744073709551616) : be k (18446744073709551615 - y) = (be k y).map (255 - ·) := by
  apply List.ext_getElem?
  intro j
  by_cases hj : j < k
  · rw [List.getElem?_map, be_get _ _ _ hj, be_get _ _ _ hj]
    simp only [Option.map_some]
    congr 1
    apply UInt8.toNat_inj.1
    rw [UInt8.toNat_sub_of_le _ _ (by rw [UInt8.le_iff_toNat_le]; have := (UInt8.ofNat (y / 256 ^ (k - 1 - j))).toNat_lt; simp; omega)]
    simp only [UInt8.toNat_ofNat']
    have hm : k - 1 - j ≤ 7 := by omega
    generalize k - 1 - j = m at hm
    have : m = 0 ∨ m = 1 ∨ m = 2 ∨ m = 3 ∨ m = 4 ∨ m = 5 ∨ m = 6 ∨ m = 7 := by omega
    rcases this with rfl | rfl | rfl | rfl | rfl | rfl | rfl | rfl <;> simp <;> omega
  · rw [List.getElem?_eq_none (by rw [be_length]; omega), List.getElem?_eq_none (by rw [List.length_map, be_length]; omega)]
end Go.Proofs.YtfhmaincnlaapaaGreat
namespace Go.Proofs.YtfhmaincnlaapaaGreat
open Go.ChangeShapes Go.WideShapes Go.ChangeAt Go.RowKit
set_option linter.unusedVariables false

theorem wide_any (x : Nat) (w : World) (hx : x < 18446744073709551616) :
    Calls Tryz.prog 191 #[.int .u64 (x : Int)] w fun e w' => e = .returned (.int .i64 (wd x : Nat)) ∧ w = w' := by
  go_enter Tryz.func191, Tryz.ntmps191
  go_wp2
  go_loop [0, 3] (fun v n => ∃ (y k : Nat), y < 18446744073709551616 ∧ v = .int .u64 (y : Int) ∧ n = .int .i64 (k : Int) ∧ k + wd y = wd x) (fun v _ => (intOf v).toNat)
  case atStart => exact ⟨x, 0, hx, rfl, rfl, by omega⟩
  case round =>
    obtain ⟨y, k, hy, rfl, rfl, hk⟩ := hrel
    have hw := wd_le x
    have hk2 : k ≤ 8 := by omega
    have K := Lib.hid hk; clear hk
    by_cases h0 : 0 < y
    · go_wp2
      go_round
      case rel => exact ⟨y / 256, k + 1, by omega, by go_num, by go_num, by have := K.out; have := wd_step y hy h0; omega⟩
      case measure => simp [intOf]; omega
    · obtain rfl : y = 0 := by omega
      go_wp2
      go_ret
      exact ⟨by have := K.out; rw [wd_zero] at this; simp at this; rw [← this]; rfl, rfl⟩

theorem info_u8 : (Tryz.prog.info? 5).map (fun i => (i.zero, i.size, i.bytes)) = some (some (.int .u8 0), 1, 1) := by kernel_rfl

set_option maxRecDepth 20000 in
theorem bytes_any (base n x k : Nat) (v : Value) (xs : List UInt8) (w : World) (hown : w.ownsRow base 5 1 v n (u8s xs)) (hbase : base ≤ w.heap.size) (hx : x < 18446744073709551616) (hk : k ≤ 8) (hn : n ≤ 1000000) :
    Calls Tryz.prog 192 #[v, .int .u64 (x : Int), .int .i64 (k : Int)] w fun e w' => ∃ v', e = .returned v' ∧ w'.ownsRow base 5 1 v' (n + k) (u8s (xs ++ be k x)) ∧ Appd w w' v v' := by
  go_enter Tryz.func192, Tryz.ntmps192
  go_wp2
  go_loopw [0, 7] (fun v1 i wr => ∃ j m : Nat, j + m = k ∧ i = .int .i64 ((j : Int) - 1) ∧ wr.ownsRow base 5 1 v1 (n + m) (u8s (xs ++ (be k x).take m)) ∧ Appd w wr v v1) (fun _ i _ => (intOf i + 1).toNat)
  case atStart => exact ⟨k, 0, by omega, rfl, by simpa using hown, Appd.refl _ _⟩
  case round =>
    obtain ⟨j, m, hj, rfl, ho, hb⟩ := hrel
    have hbz : base ≤ wr.heap.size := Nat.le_trans hbase hb.1.size
    have J := Lib.hid hj; clear hj
    cases j with
    | succ j =>
      rw [show ((j + 1 : Nat) : Int) - 1 = (j : Int) from by omega]
      have hm : 8 * (j : Int) ≤ 56 := by have := J.out; omega
      have hm2 : m ≤ 7 := by have := J.out; omega
      go_wp2_with (at_builtin; go_loud (refine wpList_app1 _ _ rfl rfl _ _ 27 rfl base 5 _ 1 info_u8 rfl Tryz.underlying27 _ _ _ ho rfl rfl ?_ ?_ ?_ ?_); omega; omega; exact hbz; intro v2 w2 ho2 hb2)
      go_roundw
      case rel => exact ⟨j, m + 1, by have := J.out; omega, rfl, by rw [be_take _ _ _ (by have := J.out; omega), ← List.append_assoc, ← u8s_snoc _ _ _ (be_cell x j m k J.out)]; exact ho2, hb.trans hb2⟩
      case measure => simp [intOf]
    | zero =>
      obtain rfl : m = k := by have := J.out; omega
      go_wp2
      go_ret
      exact ⟨_, rfl, by rw [List.take_of_length_le (by rw [be_length]; omega)] at ho; exact ho, hb⟩

/-- a slice of one byte that the call has just laid -/
theorem own_lit1 (w : World) (u : Value) (base : Nat) (hb : base ≤ w.heap.size) (e : TypeId) : (w.alloc (.cells #[u] e)).ownsRow base e 1 (.slice (some ⟨w.heap.size, 0, none⟩) 1 1) 1 [u] :=
  World.ownsRow_lit w #[u] 1 hb (by simp [maxLen]) (by simp)
theorem appd_lit1 {w w' : World} {u v' : Value} {e : TypeId} (h : Appd (w.alloc (.cells #[u] e)) w' (.slice (some ⟨w.heap.size, 0, none⟩) 1 1) v') : Below w.heap.size w w' ∧ ∀ k, v'.ownBlock = some k → w.heap.size ≤ k := by
  have hsz : (w.alloc (.cells #[u] e)).heap.size = w.heap.size + 1 := by simp
  refine ⟨((Below.refl _ w).alloc (Nat.le_refl _) _).grown h.1 (by omega) (fun k hk => by cases hk; exact Nat.le_refl _), fun k hk => ?_⟩
  rcases h.2 with e | ⟨i, e, hi⟩
  · rw [e] at hk; cases hk; exact Nat.le_refl _
  · rw [e] at hk; cases hk; omega

theorem own_lit1b (w : World) (z : Int) (b : Nat) (hz : z = (b : Int)) (hb : b < 256) : (w.alloc (.cells #[.int .u8 z] 5)).ownsRow w.heap.size 5 1 (.slice (some ⟨w.heap.size, 0, none⟩) 1 1) 1 (u8s [UInt8.ofNat b]) := by
  have := own_lit1 w (.int .u8 z) w.heap.size (Nat.le_refl _) 5
  have e : u8s [UInt8.ofNat b] = [.int .u8 z] := by
    simp only [u8s, List.map_cons, List.map_nil, UInt8.toNat_ofNat', hz]
    rw [Nat.mod_eq_of_lt (by omega)]
  rw [e]; exact this

theorem codeU_any (x : Nat) (w : World) (hx : x < 18446744073709551616) :
    Calls Tryz.prog 154 #[.int .u64 (x : Int)] w fun e w' => ∃ v', e = .returned v' ∧ w'.ownsRow w.heap.size 5 1 v' (wd x + 1) (u8s (encU x)) ∧ Below w.heap.size w w' := by
  have hw := wd_le x
  have hc := bytes_any w.heap.size 1 x (wd x) _ [UInt8.ofNat (wd x)] _ (own_lit1b w (wd x : Int) (wd x) rfl (by omega)) (by simp) hx hw (by omega)
  go_enter Tryz.func154, Tryz.ntmps154
  go_wp2_with (first | (go_at_call 191; (with_reducible refine (wide_any x _ hx).mono ?_); rintro e w' ⟨rfl, rfl⟩) | (go_at_call 192; (with_reducible refine hc.mono ?_); rintro e w' ⟨v', rfl, ho, hb⟩))
  go_ret
  exact ⟨_, rfl, by rw [Nat.add_comm]; exact ho, (appd_lit1 hb).1⟩

theorem codeI_any (z : Int) (w : World) (h1 : -9223372036854775808 ≤ z) (h2 : z ≤ 9223372036854775807) :
    Calls Tryz.prog 155 #[.int .i64 z] w fun e w' => ∃ v', e = .returned v' ∧ w'.ownsRow w.heap.size 5 1 v' (encI z).length (u8s (encI z)) ∧ Below w.heap.size w w' := by
  by_cases hz : 0 ≤ z
  · obtain ⟨x, rfl⟩ := Int.eq_ofNat_of_zero_le hz
    have hx : x < 18446744073709551616 := by omega
    have hw := wd_le x
    have he : encI (x : Int) = UInt8.ofNat (9 + wd x) :: be (wd x) x := by unfold encI; rw [if_pos hz]; simp
    have hc := bytes_any w.heap.size 1 x (wd x) _ [UInt8.ofNat (9 + wd x)] _ (own_lit1b w (9 + (wd x : Int)) (9 + wd x) (by omega) (by omega)) (by simp) hx hw (by omega)
    have hl : (encI (x : Int)).length = 1 + wd x := by rw [he]; simp [be_length]; omega
    have HE := Lib.hid he; clear he
    have HL := Lib.hid hl; clear hl
    go_enter Tryz.func155, Tryz.ntmps155
    go_wp2_with (first | (go_at_call 191; (with_reducible refine (wide_any x _ hx).mono ?_); rintro e w' ⟨rfl, rfl⟩) | (go_at_call 192; (with_reducible refine hc.mono ?_); rintro e w' ⟨v', rfl, ho, hb⟩))
    go_ret
    exact ⟨_, rfl, by rw [HL.out, HE.out]; exact ho, (appd_lit1 hb).1⟩
  · obtain ⟨y, hy⟩ := Int.eq_ofNat_of_zero_le (show 0 ≤ -(z + 1) by omega)
    have hx : y < 18446744073709551616 := by omega
    have hx2 : 18446744073709551615 - y < 18446744073709551616 := by omega
    have hw := wd_le y
    have he : encI z = UInt8.ofNat (8 - wd y) :: be (wd y) (18446744073709551615 - y) := by unfold encI; rw [if_neg hz, hy]; simp
    have hl : (encI z).length = 1 + wd y := by rw [he]; simp [be_length]; omega
    have hc := bytes_any w.heap.size 1 (18446744073709551615 - y) (wd y) _ [UInt8.ofNat (8 - wd y)] _ (own_lit1b w (8 - (wd y : Int)) (8 - wd y) (by omega) (by omega)) (by simp) hx2 hw (by omega)
    have hz0 : z < 0 := by omega
    have hyz : z = -1 - (y : Int) := by omega
    have HE := Lib.hid he; clear he
    have HL := Lib.hid hl; clear hl
    have HY := Lib.hid hy; clear hy
    subst hyz
    clear hz
    go_enter Tryz.func155, Tryz.ntmps155
    go_wp2_with fail
    rw [show -(-1 - (y : Int) + 1) = (y : Int) from by omega]
    (with_reducible refine (wide_any y _ hx).mono ?_); rintro e w' ⟨rfl, rfl⟩
    go_wp2_with fail
    rw [bits_not64 y hx]
    (with_reducible refine hc.mono ?_); rintro e w' ⟨v', rfl, ho, hb⟩
    go_wp2
    go_ret
    exact ⟨_, rfl, by rw [HL.out, HE.out]; exact ho, (appd_lit1 hb).1⟩

theorem keep_lit (w : World) (o : Obj) : Below w.heap.size w (w.alloc o) := (Below.refl _ w).alloc (Nat.le_refl _) _

end Go.Proofs.YtfhmaincnlaapaaGreat
namespace Go.Proofs.YtfhmaincnlaapaaGreat
set_option linter.unusedVariables false

theorem snoc_ind {α : Type} {p : List α → Prop} (h0 : p []) (h1 : ∀ l b, p l → p (l ++ [b])) (l : List α) : p l := by
  have h : ∀ r : List α, p r.reverse := by
    intro r
    induction r with
    | nil => exact h0
    | cons b r ih => rw [List.reverse_cons]; exact h1 _ _ ih
  have := h l.reverse
  rwa [List.reverse_reverse] at this
/-- the number that bytes are, the highest first -/
def bv (l : List UInt8) : Nat := l.foldl (fun x b => x * 256 + b.toNat) 0
theorem bv_snoc (l : List UInt8) (b : UInt8) : bv (l ++ [b]) = bv l * 256 + b.toNat := by simp [bv]
theorem bv_lt (l : List UInt8) : bv l < 256 ^ l.length := by
  refine snoc_ind (p := fun l => bv l < 256 ^ l.length) (by simp [bv]) (fun l b ih => ?_) l
  rw [bv_snoc, List.length_append, List.length_singleton, Nat.pow_succ]
  have := b.toNat_lt
  omega
theorem bv_take (l : List UInt8) (i : Nat) (h : i < l.length) : bv (l.take (i + 1)) = bv (l.take i) * 256 + l[i].toNat := by
  rw [List.take_succ_eq_append_getElem h, bv_snoc]
theorem be_bv (l : List UInt8) : be l.length (bv l) = l := by
  refine snoc_ind (p := fun l => be l.length (bv l) = l) rfl (fun l b ih => ?_) l
  have hb := b.toNat_lt
  rw [List.length_append, List.length_singleton, be_snoc, bv_snoc]
  have e1 : (bv l * 256 + b.toNat) / 256 = bv l := by omega
  rw [e1, ih]
  congr 2
  apply UInt8.toNat_inj.1
  rw [UInt8.toNat_ofNat']
  omega

/-- n bytes that have no nought ahead: the number, and the error -/
def numB (t : List UInt8) (n : Nat) : Nat × Nat :=
  if n = 0 then (0, 0) else
  match t with
  | [] => (0, 5)
  | c :: _ => if c = 0 then (0, 6) else if t.length < n then (0, 5) else (bv (t.take n), 0)
theorem numB_ok (t : List UInt8) (n : Nat) (h : n ≤ t.length) (hz : 0 < n → t.headD 0 ≠ 0) : numB t n = (bv (t.take n), 0) := by
  unfold numB
  by_cases h0 : n = 0
  · subst h0; rfl
  · rw [if_neg h0]
    cases t with
    | nil => simp at h; omega
    | cons c t =>
      have hc : c ≠ 0 := hz (by omega)
      have hl : ¬ (c :: t).length < n := by omega
      simp only [if_neg hc, if_neg hl]
theorem numB_short (t : List UInt8) (n : Nat) (h : t.length < n) (hz : 0 < t.length → t.headD 0 ≠ 0) : numB t n = (0, 5) := by
  unfold numB
  rw [if_neg (by omega)]
  cases t with
  | nil => rfl
  | cons c t =>
    have hc : c ≠ 0 := hz (by simp)
    simp only [if_neg hc, if_pos h]
theorem numB_form (t : List UInt8) (n : Nat) (h0 : 0 < n) (h : 0 < t.length) (hz : t[0] = 0) : numB t n = (0, 6) := by
  unfold numB
  rw [if_neg (by omega)]
  cases t with
  | nil => simp at h
  | cons c t =>
    have hc : c = 0 := hz
    simp only [if_pos hc]
theorem headD_get (t : List UInt8) (h : 0 < t.length) : t.headD 0 = t[0] := by
  cases t with
  | nil => simp at h
  | cons c t => rfl
theorem or_byte (X b : Nat) (hX : X < 72057594037927936) (hb : b < 256) : bits .or .u64 ((X : Int) * 256) (b : Int) = ((X * 256 + b : Nat) : Int) := by
  have e : ((X : Int) * 256) = ((X * 256 : Nat) : Int) := by omega
  rw [e, u64_or_nat _ _ (by omega) (by omega)]
  congr 1
  have := Nat.shiftLeft_add_eq_or_of_lt (show b < 2 ^ 8 from hb) X
  rw [Nat.shiftLeft_eq] at this
  exact this.symm
theorem or_byte0 (b : Nat) (hb : b < 256) : bits .or .u64 0 (b : Int) = (b : Int) := by
  have := or_byte 0 b (by omega) hb
  simpa using this
def getU (l : List UInt8) : Nat × Nat × Nat :=
  match l with
  | [] => (0, 0, 5)
  | c :: t => if 8 < c.toNat then (0, 0, 6) else
    if (numB t c.toNat).2 = 0 then ((numB t c.toNat).1, c.toNat + 1, 0) else (0, 0, (numB t c.toNat).2)
/-- the number of bytes that a first byte asks for, and whether it is below 0 -/
def sgn (c : UInt8) : Nat × Bool := if c.toNat < 9 then (8 - c.toNat, true) else (c.toNat - 9, false)
def prt (c : UInt8) (t : List UInt8) : List UInt8 := if (sgn c).2 then (t.take (sgn c).1).map (255 - ·) else t.take (sgn c).1
def getI (l : List UInt8) : Int × Nat × Nat :=
  match l with
  | [] => (0, 0, 5)
  | c :: t => if 8 < (sgn c).1 then (0, 0, 6) else
    if (sgn c).1 = 8 ∧ 127 < ((prt c t).headD 0).toNat then (0, 0, 6) else
    if (numB (prt c t) (sgn c).1).2 = 0 then (if (sgn c).2 then -((numB (prt c t) (sgn c).1).1 : Int) - 1 else (numB (prt c t) (sgn c).1).1, (sgn c).1 + 1, 0)
    else (0, 0, (numB (prt c t) (sgn c).1).2)
theorem numB_lt63 (t : List UInt8) (n : Nat) (hn : n ≤ 8) (h : n = 8 → (t.headD 0).toNat ≤ 127) : (numB t n).1 < 9223372036854775808 := by
  unfold numB
  split
  · simp
  · split
    · simp
    · rename_i c u
      split
      · simp
      · split
        · simp
        · rename_i hl
          simp only
          have h1 := bv_lt ((c :: u).take n)
          have h3 : ((c :: u).take n).length = n := by rw [List.length_take]; omega
          rw [h3] at h1
          by_cases h8 : n = 8
          · subst h8
            have hc : c.toNat ≤ 127 := h rfl
            have e : (c :: u).take 8 = c :: u.take 7 := rfl
            have hb : bv (c :: u.take 7) = c.toNat * 256 ^ (u.take 7).length + bv (u.take 7) := by
              have := be_bv (c :: u.take 7)
              have hlen : (u.take 7).length = 7 := by rw [List.length_take]; simp at hl; omega
              have key : ∀ (l : List UInt8) (x : Nat), l.foldl (fun x b => x * 256 + b.toNat) x = x * 256 ^ l.length + bv l := by
                intro l
                induction l with
                | nil => intro x; simp [bv]
                | cons d l ih =>
                  intro x
                  rw [List.foldl_cons, ih]
                  have := ih (0 * 256 + d.toNat)
                  rw [show bv (d :: l) = l.foldl (fun x b => x * 256 + b.toNat) (0 * 256 + d.toNat) from rfl, this]
                  rw [List.length_cons, Nat.pow_succ, Nat.zero_mul, Nat.zero_add, Nat.add_mul, Nat.mul_assoc, Nat.mul_comm 256, Nat.add_assoc]
              show (u.take 7).foldl (fun x b => x * 256 + b.toNat) (0 * 256 + c.toNat) = _
              rw [key, Nat.zero_mul, Nat.zero_add]
            rw [e, hb]
            have hlen : (u.take 7).length = 7 := by rw [List.length_take]; simp at hl; omega
            have h4 := bv_lt (u.take 7)
            rw [hlen] at h4 ⊢
            have : (256 : Nat) ^ 7 = 72057594037927936 := by decide
            omega
          · have h5 : 256 ^ n ≤ 256 ^ 7 := Nat.pow_le_pow_right (by decide) (by omega)
            have : (256 : Nat) ^ 7 = 72057594037927936 := by decide
            omega
end Go.Proofs.YtfhmaincnlaapaaGreat
namespace Go.Proofs.YtfhmaincnlaapaaGreat
open Go.ChangeShapes Go.WideShapes Go.ChangeAt Go.RowKit
set_option linter.unusedVariables false

/-- no draws, or some: a function that only reads -/
theorem number_any (A : Option Addr) (m c n B : Nat) (t : List UInt8) (w : World) (h : Rd w B 1 A m (u8s t)) (hn : n ≤ 8) (hm : m ≤ maxLen) :
    Calls Tryz.prog 159 #[.slice A m c, .int .i64 (n : Int)] w fun e w' => e = .returned (.tuple #[.int .u64 ((numB t n).1 : Nat), .int .i64 ((numB t n).2 : Nat)]) ∧ ∃ k, w' = w.drewN k := by
  obtain rfl : m = t.length := h.u8.symm
  unfold maxLen at hm
  have H := Lib.hid h; clear h
  go_enter Tryz.func159, Tryz.ntmps159
  go_wp2
  go_loopw [6, 9] (fun x i wr => ∃ k : Nat, k ≤ n ∧ k ≤ t.length ∧ i = .int .i64 (k : Int) ∧ x = .int .u64 (bv (t.take k) : Nat) ∧ (0 < k → t.headD 0 ≠ 0) ∧ ∃ q, wr = w.drewN q) (fun _ i _ => n - (intOf i).toNat)
  case atStart => exact ⟨0, by omega, by omega, rfl, rfl, fun h => absurd h (by omega), 0, rfl⟩
  case round =>
    obtain ⟨k, hk, hk', rfl, rfl, hnz, q, rfl⟩ := hrel
    have NZ := Lib.hid hnz; clear hnz
    by_cases h1 : k < n
    · by_cases h2 : k < t.length
      · obtain ⟨a, rfl, hb, hc⟩ := H.out.byte h2
        have hbt := bv_take t k h2
        have hlt := bv_lt (t.take k)
        have hlt2 : 256 ^ (t.take k).length ≤ 256 ^ 7 := Nat.pow_le_pow_right (by decide) (by rw [List.length_take]; omega)
        have hbb : bv (t.take k) < 72057594037927936 := by simpa using Nat.lt_of_lt_of_le hlt hlt2
        have hc8 := t[k].toNat_lt
        clear hlt hlt2
        by_cases h3 : k = 0
        · subst h3
          have e0 : a.add 0 = a := by simp [Addr.add]
          rw [e0] at hc
          have hne : t ≠ [] := by intro h; rw [h] at h2; simp at h2
          have hbb0 : bv (List.take 0 t) = 0 := rfl
          have hor := or_byte0 t[0].toNat hc8
          have hhd := headD_get t h2
          rw [show ((0 : Nat) : Int) = 0 from rfl, hbb0]
          rw [hbb0] at hbt
          simp only [Nat.zero_mul, Nat.zero_add] at hbt
          have E0 := Lib.hid e0; have HB := Lib.hid hbb0; have HT := Lib.hid hbt; have HH := Lib.hid hhd; clear e0 hbb0 hbt hhd
          by_cases h4 : t[0] = 0
          · have t1 : ((t[0].toNat : Int) == 0) = true := by rw [h4]; rfl
            have hfin := numB_form t n h1 h2 h4
            have H4 := Lib.hid h4; have HF := Lib.hid hfin; clear h4 hfin
            go_wp2
            go_ret2
            exact ⟨by rw [HF.out]; rfl, _, rfl⟩
          · have t1 : ((t[0].toNat : Int) == 0) = false := by rw [beq_eq_false_iff_ne]; intro h; exact h4 (UInt8.toNat_inj.1 (by simp; omega))
            have H4 := Lib.hid h4; clear h4
            go_wp2
            go_roundw
            case rel => exact ⟨1, by omega, by omega, rfl, by rw [HT.out], fun _ => by rw [HH.out]; exact H4.out, _, rfl⟩
            case measure => simp [intOf]; omega
        · have t0 : ((k : Int) == 0) = false := by rw [beq_eq_false_iff_ne]; omega
          have hor := or_byte (bv (t.take k)) t[k].toNat hbb hc8
          have HT := Lib.hid hbt; clear hbt
          go_wp2
          go_roundw
          case rel => exact ⟨k + 1, by omega, by omega, by go_num, by rw [HT.out]; go_num, fun _ => NZ.out (by omega), _, rfl⟩
          case measure => simp [intOf]; omega
      · obtain rfl : k = t.length := by omega
        have hfin := numB_short t n h1 NZ.out
        have HF := Lib.hid hfin; clear hfin
        go_wp2
        go_ret2
        exact ⟨by rw [HF.out]; rfl, _, rfl⟩
    · obtain rfl : k = n := by omega
      have hfin := numB_ok t k hk' NZ.out
      have HF := Lib.hid hfin; clear hfin
      go_wp2
      go_ret2
      exact ⟨by rw [HF.out]; rfl, _, rfl⟩

theorem getU_any (A : Option Addr) (m c B : Nat) (t : List UInt8) (w : World) (h : Rd w B 1 A m (u8s t)) (hmc : m ≤ c) (hc : c ≤ maxLen) :
    Calls Tryz.prog 106 #[.slice A m c] w fun e w' => e = .returned (.tuple #[.int .u64 ((getU t).1 : Nat), .int .i64 ((getU t).2.1 : Nat), .int .i64 ((getU t).2.2 : Nat)]) ∧ ∃ k, w' = w.drewN k := by
  obtain rfl : m = t.length := h.u8.symm
  have hcc := hc
  unfold maxLen at hcc
  cases t with
  | nil =>
    go_enter Tryz.func106, Tryz.ntmps106
    go_wp2
    go_ret3
    exact ⟨rfl, 0, rfl⟩
  | cons x t =>
    have hl : (x :: t).length = t.length + 1 := rfl
    rw [hl] at h hmc ⊢
    obtain ⟨a, rfl, hb, hx⟩ := h.byte (k := 0) (by simp)
    have e0 : a.add 0 = a := by simp [Addr.add]
    rw [e0] at hx
    simp only [List.getElem_cons_zero] at hx
    have hx8 := x.toNat_lt
    have h1 := h.rest
    have h10 := fun h0 => h.rest0 (n := t.length) h0
    have hmt : t.length ≤ maxLen := by unfold maxLen; omega
    have H1 := Lib.hid h1; have H10 := Lib.hid h10; have E0 := Lib.hid e0; clear h1 h10 e0 hl
    by_cases h8 : 8 < x.toNat
    · have hfin : getU (x :: t) = (0, 0, 6) := by simp [getU, h8]
      have HF := Lib.hid hfin; clear hfin
      go_enter Tryz.func106, Tryz.ntmps106
      go_wp2
      go_ret3
      exact ⟨by rw [HF.out]; rfl, 0, rfl⟩
    · have hfin : getU (x :: t) = if (numB t x.toNat).2 = 0 then ((numB t x.toNat).1, x.toNat + 1, 0) else (0, 0, (numB t x.toNat).2) := by simp [getU, h8]
      have hnum := fun A' c' (hR : Rd w B 1 A' t.length (u8s t)) => number_any A' t.length c' x.toNat B t w hR (by omega) hmt
      generalize hN : numB t x.toNat = N at *
      have HN := Lib.hid hN
      have HNUM := Lib.hid hnum; clear hnum hN
      by_cases he : N.2 = 0
      · have t1 : ((N.2 : Int) != 0) = false := by rw [he]; rfl
        rw [if_pos he] at hfin
        have HF := Lib.hid hfin; have HE := Lib.hid he; clear hfin he
        by_cases hc1 : c = 1
        · obtain rfl : t = [] := List.eq_nil_of_length_eq_zero (by omega)
          subst hc1
          clear hmc hmt hcc
          go_enter Tryz.func106, Tryz.ntmps106
          go_wp2_with (go_at_call 159; (refine (HNUM.out (some a) 0 (H10.out rfl)).mono ?_); rintro e w' ⟨rfl, k1, rfl⟩)
          go_ret3
          exact ⟨by rw [HF.out]; go_num, _, rfl⟩
        · go_enter Tryz.func106, Tryz.ntmps106
          go_wp2_with (go_at_call 159; (with_reducible refine (HNUM.out (some ⟨a.block, a.off + 1, none⟩) _ H1.out).mono ?_); rintro e w' ⟨rfl, k1, rfl⟩)
          go_ret3
          exact ⟨by rw [HF.out]; go_num, _, rfl⟩
      · have t1 : ((N.2 : Int) != 0) = true := by rw [bne_iff_ne]; omega
        rw [if_neg he] at hfin
        have HF := Lib.hid hfin; have HE := Lib.hid he; clear hfin he
        by_cases hc1 : c = 1
        · obtain rfl : t = [] := List.eq_nil_of_length_eq_zero (by omega)
          subst hc1
          clear hmc hmt hcc
          go_enter Tryz.func106, Tryz.ntmps106
          go_wp2_with (go_at_call 159; (refine (HNUM.out (some a) 0 (H10.out rfl)).mono ?_); rintro e w' ⟨rfl, k1, rfl⟩)
          go_ret3
          exact ⟨by rw [HF.out]; rfl, _, rfl⟩
        · go_enter Tryz.func106, Tryz.ntmps106
          go_wp2_with (go_at_call 159; (with_reducible refine (HNUM.out (some ⟨a.block, a.off + 1, none⟩) _ H1.out).mono ?_); rintro e w' ⟨rfl, k1, rfl⟩)
          go_ret3
          exact ⟨by rw [HF.out]; rfl, _, rfl⟩

theorem u8_z {b : UInt8} (h : b = 0) : ((b.toNat : Int) == 0) = true := by rw [h]; rfl
theorem u8_nz {b : UInt8} (h : b ≠ 0) : ((b.toNat : Int) == 0) = false := by rw [beq_eq_false_iff_ne]; intro e; exact h (UInt8.toNat_inj.1 (by simp; omega))
end Go.Proofs.YtfhmaincnlaapaaGreat
namespace Go.Proofs.YtfhmaincnlaapaaGreat
open Go.ChangeShapes Go.WideShapes Go.ChangeAt Go.RowKit
set_option linter.unusedVariables false

/-- THE WRITER AT BLOCK g: what was laid; all of it lies from block base on -/
def OutS (w : World) (base g : Nat) (l : List UInt8) : Prop :=
  base ≤ g ∧ base ≤ w.heap.size ∧ ∃ v, Blk w g 216 #[.bool true, v] ∧ w.ownsRow base 5 1 v l.length (u8s l)
theorem OutS.lt {w : World} {base g : Nat} {l : List UInt8} (h : OutS w base g l) : g < w.heap.size := by obtain ⟨_, _, v, hb, _⟩ := h; exact hb.lt
theorem OutS.drw {w w' : World} {base g : Nat} {l : List UInt8} (h : OutS w base g l) (k : Drw w w') : OutS w' base g l := by obtain ⟨n, rfl⟩ := k; exact h
/-- all that is new lies behind what was there -/
theorem OutS.below {w w' : World} {base g : Nat} {l : List UInt8} (h : OutS w base g l) (hb : Below w.heap.size w w') : OutS w' base g l := by
  obtain ⟨h1, h2, v, hB, ho⟩ := h
  exact ⟨h1, Nat.le_trans h2 hb.size, v, hB.below hb hB.lt, own_below ho hb (Nat.le_refl _)⟩

theorem newOut_any (w : World) : Calls Tryz.prog 93 #[] w fun x w' => x = .returned (.pointer (some ⟨w.heap.size, 0, none⟩)) ∧ OutS w' w.heap.size w.heap.size [] ∧ Below w.heap.size w w' := by
  go_enter Tryz.func93, Tryz.ntmps93
  go_wp2
  go_ret
  exact ⟨rfl, ⟨Nat.le_refl _, by simp, _, Blk.new _ _ _, World.ownsRow_nil _ _ _ 1⟩, belA (belR w) _⟩

theorem outBytes_any (w : World) (base g : Nat) (l : List UInt8) (h : OutS w base g l) (hlen : l.length ≤ 1000000000) :
    Calls Tryz.prog 98 #[.pointer (some ⟨g, 0, none⟩)] w fun x w' => ∃ v, x = .returned v ∧ w'.ownsRow w.heap.size 5 1 v l.length (u8s l) ∧ Below w.heap.size w w' := by
  obtain ⟨hg, hz, v, hB, ho⟩ := h
  obtain ⟨A1, c1, rfl, _, _, _⟩ := own_form ho
  have c1' := hB.cell 1
  simp at c1'
  have hR := Rd.own ho
  have hnil := World.ownsRow_nil w w.heap.size 5 1
  have HR := Lib.hid hR; have HO := Lib.hid ho; have HB := Lib.hid hB; clear hR ho hB
  go_enter Tryz.func98, Tryz.ntmps98
  go_wp2_with (at_builtin; refine wpList_appS _ rfl _ _ 27 rfl w.heap.size 5 _ 1 1 info_u8 rfl (by decide) Tryz.underlying27 _ _ _ hnil rfl _ _ _ _ _ HR.out rfl (u8s_one _) ?_ ?_ ?_ ?_; omega; omega; exact Nat.le_refl _; intro v2 w2 ho2 hb2; have HO2 := Lib.hid ho2; have HP2 := Lib.hid hb2; clear ho2 hb2)
  go_ret
  have := HO2.out
  rw [Nat.zero_add, List.nil_append] at this
  exact ⟨_, rfl, this, HP2.out.below_nil (Nat.le_refl _)⟩

end Go.Proofs.YtfhmaincnlaapaaGreat
