/-
  THE TAIL OF A ROUND OF bushelref25.Nodes, without the program: one count more, the body one row more.
-/
import Derived.Test.YtpnolgghbenekaaStepApp
namespace Go.Proofs.Ytpnolgghbenekaa
open Go.ChangeShapes Go.WideShapes Go.ChangeAt Go.RowKit
set_option linter.unusedVariables false

theorem grown_set (w : World) (a : Addr) (u : Value) : w.grownBy (w.setCell a u) (some a.block) :=
  ⟨rfl, rfl, rfl, by simp, fun k _ hk => heap_setCell_other w a k u (fun e => hk (by rw [e]))⟩
theorem own_set_far {w : World} {base base' n n' : Nat} {e e' : TypeId} {size size' : Nat} {v v' : Value} {xs xs' : List Value} (h : w.ownsRow base e size v n xs) (h' : w.ownsRow base' e' size' v' n' xs') (hne : e ≠ e') {p : Addr} (hp : v'.ownBlock = some p.block) (u : Value) :
    (w.setCell p u).ownsRow base e size v n xs :=
  h.kept (grown_set w p u) (by rcases own_own_ne h h' hne with k | k; exact .inl k; exact .inr (fun q => k (q.trans hp.symm)))
theorem own_lt_ne {w : World} {base n : Nat} {e : TypeId} {size : Nat} {v : Value} {xs : List Value} (h : w.ownsRow base e size v n xs) (B : Nat) (hB : ∀ k, v.ownBlock = some k → k < B) {v' : Value} (h' : ∀ k, v'.ownBlock = some k → B ≤ k) : v.ownBlock = none ∨ v.ownBlock ≠ v'.ownBlock := by
  cases hv : v.ownBlock with
  | none => exact .inl rfl
  | some k => exact .inr fun q => by have := hB k hv; have := h' k q.symm; omega

/-- element L's field j -/
abbrev pS (a : Addr) (L j : Nat) : Addr := ⟨(a.add (L * 4)).block, (a.add (L * 4)).off + j, none⟩
theorem refTail (w5 : World) (base B5 b0 : Nat) (A5 : Option Addr) (c5 m : Nat) (ss : List Sht) (s : Sht) (xs5 : List Value) (hm : m = ss.length)
    (ho : w5.ownsRow base 38 4 (.slice A5 (m + 1) c5) (m + 1) xs5) (hS : ShO w5 base B5 (ss ++ [s]) xs5) (hB5 : B5 ≤ w5.heap.size)
    (A3 : Option Addr) (c3 : Nat) (e : List UInt8) (n3 : Nat) (hn3 : n3 = e.length) (hb : w5.ownsRow b0 5 1 (.slice A3 n3 c3) n3 (u8s e)) (hbase : base ≤ w5.heap.size) :
    ∃ a5 Ab cb, A5 = some a5 ∧ base ≤ a5.block ∧ a5.block < w5.heap.size ∧ w5.cell? (pS a5 m 1) = some (.int .u64 (s.a : Int)) ∧ w5.frozen? (pS a5 m 1) = false ∧
      w5.cell? (pS a5 m 3) = some (.slice Ab s.d.length cb) ∧ w5.frozen? (pS a5 m 3) = false ∧ s.d.length ≤ cb ∧ cb ≤ maxLen ∧
      ∀ w7, w7 = (w5.setCell (pS a5 m 1) (.int .u64 ((s.a + 1 : Nat) : Int))).alloc (.cells #[] 5) →
        w7.ownsRow w5.heap.size 5 1 (.slice (some ⟨w5.heap.size, 0, none⟩) 0 0) 0 [] ∧ Rd w7 w7.heap.size 1 Ab s.d.length (u8s s.d) ∧
        ∀ v8 w8, w8.ownsRow w5.heap.size 5 1 v8 (0 + s.d.length) ([] ++ u8s s.d) → Appd w7 w8 (.slice (some ⟨w5.heap.size, 0, none⟩) 0 0) v8 →
          Rd w8 w8.heap.size 1 A3 n3 (u8s e) ∧ w5.heap.size ≤ w8.heap.size ∧
          ∀ v9 w9, w9.ownsRow w5.heap.size 5 1 v9 (0 + s.d.length + n3) ([] ++ u8s s.d ++ u8s e) → Appd w8 w9 v8 v9 →
            w9.frozen? (pS a5 m 3) = false ∧ (∃ y, w9.cell? (pS a5 m 3) = some y) ∧
            ∃ xs, (w9.setCell (pS a5 m 3) v9).ownsRow base 38 4 (.slice (some a5) (m + 1) c5) (m + 1) xs ∧
              ShO (w9.setCell (pS a5 m 3) v9) base (w9.setCell (pS a5 m 3) v9).heap.size (ss ++ [⟨s.k, s.a + 1, s.b, s.d ++ e⟩]) xs ∧ Below base w5 (w9.setCell (pS a5 m 3) v9) := by
  subst hm hn3
  obtain ⟨a5, rfl, hb5, hl5, hob, -, hC⟩ := own_elem ho ss.length (by omega)
  obtain ⟨xs0, v, rfl, hlen, hS0, hov, hvb⟩ := hS.last
  obtain ⟨Ab, cb, rfl, hc1, hc2, _⟩ := own_form hov
  have ne58 : (5 : TypeId) ≠ 38 := by decide
  have hpb : ∀ j, (pS a5 ss.length j).block = a5.block := fun j => block_add _ _
  obtain ⟨y1, z1, s1⟩ := hC 1 (by decide)
  obtain ⟨y3, z3, s3⟩ := hC 3 (by decide)
  rw [← hlen, get_mid] at y1 y3
  have hob' : ∀ j, (Value.slice (some a5) (ss.length + 1) c5).ownBlock = some (pS a5 ss.length j).block := fun j => by rw [hpb]; exact hob
  refine ⟨a5, Ab, cb, rfl, hb5, hl5, by rw [hlen] at y1; exact y1, z1, by rw [hlen] at y3; exact y3, z3, hc1, hc2, ?_⟩
  rintro w7 rfl
  have o6 := s1 (.int .u64 ((s.a + 1 : Nat) : Int))
  rw [← hlen, set_mid, hlen] at o6
  have hz6 : (w5.setCell (pS a5 ss.length 1) (.int .u64 ((s.a + 1 : Nat) : Int))).heap.size = w5.heap.size := by simp
  have lit := World.ownsRow_lit (base := w5.heap.size) (e := 5) (size := 1) (w5.setCell (pS a5 ss.length 1) (.int .u64 ((s.a + 1 : Nat) : Int))) #[] 0 (by omega) (by simp [maxLen]) (by simp)
  rw [hz6] at lit
  have hz7 : ((w5.setCell (pS a5 ss.length 1) (.int .u64 ((s.a + 1 : Nat) : Int))).alloc (.cells #[] 5)).heap.size = w5.heap.size + 1 := by simp
  have far : ∀ {b1 nn : Nat} {x : Value} {ys : List Value}, w5.ownsRow b1 5 1 x nn ys → ((w5.setCell (pS a5 ss.length 1) (.int .u64 ((s.a + 1 : Nat) : Int))).alloc (.cells #[] 5)).ownsRow b1 5 1 x nn ys :=
    fun h => (own_set_far h ho ne58 (hob' 1) _).alloc _
  have b7 : Below base w5 ((w5.setCell (pS a5 ss.length 1) (.int .u64 ((s.a + 1 : Nat) : Int))).alloc (.cells #[] 5)) :=
    ((Below.refl _ w5).setCell (by rw [hpb]; exact hb5) _).alloc (by simpa using hbase) _
  have o7 := o6.alloc (.cells #[] 5)
  generalize (w5.setCell (pS a5 ss.length 1) (.int .u64 ((s.a + 1 : Nat) : Int))).alloc (.cells #[] 5) = w7 at *
  refine ⟨lit, Rd.own (far hov), ?_⟩
  intro v8 w8 o8 h8
  have litb : ∀ k, (Value.slice (some ⟨w5.heap.size, 0, none⟩) 0 0).ownBlock = some k → w5.heap.size ≤ k := fun k hk => by cases hk; exact Nat.le_refl _
  have far8 : ∀ {b1 nn : Nat} {x : Value} {ys : List Value}, w5.ownsRow b1 5 1 x nn ys → w8.ownsRow b1 5 1 x nn ys :=
    fun h => h8.kept (far h) (own_lt_ne h w5.heap.size (fun k hk => (h.lt k hk).2) litb)
  have oo8 := h8.kept o7 (own_lt_ne ho w5.heap.size (fun k hk => (ho.lt k hk).2) litb)
  have hz8 := h8.1.size
  have b8 : Below base w7 w8 := h8.below (by omega) (own_mono lit hbase)
  refine ⟨Rd.own (far8 hb), by omega, ?_⟩
  intro v9 w9 o9 h9
  have v8b : ∀ k, v8.ownBlock = some k → w5.heap.size ≤ k := fun k hk => (o8.lt k hk).1
  have far9 : ∀ {b1 nn : Nat} {x : Value} {ys : List Value}, w5.ownsRow b1 5 1 x nn ys → w9.ownsRow b1 5 1 x nn ys :=
    fun h => h9.kept (far8 h) (own_lt_ne h w5.heap.size (fun k hk => (h.lt k hk).2) v8b)
  have oo9 := h9.kept oo8 (own_lt_ne ho w5.heap.size (fun k hk => (ho.lt k hk).2) v8b)
  have hz9 := h9.1.size
  have b9 : Below base w8 w9 := h9.below (by omega) (own_mono o8 hbase)
  obtain ⟨a9, e9, _, _, _, -, hC9⟩ := own_elem oo9 ss.length (by omega)
  injection e9 with e9
  subst e9
  obtain ⟨y9, z9, s9⟩ := hC9 3 (by decide)
  have o10 := s9 v9
  rw [← hlen, set_mid] at o10
  rw [← hlen, get_mid] at y9
  rw [hlen] at y9 o10
  refine ⟨z9, ⟨_, y9⟩, _, o10, ?_, (b7.trans (b8.trans b9)).setCell (by rw [hpb]; exact hb5) _⟩
  have hz10 : (w9.setCell (pS a5 ss.length 3) v9).heap.size = w9.heap.size := by simp
  rw [hz10]
  refine ShO.snoc (s := ⟨s.k, s.a + 1, s.b, s.d ++ e⟩) (v := v9) (hS0.map (by omega) fun x nn ys h hk => own_set_far (far9 h) oo9 ne58 (hob' 3) _) ?_ (fun k hk => (o9.lt k hk).2)
  have o9' := own_set_far (own_mono o9 hbase) oo9 ne58 (hob' 3) v9
  have el : 0 + s.d.length + e.length = (s.d ++ e).length := by rw [List.length_append]; omega
  rw [List.nil_append, ← u8s_append, el] at o9'
  exact o9'

/-- a fresh sheet at the end of the row -/
theorem refNew {w3 w5 : World} {base B m c0 : Nat} {A0 : Option Addr} {v5 : Value} {ss : List Sht} {xs : List Value} {us : Array Value} (lv : Nat) (ho : w3.ownsRow base 38 4 (.slice A0 m c0) m xs) (hS : ShO w3 base B ss xs) (hbase : base ≤ w3.heap.size)
    (h : Appd (w3.alloc (.cells us 38)) w5 (.slice A0 m c0) v5) :
    ShO w5 base B (ss ++ [⟨4, 0, lv, []⟩]) (xs ++ [.int .i64 4, .int .u64 0, .int .u64 (lv : Int), .slice none 0 0]) ∧
      (∀ b1 nn x ys, w3.ownsRow b1 5 1 x nn ys → w5.ownsRow b1 5 1 x nn ys) ∧ Below base w3 w5 ∧ w3.heap.size ≤ w5.heap.size := by
  have ne58 : (5 : TypeId) ≠ 38 := by decide
  have far : ∀ {b1 nn : Nat} {x : Value} {ys : List Value}, w3.ownsRow b1 5 1 x nn ys → w5.ownsRow b1 5 1 x nn ys :=
    fun k => h.kept (k.alloc _) (own_own_ne k ho ne58)
  have hz : (w3.alloc (.cells us 38)).heap.size = w3.heap.size + 1 := by simp
  have hz5 := h.1.size
  refine ⟨(hS.map (Nat.le_refl _) fun x nn ys k _ => far k).snoc (s := ⟨4, 0, lv, []⟩) (v := .slice none 0 0) (World.ownsRow_nil _ _ _ _) (fun k hk => by cases hk), fun _ _ _ _ k => far k, ((Below.refl _ w3).alloc hbase _).trans (h.below (by omega) (ho.alloc _)), by omega⟩
end Go.Proofs.Ytpnolgghbenekaa
