/-
  bushelref11.Light.
  bushelref11.names: a schema's names.
  schema.all: a schema's names.
  bushelref25.Nodes.
  THE LAST NODE: what one entry more does to the list of nodes.
  THE TAIL OF A ROUND OF bushelref25.Nodes, without the program: one count more, the body one row more.
-/
import Derived.Deep.RegionHeldLaw
import Derived.Deep.LoopGhost
import Derived.Deep.DeepCutAuto
import Derived.Deep.RegionHeld3
import Derived.Test.YtfhmaincnlaapaaSpNodesPure
import Derived.Test.YtfhmaincnlaapaaSpRefRead
import Derived.Test.YtfhmaincnlaapaaSpBufOutKeep
namespace Go.Proofs.Ytfhmaincnlaapaa
open Go.ChangeShapes Go.WideShapes Go.ChangeAt Go.RowKit
set_option linter.unusedVariables false

theorem grown_set (w : World) (a : Addr) (u : Value) : w.grownBy (w.setCell a u) (some a.block) :=
  ⟨rfl, rfl, rfl, by simp, fun k _ hk => heap_setCell_other w a k u (fun e => hk (by rw [e]))⟩
theorem own_set_far {w : World} {base base' n n' : Nat} {e e' : TypeId} {size size' : Nat} {v v' : Value} {xs xs' : List Value} (h : w.ownsRow base e size v n xs) (h' : w.ownsRow base' e' size' v' n' xs') (hne : e ≠ e') {p : Addr} (hp : v'.ownBlock = some p.block) (u : Value) :
    (w.setCell p u).ownsRow base e size v n xs :=
  h.kept (grown_set w p u) (by rcases own_own_ne h h' hne with k | k; exact .inl k; exact .inr (fun q => k (q.trans hp.symm)))
theorem own_lt_ne {w : World} {base n : Nat} {e : TypeId} {size : Nat} {v : Value} {xs : List Value} (h : w.ownsRow base e size v n xs) (B : Nat) (hB : ∀ k, v.ownBlock = some k → k < B) {v' : Value} (h' : ∀ k, v'.ownBlock = some k → B ≤ k) : v.ownBlock = none ∨ v.ownBlock ≠ v'.ownBlock := by
  cases hv : v.ownBlock with
  | none => exact .inl rfl
  | some k => exact .inr fun q => by have := hB k hv; have := h' k q.symm; omega

/-- element L's field j -/
abbrev pS (a : Addr) (L j : Nat) : Addr := ⟨(a.add (L * 4)).block, (a.add (L * 4)).off + j, none⟩
theorem refTail (w5 : World) (base B5 b0 : Nat) (A5 : Option Addr) (c5 m : Nat) (ss : List Sht) (s : Sht) (xs5 : List Value) (hm : m = ss.length)
    (ho : w5.ownsRow base 55 4 (.slice A5 (m + 1) c5) (m + 1) xs5) (hS : ShO w5 base B5 (ss ++ [s]) xs5) (hB5 : B5 ≤ w5.heap.size)
    (A3 : Option Addr) (c3 : Nat) (e : List UInt8) (n3 : Nat) (hn3 : n3 = e.length) (hb : w5.ownsRow b0 5 1 (.slice A3 n3 c3) n3 (u8s e)) (hbase : base ≤ w5.heap.size) :
    ∃ a5 Ab cb, A5 = some a5 ∧ base ≤ a5.block ∧ a5.block < w5.heap.size ∧ w5.cell? (pS a5 m 1) = some (.int .u64 (s.a : Int)) ∧ w5.frozen? (pS a5 m 1) = false ∧
      w5.cell? (pS a5 m 3) = some (.slice Ab s.d.length cb) ∧ w5.frozen? (pS a5 m 3) = false ∧ s.d.length ≤ cb ∧ cb ≤ maxLen ∧
      ∀ w7, w7 = (w5.setCell (pS a5 m 1) (.int .u64 ((s.a + 1 : Nat) : Int))).alloc (.cells #[] 5) →
        w7.ownsRow w5.heap.size 5 1 (.slice (some ⟨w5.heap.size, 0, none⟩) 0 0) 0 [] ∧ Rd w7 w7.heap.size 1 Ab s.d.length (u8s s.d) ∧
        ∀ v8 w8, w8.ownsRow w5.heap.size 5 1 v8 (0 + s.d.length) ([] ++ u8s s.d) → Appd w7 w8 (.slice (some ⟨w5.heap.size, 0, none⟩) 0 0) v8 →
          Rd w8 w8.heap.size 1 A3 n3 (u8s e) ∧ w5.heap.size ≤ w8.heap.size ∧
          ∀ v9 w9, w9.ownsRow w5.heap.size 5 1 v9 (0 + s.d.length + n3) ([] ++ u8s s.d ++ u8s e) → Appd w8 w9 v8 v9 →
            w9.frozen? (pS a5 m 3) = false ∧ (∃ y, w9.cell? (pS a5 m 3) = some y) ∧
            ∃ xs, (w9.setCell (pS a5 m 3) v9).ownsRow base 55 4 (.slice (some a5) (m + 1) c5) (m + 1) xs ∧
              ShO (w9.setCell (pS a5 m 3) v9) base (w9.setCell (pS a5 m 3) v9).heap.size (ss ++ [⟨s.k, s.a + 1, s.b, s.d ++ e⟩]) xs ∧ Below base w5 (w9.setCell (pS a5 m 3) v9) := by
  subst hm hn3
  obtain ⟨a5, rfl, hb5, hl5, hob, -, hC⟩ := own_elem ho ss.length (by omega)
  obtain ⟨xs0, v, rfl, hlen, hS0, hov, hvb⟩ := hS.last
  obtain ⟨Ab, cb, rfl, hc1, hc2, _⟩ := own_form hov
  have ne58 : (5 : TypeId) ≠ 55 := by decide
  have hpb : ∀ j, (pS a5 ss.length j).block = a5.block := fun j => block_add _ _
  obtain ⟨y1, z1, s1⟩ := hC 1 (by decide)
  obtain ⟨y3, z3, s3⟩ := hC 3 (by decide)
  rw [← hlen, get_mid] at y1 y3
  have hob' : ∀ j, (Value.slice (some a5) (ss.length + 1) c5).ownBlock = some (pS a5 ss.length j).block := fun j => by rw [hpb]; exact hob
  refine ⟨a5, Ab, cb, rfl, hb5, hl5, by rw [hlen] at y1; exact y1, z1, by rw [hlen] at y3; exact y3, z3, hc1, hc2, ?_⟩
  rintro w7 rfl
  have o6 := s1 (.int .u64 ((s.a + 1 : Nat) : Int))
  rw [← hlen, set_mid, hlen] at o6
  have hz6 : (w5.setCell (pS a5 ss.length 1) (.int .u64 ((s.a + 1 : Nat) : Int))).heap.size = w5.heap.size := by simp
  have lit := World.ownsRow_lit (base := w5.heap.size) (e := 5) (size := 1) (w5.setCell (pS a5 ss.length 1) (.int .u64 ((s.a + 1 : Nat) : Int))) #[] 0 (by omega) (by simp [maxLen]) (by simp)
  rw [hz6] at lit
  have hz7 : ((w5.setCell (pS a5 ss.length 1) (.int .u64 ((s.a + 1 : Nat) : Int))).alloc (.cells #[] 5)).heap.size = w5.heap.size + 1 := by simp
  have far : ∀ {b1 nn : Nat} {x : Value} {ys : List Value}, w5.ownsRow b1 5 1 x nn ys → ((w5.setCell (pS a5 ss.length 1) (.int .u64 ((s.a + 1 : Nat) : Int))).alloc (.cells #[] 5)).ownsRow b1 5 1 x nn ys :=
    fun h => (own_set_far h ho ne58 (hob' 1) _).alloc _
  have b7 : Below base w5 ((w5.setCell (pS a5 ss.length 1) (.int .u64 ((s.a + 1 : Nat) : Int))).alloc (.cells #[] 5)) :=
    ((Below.refl _ w5).setCell (by rw [hpb]; exact hb5) _).alloc (by simpa using hbase) _
  have o7 := o6.alloc (.cells #[] 5)
  generalize (w5.setCell (pS a5 ss.length 1) (.int .u64 ((s.a + 1 : Nat) : Int))).alloc (.cells #[] 5) = w7 at *
  refine ⟨lit, Rd.own (far hov), ?_⟩
  intro v8 w8 o8 h8
  have litb : ∀ k, (Value.slice (some ⟨w5.heap.size, 0, none⟩) 0 0).ownBlock = some k → w5.heap.size ≤ k := fun k hk => by cases hk; exact Nat.le_refl _
  have far8 : ∀ {b1 nn : Nat} {x : Value} {ys : List Value}, w5.ownsRow b1 5 1 x nn ys → w8.ownsRow b1 5 1 x nn ys :=
    fun h => h8.kept (far h) (own_lt_ne h w5.heap.size (fun k hk => (h.lt k hk).2) litb)
  have oo8 := h8.kept o7 (own_lt_ne ho w5.heap.size (fun k hk => (ho.lt k hk).2) litb)
  have hz8 := h8.1.size
  have b8 : Below base w7 w8 := h8.below (by omega) (own_mono lit hbase)
  refine ⟨Rd.own (far8 hb), by omega, ?_⟩
  intro v9 w9 o9 h9
  have v8b : ∀ k, v8.ownBlock = some k → w5.heap.size ≤ k := fun k hk => (o8.lt k hk).1
  have far9 : ∀ {b1 nn : Nat} {x : Value} {ys : List Value}, w5.ownsRow b1 5 1 x nn ys → w9.ownsRow b1 5 1 x nn ys :=
    fun h => h9.kept (far8 h) (own_lt_ne h w5.heap.size (fun k hk => (h.lt k hk).2) v8b)
  have oo9 := h9.kept oo8 (own_lt_ne ho w5.heap.size (fun k hk => (ho.lt k hk).2) v8b)
  have hz9 := h9.1.size
  have b9 : Below base w8 w9 := h9.below (by omega) (own_mono o8 hbase)
  obtain ⟨a9, e9, _, _, _, -, hC9⟩ := own_elem oo9 ss.length (by omega)
  injection e9 with e9
  subst e9
  obtain ⟨y9, z9, s9⟩ := hC9 3 (by decide)
  have o10 := s9 v9
  rw [← hlen, set_mid] at o10
  rw [← hlen, get_mid] at y9
  rw [hlen] at y9 o10
  refine ⟨z9, ⟨_, y9⟩, _, o10, ?_, (b7.trans (b8.trans b9)).setCell (by rw [hpb]; exact hb5) _⟩
  have hz10 : (w9.setCell (pS a5 ss.length 3) v9).heap.size = w9.heap.size := by simp
  rw [hz10]
  refine ShO.snoc (s := ⟨s.k, s.a + 1, s.b, s.d ++ e⟩) (v := v9) (hS0.map (by omega) fun x nn ys h hk => own_set_far (far9 h) oo9 ne58 (hob' 3) _) ?_ (fun k hk => (o9.lt k hk).2)
  have o9' := own_set_far (own_mono o9 hbase) oo9 ne58 (hob' 3) v9
  have el : 0 + s.d.length + e.length = (s.d ++ e).length := by rw [List.length_append]; omega
  rw [List.nil_append, ← u8s_append, el] at o9'
  exact o9'

/-- a fresh sheet at the end of the row -/
theorem refNew {w3 w5 : World} {base B m c0 : Nat} {A0 : Option Addr} {v5 : Value} {ss : List Sht} {xs : List Value} {us : Array Value} (lv : Nat) (ho : w3.ownsRow base 55 4 (.slice A0 m c0) m xs) (hS : ShO w3 base B ss xs) (hbase : base ≤ w3.heap.size)
    (h : Appd (w3.alloc (.cells us 55)) w5 (.slice A0 m c0) v5) :
    ShO w5 base B (ss ++ [⟨4, 0, lv, []⟩]) (xs ++ [.int .i64 4, .int .u64 0, .int .u64 (lv : Int), .slice none 0 0]) ∧
      (∀ b1 nn x ys, w3.ownsRow b1 5 1 x nn ys → w5.ownsRow b1 5 1 x nn ys) ∧ Below base w3 w5 ∧ w3.heap.size ≤ w5.heap.size := by
  have ne58 : (5 : TypeId) ≠ 55 := by decide
  have far : ∀ {b1 nn : Nat} {x : Value} {ys : List Value}, w3.ownsRow b1 5 1 x nn ys → w5.ownsRow b1 5 1 x nn ys :=
    fun k => h.kept (k.alloc _) (own_own_ne k ho ne58)
  have hz : (w3.alloc (.cells us 55)).heap.size = w3.heap.size + 1 := by simp
  have hz5 := h.1.size
  refine ⟨(hS.map (Nat.le_refl _) fun x nn ys k _ => far k).snoc (s := ⟨4, 0, lv, []⟩) (v := .slice none 0 0) (World.ownsRow_nil _ _ _ _) (fun k hk => by cases hk), fun _ _ _ _ k => far k, ((Below.refl _ w3).alloc hbase _).trans (h.below (by omega) (ho.alloc _)), by omega⟩
end Go.Proofs.Ytfhmaincnlaapaa
namespace Go.Proofs.Ytfhmaincnlaapaa
set_option linter.unusedVariables false

theorem nst_last (lv : Nat) (l : List (Nat × Int)) (h : l ≠ []) : ∃ ss n d, nst lv l = (ss, n, d) ∧ 0 < n ∧ nodes lv l = ss ++ [⟨4, n, lv, d⟩] := by
  have hp : 0 < (nst lv l).2.1 := by
    obtain ⟨l0, x, rfl⟩ : ∃ l0 x, l = l0 ++ [x] := ⟨l.dropLast, l.getLast h, (List.dropLast_concat_getLast h).symm⟩
    rw [nst_snoc]
    unfold nstep pput
    split
    · exact Nat.one_pos
    · exact Nat.succ_pos _
  refine ⟨(nst lv l).1, (nst lv l).2.1, (nst lv l).2.2, rfl, hp, ?_⟩
  unfold nodes pend
  rw [if_pos hp]
theorem nodes_first (lv : Nat) (l : List (Nat × Int)) (h : 0 < l.length) : nodes lv (l.take 0) = [] ∧ nodes lv (l.take 1) = [⟨4, 0 + 1, lv, [] ++ encE l[0]⟩] := by
  refine ⟨rfl, ?_⟩
  unfold nodes
  rw [nst_take lv l 0 h]
  have e : nstep lv (nst lv (l.take 0)) l[0] = ([], 1, encE l[0]) := by
    rw [List.take_zero]
    show pput 4 lv ([], 0, []) (encE l[0]) (decide (2 ≤ 0) && brkB l[0].1 lv) = _
    unfold pput
    split
    · rfl
    · rfl
  rw [e]
  rfl
theorem nodes_cut (lv : Nat) (l : List (Nat × Int)) (k : Nat) (h : k < l.length) (ss : List Sht) (n : Nat) (d : List UInt8) (e : nst lv (l.take k) = (ss, n, d)) (h0 : 0 < n)
    (hc : (decide (2 ≤ n) && brkB l[k].1 lv) = true ∨ 1001 < d.length + (encE l[k]).length) : nodes lv (l.take (k + 1)) = (ss ++ [⟨4, n, lv, d⟩]) ++ [⟨4, 0 + 1, lv, [] ++ encE l[k]⟩] := by
  unfold nodes
  rw [nst_take lv l k h, e]
  unfold nstep pput
  rw [if_pos hc]
  show pend 4 lv ((if 0 < n then ss ++ [⟨4, n, lv, d⟩] else ss), 1, encE l[k]) = _
  rw [if_pos h0]
  rfl
theorem nodes_more (lv : Nat) (l : List (Nat × Int)) (k : Nat) (h : k < l.length) (ss : List Sht) (n : Nat) (d : List UInt8) (e : nst lv (l.take k) = (ss, n, d))
    (hc : ¬ ((decide (2 ≤ n) && brkB l[k].1 lv) = true ∨ 1001 < d.length + (encE l[k]).length)) : nodes lv (l.take (k + 1)) = ss ++ [⟨4, n + 1, lv, d ++ encE l[k]⟩] := by
  unfold nodes
  rw [nst_take lv l k h, e]
  unfold nstep pput
  rw [if_neg hc]
  show pend 4 lv (ss, n + 1, d ++ encE l[k]) = _
  unfold pend
  rw [if_pos (Nat.succ_pos _)]
end Go.Proofs.Ytfhmaincnlaapaa
namespace Go.Proofs.Ytfhmaincnlaapaa
open Go.ChangeShapes Go.WideShapes Go.ChangeAt Go.RowKit
set_option linter.unusedVariables false

theorem own_belowK {w w' : World} {base n : Nat} {e : TypeId} {size : Nat} {v : Value} {xs : List Value} (h : w.ownsRow base e size v n xs) {B : Nat} (hb : Below B w w') (hk : ∀ k, v.ownBlock = some k → k < B) : w'.ownsRow base e size v n xs := by
  refine ⟨h.1, ?_⟩
  rcases h.2 with h2 | ⟨g, cap, cur, rfl, hg, hh, r⟩
  · exact .inl h2
  · exact .inr ⟨g, cap, cur, rfl, hg, by rw [hb.block g (hk g rfl)]; exact hh, r⟩
/-- whether a new sheet is begun at entry k, and what the sheets are then -/
def NdDec (lv : Nat) (l : List (Nat × Int)) (k : Nat) (e : List UInt8) (cb : Bool) : Prop :=
  (cb = true → nodes lv (l.take (k + 1)) = nodes lv (l.take k) ++ [⟨4, 0 + 1, lv, [] ++ e⟩]) ∧
  (cb = false → ∃ ss n d, nodes lv (l.take k) = ss ++ [⟨4, n, lv, d⟩] ∧ nst lv (l.take k) = (ss, n, d) ∧ nodes lv (l.take (k + 1)) = ss ++ [⟨4, n + 1, lv, d ++ e⟩])
theorem step_appSD {P : Program} {ops : Array Oper} {o : Oper} {a : Act} {K : Act → World → Prop} {Q : Exit → Act → World → Prop} {E : Prop} {W : World} (d : Option Tmp) (hd : o.dst = d) (hgd : o.guard = none) (s x : Operand) (t : TypeId)
    (ho : o.op = .call { callee := .builtin .append, args := #[s, x], argTypes := #[t, t] })
    (base : Nat) (e : TypeId) (z : Value) (size bytes : Nat) (hinf : (P.info? e).map (fun i => (i.zero, i.size, i.bytes)) = some (some z, size, bytes)) (hzs : z.cells.size = size) (hsz : 0 < size) (ht : P.underlying t = some (.slice e))
    (v : Value) (n : Nat) (xs : List Value) (hown : W.ownsRow base e size v n xs) (B : Nat) (A : Option Addr) (m c : Nat) (news : List Value) (hr : Rd W B size A m news) (hs : a.eval s = v) (hx : a.eval x = .slice A m c) (h1 : ∀ u ∈ news, u.oneCell' = true)
    (hbytes : (n + m) * bytes ≤ 140737488355328) (h63 : n + m ≤ 140737488355328) (hbase : base ≤ W.heap.size)
    (h : ∀ v' w', w'.ownsRow base e size v' (n + m) (xs ++ news) → Appd W w' v v' → K (a.put d v') w') :
    if Region.wanted o (yielded ops a.tmps) = true then Oper.wp P o a W K Q else E := by
  subst hd
  exact step_appS hgd s x t ho base e z size bytes hinf hzs hsz ht v n xs hown B A m c news hr hs hx h1 hbytes h63 hbase h
theorem ent_keep {W W' : World} {a : Addr} {u v : Value} {n k : Nat} (hb : Below n W W') (hn : a.block < n) (h : W.cell? (a.add (k * 2)) = some u ∧ W.cell? ⟨(a.add (k * 2)).block, (a.add (k * 2)).off + 1, none⟩ = some v) :
    W'.cell? (a.add (k * 2)) = some u ∧ W'.cell? ⟨(a.add (k * 2)).block, (a.add (k * 2)).off + 1, none⟩ = some v :=
  ⟨(hb.cell (by rw [block_add]; exact hn)).trans h.1, (hb.cell (by rw [block_add]; exact hn)).trans h.2⟩
/-- behind a round: the row of sheets at the head of the next one -/
def NdRel (w wr : World) (lv : Nat) (l : List (Nat × Int)) (k : Nat) (v : Value) : Prop :=
  ∃ xs, wr.ownsRow w.heap.size 55 4 v (nodes lv (l.take k)).length xs ∧ ShO wr w.heap.size wr.heap.size (nodes lv (l.take k)) xs ∧ Below w.heap.size w wr
/-- ahead of the last two statements of a round: the last sheet is s, its body the call's own -/
def NdCut (w w5 : World) (lv : Nat) (l : List (Nat × Int)) (k : Nat) (A3 : Option Addr) (c3 : Nat) (e : List UInt8) (v5 v8 : Value) : Prop :=
  ∃ A5 c5 m ss s xs5, v5 = .slice A5 (m + 1) c5 ∧ v8 = .int .i64 (m : Int) ∧ m = ss.length ∧ m ≤ 2000 ∧ s.a ≤ 1000 ∧ s.d.length ≤ 2000 ∧ w5.ownsRow w.heap.size 55 4 v5 (m + 1) xs5 ∧ ShO w5 w.heap.size w5.heap.size (ss ++ [s]) xs5 ∧
    w5.ownsRow w.heap.size 5 1 (.slice A3 e.length c3) e.length (u8s e) ∧ Below w.heap.size w w5 ∧ nodes lv (l.take (k + 1)) = ss ++ [⟨s.k, s.a + 1, s.b, s.d ++ e⟩]
/-- behind a round's first statement -/
def NdHalf (w wr wx : World) (A0 : Option Addr) (c0 L lv : Nat) (l : List (Nat × Int)) (k : Nat) (xs : List Value) (A3 : Option Addr) (c3 : Nat) (e : List UInt8) : Prop :=
  wx.ownsRow w.heap.size 55 4 (.slice A0 L c0) L xs ∧ ShO wx w.heap.size wx.heap.size (nodes lv (l.take k)) xs ∧ wx.ownsRow w.heap.size 5 1 (.slice A3 e.length c3) e.length (u8s e) ∧ Below w.heap.size w wx
set_option maxRecDepth 100000 in
set_option maxHeartbeats 4000000 in
theorem refNodes_any (w : World) (lv : Nat) (A : Option Addr) (n c B : Nat) (l : List (Nat × Int)) (h1 : 1 ≤ lv) (h2 : lv ≤ 60) (h : Rd w B 2 A n (entC l)) (hn : n ≤ 1000) (hB : B ≤ w.heap.size)
    (hf : ∀ k (hk : k < l.length), l[k].1 < 18446744073709551616 ∧ 1 ≤ l[k].2 ∧ l[k].2 ≤ 8192) :
    Calls Try.prog 52 #[.int .i64 (lv : Int), .slice A n c] w fun y w' => ∃ v xs, y = .returned v ∧ w'.ownsRow w.heap.size 55 4 v (nodes lv l).length xs ∧ ShR w' w'.heap.size (nodes lv l) xs ∧ Below w.heap.size w w' := by
  obtain rfl : n = l.length := h.ent_len
  have H := Lib.hid h; have HF := Lib.hid hf; clear h hf
  go_enter Try.func52, Try.ntmps52
  go_wp2
  go_loopg [5, 6] l.length (fun g ov i wr => ∃ k : Nat, k ≤ l.length ∧ g = l.length - k ∧ i = .int .i64 (k : Int) ∧ NdRel w wr lv l k ov)
  case atStart => exact ⟨0, by omega, rfl, rfl, [], World.ownsRow_nil _ _ _ 4, rfl, belR _⟩
  case round =>
    obtain ⟨k, hk, rfl, rfl, hrel⟩ := hrel
    obtain ⟨xs, ho, hs, hb⟩ := hrel
    have hz := hb.size
    by_cases hlt : k < l.length
    · obtain ⟨a, rfl, hab, x0, x1⟩ := (H.out.below (hb.mono hB)).ent hlt
      obtain ⟨hf1, hf2, hf3⟩ := HF.out k hlt
      have hbd := nst_bd lv (l.take k)
      have hlk : (l.take k).length ≤ 1000 := by rw [List.length_take]; omega
      have hab2 : a.block < wr.heap.size := by omega
      have q1 : (0 : Int) ≤ (k : Int) := by omega
      have q2 : (k : Int) < (l.length : Int) := by omega
      generalize hx : l[k] = x at *
      obtain ⟨f, p⟩ := x
      obtain ⟨p, rfl⟩ := Int.eq_ofNat_of_zero_le (show 0 ≤ p by simp only at hf2; omega)
      simp only at x0 x1 hf1 hf2 hf3
      have wp : IntKind.u64.wrap (p : Int) = (p : Int) := by rw [IntKind.wrap_u64]; omega
      have wl : IntKind.u64.wrap (lv : Int) = (lv : Int) := by rw [IntKind.wrap_u64]; omega
      have hw1 := wd_le f; have hw2 := wd_le p
      have hel : (encE (f, (p : Int))).length = wd f + 1 + (wd p + 1) := by unfold encE; rw [List.length_append, encU_length, encU_length]; rfl
      have hek : u8s (encU f) ++ u8s (encU p) = u8s (encE (f, (p : Int))) := by rw [← u8s_append]; rfl
      obtain ⟨A0, c0, rfl, _, _, _⟩ := own_form ho
      generalize hL : (nodes lv (l.take k)).length = L at *
      have hsd : wr.drew.cell? (a.add (k * 2)) = some (.int .u64 (f : Int)) ∧ wr.drew.cell? ⟨(a.add (k * 2)).block, (a.add (k * 2)).off + 1, none⟩ = some (.int .i64 (p : Int)) := ⟨x0, x1⟩
      have HX := Lib.hid hx; have HL := Lib.hid hL; have HSD := Lib.hid hsd; have HO := Lib.hid ho; have HS := Lib.hid hs; have HEL := Lib.hid hel; have HEK := Lib.hid hek; have HBD := Lib.hid hbd; clear hx hL hsd ho hs hel hek hbd
      have hL1000 : L ≤ 1001 := by
        have := HL.out; have hb := HBD.out.1
        have : (nodes lv (l.take k)).length ≤ (nst lv (l.take k)).1.length + 1 := by unfold nodes pend; split <;> simp
        omega
      have hel1 := encE_len (f, (p : Int))
      go_upto_region 5 with (fail)
      go_cut [7] (fun s7 wx => ∃ A3 c3, s7 = .slice A3 (encE (f, (p : Int))).length c3 ∧ NdHalf w wr wx A0 c0 L lv l k xs A3 c3 (encE (f, (p : Int))))
      case first =>
        go_region_held_law (fun W => (W.cell? (a.add (k * 2)) = some (.int .u64 (f : Int)) ∧ W.cell? ⟨(a.add (k * 2)).block, (a.add (k * 2)).off + 1, none⟩ = some (.int .i64 (p : Int))))
          (first | (with_reducible exact HSD.out) | (with_reducible exact ent_keep hb1 (by first | omega | (simp; omega)) HSD.out) | (with_reducible exact ent_keep hb2 (by first | omega | (simp; omega)) HSD.out) | (with_reducible exact ent_keep hb2 (by have := hb1.size; simp at this; omega) (ent_keep hb1 (by first | omega | (simp; omega)) HSD.out)) | (with_reducible exact ent_keep hb1 (by have := hb2.size; simp at this; omega) (ent_keep hb2 (by first | omega | (simp; omega)) HSD.out)) | (with_reducible exact ent_keep hb3 (by first | omega | (simp; omega)) (by assumption)))
          (first
            | (refine step_appSD (some 28) (by rfl) (by rfl) _ _ 53 (by rfl) wr.heap.size 5 _ 1 1 info_u8 rfl (by decide) Try.underlying53 _ _ _ (own_mono (own_below ho1 hb2 (Nat.le_refl _)) (by simp)) _ _ _ _ _ (Rd.own ho2) (by rfl) (by rfl) (u8s_one _) (by omega) (by omega) ?_ ?_; (have := hb1.size; have := hb2.size; simp at *; omega); intro v3 w3 ho3 hap3; obtain ⟨A3, c3, rfl, _, _, _⟩ := own_form ho3; have hb3 := hap3.below (B := wr.heap.size) (by have := hb1.size; have := hb2.size; simp at *; omega) (own_mono (own_below ho1 hb2 (Nat.le_refl _)) (by simp)))
            | (go_at_call 107; (with_reducible refine (refU_any f _ hf1).mono ?_); rintro y w1 ⟨v1, rfl, ho1, hb1⟩; obtain ⟨A1, c1, rfl, _, _, _⟩ := own_form ho1)
            | (go_at_call 107; (try rw [wp]); (with_reducible refine (refU_any p _ (by omega)).mono ?_); rintro y w2 ⟨v2, rfl, ho2, hb2⟩; obtain ⟨A2, c2, rfl, _, _, _⟩ := own_form ho2))
        have hbw1 : Below wr.heap.size wr w1 := (belR wr).drew.trans hb1
        have hbw2 := belT hbw1 hb2
        have hbw3 : Below wr.heap.size wr w3 := hbw2.trans hb3
        have ho9 := own_belowK HO.out hbw3 (fun k hk => (HO.out.lt k hk).2)
        have hs9 := HS.out.map hbw3.size fun v n ys h hk => own_belowK h hbw3 hk
        have hob9 := own_mono ho3 hz
        rw [HEK.out, ← HEL.out] at hob9
        have hb9 := hb.trans (hbw3.mono hz)
        have hz9 := hb9.size
        have hel1 := encE_len (f, (p : Int))
        go_wp2
        go_meet
        case rel => exact ⟨A3, c3, by rw [HEL.out], ho9, hs9, hob9, hb9⟩
      obtain ⟨A3, c3, rfl, hcut⟩ := hcut
      obtain ⟨ho9, hs9, hob9, hb9⟩ := hcut
      have hz9 := hb9.size
      have HO9 := Lib.hid ho9; have HS9 := Lib.hid hs9; have HOB9 := Lib.hid hob9; have HB9 := Lib.hid hb9
      clear ho9 hs9 hob9 hb9 HSD x0 x1 hw1 hw2
      generalize wc = w3 at *
      go_upto_region 7 with (fail)
      go_cut [8, 62] (fun s8 s62 wx => w3 = wx ∧ s8 = .int .i64 ((L : Int) - 1) ∧ ∃ cb, s62 = .bool cb ∧ NdDec lv l k (encE (f, (p : Int))) cb)
      case first =>
        by_cases hk0 : k = 0
        · subst hk0
          obtain ⟨e0, e1⟩ := nodes_first lv l hlt
          have hdec : NdDec lv l 0 (encE (f, (p : Int))) true := ⟨fun _ => by rw [e0, e1, HX.out]; rfl, fun h => by cases h⟩
          have HD := Lib.hid hdec; clear hdec e0 e1
          go_wp2
          go_meet
          case rel => exact ⟨rfl, congrArg (Value.int .i64) (by omega), true, rfl, HD.out⟩
        · have hne : l.take k ≠ [] := by intro e; have := congrArg List.length e; rw [List.length_take, List.length_nil] at this; omega
          obtain ⟨ss, n, d, hst, hn0, hnd⟩ := nst_last lv (l.take k) hne
          have hlen := HL.out
          rw [hnd, List.length_append, List.length_singleton] at hlen
          subst hlen
          have hbd := HBD.out
          rw [hst] at hbd
          simp only at hbd
          have hsh := HS9.out
          rw [hnd] at hsh
          obtain ⟨xs0, v, hxs, hxl, _, hov, _⟩ := hsh.last
          obtain ⟨Ab, cb, rfl, _, _, _⟩ := own_form hov
          obtain ⟨a0, rfl, _, hal, _, -, hC⟩ := own_elem HO9.out ss.length (by omega)
          have y1 := (hC 1 (by decide)).1; have y3 := (hC 3 (by decide)).1
          rw [hxs, ← hxl, get_mid, hxl] at y1 y3
          simp only [shC, List.getElem?_cons_succ, List.getElem?_cons_zero] at y1 y3
          clear hC hsh hov hxs
          have hkz : ((k : Int) == 0) = false := by rw [beq_eq_false_iff_ne]; omega
          have hdY : ∀ hc : (decide (2 ≤ n) && brkB l[k].1 lv) = true ∨ 1001 < d.length + (encE l[k]).length, NdDec lv l k (encE (f, (p : Int))) true := fun hc => ⟨fun _ => by
            rw [nodes_cut lv l k hlt ss n d hst hn0 hc, hnd, HX.out], fun h => by cases h⟩
          have hdN : ∀ hc : ¬ ((decide (2 ≤ n) && brkB l[k].1 lv) = true ∨ 1001 < d.length + (encE l[k]).length), NdDec lv l k (encE (f, (p : Int))) false := fun hc => ⟨fun h => (by cases h), fun _ =>
            ⟨ss, n, d, hnd, hst, by rw [nodes_more lv l k hlt ss n d hst hc, HX.out]⟩⟩
          rw [HX.out] at hdY hdN
          simp only at hdY hdN
          have HYY := Lib.hid hdY; have HNN := Lib.hid hdN; have HST := Lib.hid hst; have HND := Lib.hid hnd
          clear hdY hdN hst hnd hne
          obtain ⟨a', ea, _, x0, _⟩ := (H.out.below (HB9.out.mono hB)).ent hlt
          injection ea with ea
          subst ea
          rw [HX.out] at x0
          simp only at x0
          have q5 : (0 : Int) ≤ (ss.length : Int) := by omega
          have q6 : (ss.length : Int) < (ss.length : Int) + 1 := by omega
          by_cases hlen : 1001 < d.length + (encE (f, (p : Int))).length
          · have tl : decide ((1001 : Int) < (d.length : Int) + ((encE (f, (p : Int))).length : Int)) = true := decide_eq_true (by omega)
            have HD := Lib.hid (HYY.out (.inr hlen)); clear HYY HNN
            by_cases hn2 : 2 ≤ n
            · have t2 : decide ((2 : Int) ≤ (n : Int)) = true := decide_eq_true (by omega)
              cases hbk : brkB f lv
              · have HBK := Lib.hid hbk; clear hbk
                have hbr := fun W => refBreak_any f (lv : Int) W
                rw [HBK.out] at hbr
                have HBR := Lib.hid hbr; clear hbr
                go_wp2_with (go_at_call 23; (with_reducible refine (HBR.out _).mono ?_); rintro y w' ⟨rfl, rfl⟩)
                go_meet
                case rel => exact ⟨rfl, congrArg (Value.int .i64) (by omega), true, rfl, HD.out⟩
              · have HBK := Lib.hid hbk; clear hbk
                have hbr := fun W => refBreak_any f (lv : Int) W
                rw [HBK.out] at hbr
                have HBR := Lib.hid hbr; clear hbr
                go_wp2_with (go_at_call 23; (with_reducible refine (HBR.out _).mono ?_); rintro y w' ⟨rfl, rfl⟩)
                go_meet
                case rel => exact ⟨rfl, congrArg (Value.int .i64) (by omega), true, rfl, HD.out⟩
            · obtain rfl : n = 1 := by omega
              go_wp2_with (go_at_call 23; (with_reducible refine (refBreak_any f (lv : Int) _).mono ?_); rintro y w' ⟨rfl, rfl⟩)
              go_meet
              case rel => exact ⟨rfl, congrArg (Value.int .i64) (by omega), true, rfl, HD.out⟩
          · have tl : decide ((1001 : Int) < (d.length : Int) + ((encE (f, (p : Int))).length : Int)) = false := decide_eq_false (by omega)
            by_cases hn2 : 2 ≤ n
            · have t2 : decide ((2 : Int) ≤ (n : Int)) = true := decide_eq_true (by omega)
              cases hbk : brkB f lv
              · have HBK := Lib.hid hbk; clear hbk
                have hbr := fun W => refBreak_any f (lv : Int) W
                rw [HBK.out] at hbr
                have HBR := Lib.hid hbr; clear hbr
                go_wp2_with (go_at_call 23; (with_reducible refine (HBR.out _).mono ?_); rintro y w' ⟨rfl, rfl⟩)
                go_meet
                case rel => exact ⟨rfl, congrArg (Value.int .i64) (by omega), false, rfl, HNN.out (by rw [HBK.out]; simp; omega)⟩
              · have HBK := Lib.hid hbk; clear hbk
                have hbr := fun W => refBreak_any f (lv : Int) W
                rw [HBK.out] at hbr
                have HBR := Lib.hid hbr; clear hbr
                go_wp2_with (go_at_call 23; (with_reducible refine (HBR.out _).mono ?_); rintro y w' ⟨rfl, rfl⟩)
                go_meet
                case rel => exact ⟨rfl, congrArg (Value.int .i64) (by omega), true, rfl, HYY.out (by rw [HBK.out]; simp [hn2])⟩
            · obtain rfl : n = 1 := by omega
              go_wp2_with (go_at_call 23; (with_reducible refine (refBreak_any f (lv : Int) _).mono ?_); rintro y w' ⟨rfl, rfl⟩)
              go_meet
              case rel => exact ⟨rfl, congrArg (Value.int .i64) (by omega), false, rfl, HNN.out (by simp; omega)⟩
      case rest =>
        obtain ⟨rfl, rfl, cb, rfl, hdec⟩ := hcut
        have HD := Lib.hid hdec; clear hdec
        go_upto_if 62 with (fail)
        go_cut [5, 8] (fun s5 s8 wx => NdCut w wx lv l k A3 c3 (encE (f, (p : Int))) s5 s8)
        case first =>
          cases cb with
          | true =>
            have hnd := HD.out.1 rfl
            have HN := Lib.hid hnd; clear hnd
            go_wp2_with (at_builtin; (refine wpList_appB rfl [.int .i64 4, .int .u64 0, .int .u64 (lv : Int), .slice none 0 0] 4 rfl (by decide) (by simp [Value.oneCell']) _ _ 45 rfl w.heap.size 55 _ 48 info_sh rfl Try.underlying45 _ _ _ (HO9.out.alloc (.cells #[.int .i64 4, .int .u64 0, .int .u64 (lv : Int), .slice none 0 0] 55)) _ (Blk.new _ _ _) rfl rfl ?_ ?_ ?_ ?_; omega; omega; (simp; omega); intro v5 w5 ho5 hap5; obtain ⟨A5, c5, rfl, _, _, _⟩ := own_form ho5; have HO5 := Lib.hid ho5; clear ho5))
            obtain ⟨hsh, hrows, hbl, hsz5⟩ := refNew lv HO9.out HS9.out hz9 hap5
            have HSH := Lib.hid (hsh.map hsz5 fun _ _ _ h _ => h); have HR := Lib.hid hrows; clear hsh hrows
            go_meet
            case rel => exact ⟨A5, c5, L, nodes lv (l.take k), ⟨4, 0, lv, []⟩, _, rfl, by first | rfl | simp, HL.out.symm, by have := hL1000; omega, by simp, by simp, HO5.out, HSH.out, HR.out _ _ _ _ HOB9.out, HB9.out.trans hbl, HN.out⟩
          | false =>
            obtain ⟨ss, n, d, e1, e2, e3⟩ := HD.out.2 rfl
            have hlen := HL.out
            rw [e1, List.length_append, List.length_singleton] at hlen
            have hbd := HBD.out
            rw [e2] at hbd
            simp only at hbd
            have hsh := HS9.out
            rw [e1] at hsh
            have HE3 := Lib.hid e3; have HSH := Lib.hid hsh; clear e1 e2 e3 hsh
            subst hlen
            go_wp2
            go_meet
            case rel => exact ⟨A0, c0, ss.length, ss, ⟨4, n, lv, d⟩, xs, rfl, by first | rfl | simp, rfl, by omega, by simp only; omega, by simp only; omega, HO9.out, HSH.out, HOB9.out, HB9.out, HE3.out⟩
        case rest =>
          clear HO9 HS9 HOB9 HB9 HD HO HS H
          obtain ⟨A5, c5, m, ss, s, xs5, rfl, rfl, hm, hm2, hsa, hsd2, ho5, hs5, hob5, hb5, hnd⟩ := hcut
          obtain ⟨a5, Ab, cb2, rfl, hba, hal, y1, z1, y3, z3, hcb1, hcb2, hnext⟩ := refTail _ w.heap.size _ _ _ c5 m ss s xs5 hm ho5 hs5 (Nat.le_refl _) A3 c3 (encE (f, (p : Int))) _ rfl hob5 hb5.size
          have hnext := hnext _ rfl
          rw [show ((s.a + 1 : Nat) : Int) = (s.a : Int) + 1 from by omega] at hnext
          simp only [pS] at y1 z1 y3 z3 hnext
          have wa : IntKind.u64.wrap ((s.a : Int) + 1) = (s.a : Int) + 1 := by rw [IntKind.wrap_u64]; omega
          have q5 : (0 : Int) ≤ (m : Int) := by omega
          have q6 : (m : Int) < (m : Int) + 1 := by omega
          obtain ⟨t1, t2, t3⟩ := hnext
          have hal' : (a5.add (m * 4)).block < wc.heap.size := by rw [block_add]; exact hal
          have hne' : ¬ (a5.add (m * 4)).block = wc.heap.size := by omega
          have hz5 := hb5.size
          have HM := Lib.hid hm; have HO5 := Lib.hid ho5; have HS5 := Lib.hid hs5; have HOB5 := Lib.hid hob5; have HB5 := Lib.hid hb5; have HN := Lib.hid hnd; have T1 := Lib.hid t1; have T2 := Lib.hid t2; have T3 := Lib.hid t3
          clear hm ho5 hs5 hob5 hb5 hnd t1 t2 t3
          go_wp2_with (first
            | (at_builtin; (refine wpList_appS _ rfl (.tmp 84) (.tmp 89) 53 rfl wc.heap.size 5 (.int .u8 0) 1 1 info_u8 rfl (by decide) Try.underlying53 (.slice (some ⟨wc.heap.size, 0, none⟩) 0 0) 0 [] T1.out ?_ _ Ab s.d.length cb2 (u8s s.d) T2.out ?_ (u8s_one _) ?_ ?_ ?_ ?_); rfl; rfl; omega; omega; (exact Nat.le_of_lt (T1.out.lt _ rfl).2); intro v8 w8 ho8 hap8; obtain ⟨R8, hz8, T8⟩ := T3.out v8 w8 ho8 hap8; have HO8 := Lib.hid ho8; have R8 := Lib.hid R8; have T8 := Lib.hid T8; clear ho8)
            | (at_builtin; (refine wpList_appS _ rfl (.tmp 90) (.tmp 91) 53 rfl wc.heap.size 5 (.int .u8 0) 1 1 info_u8 rfl (by decide) Try.underlying53 v8 (0 + s.d.length) ([] ++ u8s s.d) HO8.out ?_ _ A3 (encE (f, (p : Int))).length c3 (u8s (encE (f, (p : Int)))) R8.out ?_ (u8s_one _) ?_ ?_ ?_ ?_); rfl; rfl; omega; omega; omega; intro v9 w9 ho9 hap9; obtain ⟨A9, c9, rfl, _, _, _⟩ := own_form ho9; obtain ⟨z9, ⟨yy, y9⟩, xs9, HF9⟩ := T8.out _ w9 ho9 hap9; rw [Nat.zero_add] at HF9; have HR9 := Lib.hid HF9; clear HF9 ho9))
          go_roundg (l.length - (k + 1))
          case measure => omega
          case rel => exact ⟨k + 1, by omega, rfl, by go_num, xs9, by rw [HN.out, List.length_append, List.length_singleton, ← HM.out]; exact HR9.out.1, by rw [HN.out]; exact HR9.out.2.1, HB5.out.trans HR9.out.2.2⟩
    · obtain rfl : k = l.length := by omega
      rw [List.take_length] at ho hs
      have HO := Lib.hid ho; have HS := Lib.hid hs; clear ho hs
      go_wp2
      go_ret
      exact ⟨_, xs, rfl, HO.out, HS.out.reads, hb⟩
end Go.Proofs.Ytfhmaincnlaapaa
namespace Go.Proofs.Ytfhmaincnlaapaa
open Go.ChangeShapes Go.WideShapes Go.ChangeAt Go.RowKit
set_option linter.unusedVariables false

def namesL (S : Sch) : List ByteArray := S.dims.map Prod.fst ++ S.ints ++ S.nums
theorem info_str : (Try.prog.info? 9).map (fun i => (i.zero, i.size, i.bytes)) = some (some (.string ⟨#[]⟩), 1, 16) := by kernel_rfl
theorem strs_one (l : List ByteArray) : ∀ u ∈ strs l, u.oneCell' = true := fun u hu => by
  obtain ⟨x, _, rfl⟩ := List.mem_map.1 hu; rfl
theorem strs_snoc (l : List ByteArray) (x : ByteArray) : strs l ++ [.string x] = strs (l ++ [x]) := by simp [strs]
theorem dims_snoc (l : List (ByteArray × Int)) (k : Nat) (hk : k < l.length) : (l.take (k + 1)).map Prod.fst = (l.take k).map Prod.fst ++ [l[k].1] := by
  rw [List.take_succ_eq_append_getElem hk, List.map_append]; rfl
theorem Rd.dim {w : World} {B : Nat} {A : Option Addr} {l : List (ByteArray × Int)} (h : Rd w B 2 A l.length (dimC l)) {k : Nat} (hk : k < l.length) : ∃ a, A = some a ∧ a.block < B ∧ w.cell? (a.add (k * 2)) = some (.string l[k].1) ∧ w.cell? ⟨(a.add (k * 2)).block, (a.add (k * 2)).off + 1, none⟩ = some (.int .i64 l[k].2) := by
  obtain ⟨a, rfl, hb, hc⟩ := h.2 (by omega)
  have key : ∀ j, j < 2 → w.cell? (a.add (k * 2 + j)) = ([.string l[k].1, .int .i64 l[k].2] : List Value)[j]? := fun j hj => by
    have := flat_get (fun x : ByteArray × Int => ([.string x.1, .int .i64 x.2] : List Value)) 2 (fun _ => rfl) l k j hk hj
    have hl : j < ([.string l[k].1, .int .i64 l[k].2] : List Value).length := hj
    rw [List.getElem?_eq_getElem hl] at this ⊢
    exact hc _ _ this
  refine ⟨a, rfl, hb, key 0 (by decide), ?_⟩
  have := key 1 (by decide)
  rw [← add_add', add_succ] at this
  exact this
def AllRel (W wr : World) (S : Sch) (v3 v9 : Value) : Prop :=
  ∃ k : Nat, k ≤ S.dims.length ∧ v9 = .int .i64 (k : Int) ∧ wr.ownsRow W.heap.size 9 1 v3 k (strs ((S.dims.take k).map Prod.fst)) ∧ Below W.heap.size W wr
set_option maxRecDepth 20000 in
set_option maxHeartbeats 1000000 in
theorem all_any (w : World) (B : Nat) (v : Value) (S : Sch) (h : SchAt w B v S) (hB : B ≤ w.heap.size) (h0 : S.dims.length ≤ 100) (h1 : S.ints.length ≤ 100) (h2 : S.nums.length ≤ 100) :
    Calls Try.prog 100 #[v] w fun y w' => ∃ v', y = .returned v' ∧ w'.ownsRow w.heap.size 9 1 v' (namesL S).length (strs (namesL S)) ∧ Below w.heap.size w w' := by
  obtain ⟨A0, c0, A1, c1, A2, c2, A3, c3, rfl, r0, r1, r2, r3, _, _, _, _⟩ := h
  have hw0 := belA (belR w) (.cells #[.slice A0 S.dims.length c0, .slice A1 S.ints.length c1, .slice A2 S.nums.length c2, .slice A3 S.views.length c3] 26)
  have hblk := Blk.new w 26 #[.slice A0 S.dims.length c0, .slice A1 S.ints.length c1, .slice A2 S.nums.length c2, .slice A3 S.views.length c3]
  have R0 := Lib.hid (r0.below (hw0.mono hB)); have R1 := Lib.hid (r1.below (hw0.mono hB)); have R2 := Lib.hid (r2.below (hw0.mono hB)); have HW0 := Lib.hid hw0; have HBLK := Lib.hid hblk
  have hz0 : w.heap.size < (w.alloc (.cells #[.slice A0 S.dims.length c0, .slice A1 S.ints.length c1, .slice A2 S.nums.length c2, .slice A3 S.views.length c3] 26)).heap.size := by simp
  clear r0 r1 r2 r3 hw0 hblk
  go_enter Try.func100, Try.ntmps100
  go_wp2_with fail
  generalize w.alloc (.cells #[.slice A0 S.dims.length c0, .slice A1 S.ints.length c1, .slice A2 S.nums.length c2, .slice A3 S.views.length c3] 26) = W at *
  go_loopw [3, 9] (fun v3 v9 wx => AllRel W wx S v3 v9) (fun _ v9 _ => S.dims.length - (intOf v9).toNat)
  case atStart => exact ⟨0, by omega, rfl, World.ownsRow_nil W W.heap.size 9 1, belR W⟩
  case round =>
    obtain ⟨k, hk, rfl, ho, hb⟩ := hrel
    have HO := Lib.hid ho; have HB := Lib.hid hb; clear ho hb
    by_cases hlt : k < S.dims.length
    · obtain ⟨a, rfl, hab, x0, x1⟩ := ((R0.out.more (show B ≤ W.heap.size by omega)).below HB.out).dim hlt
      have q1 : (0 : Int) ≤ (k : Int) := by omega
      have q2 : (k : Int) < (S.dims.length : Int) := by omega
      have hsn := dims_snoc S.dims k hlt
      generalize S.dims[k] = x at *
      obtain ⟨nm, sz⟩ := x
      simp only at x0 x1 hsn
      have HSN := Lib.hid hsn; clear hsn
      have hz := HB.out.size
      have hz3 : W.heap.size ≤ (wr.alloc (.cells #[.string nm, .int .i64 sz] 89)).heap.size := by simp; omega
      have hxx : Value.slice (some ⟨wr.heap.size + 1, 0, none⟩) 1 1 = .slice (some ⟨(wr.alloc (.cells #[.string nm, .int .i64 sz] 89)).heap.size, 0, none⟩) 1 1 := by simp
      have HO2 := Lib.hid (HO.out.alloc (.cells #[.string nm, .int .i64 sz] 89))
      go_wp2_with (at_builtin; refine wpList_app1 (wr.alloc (.cells #[.string nm, .int .i64 sz] 89)) (.string nm) rfl rfl (.tmp 13) (.tmp 16) 23 rfl W.heap.size 9 (.string ⟨#[]⟩) 16 info_str rfl Try.underlying23 _ k (strs ((S.dims.take k).map Prod.fst)) HO2.out rfl rfl ?_ ?_ ?_ ?_; omega; omega; exact hz3; intro v2 w2 ho2 hb2; have HO3 := Lib.hid ho2; have HB3 := Lib.hid (hb2.below (B := W.heap.size) hz3 HO2.out); clear ho2 hb2)
      go_roundw
      case rel => exact ⟨k + 1, by omega, by go_num, by rw [HSN.out, ← strs_snoc]; exact HO3.out, (HB.out.trans ((belA (belR wr) _).mono hz)).trans HB3.out⟩
      case measure => simp [intOf]; omega
    · obtain rfl : k = S.dims.length := by omega
      rw [List.take_length] at HO
      have hz := HB.out.size
      have k1 := HBLK.out.below HB.out hz0
      have x1 := k1.cell 1; have x2 := k1.cell 2
      simp at x1 x2
      have HR1 := Lib.hid (R1.out.below (HB.out.mono (show B ≤ W.heap.size by omega)))
      have HR2 := Lib.hid (R2.out.below (HB.out.mono (show B ≤ W.heap.size by omega)))
      clear k1
      go_wp2_with (first
        | (at_builtin; refine wpList_appS _ rfl (.tmp 19) (.tmp 21) 23 rfl W.heap.size 9 (.string ⟨#[]⟩) 1 16 info_str rfl (by decide) Try.underlying23 _ S.dims.length (strs (S.dims.map Prod.fst)) HO.out rfl _ A1 S.ints.length c1 (strs S.ints) HR1.out rfl (strs_one _) ?_ ?_ ?_ ?_; omega; omega; exact hz; intro v2 w2 ho2 hap2; have HO2 := Lib.hid ho2; have HB2 := Lib.hid (HB.out.trans (hap2.below hz HO.out)); have hz2 : W.heap.size ≤ w2.heap.size := HB2.out.size; have k2 := HBLK.out.below HB2.out hz0; have y2 := k2.cell 2; simp at y2; have HR3 := Lib.hid (R2.out.below (HB2.out.mono (show B ≤ W.heap.size by omega))); clear ho2 hap2 k2)
        | (at_builtin; refine wpList_appS _ rfl (.tmp 23) (.tmp 25) 23 rfl W.heap.size 9 (.string ⟨#[]⟩) 1 16 info_str rfl (by decide) Try.underlying23 _ (S.dims.length + S.ints.length) (strs (S.dims.map Prod.fst) ++ strs S.ints) HO2.out rfl _ A2 S.nums.length c2 (strs S.nums) HR3.out rfl (strs_one _) ?_ ?_ ?_ ?_; omega; omega; exact hz2; intro v3 w3 ho3 hap3; have HO3 := Lib.hid ho3; have HB3 := Lib.hid (HB2.out.trans (hap3.below hz2 HO2.out)); clear ho3 hap3))
      go_ret
      have hl : (namesL S).length = S.dims.length + S.ints.length + S.nums.length := by unfold namesL; rw [List.length_append, List.length_append, List.length_map]
      have hs : strs (namesL S) = strs (S.dims.map Prod.fst) ++ strs S.ints ++ strs S.nums := by unfold namesL strs; rw [List.map_append, List.map_append]
      exact ⟨_, rfl, by rw [hl, hs]; exact own_mono HO3.out (Nat.le_of_lt hz0), HW0.out.trans (HB3.out.mono (Nat.le_of_lt hz0))⟩
end Go.Proofs.Ytfhmaincnlaapaa
namespace Go.Proofs.Ytfhmaincnlaapaa
open Go.ChangeShapes Go.WideShapes Go.ChangeAt Go.RowKit
set_option linter.unusedVariables false

set_option maxRecDepth 20000 in
set_option maxHeartbeats 1000000 in
theorem refNames_any (w : World) (B : Nat) (v : Value) (S : Sch) (h : SchAt w B v S) (hB : B ≤ w.heap.size) (h0 : S.dims.length ≤ 100) (h1 : S.ints.length ≤ 100) (h2 : S.nums.length ≤ 100) :
    Calls Try.prog 43 #[v] w fun y w' => ∃ v', y = .returned v' ∧ w'.ownsRow w.heap.size 9 1 v' (namesL S).length (strs (namesL S)) ∧ Below w.heap.size w w' := by
  obtain ⟨A0, c0, A1, c1, A2, c2, A3, c3, rfl, r0, r1, r2, r3, _, _, _, _⟩ := h
  have hw0 := belA (belR w) (.cells #[.slice A0 S.dims.length c0, .slice A1 S.ints.length c1, .slice A2 S.nums.length c2, .slice A3 S.views.length c3] 26)
  have hblk := Blk.new w 26 #[.slice A0 S.dims.length c0, .slice A1 S.ints.length c1, .slice A2 S.nums.length c2, .slice A3 S.views.length c3]
  have R0 := Lib.hid (r0.below (hw0.mono hB)); have R1 := Lib.hid (r1.below (hw0.mono hB)); have R2 := Lib.hid (r2.below (hw0.mono hB)); have HW0 := Lib.hid hw0; have HBLK := Lib.hid hblk
  have hz0 : w.heap.size < (w.alloc (.cells #[.slice A0 S.dims.length c0, .slice A1 S.ints.length c1, .slice A2 S.nums.length c2, .slice A3 S.views.length c3] 26)).heap.size := by simp
  clear r0 r1 r2 r3 hw0 hblk
  go_enter Try.func43, Try.ntmps43
  go_wp2_with fail
  generalize w.alloc (.cells #[.slice A0 S.dims.length c0, .slice A1 S.ints.length c1, .slice A2 S.nums.length c2, .slice A3 S.views.length c3] 26) = W at *
  go_loopw [3, 4] (fun v3 v9 wx => AllRel W wx S v3 v9) (fun _ v9 _ => S.dims.length - (intOf v9).toNat)
  case atStart => exact ⟨0, by omega, rfl, World.ownsRow_nil W W.heap.size 9 1, belR W⟩
  case round =>
    obtain ⟨k, hk, rfl, ho, hb⟩ := hrel
    have HO := Lib.hid ho; have HB := Lib.hid hb; clear ho hb
    have hz := HB.out.size
    have k1 := HBLK.out.below HB.out hz0
    have z0 := k1.cell 0
    simp at z0
    by_cases hlt : k < S.dims.length
    · obtain ⟨a, rfl, hab, x0, x1⟩ := ((R0.out.more (show B ≤ W.heap.size by omega)).below HB.out).dim hlt
      have q1 : (0 : Int) ≤ (k : Int) := by omega
      have q2 : (k : Int) < (S.dims.length : Int) := by omega
      have hsn := dims_snoc S.dims k hlt
      generalize S.dims[k] = x at *
      obtain ⟨nm, sz⟩ := x
      simp only at x0 x1 hsn
      have HSN := Lib.hid hsn; clear hsn k1
      go_wp2_with (at_builtin; refine wpList_app1 wr (.string nm) rfl rfl (.tmp 12) (.tmp 19) 23 rfl W.heap.size 9 (.string ⟨#[]⟩) 16 info_str rfl Try.underlying23 _ k (strs ((S.dims.take k).map Prod.fst)) HO.out rfl rfl ?_ ?_ ?_ ?_; omega; omega; exact hz; intro v2 w2 ho2 hb2; have HO3 := Lib.hid ho2; have HB3 := Lib.hid (hb2.below (B := W.heap.size) hz HO.out); clear ho2 hb2)
      go_roundw
      case rel => exact ⟨k + 1, by omega, by go_num, by rw [HSN.out, ← strs_snoc]; exact HO3.out, HB.out.trans HB3.out⟩
      case measure => simp [intOf]; omega
    · obtain rfl : k = S.dims.length := by omega
      rw [List.take_length] at HO
      have hs1 : wr.drew.cell? ⟨w.heap.size, 1, none⟩ = some (.slice A1 S.ints.length c1) ∧ wr.drew.cell? ⟨w.heap.size, 2, none⟩ = some (.slice A2 S.nums.length c2) := ⟨k1.drew.cell 1, k1.drew.cell 2⟩
      have HR1 := Lib.hid ((R1.out.below (HB.out.mono (show B ≤ W.heap.size by omega))).drewN 1)
      have HS1 := Lib.hid hs1; clear hs1 k1
      have HOD : Hid (wr.drew.ownsRow W.heap.size 9 1 _ S.dims.length (strs (S.dims.map Prod.fst))) := Lib.hid HO.out
      have HBD : Hid (Below W.heap.size W wr.drew) := Lib.hid HB.out.drew
      have hzd : W.heap.size ≤ wr.drew.heap.size := hz
      go_upto_region 6 with (fail)
      go_region_held3 (fun W' => W'.cell? ⟨w.heap.size, 1, none⟩ = some (.slice A1 S.ints.length c1) ∧ W'.cell? ⟨w.heap.size, 2, none⟩ = some (.slice A2 S.nums.length c2)) (first | (with_reducible exact HS1.out) | (exact HS2.out) | (exact HS3.out))
        (first
         | (refine step_appSD (some 24) (by rfl) (by rfl) (.tmp 21) (.tmp 23) 23 (by rfl) W.heap.size 9 (.string ⟨#[]⟩) 1 16 info_str rfl (by decide) Try.underlying23 _ S.dims.length (strs (S.dims.map Prod.fst)) HOD.out _ A1 S.ints.length c1 (strs S.ints) HR1.out (by rfl) (by rfl) (strs_one _) (by omega) (by omega) hzd ?_; intro v2 w2 ho2 hap2; have HO2 := Lib.hid ho2; have HB2 := Lib.hid (HBD.out.trans (hap2.below hzd HOD.out)); have hz2 : W.heap.size ≤ w2.heap.size := HB2.out.size; have k2 := HBLK.out.below HB2.out hz0; have HS2 : Hid (w2.cell? ⟨w.heap.size, 1, none⟩ = some (.slice A1 S.ints.length c1) ∧ w2.cell? ⟨w.heap.size, 2, none⟩ = some (.slice A2 S.nums.length c2)) := Lib.hid ⟨k2.cell 1, k2.cell 2⟩; have HR3 := Lib.hid (R2.out.below (HB2.out.mono (show B ≤ W.heap.size by omega))); clear ho2 hap2 k2)
         | (refine step_appSD (some 27) (by rfl) (by rfl) (.tmp 24) (.tmp 26) 23 (by rfl) W.heap.size 9 (.string ⟨#[]⟩) 1 16 info_str rfl (by decide) Try.underlying23 _ (S.dims.length + S.ints.length) (strs (S.dims.map Prod.fst) ++ strs S.ints) HO2.out _ A2 S.nums.length c2 (strs S.nums) HR3.out (by rfl) (by rfl) (strs_one _) (by omega) (by omega) hz2 ?_; intro v3 w3 ho3 hap3; have HO3 := Lib.hid ho3; have HB3 := Lib.hid (HB2.out.trans (hap3.below hz2 HO2.out)); have k3 := HBLK.out.below HB3.out hz0; have HS3 : Hid (w3.cell? ⟨w.heap.size, 1, none⟩ = some (.slice A1 S.ints.length c1) ∧ w3.cell? ⟨w.heap.size, 2, none⟩ = some (.slice A2 S.nums.length c2)) := Lib.hid ⟨k3.cell 1, k3.cell 2⟩; clear ho3 hap3 k3))
      go_wp2
      go_ret
      have hl : (namesL S).length = S.dims.length + S.ints.length + S.nums.length := by unfold namesL; rw [List.length_append, List.length_append, List.length_map]
      have hs : strs (namesL S) = strs (S.dims.map Prod.fst) ++ strs S.ints ++ strs S.nums := by unfold namesL strs; rw [List.map_append, List.map_append]
      exact ⟨_, rfl, by rw [hl, hs]; exact own_mono HO3.out (Nat.le_of_lt hz0), HW0.out.trans (HB3.out.mono (Nat.le_of_lt hz0))⟩
end Go.Proofs.Ytfhmaincnlaapaa
namespace Go.Proofs.Ytfhmaincnlaapaa
open Go.ChangeShapes Go.WideShapes Go.ChangeAt Go.RowKit
set_option linter.unusedVariables false

/-- is a schema small? -/
def lightB (S : Sch) : Bool := decide (S.dims.length ≤ 100) && decide (S.ints.length ≤ 100) && decide (S.nums.length ≤ 100) && decide (S.views.length ≤ 100) && (namesL S).all fun x => decide (x.size ≤ 100)
theorem lightB_no (S : Sch) (h : ¬ (S.dims.length ≤ 100 ∧ S.ints.length ≤ 100 ∧ S.nums.length ≤ 100 ∧ S.views.length ≤ 100)) : lightB S = false := by
  cases hl : lightB S with
  | false => rfl
  | true =>
    unfold lightB at hl
    simp only [Bool.and_eq_true, decide_eq_true_iff] at hl
    exact absurd ⟨hl.1.1.1.1, hl.1.1.1.2, hl.1.1.2, hl.1.2⟩ h
set_option maxRecDepth 20000 in
set_option maxHeartbeats 1000000 in
theorem light_any (w : World) (B : Nat) (v : Value) (S : Sch) (h : SchAt w B v S) (hB : B ≤ w.heap.size) :
    Calls Try.prog 9 #[v] w fun y w' => y = .returned (.bool (lightB S)) ∧ Below w.heap.size w w' := by
  have hh := h
  obtain ⟨A0, c0, A1, c1, A2, c2, A3, c3, rfl, r0, r1, r2, r3, b0, b1, b2, b3⟩ := h
  have hw0 := belA (belR w) (.cells #[.slice A0 S.dims.length c0, .slice A1 S.ints.length c1, .slice A2 S.nums.length c2, .slice A3 S.views.length c3] 26)
  have hs0 : SchAt (w.alloc (.cells #[.slice A0 S.dims.length c0, .slice A1 S.ints.length c1, .slice A2 S.nums.length c2, .slice A3 S.views.length c3] 26)) B (.agg #[.slice A0 S.dims.length c0, .slice A1 S.ints.length c1, .slice A2 S.nums.length c2, .slice A3 S.views.length c3]) S :=
    ⟨A0, c0, A1, c1, A2, c2, A3, c3, rfl, r0.below (hw0.mono hB), r1.below (hw0.mono hB), r2.below (hw0.mono hB), r3.below (hw0.mono hB), b0, b1, b2, b3⟩
  clear r0 r1 r2 r3 hh b0 b1 b2 b3
  have HS := Lib.hid hs0; have HW0 := Lib.hid hw0; clear hs0 hw0
  have hno := lightB_no S
  by_cases h0 : S.dims.length ≤ 100
  · by_cases h1 : S.ints.length ≤ 100
    · by_cases h2 : S.nums.length ≤ 100
      · by_cases h3 : S.views.length ≤ 100
        · have hl : lightB S = (namesL S).all fun x => decide (x.size ≤ 100) := by unfold lightB; rw [decide_eq_true h0, decide_eq_true h1, decide_eq_true h2, decide_eq_true h3]; rfl
          have hnl : (namesL S).length ≤ 300 := by unfold namesL; rw [List.length_append, List.length_append, List.length_map]; omega
          have hn := refNames_any _ B _ S HS.out (Nat.le_trans hB (by simp)) h0 h1 h2
          have HL := Lib.hid hl; have HN := Lib.hid hn; clear hl hn hno
          generalize namesL S = L at *
          go_enter Try.func9, Try.ntmps9
          go_wp2_with (go_at_call 43; (with_reducible refine HN.out.mono ?_); rintro y w1 ⟨v1, rfl, ho1, hb1⟩; obtain ⟨A5, c5, rfl, _, _, _⟩ := own_form ho1; have HR1 := Lib.hid (Rd.own ho1); have HB1 := Lib.hid (belT HW0.out hb1); clear ho1 hb1)
          go_loop [4] (fun i => ∃ k : Nat, k ≤ L.length ∧ i = .int .i64 (k : Int) ∧ Hid (∀ j (hj : j < L.length), j < k → L[j].size ≤ 100)) (fun i => L.length - (intOf i).toNat)
          case atStart => exact ⟨0, by omega, rfl, fun j _ hj => by omega⟩
          case round =>
            obtain ⟨k, hk, rfl, HA⟩ := hrel
            by_cases hlt : k < L.length
            · obtain ⟨a, rfl, hab, x0⟩ := HR1.out.str hlt
              have q1 : (0 : Int) ≤ (k : Int) := by omega
              have q2 : (k : Int) < (L.length : Int) := by omega
              have hst := fun (h : L[k].size ≤ 100) => (show ∀ j (hj : j < L.length), j < k + 1 → L[j].size ≤ 100 from fun j hj hjk => by
                by_cases e : j = k
                · subst e; exact h
                · exact HA.out j hj (by omega))
              have hbad : ¬ L[k].size ≤ 100 → (L.all fun x => decide (x.size ≤ 100)) = false := fun h => by
                rw [List.all_eq_false]; exact ⟨_, List.getElem_mem hlt, by rw [decide_eq_false h]; decide⟩
              generalize L[k] = x at *
              have HST := Lib.hid hst; have HBAD := Lib.hid hbad; clear hst hbad
              by_cases hx : x.size ≤ 100
              · have hy := HST.out hx
                have HY := Lib.hid hy; clear hy
                go_wp2
                go_round
                case rel => exact ⟨k + 1, by omega, by go_num, HY⟩
                case measure => simp [intOf]; omega
              · have hn := HBAD.out hx
                have HNO := Lib.hid hn; clear hn
                go_wp2
                go_ret
                exact ⟨by rw [HL.out, HNO.out]; rfl, HB1.out⟩
            · have hy : (L.all fun x => decide (x.size ≤ 100)) = true := by
                rw [List.all_eq_true]
                intro x hx
                obtain ⟨j, hj, rfl⟩ := List.getElem_of_mem hx
                exact decide_eq_true (HA.out j hj (by omega))
              have HY := Lib.hid hy; clear hy
              go_wp2
              go_ret
              exact ⟨by rw [HL.out, HY.out]; rfl, HB1.out⟩
        · have HNO := Lib.hid (hno (fun h => h3 h.2.2.2)); clear hno
          go_enter Try.func9, Try.ntmps9
          go_wp2
          go_ret
          exact ⟨by rw [HNO.out]; rfl, HW0.out⟩
      · have HNO := Lib.hid (hno (fun h => h2 h.2.2.1)); clear hno
        go_enter Try.func9, Try.ntmps9
        go_wp2
        go_ret
        exact ⟨by rw [HNO.out]; rfl, HW0.out⟩
    · have HNO := Lib.hid (hno (fun h => h1 h.2.1)); clear hno
      go_enter Try.func9, Try.ntmps9
      go_wp2
      go_ret
      exact ⟨by rw [HNO.out]; rfl, HW0.out⟩
  · have HNO := Lib.hid (hno (fun h => h0 h.1)); clear hno
    go_enter Try.func9, Try.ntmps9
    go_wp2
    go_ret
    exact ⟨by rw [HNO.out]; rfl, HW0.out⟩
end Go.Proofs.Ytfhmaincnlaapaa
