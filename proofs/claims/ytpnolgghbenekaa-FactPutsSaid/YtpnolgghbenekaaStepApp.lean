/-
  APPEND OF A SLICE as a step of a region that draws; a row of the call's own, element by element.
-/
import Derived.Test.YtpnolgghbenekaaSheets
namespace Go.Proofs.Ytpnolgghbenekaa
open Go.ChangeShapes Go.WideShapes Go.ChangeAt Go.RowKit
set_option linter.unusedVariables false

section
variable {P : Program}
theorem run_appS {W : World} (t ty : TypeId) (base : Nat) (e : TypeId) (z : Value) (size bytes : Nat) (hinf : (P.info? e).map (fun i => (i.zero, i.size, i.bytes)) = some (some z, size, bytes)) (hzs : z.cells.size = size) (hsz : 0 < size) (ht : P.underlying t = some (.slice e))
    (v : Value) (n : Nat) (xs : List Value) (hown : W.ownsRow base e size v n xs) (B : Nat) (A : Option Addr) (m c : Nat) (news : List Value) (hr : Rd W B size A m news) (h1 : ∀ u ∈ news, u.oneCell' = true)
    (hbytes : (n + m) * bytes ≤ 140737488355328) (h63 : n + m ≤ 140737488355328) (hbase : base ≤ W.heap.size) :
    ∃ v' w', (Builtin.append_ #[t, t] ty #[v, .slice A m c]).run P W = .ok v' w' ∧ w'.ownsRow base e size v' (n + m) (xs ++ news) ∧ Appd W w' v v' := by
  obtain ⟨i, hi, hz, hs1, hby⟩ := info_parts hinf
  rcases A with _ | ad
  · have hm : m = 0 := by
      rcases Nat.eq_zero_or_pos m with h0 | h0
      · exact h0
      · obtain ⟨_, h, _⟩ := hr.2 h0
        cases h
    subst hm
    have hn : news = [] := List.eq_nil_of_length_eq_zero (by simpa using hr.1)
    subst hn
    have hrun : (Builtin.append_ #[t, t] ty #[v, .slice none 0 c]).run P W = .ok v W := by
      rcases hown.2 with ⟨rfl, rfl⟩ | ⟨g, cap, cur, rfl, _, _, hnc, _⟩
      · simp [Builtin.append_, run_underlying ht, sizeOf, typeInfo, hi, Builtin.lenOf, Builtin.firstCells]
      · simp [Builtin.append_, run_underlying ht, sizeOf, typeInfo, hi, Builtin.lenOf, Builtin.firstCells, hnc, storeCells]
    exact ⟨v, W, hrun, by simpa using hown, Appd.refl _ _⟩
  · have hcells : ∀ j u, news[j]? = some u → W.cell? (ad.add j) = some u := by
      intro j u hu
      rcases Nat.eq_zero_or_pos m with h0 | h0
      · subst h0
        have hn : news = [] := List.eq_nil_of_length_eq_zero (by simpa using hr.1)
        subst hn
        simp at hu
      · obtain ⟨ad', h, _, hc⟩ := hr.2 h0
        injection h with h
        subst h
        exact hc j u hu
    obtain ⟨v', w', hrun, h2, h3, _, h5⟩ := run_append_own_at (P := P) W base t ty e i z size bytes ht hi hz hs1 hby hzs hsz v n xs hown ad m c news hr.1 hcells h1 (by simp only [maxLen]; omega) hbytes hbase
    exact ⟨v', w', hrun, h2, ⟨h3, h5.imp id fun e => ⟨_, e, Nat.le_refl _⟩⟩⟩
theorem step_appS {ops : Array Oper} {o : Oper} {a : Act} {K : Act → World → Prop} {Q : Exit → Act → World → Prop} {E : Prop} {W : World} (hgd : o.guard = none) (s x : Operand) (t : TypeId)
    (ho : o.op = .call { callee := .builtin .append, args := #[s, x], argTypes := #[t, t] })
    (base : Nat) (e : TypeId) (z : Value) (size bytes : Nat) (hinf : (P.info? e).map (fun i => (i.zero, i.size, i.bytes)) = some (some z, size, bytes)) (hzs : z.cells.size = size) (hsz : 0 < size) (ht : P.underlying t = some (.slice e))
    (v : Value) (n : Nat) (xs : List Value) (hown : W.ownsRow base e size v n xs) (B : Nat) (A : Option Addr) (m c : Nat) (news : List Value) (hr : Rd W B size A m news) (hs : a.eval s = v) (hx : a.eval x = .slice A m c) (h1 : ∀ u ∈ news, u.oneCell' = true)
    (hbytes : (n + m) * bytes ≤ 140737488355328) (h63 : n + m ≤ 140737488355328) (hbase : base ≤ W.heap.size)
    (h : ∀ v' w', w'.ownsRow base e size v' (n + m) (xs ++ news) → Appd W w' v v' → K (a.put o.dst v') w') :
    if Region.wanted o (yielded ops a.tmps) = true then Oper.wp P o a W K Q else E := by
  have hw : Region.wanted o (yielded ops a.tmps) = true := by simp [Region.wanted, hgd]
  rw [if_pos hw]
  obtain ⟨v', w', hrun, h2, h3⟩ := run_appS (P := P) (W := W) t o.type base e z size bytes hinf hzs hsz ht v n xs hown B A m c news hr h1 hbytes h63 hbase
  unfold Oper.wp execOp
  simp only [ho, resolve, invoke, builtin, Sem.run_bind, Sem.run_pure, Result.andThen_ok, List.map_toArray, List.map_cons, List.map_nil, hs, hx, hrun]
  exact h v' w' h2 h3
end

theorem add_of0 (g k : Nat) : (⟨g, 0, none⟩ : Addr).add k = ⟨g, k, none⟩ := by unfold Addr.add; split <;> simp_all
/-- element L of a row of the call's own: its cells, their marks, and what a store there leaves -/
theorem own_elem {w : World} {base n c s : Nat} {e : TypeId} {A : Option Addr} {xs : List Value} (h : w.ownsRow base e s (.slice A n c) n xs) (L : Nat) (hL : L < n) :
    ∃ a, A = some a ∧ base ≤ a.block ∧ a.block < w.heap.size ∧ (Value.slice A n c).ownBlock = some a.block ∧
      (0 < s → w.cell? (a.add (L * s)) = xs[L * s]? ∧ w.frozen? (a.add (L * s)) = false ∧ ∀ u, (w.setCell (a.add (L * s)) u).ownsRow base e s (.slice A n c) n (xs.set (L * s) u)) ∧
      ∀ j, j < s → w.cell? ⟨(a.add (L * s)).block, (a.add (L * s)).off + j, none⟩ = xs[L * s + j]? ∧ w.frozen? ⟨(a.add (L * s)).block, (a.add (L * s)).off + j, none⟩ = false ∧
        ∀ u, (w.setCell ⟨(a.add (L * s)).block, (a.add (L * s)).off + j, none⟩ u).ownsRow base e s (.slice A n c) n (xs.set (L * s + j) u) := by
  obtain ⟨g, cap, hv, hg, hgl⟩ := h.form (by omega)
  injection hv with hA _ hcap
  subst hA hcap
  have hin : ∀ j, j < s → L * s + j < n * s := fun j hj => by
    have : (L + 1) * s ≤ n * s := Nat.mul_le_mul_right s hL
    rw [Nat.succ_mul] at this; omega
  refine ⟨⟨g, 0, none⟩, rfl, hg, hgl, rfl, fun h0 => ?_, fun j hj => ?_⟩
  · rw [add_of0]; exact ⟨h.cellAt _ (by have := hin 0 h0; omega), h.frozenAt _, fun u => (h.stored _ u).1⟩
  · rw [add_of0]; exact ⟨h.cellAt _ (hin j hj), h.frozenAt _, fun u => (h.stored _ u).1⟩
theorem ShO.last {w : World} {base B : Nat} {ss : List Sht} {s : Sht} {xs : List Value} (h : ShO w base B (ss ++ [s]) xs) :
    ∃ xs0 v, xs = xs0 ++ shC s v ∧ xs0.length = ss.length * 4 ∧ ShO w base B ss xs0 ∧ w.ownsRow base 5 1 v s.d.length (u8s s.d) ∧ ∀ k, v.ownBlock = some k → k < B := by
  induction ss generalizing xs with
  | nil =>
    obtain ⟨v, rest, rfl, ho, hl, hr⟩ := h
    cases hr
    exact ⟨[], v, by simp, rfl, rfl, ho, hl⟩
  | cons s' ss ih =>
    obtain ⟨v', rest, rfl, ho', hl', hr⟩ := h
    obtain ⟨xs0, v, rfl, hlen, h0, ho, hl⟩ := ih hr
    exact ⟨shC s' v' ++ xs0, v, by rw [List.append_assoc], by rw [List.length_append, shC_len, hlen, List.length_cons]; omega, ⟨v', xs0, rfl, ho', hl', h0⟩, ho, hl⟩
theorem set_mid (xs0 ys : List Value) (j : Nat) (u : Value) : (xs0 ++ ys).set (xs0.length + j) u = xs0 ++ ys.set j u := by
  rw [List.set_append_right _ _ (by omega), Nat.add_sub_cancel_left]
theorem get_mid (xs0 ys : List Value) (j : Nat) : (xs0 ++ ys)[xs0.length + j]? = ys[j]? := by
  rw [List.getElem?_append_right (by omega), Nat.add_sub_cancel_left]
end Go.Proofs.Ytpnolgghbenekaa
