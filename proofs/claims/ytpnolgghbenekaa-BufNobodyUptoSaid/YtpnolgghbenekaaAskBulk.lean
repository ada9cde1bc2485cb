/-
  An ask by value, opened; how long its text is beside the reading's bulk.
-/
import Derived.Test.YtpnolgghbenekaaRepAsk
import Derived.Test.YtpnolgghbenekaaRows
namespace Go.Proofs.Ytpnolgghbenekaa
open Go.ChangeShapes Go.WideShapes Go.ChangeAt Go.RowKit Go.Deep Go.Joins
set_option linter.unusedVariables false

theorem bulk_one {H : Type} (d : DataW H) : 1 ≤ Rows.uptoBulk d := by
  cases d with
  | lit l => cases l <;> simp [Rows.uptoBulk]
  | nil => simp [Rows.uptoBulk]
  | ptr d => simp [Rows.uptoBulk]
  | slice a b => simp [Rows.uptoBulk]
  | agg a => simp [Rows.uptoBulk]
  | iface t d => simp [Rows.uptoBulk]
  | map e => simp [Rows.uptoBulk]
  | held h => simp [Rows.uptoBulk]
theorem bulk_part {H : Type} {d : DataW H} {l : List (DataW H)} (h : d ∈ l) : Rows.uptoBulk d ≤ Rows.uptoBulkAll l := by
  induction l with
  | nil => cases h
  | cons x r ih =>
    simp only [Rows.uptoBulkAll]
    rcases List.mem_cons.1 h with rfl | h
    · omega
    · have := ih h; omega
theorem bulk_app {H : Type} (l r : List (DataW H)) : Rows.uptoBulkAll (l ++ r) = Rows.uptoBulkAll l + Rows.uptoBulkAll r := by
  induction l with
  | nil => simp [Rows.uptoBulkAll]
  | cons x l ih => simp only [List.cons_append, Rows.uptoBulkAll, ih]; omega
theorem bulk_bound {H : Type} {l : List (DataW H)} (hk : Rows.uptoSmall H l = true) : Rows.uptoBulkAll l ≤ 1048576 := by
  unfold Rows.uptoSmall at hk
  exact of_decide_eq_true hk
theorem bulk_string {H : Type} (bytes : List UInt8) : Rows.uptoBulk (DataW.lit (H := H) (.string bytes)) = bytes.length + 1 := by
  simp [Rows.uptoBulk]
set_option maxRecDepth 100000 in
theorem open_ask {H : Type} {enc : TypeId × Value → H} {w : World} {base : Nat} {spare : Nat → Bool} {held : Bool} {r : Reach} {b0 : Nat} {v : Value} {d : DataW H} {p : List MemPlace} (hv : Value.okWide Try.prog w r b0 79 v) (h : DataW.Trod enc Try.prog w base spare held 79 v d p) :
    ∃ a : AskS, v = .agg (askC a).toArray ∧ AskOk a ∧ a.s.size ≤ Rows.uptoBulk d := by
  obtain ⟨cs, rfl, hsz⟩ := okWide_struct Try.underlying79 hv
  obtain ⟨fuel, hf⟩ := h
  have hr := opens_ask H enc w base spare held fuel _ _ hf
  obtain ⟨x, hx⟩ := hr
  obtain ⟨a, ea, ha⟩ := askR_one hx
  have ec : cs.toList = askC a := by rw [← ea]; simp [Value.cells]
  refine ⟨a, by rw [← ec], ha, ?_⟩
  obtain ⟨xs, n, _, hxs, _, hxl, hg⟩ := DataW.trod_struct Try.underlying79 hf
  simp only [Prod.mk.injEq] at hxs
  obtain ⟨rfl, _⟩ := hxs
  match xs, hxl with
  | [a0, a1, a2, a3, a4, a5], _ =>
    have g4 := hg 4 _ rfl
    obtain ⟨s, e1, e2, _⟩ := DataW.trod_string Try.underlying9 g4
    have ec2 : (Value.agg cs).cells.toList = askC a := by simpa [Value.cells] using ec
    rw [ec2] at e1
    have e3 : a.s = s := by
      have : [Value.string a.s] = [Value.string s] := e1
      simpa using this
    have h4 : Rows.uptoBulk a4.1 = a.s.size + 1 := by
      rw [e2, e3]
      exact bulk_string _
    have hp : Rows.uptoBulk a4.1 ≤ Rows.uptoBulkAll ([a0, a1, a2, a3, a4, a5].map (·.1)) := bulk_part (by simp)
    have hq : Rows.uptoBulk (DataW.agg ([a0, a1, a2, a3, a4, a5].map (·.1)) : DataW H) = Rows.uptoBulkAll ([a0, a1, a2, a3, a4, a5].map (·.1)) + 1 := by simp [Rows.uptoBulk]
    omega
end Go.Proofs.Ytpnolgghbenekaa
