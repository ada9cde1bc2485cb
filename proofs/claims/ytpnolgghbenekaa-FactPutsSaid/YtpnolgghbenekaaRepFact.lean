/-
  An argument of facts: what its cells read as.
  An argument of asks: a slice of structs of six fields.
-/
import Derived.Test.YtpnolgghbenekaaRep
import Derived.Test.YtpnolgghbenekaaFrame
import Derived.Test.YtpnolgghbenekaaBufSmall
import Derived.Test.YtpnolgghbenekaaRepSchema
namespace Go.Proofs.Ytpnolgghbenekaa
open Go.ChangeShapes Go.WideShapes Go.ChangeAt Go.RowKit Go.Deep
set_option linter.unusedVariables false

theorem opens_f64 {P : Program} {t : TypeId} (ht : P.underlying t = some (.float .f64)) (h1 : ∀ x : Nat, (Value.float .f64 x).oneCell' = true) : Opens P t (Rp.val (Value.float .f64) (fun b => b < 18446744073709551616) h1) := by
  intro H enc w base spare held fuel cs x h
  obtain ⟨s, rfl, hs⟩ := trod_f64 ht h
  exact ⟨s, rfl, hs⟩
/-- six fields -/
theorem opens_six {P : Program} {t : TypeId} {α β0 β1 β2 β3 β4 β5 : Type} {R0 : Rp β0} {R1 : Rp β1} {R2 : Rp β2} {R3 : Rp β3} {R4 : Rp β4} {R5 : Rp β5} {p0 : α → β0} {p1 : α → β1} {p2 : α → β2} {p3 : α → β3} {p4 : α → β4} {p5 : α → β5} {f0 f1 f2 f3 f4 f5 : Field}
    (ht : P.underlying t = some (.struct #[f0, f1, f2, f3, f4, f5])) (o0 : f0.offset = 0) (o1 : f1.offset = R0.size) (o2 : f2.offset = R0.size + R1.size) (o3 : f3.offset = R0.size + R1.size + R2.size) (o4 : f4.offset = R0.size + R1.size + R2.size + R3.size) (o5 : f5.offset = R0.size + R1.size + R2.size + R3.size + R4.size)
    (s0 : P.cellsOf f0.type = R0.size) (s1 : P.cellsOf f1.type = R1.size) (s2 : P.cellsOf f2.type = R2.size) (s3 : P.cellsOf f3.type = R3.size) (s4 : P.cellsOf f4.type = R4.size) (s5 : P.cellsOf f5.type = R5.size) (hC : P.cellsOf t = R0.size + R1.size + R2.size + R3.size + R4.size + R5.size)
    (h0 : Opens P f0.type R0) (h1 : Opens P f1.type R1) (h2 : Opens P f2.type R2) (h3 : Opens P f3.type R3) (h4 : Opens P f4.type R4) (h5 : Opens P f5.type R5) (mk : β0 → β1 → β2 → β3 → β4 → β5 → α)
    (q0 : ∀ a b c d e f, p0 (mk a b c d e f) = a) (q1 : ∀ a b c d e f, p1 (mk a b c d e f) = b) (q2 : ∀ a b c d e f, p2 (mk a b c d e f) = c) (q3 : ∀ a b c d e f, p3 (mk a b c d e f) = d) (q4 : ∀ a b c d e f, p4 (mk a b c d e f) = e) (q5 : ∀ a b c d e f, p5 (mk a b c d e f) = f) :
    Opens P t (Rp.two p0 id R0 (Rp.two p1 id R1 (Rp.two p2 id R2 (Rp.two p3 id R3 (Rp.two p4 p5 R4 R5))))) := by
  intro H enc w base spare held fuel cs x h
  obtain ⟨xs, n, _, hx, hlen, hxl, hg⟩ := DataW.trod_struct ht h
  rw [hC] at hlen
  match xs, hxl with
  | [a0, a1, a2, a3, a4, a5], _ =>
    have g0 := hg 0 f0 rfl
    have g1 := hg 1 f1 rfl
    have g2 := hg 2 f2 rfl
    have g3 := hg 3 f3 rfl
    have g4 := hg 4 f4 rfl
    have g5 := hg 5 f5 rfl
    rw [o0, s0, List.drop_zero] at g0
    rw [o1, s1] at g1
    rw [o2, s2] at g2
    rw [o3, s3] at g3
    rw [o4, s4] at g4
    rw [o5, s5] at g5
    obtain ⟨b0, r0⟩ := h0 H enc w base spare held n _ _ g0
    obtain ⟨b1, r1⟩ := h1 H enc w base spare held n _ _ g1
    obtain ⟨b2, r2⟩ := h2 H enc w base spare held n _ _ g2
    obtain ⟨b3, r3⟩ := h3 H enc w base spare held n _ _ g3
    obtain ⟨b4, r4⟩ := h4 H enc w base spare held n _ _ g4
    obtain ⟨b5, r5⟩ := h5 H enc w base spare held n _ _ g5
    rw [← List.drop_drop] at r2
    rw [← List.drop_drop, ← List.drop_drop] at r3
    rw [← List.drop_drop, ← List.drop_drop, ← List.drop_drop] at r4
    rw [List.take_of_length_le (by rw [List.length_drop]; omega), ← List.drop_drop, ← List.drop_drop, ← List.drop_drop, ← List.drop_drop] at r5
    exact ⟨mk b0 b1 b2 b3 b4 b5, _, _, (List.take_append_drop R0.size cs).symm, by rw [q0]; exact r0, _, _, (List.take_append_drop R1.size _).symm, by simp only [id_eq]; rw [q1]; exact r1, _, _, (List.take_append_drop R2.size _).symm, by simp only [id_eq]; rw [q2]; exact r2,
      _, _, (List.take_append_drop R3.size _).symm, by simp only [id_eq]; rw [q3]; exact r3, _, _, (List.take_append_drop R4.size _).symm, by simp only [id_eq]; rw [q4]; exact r4, by simp only [id_eq]; rw [q5]; exact r5⟩
/-- an ask as its cells give it -/
structure AskI where
  d : Int
  u : Int
  i : Int
  f : Nat
  s : ByteArray
  m : Int
abbrev iR : Rp Int := Rp.val (Value.int .i64) (fun z => (Lit.int .i64 z).wf = true) (fun _ => rfl)
abbrev uR : Rp Int := Rp.val (Value.int .u64) (fun z => (Lit.int .u64 z).wf = true) (fun _ => rfl)
abbrev fR : Rp Nat := Rp.val (Value.float .f64) (fun b => b < 18446744073709551616) (fun _ => rfl)
abbrev sR : Rp ByteArray := Rp.val Value.string (fun s => s.size ≤ maxLen) (fun _ => rfl)
def askR : Rp AskI := Rp.two AskI.d id iR (Rp.two AskI.u id uR (Rp.two AskI.i id iR (Rp.two AskI.f id fR (Rp.two AskI.s AskI.m sR iR))))
theorem opens_ask : Opens Try.prog 79 askR :=
  opens_six Try.underlying79 rfl rfl rfl rfl rfl rfl (by kernel_rfl) (by kernel_rfl) (by kernel_rfl) (by kernel_rfl) (by kernel_rfl) (by kernel_rfl) (by kernel_rfl)
    (opens_int Try.underlying3 _) (opens_int Try.underlying35 _) (opens_int Try.underlying2 _) (opens_f64 Try.underlying77 _) (opens_string Try.underlying9 _) (opens_int Try.underlying3 _)
    AskI.mk (fun _ _ _ _ _ _ => rfl) (fun _ _ _ _ _ _ => rfl) (fun _ _ _ _ _ _ => rfl) (fun _ _ _ _ _ _ => rfl) (fun _ _ _ _ _ _ => rfl) (fun _ _ _ _ _ _ => rfl)
theorem askR_one {w : World} {B : Nat} {x : AskI} {cs : List Value} (h : askR.rep w B x cs) : ∃ a : AskS, cs = askC a ∧ AskOk a := by
  obtain ⟨_, _, rfl, ⟨rfl, w0⟩, _, _, rfl, ⟨rfl, w1⟩, _, _, rfl, ⟨rfl, w2⟩, _, _, rfl, ⟨rfl, w3⟩, _, _, rfl, ⟨rfl, w4⟩, rfl, w5⟩ := h
  have b1 := bounds_u64 w1
  have b2 := bounds_i64 w2
  have b5 := bounds_i64 w5
  simp only [id_eq] at *
  refine ⟨⟨x.d, x.u.toNat, x.i, x.f, x.s, x.m⟩, ?_, ⟨by simp only; omega, by simp only; omega, by simp only; omega, w3, w4, by simp only; omega⟩⟩
  unfold askC
  simp only [show ((x.u.toNat : Nat) : Int) = x.u from by omega]
  rfl
theorem askR_chunk {w : World} {B : Nat} {l : List AskI} {xs : List Value} (h : Chunk askR w B l xs) : ∃ m : List AskS, m.length = l.length ∧ xs = asksC m ∧ ∀ x ∈ m, AskOk x := by
  induction l generalizing xs with
  | nil => cases h; exact ⟨[], rfl, rfl, fun x hx => by cases hx⟩
  | cons x l ih =>
    obtain ⟨c, rest, rfl, h1, h3⟩ := h
    obtain ⟨m, e1, rfl, e3⟩ := ih h3
    obtain ⟨a, rfl, ha⟩ := askR_one h1
    refine ⟨a :: m, by simp [e1], rfl, fun y hy => ?_⟩
    rcases List.mem_cons.1 hy with rfl | hy
    · exact ha
    · exact e3 y hy
theorem SlR.ask {w : World} {B : Nat} {l : List AskI} {A : Option Addr} {c : Nat} (h : SlR askR w B l A c) : ∃ m : List AskS, Rd w B 6 A l.length (asksC m) ∧ (∀ x ∈ m, AskOk x) ∧ l.length ≤ c ∧ c ≤ maxLen := by
  obtain ⟨hc, hm, xs, h1, h2⟩ := h
  obtain ⟨m, e1, rfl, e3⟩ := askR_chunk h2
  exact ⟨m, h1, e3, hc, hm⟩
end Go.Proofs.Ytpnolgghbenekaa
namespace Go.Proofs.Ytpnolgghbenekaa
open Go.ChangeShapes Go.WideShapes Go.ChangeAt Go.RowKit Go.Deep Go.Joins
set_option linter.unusedVariables false

structure FactS where
  codes : List Int
  ints : List Int
  nums : List Nat
abbrev f64R : Rp Nat := Rp.val (Value.float .f64) (fun b => b < 18446744073709551616) (fun _ => rfl)
def factR : Rp FactS := Rp.two FactS.codes id i64R.sl (Rp.two FactS.ints FactS.nums i64R.sl f64R.sl)
theorem opens_fact : Opens Try.prog 66 factR :=
  opens_three Try.underlying66 rfl rfl rfl (by kernel_rfl) (by kernel_rfl) (by kernel_rfl) (by kernel_rfl)
    (opens_slice Try.underlying62 (by kernel_rfl) (by decide) (opens_int Try.underlying3 _)) (opens_slice Try.underlying63 (by kernel_rfl) (by decide) (opens_int Try.underlying2 _))
    (opens_slice Try.underlying64 (by kernel_rfl) (by decide) (opens_f64 Try.underlying77 _)) FactS.mk (fun _ _ _ => rfl) (fun _ _ _ => rfl) (fun _ _ _ => rfl)
abbrev i64s (l : List Int) : List Value := l.map (Value.int .i64)
abbrev f64s (l : List Nat) : List Value := l.map (Value.float .f64)
/-- three slices that are a fact's -/
def FactV (w : World) (B : Nat) (F : FactS) (v0 v1 v2 : Value) : Prop :=
  ∃ A0 c0 A1 c1 A2 c2, v0 = .slice A0 F.codes.length c0 ∧ v1 = .slice A1 F.ints.length c1 ∧ v2 = .slice A2 F.nums.length c2 ∧
    Rd w B 1 A0 F.codes.length (i64s F.codes) ∧ Rd w B 1 A1 F.ints.length (i64s F.ints) ∧ Rd w B 1 A2 F.nums.length (f64s F.nums) ∧
    (F.codes.length ≤ c0 ∧ c0 ≤ maxLen) ∧ (F.ints.length ≤ c1 ∧ c1 ≤ maxLen) ∧ (F.nums.length ≤ c2 ∧ c2 ≤ maxLen)
structure FactOk (F : FactS) : Prop where
  codes : ∀ x ∈ F.codes, -9223372036854775808 ≤ x ∧ x ≤ 9223372036854775807
  ints : ∀ x ∈ F.ints, -9223372036854775808 ≤ x ∧ x ≤ 9223372036854775807
  nums : ∀ x ∈ F.nums, x < 18446744073709551616
theorem factR_at {w : World} {B : Nat} {F : FactS} {cs : List Value} (h : factR.rep w B F cs) : ∃ v0 v1 v2, cs = [v0, v1, v2] ∧ FactV w B F v0 v1 v2 ∧ FactOk F := by
  obtain ⟨_, _, rfl, ⟨A0, c0, x0, rfl, a0, b0, r0, k0⟩, _, _, rfl, ⟨A1, c1, x1, rfl, a1, b1, r1, k1⟩, A2, c2, x2, rfl, a2, b2, r2, k2⟩ := h
  obtain ⟨rfl, d0⟩ := chunk_val.1 k0
  obtain ⟨rfl, d1⟩ := chunk_val.1 k1
  obtain ⟨rfl, d2⟩ := chunk_val.1 k2
  exact ⟨_, _, _, rfl, ⟨A0, c0, A1, c1, A2, c2, rfl, rfl, rfl, r0, r1, r2, ⟨a0, b0⟩, ⟨a1, b1⟩, a2, b2⟩, ⟨fun x hx => bounds_i64 (d0 x hx), fun x hx => bounds_i64 (d1 x hx), d2⟩⟩
/-- fact k of a slice of facts: its three cells -/
theorem SlR.fact {w : World} {B c : Nat} {l : List FactS} {A : Option Addr} (h : SlR factR w B l A c) {k : Nat} (hk : k < l.length) : ∃ a v0 v1 v2, A = some a ∧ a.block < B ∧ w.cell? (a.add (k * 3)) = some v0 ∧
    w.cell? ⟨(a.add (k * 3)).block, (a.add (k * 3)).off + 1, none⟩ = some v1 ∧ w.cell? ⟨(a.add (k * 3)).block, (a.add (k * 3)).off + 2, none⟩ = some v2 ∧ FactV w B l[k] v0 v1 v2 ∧ FactOk l[k] := by
  obtain ⟨a, cs, rfl, hb, hr, hc⟩ := h.get hk
  obtain ⟨v0, v1, v2, rfl, hv, ho⟩ := factR_at hr
  have key : ∀ j, j < 3 → w.cell? (a.add (k * 3 + j)) = [v0, v1, v2][j]? := fun j hj => hc j hj
  refine ⟨a, v0, v1, v2, rfl, hb, key 0 (by decide), ?_, ?_, hv, ho⟩
  · have := key 1 (by decide)
    rw [← add_add', add_succ] at this
    exact this
  · have := key 2 (by decide)
    rw [← add_add', show (2 : Nat) = 1 + 1 from rfl, add_succ] at this
    exact this
end Go.Proofs.Ytpnolgghbenekaa
