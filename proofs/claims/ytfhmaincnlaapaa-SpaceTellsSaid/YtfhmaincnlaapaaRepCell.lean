/-
  An argument of cells: what its cells read as.
  An argument of facts: what its cells read as.
  An argument of asks: a slice of structs of six fields.
  An argument that is a schema: what its cells read as.
-/
import Derived.Test.YtfhmaincnlaapaaRep
import Derived.Test.YtfhmaincnlaapaaFrame
import Derived.Test.YtfhmaincnlaapaaRefTwice
import Derived.Test.YtfhmaincnlaapaaBufSmall
namespace Go.Proofs.Ytfhmaincnlaapaa
open Go.ChangeShapes Go.WideShapes Go.ChangeAt Go.RowKit Go.Deep Go.Joins
set_option linter.unusedVariables false

structure Sch where
  dims : List (ByteArray × Int)
  ints : List ByteArray
  nums : List ByteArray
  views : List Int
abbrev strR : Rp ByteArray := Rp.val Value.string (fun s => s.size ≤ maxLen) (fun _ => rfl)
abbrev i64R : Rp Int := Rp.val (Value.int .i64) (fun z => (Lit.int .i64 z).wf = true) (fun _ => rfl)
abbrev u32R : Rp Int := Rp.val (Value.int .u32) (fun z => (Lit.int .u32 z).wf = true) (fun _ => rfl)
def dimR : Rp (ByteArray × Int) := Rp.two Prod.fst Prod.snd strR i64R
def schR : Rp Sch := Rp.two Sch.dims id dimR.sl (Rp.two Sch.ints id strR.sl (Rp.two Sch.nums Sch.views strR.sl u32R.sl))
theorem opens_dim : Opens Try.prog 89 dimR :=
  opens_two Try.underlying89 rfl rfl (by kernel_rfl) (by kernel_rfl) (by kernel_rfl) (opens_string Try.underlying9 _) (opens_int Try.underlying3 _) Prod.mk (fun _ _ => rfl) (fun _ _ => rfl)
theorem opens_strs : Opens Try.prog 23 strR.sl := opens_slice Try.underlying23 (by kernel_rfl) (by decide) (opens_string Try.underlying9 _)
theorem opens_sch : Opens Try.prog 26 schR :=
  opens_four Try.underlying26 rfl rfl rfl rfl (by kernel_rfl) (by kernel_rfl) (by kernel_rfl) (by kernel_rfl) (by kernel_rfl)
    (opens_slice Try.underlying22 (by kernel_rfl) (by decide) opens_dim) opens_strs opens_strs (opens_slice Try.underlying24 (by kernel_rfl) (by decide) (opens_int Try.underlying33 _))
    Sch.mk (fun _ _ _ _ => rfl) (fun _ _ _ _ => rfl) (fun _ _ _ _ => rfl) (fun _ _ _ _ => rfl)
def dimC (l : List (ByteArray × Int)) : List Value := l.flatMap fun x => [.string x.1, .int .i64 x.2]
abbrev u32s (l : List Int) : List Value := l.map (Value.int .u32)
theorem dim_chunk {w : World} {B : Nat} {l : List (ByteArray × Int)} {xs : List Value} (h : Chunk dimR w B l xs) : xs = dimC l ∧ ∀ x ∈ l, x.1.size ≤ maxLen ∧ -9223372036854775808 ≤ x.2 ∧ x.2 ≤ 9223372036854775807 := by
  induction l generalizing xs with
  | nil => cases h; exact ⟨rfl, fun x hx => by cases hx⟩
  | cons x l ih =>
    obtain ⟨c, rest, rfl, ⟨c1, c2, rfl, ⟨rfl, h1⟩, rfl, h2⟩, h3⟩ := h
    obtain ⟨rfl, e3⟩ := ih h3
    refine ⟨rfl, fun y hy => ?_⟩
    rcases List.mem_cons.1 hy with rfl | hy
    · exact ⟨h1, bounds_i64 h2⟩
    · exact e3 y hy
/-- a value that is a schema, in world w, all that it leads to below block B -/
def SchAt (w : World) (B : Nat) (v : Value) (S : Sch) : Prop :=
  ∃ A0 c0 A1 c1 A2 c2 A3 c3, v = .agg #[.slice A0 S.dims.length c0, .slice A1 S.ints.length c1, .slice A2 S.nums.length c2, .slice A3 S.views.length c3] ∧
    Rd w B 2 A0 S.dims.length (dimC S.dims) ∧ Rd w B 1 A1 S.ints.length (strs S.ints) ∧ Rd w B 1 A2 S.nums.length (strs S.nums) ∧ Rd w B 1 A3 S.views.length (u32s S.views) ∧
    (S.dims.length ≤ c0 ∧ c0 ≤ maxLen) ∧ (S.ints.length ≤ c1 ∧ c1 ≤ maxLen) ∧ (S.nums.length ≤ c2 ∧ c2 ≤ maxLen) ∧ (S.views.length ≤ c3 ∧ c3 ≤ maxLen)
structure SchOk (S : Sch) : Prop where
  dims : ∀ x ∈ S.dims, x.1.size ≤ maxLen ∧ -9223372036854775808 ≤ x.2 ∧ x.2 ≤ 9223372036854775807
  ints : ∀ x ∈ S.ints, x.size ≤ maxLen
  nums : ∀ x ∈ S.nums, x.size ≤ maxLen
  views : ∀ x ∈ S.views, 0 ≤ x ∧ x ≤ 4294967295
theorem schR_at {w : World} {B : Nat} {S : Sch} {cs : Array Value} (h : schR.rep w B S cs.toList) : SchAt w B (.agg cs) S ∧ SchOk S := by
  obtain ⟨_, _, e0, ⟨A0, c0, x0, rfl, a0, b0, r0, k0⟩, _, _, rfl, ⟨A1, c1, x1, rfl, a1, b1, r1, k1⟩, _, _, rfl, ⟨A2, c2, x2, rfl, a2, b2, r2, k2⟩, A3, c3, x3, rfl, a3, b3, r3, k3⟩ := h
  obtain ⟨rfl, d0⟩ := dim_chunk k0
  obtain ⟨rfl, d1⟩ := chunk_val.1 k1
  obtain ⟨rfl, d2⟩ := chunk_val.1 k2
  obtain ⟨rfl, d3⟩ := chunk_val.1 k3
  refine ⟨⟨A0, c0, A1, c1, A2, c2, A3, c3, ?_, r0, r1, r2, r3, ⟨a0, b0⟩, ⟨a1, b1⟩, ⟨a2, b2⟩, a3, b3⟩, ⟨d0, d1, d2, fun x hx => bounds_u32 (d3 x hx)⟩⟩
  congr 1
  apply Array.ext'
  rw [e0]; rfl
set_option maxRecDepth 100000 in
theorem open_schema {H : Type} {enc : TypeId × Value → H} {w : World} {base : Nat} {spare : Nat → Bool} {held : Bool} {r : Reach} {b0 : Nat} {v : Value} {d : DataW H} {p : List MemPlace} (hv : Value.okWide Try.prog w r b0 26 v) (h : DataW.Trod enc Try.prog w base spare held 26 v d p) :
    ∃ S : Sch, SchAt w w.heap.size v S ∧ SchOk S := by
  obtain ⟨cs, rfl, hsz⟩ := okWide_struct Try.underlying26 hv
  obtain ⟨fuel, hf⟩ := h
  obtain ⟨S, hS⟩ := opens_sch H enc w base spare held fuel _ _ hf
  have : schR.rep w w.heap.size S cs.toList := by simpa [Value.cells] using hS
  exact ⟨S, schR_at this⟩
end Go.Proofs.Ytfhmaincnlaapaa
namespace Go.Proofs.Ytfhmaincnlaapaa
open Go.ChangeShapes Go.WideShapes Go.ChangeAt Go.RowKit Go.Deep
set_option linter.unusedVariables false

theorem opens_f64 {P : Program} {t : TypeId} (ht : P.underlying t = some (.float .f64)) (h1 : ∀ x : Nat, (Value.float .f64 x).oneCell' = true) : Opens P t (Rp.val (Value.float .f64) (fun b => b < 18446744073709551616) h1) := by
  intro H enc w base spare held fuel cs x h
  obtain ⟨s, rfl, hs⟩ := trod_f64 ht h
  exact ⟨s, rfl, hs⟩
/-- six fields -/
theorem opens_six {P : Program} {t : TypeId} {α β0 β1 β2 β3 β4 β5 : Type} {R0 : Rp β0} {R1 : Rp β1} {R2 : Rp β2} {R3 : Rp β3} {R4 : Rp β4} {R5 : Rp β5} {p0 : α → β0} {p1 : α → β1} {p2 : α → β2} {p3 : α → β3} {p4 : α → β4} {p5 : α → β5} {f0 f1 f2 f3 f4 f5 : Field}
    (ht : P.underlying t = some (.struct #[f0, f1, f2, f3, f4, f5])) (o0 : f0.offset = 0) (o1 : f1.offset = R0.size) (o2 : f2.offset = R0.size + R1.size) (o3 : f3.offset = R0.size + R1.size + R2.size) (o4 : f4.offset = R0.size + R1.size + R2.size + R3.size) (o5 : f5.offset = R0.size + R1.size + R2.size + R3.size + R4.size)
    (s0 : P.cellsOf f0.type = R0.size) (s1 : P.cellsOf f1.type = R1.size) (s2 : P.cellsOf f2.type = R2.size) (s3 : P.cellsOf f3.type = R3.size) (s4 : P.cellsOf f4.type = R4.size) (s5 : P.cellsOf f5.type = R5.size) (hC : P.cellsOf t = R0.size + R1.size + R2.size + R3.size + R4.size + R5.size)
    (h0 : Opens P f0.type R0) (h1 : Opens P f1.type R1) (h2 : Opens P f2.type R2) (h3 : Opens P f3.type R3) (h4 : Opens P f4.type R4) (h5 : Opens P f5.type R5) (mk : β0 → β1 → β2 → β3 → β4 → β5 → α)
    (q0 : ∀ a b c d e f, p0 (mk a b c d e f) = a) (q1 : ∀ a b c d e f, p1 (mk a b c d e f) = b) (q2 : ∀ a b c d e f, p2 (mk a b c d e f) = c) (q3 : ∀ a b c d e f, p3 (mk a b c d e f) = d) (q4 : ∀ a b c d e f, p4 (mk a b c d e f) = e) (q5 : ∀ a b c d e f, p5 (mk a b c d e f) = f) :
    Opens P t (Rp.two p0 id R0 (Rp.two p1 id R1 (Rp.two p2 id R2 (Rp.two p3 id R3 (Rp.two p4 p5 R4 R5))))) := by
  intro H enc w base spare held fuel cs x h
  obtain ⟨xs, n, _, hx, hlen, hxl, hg⟩ := DataW.trod_struct ht h
  rw [hC] at hlen
  match xs, hxl with
  | [a0, a1, a2, a3, a4, a5], _ =>
    have g0 := hg 0 f0 rfl
    have g1 := hg 1 f1 rfl
    have g2 := hg 2 f2 rfl
    have g3 := hg 3 f3 rfl
    have g4 := hg 4 f4 rfl
    have g5 := hg 5 f5 rfl
    rw [o0, s0, List.drop_zero] at g0
    rw [o1, s1] at g1
    rw [o2, s2] at g2
    rw [o3, s3] at g3
    rw [o4, s4] at g4
    rw [o5, s5] at g5
    obtain ⟨b0, r0⟩ := h0 H enc w base spare held n _ _ g0
    obtain ⟨b1, r1⟩ := h1 H enc w base spare held n _ _ g1
    obtain ⟨b2, r2⟩ := h2 H enc w base spare held n _ _ g2
    obtain ⟨b3, r3⟩ := h3 H enc w base spare held n _ _ g3
    obtain ⟨b4, r4⟩ := h4 H enc w base spare held n _ _ g4
    obtain ⟨b5, r5⟩ := h5 H enc w base spare held n _ _ g5
    rw [← List.drop_drop] at r2
    rw [← List.drop_drop, ← List.drop_drop] at r3
    rw [← List.drop_drop, ← List.drop_drop, ← List.drop_drop] at r4
    rw [List.take_of_length_le (by rw [List.length_drop]; omega), ← List.drop_drop, ← List.drop_drop, ← List.drop_drop, ← List.drop_drop] at r5
    exact ⟨mk b0 b1 b2 b3 b4 b5, _, _, (List.take_append_drop R0.size cs).symm, by rw [q0]; exact r0, _, _, (List.take_append_drop R1.size _).symm, by simp only [id_eq]; rw [q1]; exact r1, _, _, (List.take_append_drop R2.size _).symm, by simp only [id_eq]; rw [q2]; exact r2,
      _, _, (List.take_append_drop R3.size _).symm, by simp only [id_eq]; rw [q3]; exact r3, _, _, (List.take_append_drop R4.size _).symm, by simp only [id_eq]; rw [q4]; exact r4, by simp only [id_eq]; rw [q5]; exact r5⟩
/-- an ask as its cells give it -/
structure AskI where
  d : Int
  u : Int
  i : Int
  f : Nat
  s : ByteArray
  m : Int
abbrev iR : Rp Int := Rp.val (Value.int .i64) (fun z => (Lit.int .i64 z).wf = true) (fun _ => rfl)
abbrev uR : Rp Int := Rp.val (Value.int .u64) (fun z => (Lit.int .u64 z).wf = true) (fun _ => rfl)
abbrev fR : Rp Nat := Rp.val (Value.float .f64) (fun b => b < 18446744073709551616) (fun _ => rfl)
abbrev sR : Rp ByteArray := Rp.val Value.string (fun s => s.size ≤ maxLen) (fun _ => rfl)
def askR : Rp AskI := Rp.two AskI.d id iR (Rp.two AskI.u id uR (Rp.two AskI.i id iR (Rp.two AskI.f id fR (Rp.two AskI.s AskI.m sR iR))))
theorem askR_one {w : World} {B : Nat} {x : AskI} {cs : List Value} (h : askR.rep w B x cs) : ∃ a : AskS, cs = askC a ∧ AskOk a := by
  obtain ⟨_, _, rfl, ⟨rfl, w0⟩, _, _, rfl, ⟨rfl, w1⟩, _, _, rfl, ⟨rfl, w2⟩, _, _, rfl, ⟨rfl, w3⟩, _, _, rfl, ⟨rfl, w4⟩, rfl, w5⟩ := h
  have b1 := bounds_u64 w1
  have b2 := bounds_i64 w2
  have b5 := bounds_i64 w5
  simp only [id_eq] at *
  refine ⟨⟨x.d, x.u.toNat, x.i, x.f, x.s, x.m⟩, ?_, ⟨by simp only; omega, by simp only; omega, by simp only; omega, w3, w4, by simp only; omega⟩⟩
  unfold askC
  simp only [show ((x.u.toNat : Nat) : Int) = x.u from by omega]
  rfl
theorem askR_chunk {w : World} {B : Nat} {l : List AskI} {xs : List Value} (h : Chunk askR w B l xs) : ∃ m : List AskS, m.length = l.length ∧ xs = asksC m ∧ ∀ x ∈ m, AskOk x := by
  induction l generalizing xs with
  | nil => cases h; exact ⟨[], rfl, rfl, fun x hx => by cases hx⟩
  | cons x l ih =>
    obtain ⟨c, rest, rfl, h1, h3⟩ := h
    obtain ⟨m, e1, rfl, e3⟩ := ih h3
    obtain ⟨a, rfl, ha⟩ := askR_one h1
    refine ⟨a :: m, by simp [e1], rfl, fun y hy => ?_⟩
    rcases List.mem_cons.1 hy with rfl | hy
    · exact ha
    · exact e3 y hy
theorem SlR.ask {w : World} {B : Nat} {l : List AskI} {A : Option Addr} {c : Nat} (h : SlR askR w B l A c) : ∃ m : List AskS, Rd w B 6 A l.length (asksC m) ∧ (∀ x ∈ m, AskOk x) ∧ l.length ≤ c ∧ c ≤ maxLen := by
  obtain ⟨hc, hm, xs, h1, h2⟩ := h
  obtain ⟨m, e1, rfl, e3⟩ := askR_chunk h2
  exact ⟨m, h1, e3, hc, hm⟩
end Go.Proofs.Ytfhmaincnlaapaa
namespace Go.Proofs.Ytfhmaincnlaapaa
open Go.ChangeShapes Go.WideShapes Go.ChangeAt Go.RowKit Go.Deep Go.Joins
set_option linter.unusedVariables false

structure FactS where
  codes : List Int
  ints : List Int
  nums : List Nat
abbrev f64R : Rp Nat := Rp.val (Value.float .f64) (fun b => b < 18446744073709551616) (fun _ => rfl)
def factR : Rp FactS := Rp.two FactS.codes id i64R.sl (Rp.two FactS.ints FactS.nums i64R.sl f64R.sl)
theorem opens_fact : Opens Try.prog 79 factR :=
  opens_three Try.underlying79 rfl rfl rfl (by kernel_rfl) (by kernel_rfl) (by kernel_rfl) (by kernel_rfl)
    (opens_slice Try.underlying65 (by kernel_rfl) (by decide) (opens_int Try.underlying3 _)) (opens_slice Try.underlying76 (by kernel_rfl) (by decide) (opens_int Try.underlying2 _))
    (opens_slice Try.underlying77 (by kernel_rfl) (by decide) (opens_f64 Try.underlying115 _)) FactS.mk (fun _ _ _ => rfl) (fun _ _ _ => rfl) (fun _ _ _ => rfl)
abbrev i64s (l : List Int) : List Value := l.map (Value.int .i64)
abbrev f64s (l : List Nat) : List Value := l.map (Value.float .f64)
/-- three slices that are a fact's -/
def FactV (w : World) (B : Nat) (F : FactS) (v0 v1 v2 : Value) : Prop :=
  ∃ A0 c0 A1 c1 A2 c2, v0 = .slice A0 F.codes.length c0 ∧ v1 = .slice A1 F.ints.length c1 ∧ v2 = .slice A2 F.nums.length c2 ∧
    Rd w B 1 A0 F.codes.length (i64s F.codes) ∧ Rd w B 1 A1 F.ints.length (i64s F.ints) ∧ Rd w B 1 A2 F.nums.length (f64s F.nums) ∧
    (F.codes.length ≤ c0 ∧ c0 ≤ maxLen) ∧ (F.ints.length ≤ c1 ∧ c1 ≤ maxLen) ∧ (F.nums.length ≤ c2 ∧ c2 ≤ maxLen)
structure FactOk (F : FactS) : Prop where
  codes : ∀ x ∈ F.codes, -9223372036854775808 ≤ x ∧ x ≤ 9223372036854775807
  ints : ∀ x ∈ F.ints, -9223372036854775808 ≤ x ∧ x ≤ 9223372036854775807
  nums : ∀ x ∈ F.nums, x < 18446744073709551616
theorem factR_at {w : World} {B : Nat} {F : FactS} {cs : List Value} (h : factR.rep w B F cs) : ∃ v0 v1 v2, cs = [v0, v1, v2] ∧ FactV w B F v0 v1 v2 ∧ FactOk F := by
  obtain ⟨_, _, rfl, ⟨A0, c0, x0, rfl, a0, b0, r0, k0⟩, _, _, rfl, ⟨A1, c1, x1, rfl, a1, b1, r1, k1⟩, A2, c2, x2, rfl, a2, b2, r2, k2⟩ := h
  obtain ⟨rfl, d0⟩ := chunk_val.1 k0
  obtain ⟨rfl, d1⟩ := chunk_val.1 k1
  obtain ⟨rfl, d2⟩ := chunk_val.1 k2
  exact ⟨_, _, _, rfl, ⟨A0, c0, A1, c1, A2, c2, rfl, rfl, rfl, r0, r1, r2, ⟨a0, b0⟩, ⟨a1, b1⟩, a2, b2⟩, ⟨fun x hx => bounds_i64 (d0 x hx), fun x hx => bounds_i64 (d1 x hx), d2⟩⟩
/-- fact k of a slice of facts: its three cells -/
theorem SlR.fact {w : World} {B c : Nat} {l : List FactS} {A : Option Addr} (h : SlR factR w B l A c) {k : Nat} (hk : k < l.length) : ∃ a v0 v1 v2, A = some a ∧ a.block < B ∧ w.cell? (a.add (k * 3)) = some v0 ∧
    w.cell? ⟨(a.add (k * 3)).block, (a.add (k * 3)).off + 1, none⟩ = some v1 ∧ w.cell? ⟨(a.add (k * 3)).block, (a.add (k * 3)).off + 2, none⟩ = some v2 ∧ FactV w B l[k] v0 v1 v2 ∧ FactOk l[k] := by
  obtain ⟨a, cs, rfl, hb, hr, hc⟩ := h.get hk
  obtain ⟨v0, v1, v2, rfl, hv, ho⟩ := factR_at hr
  have key : ∀ j, j < 3 → w.cell? (a.add (k * 3 + j)) = [v0, v1, v2][j]? := fun j hj => hc j hj
  refine ⟨a, v0, v1, v2, rfl, hb, key 0 (by decide), ?_, ?_, hv, ho⟩
  · have := key 1 (by decide)
    rw [← add_add', add_succ] at this
    exact this
  · have := key 2 (by decide)
    rw [← add_add', show (2 : Nat) = 1 + 1 from rfl, add_succ] at this
    exact this
end Go.Proofs.Ytfhmaincnlaapaa
namespace Go.Proofs.Ytfhmaincnlaapaa
open Go.ChangeShapes Go.WideShapes Go.ChangeAt Go.RowKit Go.Deep Go.Joins
set_option linter.unusedVariables false

theorem opens_u64n {P : Program} {t : TypeId} (ht : P.underlying t = some (.int .u64)) (h1 : ∀ n : Nat, (Value.int .u64 (n : Int)).oneCell' = true) : Opens P t (Rp.val (fun n : Nat => Value.int .u64 (n : Int)) (fun n => n < 18446744073709551616) h1) := by
  intro H enc w base spare held fuel cs x h
  obtain ⟨z, rfl, _, hz⟩ := DataW.trod_int ht h
  have hb := bounds_u64 hz
  exact ⟨z.toNat, by simp only [show ((z.toNat : Nat) : Int) = z from by omega], show z.toNat < _ by omega⟩
theorem opens_u32n {P : Program} {t : TypeId} (ht : P.underlying t = some (.int .u32)) (h1 : ∀ n : Nat, (Value.int .u32 (n : Int)).oneCell' = true) : Opens P t (Rp.val (fun n : Nat => Value.int .u32 (n : Int)) (fun n => n < 4294967296) h1) := by
  intro H enc w base spare held fuel cs x h
  obtain ⟨z, rfl, _, hz⟩ := DataW.trod_int ht h
  have hb := bounds_u32 hz
  exact ⟨z.toNat, by simp only [show ((z.toNat : Nat) : Int) = z from by omega], show z.toNat < _ by omega⟩
theorem opens_u8n {P : Program} {t : TypeId} (ht : P.underlying t = some (.int .u8)) (h1 : ∀ b : UInt8, (Value.int .u8 (b.toNat : Int)).oneCell' = true) : Opens P t (Rp.val (fun b : UInt8 => Value.int .u8 (b.toNat : Int)) (fun _ => True) h1) := by
  intro H enc w base spare held fuel cs x h
  obtain ⟨z, rfl, _, hz⟩ := DataW.trod_int ht h
  have hb := bounds_u8 hz
  refine ⟨UInt8.ofNat z.toNat, ?_, trivial⟩
  have : (UInt8.ofNat z.toNat).toNat = z.toNat := by
    rw [UInt8.toNat_ofNat']; omega
  simp only [this, show ((z.toNat : Nat) : Int) = z from by omega]
/-- five fields -/
theorem opens_five {P : Program} {t : TypeId} {α β0 β1 β2 β3 β4 : Type} {R0 : Rp β0} {R1 : Rp β1} {R2 : Rp β2} {R3 : Rp β3} {R4 : Rp β4} {p0 : α → β0} {p1 : α → β1} {p2 : α → β2} {p3 : α → β3} {p4 : α → β4} {f0 f1 f2 f3 f4 : Field}
    (ht : P.underlying t = some (.struct #[f0, f1, f2, f3, f4])) (o0 : f0.offset = 0) (o1 : f1.offset = R0.size) (o2 : f2.offset = R0.size + R1.size) (o3 : f3.offset = R0.size + R1.size + R2.size) (o4 : f4.offset = R0.size + R1.size + R2.size + R3.size)
    (s0 : P.cellsOf f0.type = R0.size) (s1 : P.cellsOf f1.type = R1.size) (s2 : P.cellsOf f2.type = R2.size) (s3 : P.cellsOf f3.type = R3.size) (s4 : P.cellsOf f4.type = R4.size) (hC : P.cellsOf t = R0.size + R1.size + R2.size + R3.size + R4.size)
    (h0 : Opens P f0.type R0) (h1 : Opens P f1.type R1) (h2 : Opens P f2.type R2) (h3 : Opens P f3.type R3) (h4 : Opens P f4.type R4) (mk : β0 → β1 → β2 → β3 → β4 → α)
    (q0 : ∀ a b c d e, p0 (mk a b c d e) = a) (q1 : ∀ a b c d e, p1 (mk a b c d e) = b) (q2 : ∀ a b c d e, p2 (mk a b c d e) = c) (q3 : ∀ a b c d e, p3 (mk a b c d e) = d) (q4 : ∀ a b c d e, p4 (mk a b c d e) = e) :
    Opens P t (Rp.two p0 id R0 (Rp.two p1 id R1 (Rp.two p2 id R2 (Rp.two p3 p4 R3 R4)))) := by
  intro H enc w base spare held fuel cs x h
  obtain ⟨xs, n, _, hx, hlen, hxl, hg⟩ := DataW.trod_struct ht h
  rw [hC] at hlen
  match xs, hxl with
  | [a0, a1, a2, a3, a4], _ =>
    have g0 := hg 0 f0 rfl
    have g1 := hg 1 f1 rfl
    have g2 := hg 2 f2 rfl
    have g3 := hg 3 f3 rfl
    have g4 := hg 4 f4 rfl
    rw [o0, s0, List.drop_zero] at g0
    rw [o1, s1] at g1
    rw [o2, s2] at g2
    rw [o3, s3] at g3
    rw [o4, s4] at g4
    obtain ⟨b0, r0⟩ := h0 H enc w base spare held n _ _ g0
    obtain ⟨b1, r1⟩ := h1 H enc w base spare held n _ _ g1
    obtain ⟨b2, r2⟩ := h2 H enc w base spare held n _ _ g2
    obtain ⟨b3, r3⟩ := h3 H enc w base spare held n _ _ g3
    obtain ⟨b4, r4⟩ := h4 H enc w base spare held n _ _ g4
    rw [← List.drop_drop] at r2
    rw [← List.drop_drop, ← List.drop_drop] at r3
    rw [List.take_of_length_le (by rw [List.length_drop]; omega), ← List.drop_drop, ← List.drop_drop, ← List.drop_drop] at r4
    exact ⟨mk b0 b1 b2 b3 b4, _, _, (List.take_append_drop R0.size cs).symm, by rw [q0]; exact r0, _, _, (List.take_append_drop R1.size _).symm, by simp only [id_eq]; rw [q1]; exact r1, _, _, (List.take_append_drop R2.size _).symm, by simp only [id_eq]; rw [q2]; exact r2,
      _, _, (List.take_append_drop R3.size _).symm, by simp only [id_eq]; rw [q3]; exact r3, by simp only [id_eq]; rw [q4]; exact r4⟩
structure WholeS where
  sum : Int
  abs : Int
  sq : List Nat
  mn : Int
  mx : Int
structure RealS where
  sum : List UInt8
  mn : Nat
  mx : Nat
structure CellS where
  key : Nat
  count : Int
  ints : List WholeS
  nums : List RealS
abbrev u64nR : Rp Nat := Rp.val (fun n : Nat => Value.int .u64 (n : Int)) (fun n => n < 18446744073709551616) (fun _ => rfl)
abbrev u32nR : Rp Nat := Rp.val (fun n : Nat => Value.int .u32 (n : Int)) (fun n => n < 4294967296) (fun _ => rfl)
abbrev u8R : Rp UInt8 := Rp.val (fun b : UInt8 => Value.int .u8 (b.toNat : Int)) (fun _ => True) (fun _ => rfl)
def wholeR : Rp WholeS := Rp.two WholeS.sum id i64R (Rp.two WholeS.abs id i64R (Rp.two WholeS.sq id u32nR.sl (Rp.two WholeS.mn WholeS.mx i64R i64R)))
def realR : Rp RealS := Rp.two RealS.sum id u8R.sl (Rp.two RealS.mn RealS.mx f64R f64R)
def cellR : Rp CellS := Rp.two CellS.key id u64nR (Rp.two CellS.count id i64R (Rp.two CellS.ints CellS.nums wholeR.sl realR.sl))
theorem opens_whole : Opens Try.prog 114 wholeR :=
  opens_five Try.underlying114 rfl rfl rfl rfl rfl (by kernel_rfl) (by kernel_rfl) (by kernel_rfl) (by kernel_rfl) (by kernel_rfl) (by kernel_rfl)
    (opens_int Try.underlying2 _) (opens_int Try.underlying2 _) (opens_slice Try.underlying24 (by kernel_rfl) (by decide) (opens_u32n Try.underlying33 _)) (opens_int Try.underlying2 _) (opens_int Try.underlying2 _)
    WholeS.mk (fun _ _ _ _ _ => rfl) (fun _ _ _ _ _ => rfl) (fun _ _ _ _ _ => rfl) (fun _ _ _ _ _ => rfl) (fun _ _ _ _ _ => rfl)
theorem opens_real : Opens Try.prog 117 realR :=
  opens_three Try.underlying117 rfl rfl rfl (by kernel_rfl) (by kernel_rfl) (by kernel_rfl) (by kernel_rfl)
    (opens_slice Try.underlying53 (by kernel_rfl) (by decide) (opens_u8n Try.underlying5 _)) (opens_f64 Try.underlying115 _) (opens_f64 Try.underlying115 _) RealS.mk (fun _ _ _ => rfl) (fun _ _ _ => rfl) (fun _ _ _ => rfl)
theorem opens_cell : Opens Try.prog 52 cellR :=
  opens_four Try.underlying52 rfl rfl rfl rfl (by kernel_rfl) (by kernel_rfl) (by kernel_rfl) (by kernel_rfl) (by kernel_rfl)
    (opens_u64n Try.underlying48 _) (opens_int Try.underlying2 _) (opens_slice Try.underlying49 (by kernel_rfl) (by decide) opens_whole) (opens_slice Try.underlying50 (by kernel_rfl) (by decide) opens_real)
    CellS.mk (fun _ _ _ _ => rfl) (fun _ _ _ _ => rfl) (fun _ _ _ _ => rfl) (fun _ _ _ _ => rfl)
abbrev u32n (l : List Nat) : List Value := l.map (fun n : Nat => Value.int .u32 (n : Int))
/-- a whole measure's five cells -/
theorem wholeR_at {w : World} {B : Nat} {x : WholeS} {cs : List Value} (h : wholeR.rep w B x cs) : ∃ A c, cs = [.int .i64 x.sum, .int .i64 x.abs, .slice A x.sq.length c, .int .i64 x.mn, .int .i64 x.mx] ∧ Rd w B 1 A x.sq.length (u32n x.sq) ∧ x.sq.length ≤ c ∧ c ≤ maxLen ∧
    (∀ n ∈ x.sq, n < 4294967296) ∧ (-9223372036854775808 ≤ x.sum ∧ x.sum ≤ 9223372036854775807) ∧ (-9223372036854775808 ≤ x.abs ∧ x.abs ≤ 9223372036854775807) ∧ (-9223372036854775808 ≤ x.mn ∧ x.mn ≤ 9223372036854775807) ∧ (-9223372036854775808 ≤ x.mx ∧ x.mx ≤ 9223372036854775807) := by
  obtain ⟨_, _, rfl, ⟨rfl, w0⟩, _, _, rfl, ⟨rfl, w1⟩, _, _, rfl, ⟨A, c, xs, rfl, a2, b2, r2, k2⟩, _, _, rfl, ⟨rfl, w3⟩, rfl, w4⟩ := h
  obtain ⟨rfl, d2⟩ := chunk_val.1 k2
  exact ⟨A, c, rfl, r2, a2, b2, d2, bounds_i64 w0, bounds_i64 w1, bounds_i64 w3, bounds_i64 w4⟩
theorem realR_at {w : World} {B : Nat} {x : RealS} {cs : List Value} (h : realR.rep w B x cs) : ∃ A c, cs = [.slice A x.sum.length c, .float .f64 x.mn, .float .f64 x.mx] ∧ Rd w B 1 A x.sum.length (u8s x.sum) ∧ x.sum.length ≤ c ∧ c ≤ maxLen ∧ x.mn < 18446744073709551616 ∧ x.mx < 18446744073709551616 := by
  obtain ⟨_, _, rfl, ⟨A, c, xs, rfl, a2, b2, r2, k2⟩, _, _, rfl, ⟨rfl, w3⟩, rfl, w4⟩ := h
  obtain ⟨rfl, d2⟩ := chunk_val.1 k2
  exact ⟨A, c, rfl, r2, a2, b2, w3, w4⟩
/-- a cell, its lists at A2 and A3 -/
structure CellV (w : World) (B : Nat) (C : CellS) (A2 : Option Addr) (c2 : Nat) (A3 : Option Addr) (c3 : Nat) : Prop where
  key : C.key < 18446744073709551616
  count : -9223372036854775808 ≤ C.count ∧ C.count ≤ 9223372036854775807
  ints : SlR wholeR w B C.ints A2 c2
  nums : SlR realR w B C.nums A3 c3
theorem CellV.keep {w w' : World} {B B' : Nat} {C : CellS} {A2 A3 : Option Addr} {c2 c3 : Nat} (h : CellV w B C A2 c2 A3 c3) (hb : Below B w w') (hB : B ≤ B') : CellV w' B' C A2 c2 A3 c3 := ⟨h.key, h.count, h.ints.keep hb hB, h.nums.keep hb hB⟩
def cellC (C : CellS) (A2 : Option Addr) (c2 : Nat) (A3 : Option Addr) (c3 : Nat) : List Value := [.int .u64 (C.key : Int), .int .i64 C.count, .slice A2 C.ints.length c2, .slice A3 C.nums.length c3]
theorem cellR_at {w : World} {B : Nat} {C : CellS} {cs : List Value} (h : cellR.rep w B C cs) : ∃ A2 c2 A3 c3, cs = cellC C A2 c2 A3 c3 ∧ CellV w B C A2 c2 A3 c3 := by
  obtain ⟨_, _, rfl, ⟨rfl, w0⟩, _, _, rfl, ⟨rfl, w1⟩, _, _, rfl, ⟨A2, c2, x2, rfl, a2, b2, r2, k2⟩, A3, c3, x3, rfl, a3, b3, r3, k3⟩ := h
  exact ⟨A2, c2, A3, c3, rfl, ⟨w0, bounds_i64 w1, ⟨a2, b2, x2, r2, k2⟩, ⟨a3, b3, x3, r3, k3⟩⟩⟩
theorem cellR_mk {w : World} {B : Nat} {C : CellS} {A2 A3 : Option Addr} {c2 c3 : Nat} (h : CellV w B C A2 c2 A3 c3) : cellR.rep w B C (cellC C A2 c2 A3 c3) := by
  obtain ⟨w0, w1, ⟨a2, b2, x2, r2, k2⟩, a3, b3, x3, r3, k3⟩ := h
  exact ⟨[_], [_, _, _], rfl, ⟨rfl, w0⟩, [_], [_, _], rfl, ⟨rfl, WalkArith.wf_i64 w1⟩, [_], [_], rfl, ⟨A2, c2, x2, rfl, a2, b2, r2, k2⟩, A3, c3, x3, rfl, a3, b3, r3, k3⟩
/-- cell k of a slice of cells -/
theorem SlR.cellAt {w : World} {B c : Nat} {l : List CellS} {A : Option Addr} (h : SlR cellR w B l A c) {k : Nat} (hk : k < l.length) : ∃ a A2 c2 A3 c3, A = some a ∧ a.block < B ∧ w.cell? (a.add (k * 4)) = some (.int .u64 (l[k].key : Int)) ∧
    w.cell? ⟨(a.add (k * 4)).block, (a.add (k * 4)).off + 1, none⟩ = some (.int .i64 l[k].count) ∧ w.cell? ⟨(a.add (k * 4)).block, (a.add (k * 4)).off + 2, none⟩ = some (.slice A2 l[k].ints.length c2) ∧
    w.cell? ⟨(a.add (k * 4)).block, (a.add (k * 4)).off + 3, none⟩ = some (.slice A3 l[k].nums.length c3) ∧ CellV w B l[k] A2 c2 A3 c3 := by
  obtain ⟨a, cs, rfl, hb, hr, hc⟩ := h.get hk
  obtain ⟨A2, c2, A3, c3, rfl, hv⟩ := cellR_at hr
  have key : ∀ j, j < 4 → w.cell? (a.add (k * 4 + j)) = (cellC l[k] A2 c2 A3 c3)[j]? := fun j hj => hc j hj
  refine ⟨a, A2, c2, A3, c3, rfl, hb, key 0 (by decide), ?_, ?_, ?_, hv⟩
  · have := key 1 (by decide)
    rw [← add_add', add_succ] at this
    exact this
  · have := key 2 (by decide)
    rw [← add_add', show (2 : Nat) = 1 + 1 from rfl, add_succ] at this
    exact this
  · have := key 3 (by decide)
    rw [← add_add', show (3 : Nat) = 2 + 1 from rfl, add_succ] at this
    exact this
/-- measure k of a slice of whole measures -/
theorem SlR.wholeAt {w : World} {B c : Nat} {l : List WholeS} {A : Option Addr} (h : SlR wholeR w B l A c) {k : Nat} (hk : k < l.length) : ∃ a A2 c2, A = some a ∧ a.block < B ∧ w.cell? (a.add (k * 5)) = some (.int .i64 l[k].sum) ∧
    w.cell? ⟨(a.add (k * 5)).block, (a.add (k * 5)).off + 1, none⟩ = some (.int .i64 l[k].abs) ∧ w.cell? ⟨(a.add (k * 5)).block, (a.add (k * 5)).off + 2, none⟩ = some (.slice A2 l[k].sq.length c2) ∧
    w.cell? ⟨(a.add (k * 5)).block, (a.add (k * 5)).off + 3, none⟩ = some (.int .i64 l[k].mn) ∧ w.cell? ⟨(a.add (k * 5)).block, (a.add (k * 5)).off + 4, none⟩ = some (.int .i64 l[k].mx) ∧
    Rd w B 1 A2 l[k].sq.length (u32n l[k].sq) ∧ l[k].sq.length ≤ c2 ∧ c2 ≤ maxLen ∧ (∀ n ∈ l[k].sq, n < 4294967296) ∧ (-9223372036854775808 ≤ l[k].sum ∧ l[k].sum ≤ 9223372036854775807) ∧ (-9223372036854775808 ≤ l[k].abs ∧ l[k].abs ≤ 9223372036854775807) ∧
    (-9223372036854775808 ≤ l[k].mn ∧ l[k].mn ≤ 9223372036854775807) ∧ (-9223372036854775808 ≤ l[k].mx ∧ l[k].mx ≤ 9223372036854775807) := by
  obtain ⟨a, cs, rfl, hb, hr, hc⟩ := h.get hk
  obtain ⟨A2, c2, rfl, hv⟩ := wholeR_at hr
  have key : ∀ j, j < 5 → w.cell? (a.add (k * 5 + j)) = ([.int .i64 l[k].sum, .int .i64 l[k].abs, .slice A2 l[k].sq.length c2, .int .i64 l[k].mn, .int .i64 l[k].mx] : List Value)[j]? := fun j hj => hc j hj
  refine ⟨a, A2, c2, rfl, hb, key 0 (by decide), ?_, ?_, ?_, ?_, hv⟩
  · have := key 1 (by decide)
    rw [← add_add', add_succ] at this
    exact this
  · have := key 2 (by decide)
    rw [← add_add', show (2 : Nat) = 1 + 1 from rfl, add_succ] at this
    exact this
  · have := key 3 (by decide)
    rw [← add_add', show (3 : Nat) = 2 + 1 from rfl, add_succ] at this
    exact this
  · have := key 4 (by decide)
    rw [← add_add', show (4 : Nat) = 3 + 1 from rfl, add_succ] at this
    exact this
theorem SlR.realAt {w : World} {B c : Nat} {l : List RealS} {A : Option Addr} (h : SlR realR w B l A c) {k : Nat} (hk : k < l.length) : ∃ a A2 c2, A = some a ∧ a.block < B ∧ w.cell? (a.add (k * 3)) = some (.slice A2 l[k].sum.length c2) ∧
    w.cell? ⟨(a.add (k * 3)).block, (a.add (k * 3)).off + 1, none⟩ = some (.float .f64 l[k].mn) ∧ w.cell? ⟨(a.add (k * 3)).block, (a.add (k * 3)).off + 2, none⟩ = some (.float .f64 l[k].mx) ∧
    Rd w B 1 A2 l[k].sum.length (u8s l[k].sum) ∧ l[k].sum.length ≤ c2 ∧ c2 ≤ maxLen ∧ l[k].mn < 18446744073709551616 ∧ l[k].mx < 18446744073709551616 := by
  obtain ⟨a, cs, rfl, hb, hr, hc⟩ := h.get hk
  obtain ⟨A2, c2, rfl, hv⟩ := realR_at hr
  have key : ∀ j, j < 3 → w.cell? (a.add (k * 3 + j)) = ([.slice A2 l[k].sum.length c2, .float .f64 l[k].mn, .float .f64 l[k].mx] : List Value)[j]? := fun j hj => hc j hj
  refine ⟨a, A2, c2, rfl, hb, key 0 (by decide), ?_, ?_, hv⟩
  · have := key 1 (by decide)
    rw [← add_add', add_succ] at this
    exact this
  · have := key 2 (by decide)
    rw [← add_add', show (2 : Nat) = 1 + 1 from rfl, add_succ] at this
    exact this
end Go.Proofs.Ytfhmaincnlaapaa
