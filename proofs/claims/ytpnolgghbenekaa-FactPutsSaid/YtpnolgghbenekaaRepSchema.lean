/-
  An argument that is a schema: what its cells read as.
-/
import Derived.Test.YtpnolgghbenekaaRep
import Derived.Test.YtpnolgghbenekaaFrame
import Derived.Test.YtpnolgghbenekaaNames
namespace Go.Proofs.Ytpnolgghbenekaa
open Go.ChangeShapes Go.WideShapes Go.ChangeAt Go.RowKit Go.Deep Go.Joins
set_option linter.unusedVariables false

structure Sch where
  dims : List (ByteArray × Int)
  ints : List ByteArray
  nums : List ByteArray
  views : List Int
abbrev strR : Rp ByteArray := Rp.val Value.string (fun s => s.size ≤ maxLen) (fun _ => rfl)
abbrev i64R : Rp Int := Rp.val (Value.int .i64) (fun z => (Lit.int .i64 z).wf = true) (fun _ => rfl)
abbrev u32R : Rp Int := Rp.val (Value.int .u32) (fun z => (Lit.int .u32 z).wf = true) (fun _ => rfl)
def dimR : Rp (ByteArray × Int) := Rp.two Prod.fst Prod.snd strR i64R
def schR : Rp Sch := Rp.two Sch.dims id dimR.sl (Rp.two Sch.ints id strR.sl (Rp.two Sch.nums Sch.views strR.sl u32R.sl))
theorem opens_dim : Opens Try.prog 117 dimR :=
  opens_two Try.underlying117 rfl rfl (by kernel_rfl) (by kernel_rfl) (by kernel_rfl) (opens_string Try.underlying9 _) (opens_int Try.underlying3 _) Prod.mk (fun _ _ => rfl) (fun _ _ => rfl)
theorem opens_strs : Opens Try.prog 49 strR.sl := opens_slice Try.underlying49 (by kernel_rfl) (by decide) (opens_string Try.underlying9 _)
theorem opens_sch : Opens Try.prog 52 schR :=
  opens_four Try.underlying52 rfl rfl rfl rfl (by kernel_rfl) (by kernel_rfl) (by kernel_rfl) (by kernel_rfl) (by kernel_rfl)
    (opens_slice Try.underlying48 (by kernel_rfl) (by decide) opens_dim) opens_strs opens_strs (opens_slice Try.underlying50 (by kernel_rfl) (by decide) (opens_int Try.underlying121 _))
    Sch.mk (fun _ _ _ _ => rfl) (fun _ _ _ _ => rfl) (fun _ _ _ _ => rfl) (fun _ _ _ _ => rfl)
def dimC (l : List (ByteArray × Int)) : List Value := l.flatMap fun x => [.string x.1, .int .i64 x.2]
abbrev u32s (l : List Int) : List Value := l.map (Value.int .u32)
theorem dim_chunk {w : World} {B : Nat} {l : List (ByteArray × Int)} {xs : List Value} (h : Chunk dimR w B l xs) : xs = dimC l ∧ ∀ x ∈ l, x.1.size ≤ maxLen ∧ -9223372036854775808 ≤ x.2 ∧ x.2 ≤ 9223372036854775807 := by
  induction l generalizing xs with
  | nil => cases h; exact ⟨rfl, fun x hx => by cases hx⟩
  | cons x l ih =>
    obtain ⟨c, rest, rfl, ⟨c1, c2, rfl, ⟨rfl, h1⟩, rfl, h2⟩, h3⟩ := h
    obtain ⟨rfl, e3⟩ := ih h3
    refine ⟨rfl, fun y hy => ?_⟩
    rcases List.mem_cons.1 hy with rfl | hy
    · exact ⟨h1, bounds_i64 h2⟩
    · exact e3 y hy
/-- a value that is a schema, in world w, all that it leads to below block B -/
def SchAt (w : World) (B : Nat) (v : Value) (S : Sch) : Prop :=
  ∃ A0 c0 A1 c1 A2 c2 A3 c3, v = .agg #[.slice A0 S.dims.length c0, .slice A1 S.ints.length c1, .slice A2 S.nums.length c2, .slice A3 S.views.length c3] ∧
    Rd w B 2 A0 S.dims.length (dimC S.dims) ∧ Rd w B 1 A1 S.ints.length (strs S.ints) ∧ Rd w B 1 A2 S.nums.length (strs S.nums) ∧ Rd w B 1 A3 S.views.length (u32s S.views) ∧
    (S.dims.length ≤ c0 ∧ c0 ≤ maxLen) ∧ (S.ints.length ≤ c1 ∧ c1 ≤ maxLen) ∧ (S.nums.length ≤ c2 ∧ c2 ≤ maxLen) ∧ (S.views.length ≤ c3 ∧ c3 ≤ maxLen)
structure SchOk (S : Sch) : Prop where
  dims : ∀ x ∈ S.dims, x.1.size ≤ maxLen ∧ -9223372036854775808 ≤ x.2 ∧ x.2 ≤ 9223372036854775807
  ints : ∀ x ∈ S.ints, x.size ≤ maxLen
  nums : ∀ x ∈ S.nums, x.size ≤ maxLen
  views : ∀ x ∈ S.views, 0 ≤ x ∧ x ≤ 4294967295
theorem schR_at {w : World} {B : Nat} {S : Sch} {cs : Array Value} (h : schR.rep w B S cs.toList) : SchAt w B (.agg cs) S ∧ SchOk S := by
  obtain ⟨_, _, e0, ⟨A0, c0, x0, rfl, a0, b0, r0, k0⟩, _, _, rfl, ⟨A1, c1, x1, rfl, a1, b1, r1, k1⟩, _, _, rfl, ⟨A2, c2, x2, rfl, a2, b2, r2, k2⟩, A3, c3, x3, rfl, a3, b3, r3, k3⟩ := h
  obtain ⟨rfl, d0⟩ := dim_chunk k0
  obtain ⟨rfl, d1⟩ := chunk_val.1 k1
  obtain ⟨rfl, d2⟩ := chunk_val.1 k2
  obtain ⟨rfl, d3⟩ := chunk_val.1 k3
  refine ⟨⟨A0, c0, A1, c1, A2, c2, A3, c3, ?_, r0, r1, r2, r3, ⟨a0, b0⟩, ⟨a1, b1⟩, ⟨a2, b2⟩, a3, b3⟩, ⟨d0, d1, d2, fun x hx => bounds_u32 (d3 x hx)⟩⟩
  congr 1
  apply Array.ext'
  rw [e0]; rfl
set_option maxRecDepth 100000 in
theorem open_schema {H : Type} {enc : TypeId × Value → H} {w : World} {base : Nat} {spare : Nat → Bool} {held : Bool} {r : Reach} {b0 : Nat} {v : Value} {d : DataW H} {p : List MemPlace} (hv : Value.okWide Try.prog w r b0 52 v) (h : DataW.Trod enc Try.prog w base spare held 52 v d p) :
    ∃ S : Sch, SchAt w w.heap.size v S ∧ SchOk S := by
  obtain ⟨cs, rfl, hsz⟩ := okWide_struct Try.underlying52 hv
  obtain ⟨fuel, hf⟩ := h
  obtain ⟨S, hS⟩ := opens_sch H enc w base spare held fuel _ _ hf
  have : schR.rep w w.heap.size S cs.toList := by simpa [Value.cells] using hS
  exact ⟨S, schR_at this⟩
end Go.Proofs.Ytpnolgghbenekaa
