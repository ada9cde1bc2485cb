/-
  bushellaw25.TreeAsks answers true for any sheet, key and level and leaves them as they were.
  Conditions: none beyond the statement's own.
-/
import Derived.Test.YtpnolgghbenekaaFrame
import Derived.Test.YtpnolgghbenekaaLawTreeAsks
namespace Go.Proofs.Ytpnolgghbenekaa.treeAsks
open Go.ChangeShapes Go.WideShapes Go.ChangeAt Go.RowKit Go.Joins Go.Deep
open Go.ChangeMaps (open_string shut_string)
set_option linter.unusedVariables false

set_option maxRecDepth 100000 in
theorem lifted (os : Os) (started : os.Started) (H : Type) (enc : TypeId × Value → H) :
    ReturnsInHanded {} Try.checked os 4 .any (Rows.treeAsksSpec.pre6 enc Try.prog Try.f4 Rows.treeAsksRow.domain false) (Rows.treeAsksSpec.post enc Try.prog Try.f4 false true false false) := by
  refine returnsInHanded_of_change (C := Try.checked) own started (by kernel_rfl) Try.func4
    (ChangeSpec.witness6 (enc := enc) (C := Try.checked) false ⟨#[], #[.agg #[.int .i64 0, .int .u64 0, .int .u64 0, .slice none 0 0], .int .u64 0, .int .i64 0], []⟩ 8 (by kernel_rfl) (by kernel_rfl) (by kernel_rfl) (by kernel_rfl)) ?_
  intro W base args ds gs before hval0 hW hcnd _
  have hval : ∀ (j : Nat) t v, Try.f4.params[j]? = some t → args[j]? = some v → Value.okWide Try.prog W .any base t v := hval0
  have hW' := hW
  obtain ⟨p, q, hA0, hV, rfl, hfz, hnd⟩ := hW
  have hA : DataW.TrodAll enc Try.prog W 0 (fun _ => true) true Try.f4.params.toList args.toList ds p := hA0
  rw [Try.params4] at hA hval
  obtain ⟨v0, vs0, d0, ds0, p0, q0, hargs, rfl, rfl, h0, r0⟩ := trodAll_cons hA
  obtain ⟨v1, vs1, d1, ds1, p1, q1, rfl, rfl, rfl, h1, r1⟩ := trodAll_cons r0
  obtain ⟨v2, vs2, d2, ds2, p2, q2, rfl, rfl, rfl, h2, r2⟩ := trodAll_cons r1
  obtain ⟨rfl, rfl, rfl⟩ := trodAll_nil r2
  obtain rfl : args = #[v0, v1, v2] := by cases args; simp_all
  obtain ⟨rfl, rfl⟩ := trodVars_none hV
  have k0 := h0
  have lt0 : ∀ x ∈ p0, x.block < W.heap.size := by obtain ⟨m, hm⟩ := k0; exact DataW.trod_lt m _ _ _ hm
  have k1 := h1
  have lt1 : ∀ x ∈ p1, x.block < W.heap.size := by obtain ⟨m, hm⟩ := k1; exact DataW.trod_lt m _ _ _ hm
  have k2 := h2
  have lt2 : ∀ x ∈ p2, x.block < W.heap.size := by obtain ⟨m, hm⟩ := k2; exact DataW.trod_lt m _ _ _ hm
  obtain ⟨x00, x10, x20, x30, y00, y10, y20, y30, m0, rfl, _, _, hy00, hy10, hy20, hy30⟩ := open_agg4 Try.underlying38 (by kernel_rfl) (by kernel_rfl) (hval 0 38 v0 rfl rfl) h0
  obtain ⟨K0, eq00, _, wK0⟩ := DataW.trod_int Try.underlying3 hy00
  obtain ⟨z10, eq10, _, wz10⟩ := DataW.trod_int Try.underlying35 hy10
  obtain ⟨z20, eq20, _, wz20⟩ := DataW.trod_int Try.underlying35 hy20
  obtain ⟨SA0, Sn0, Sc0, Sl0, eq30, hSc0, hSm0, SR0⟩ := open_bytes1 Try.underlying36 Try.underlying5 (by kernel_rfl) hy30
  simp only [List.cons.injEq, and_true] at eq00 eq10 eq20 eq30
  subst eq00 eq10 eq20 eq30
  obtain ⟨SU0, rfl, wSU0⟩ := nat_of_u64 wz10
  obtain ⟨SV0, rfl, wSV0⟩ := nat_of_u64 wz20
  obtain rfl : Sn0 = Sl0.length := SR0.u8.symm
  obtain ⟨a1, e1, _, _, w1⟩ := open_int Try.underlying35 (hval 1 35 v1 rfl rfl) h1
  subst e1
  obtain ⟨U1, rfl, wU1⟩ := nat_of_u64 w1
  obtain ⟨a2, e2, _, _, w2⟩ := open_int Try.underlying3 (hval 2 3 v2 rfl rfl) h2
  subst e2
  clear hA0 hval0
  refine (treeAsks_all ⟨K0, SU0, SV0, Sl0⟩ SA0 Sc0 U1 a2 W SR0 hSc0 hSm0 wU1).mono fun e W' ⟨he, bel⟩ => ?_
  subst he
  exact ⟨_, rfl, _, _, _, [], _, [], hW', trodAll_mk1 (shut_bool Try.underlying4 _), (trodAll_cons_mk (Below.trod laidOut (by kernel_rfl) (of_decide_eq_true (by kernel_rfl)) k0 bel lt0) (trodAll_cons_mk (Below.trod laidOut (by kernel_rfl) (of_decide_eq_true (by kernel_rfl)) k1 bel lt1) (trodAll_cons_mk (Below.trod laidOut (by kernel_rfl) (of_decide_eq_true (by kernel_rfl)) k2 bel lt2) trodAll_mk0))), rfl, bel.frame _, fun h => by cases h⟩

theorem over : Rows.treeAsksRow.holds Try.pinned (OpenSpec.ofChange Rows.treeAsksSpec) :=
  OpenClaim.holds_of_wide 4 Try.f4 rfl rfl rfl rfl rfl rfl rfl ⟨rfl, rfl, rfl, rfl, rfl⟩ rfl rfl rfl rfl rfl (by kernel_rfl) Try.func4 (by kernel_rfl)
    (of_decide_eq_true (by kernel_rfl)) (by unfold Func.isWrapper; first | (rw [if_pos (by decide +kernel)]; kernel_rfl) | (rw [if_neg (by decide +kernel)]; exact ⟨rfl, rfl⟩))
    (fun os started H enc _ => lifted os started H enc)

theorem proved : Rows.TreeAsksSaid := over
#print axioms proved
end Go.Proofs.Ytpnolgghbenekaa.treeAsks
