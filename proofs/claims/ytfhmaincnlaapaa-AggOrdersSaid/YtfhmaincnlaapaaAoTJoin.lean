/-
  agg.wholes, agg.reals.
  What cells come to together; flo's and bushelref03's Least, Most; exact.Read as it stands in new memory.
  Schemas and cells as trees.
-/
import Derived.Deep.RegionHeldLaw
import Derived.Deep.LoopGhost
import Derived.Deep.DeepCutAuto
import Derived.Deep.RegionHeld3
import Derived.Test.YtfhmaincnlaapaaAoSy3
import Derived.Test.YtfhmaincnlaapaaAoWordMath
import Derived.Test.YtfhmaincnlaapaaAoRefRead
import Derived.Test.YtfhmaincnlaapaaAoBufOutKeep
import Derived.Test.YtfhmaincnlaapaaAoExactRead
import Derived.Test.YtfhmaincnlaapaaAoRefSame
namespace Go.Proofs.Ytfhmaincnlaapaa.Sy
open Go.ChangeShapes Go.WideShapes Go.ChangeAt Go.RowKit
set_option linter.unusedVariables false
def encI64 (z : Int) : List AV := [.v (.int .i64 z)]
def okI64 (z : Int) : Prop := (Lit.int .i64 z).wf = true
theorem enc_i64 : Enc i64R encI64 okI64 := Enc.val
def encU8 (b : UInt8) : List AV := [.v (.int .u8 (b.toNat : Int))]
def encU32n (n : Nat) : List AV := [.v (.int .u32 (n : Int))]
def encU64n (n : Nat) : List AV := [.v (.int .u64 (n : Int))]
def encF64 (b : Nat) : List AV := [.v (.float .f64 b)]
def encWh (X : WholeS) : List AV := encI64 X.sum ++ (encI64 X.abs ++ (encL encU32n X.sq ++ (encI64 X.mn ++ encI64 X.mx)))
def encRe (X : RealS) : List AV := encL encU8 X.sum ++ (encF64 X.mn ++ encF64 X.mx)
def encCl (C : CellS) : List AV := encU64n C.key ++ (encI64 C.count ++ (encL encWh C.ints ++ encL encRe C.nums))
def okWh (X : WholeS) : Prop := okI64 X.sum ∧ okI64 X.abs ∧ (∀ n ∈ X.sq, n < 4294967296) ∧ okI64 X.mn ∧ okI64 X.mx
def okRe (X : RealS) : Prop := (∀ b ∈ X.sum, True) ∧ X.mn < 18446744073709551616 ∧ X.mx < 18446744073709551616
def okCl (C : CellS) : Prop := C.key < 18446744073709551616 ∧ okI64 C.count ∧ (∀ X ∈ C.ints, okWh X) ∧ ∀ X ∈ C.nums, okRe X
theorem enc_wh : Enc wholeR encWh okWh := Enc.two enc_i64 (Enc.two enc_i64 (Enc.two (Enc.sl Enc.val) (Enc.two enc_i64 enc_i64)))
theorem enc_re : Enc realR encRe okRe := Enc.two (Enc.sl Enc.val) (Enc.two Enc.val Enc.val)
theorem enc_cl : Enc cellR encCl okCl := Enc.two Enc.val (Enc.two enc_i64 (Enc.two (Enc.sl enc_wh) (Enc.sl enc_re)))
theorem len2 {α : Type} : ∀ {l : List α}, l.length = 2 → ∃ a b, l = [a, b]
  | [a, b], _ => ⟨a, b, rfl⟩
/-! ### opened -/
theorem cell_open {E : Env} {C : CellS} {u : Value} (hF : ∀ b, E.F b → b < E.w.heap.size) (ho : okCl C) (h : Sees1 E (.agg (encCl C)) u) : ∃ A2 c2 A3 c3, u = .agg #[.int .u64 (C.key : Int), .int .i64 C.count, .slice A2 C.ints.length c2, .slice A3 C.nums.length c3] ∧ CellV E.w E.w.heap.size C A2 c2 A3 c3 := by
  obtain ⟨cs, rfl, hr⟩ := enc_cl.unsee hF rfl h ho
  obtain ⟨A2, c2, A3, c3, rfl, hv⟩ := cellR_at hr
  exact ⟨A2, c2, A3, c3, rfl, hv⟩
theorem cell_see {E : Env} {B : Nat} {C : CellS} {A2 A3 : Option Addr} {c2 c3 : Nat} (hF : ∀ b, b < B → E.F b) (hv : CellV E.w B C A2 c2 A3 c3) : Sees1 E (.agg (encCl C)) (.agg #[.int .u64 (C.key : Int), .int .i64 C.count, .slice A2 C.ints.length c2, .slice A3 C.nums.length c3]) := enc_cl.see hF (cellR_mk hv)
theorem cell_ok' {w : World} {B : Nat} {C : CellS} {A2 A3 : Option Addr} {c2 c3 : Nat} (hv : CellV w B C A2 c2 A3 c3) : okCl C := (enc_cl.fw (F := fun _ => True) (fun _ _ => trivial) (cellR_mk hv)).2
/-! ### what is known -/
theorem lightC_fn {C : CellS} (ho : okCl C) : FnOk Try.prog 32 ⟨[.agg (encCl C)], [], .v (.bool (lightC C)), []⟩ :=
  FnOk.of_calls rfl fun E vs hF hl hs => by
    obtain ⟨u, rfl⟩ : ∃ u, vs = [u] := List.length_eq_one_iff.1 hl
    obtain ⟨A2, c2, A3, c3, rfl, hv⟩ := cell_open hF ho (hs 0 _ u rfl rfl)
    exact lightC_any E.w E.w.heap.size C A2 c2 A3 c3 hv (Nat.le_refl _)
theorem same_fn {C D : CellS} (hC : okCl C) (hD : okCl D) : FnOk Try.prog 36 ⟨[.agg (encCl C), .agg (encCl D)], [], .v (.bool (sameC C D)), []⟩ :=
  FnOk.of_calls rfl fun E vs hF hl hz => by
    obtain ⟨u, x, rfl⟩ : ∃ u x, vs = [u, x] := len2 hl
    obtain ⟨A2, c2, A3, c3, rfl, hv⟩ := cell_open hF hC (hz 0 _ u rfl rfl)
    obtain ⟨B2, d2, B3, d3, rfl, hu⟩ := cell_open hF hD (hz 1 _ x rfl rfl)
    exact same14_any E.w E.w.heap.size C A2 c2 A3 c3 D B2 d2 B3 d3 hv hu (Nat.le_refl _)
end Go.Proofs.Ytfhmaincnlaapaa.Sy
namespace Go.Proofs.Ytfhmaincnlaapaa.Sy
open Go.ChangeShapes Go.WideShapes Go.ChangeAt Go.RowKit
set_option linter.unusedVariables false
set_option linter.unusedSimpArgs false
def fA (n : Nat) : AV := .v (.float .f64 n)
def leastF (a b : Nat) : Nat := if keyB b < keyB a then b else a
def mostF (a b : Nat) : Nat := if keyB a < keyB b then b else a
theorem floLess_fn {a b : Nat} (ha : a < 18446744073709551616) (hb : b < 18446744073709551616) : FnOk Try.prog 97 ⟨[fA a, fA b], [], bz (decide (keyB a < keyB b)), []⟩ :=
  FnOk.of_calls rfl fun E vs hF hl hs => by
    obtain ⟨u, v, rfl⟩ := len2 hl
    obtain ⟨rfl, _⟩ : u = .float .f64 a ∧ _ := hs 0 _ u rfl rfl
    obtain ⟨rfl, _⟩ : v = .float .f64 b ∧ _ := hs 1 _ v rfl rfl
    refine (less_flo a b E.w ha hb).mono ?_
    rintro y w' ⟨rfl, rfl⟩
    exact ⟨rfl, belR _⟩
section
variable {a b : Nat} (ha : a < 18446744073709551616) (hb : b < 18446744073709551616)
include ha hb
theorem least_fn : FnOk Try.prog 127 ⟨[fA a, fA b], [], fA (leastF a b), []⟩ := by
  have h := floLess_fn hb ha
  by_cases hk : keyB b < keyB a
  · rw [decide_eq_true hk] at h
    rw [show leastF a b = b from if_pos hk]
    refine fn_go hmo Try.func127 (by kernel_rfl) [(7, Hint.call (Inst.mk [fA b, fA a] [] (bz true) []))] [] [AV.v (Value.float FloatKind.f64 b) = AV.v (Value.float FloatKind.f64 b), AV.v (Value.float FloatKind.f64 b) = AV.v (Value.float FloatKind.f64 b) ∧ AV.v (Value.float FloatKind.f64 a) = AV.v (Value.float FloatKind.f64 a) ∧ True, FnOk Try.prog (97 : Nat) (Inst.mk [AV.v (Value.float FloatKind.f64 b), AV.v (Value.float FloatKind.f64 a)] [] (AV.v (Value.bool true)) [])] (by kernel_rfl) ?_
    ((repeat' refine And.intro ?_ ?_); (iterate 3 (with_reducible rfl)); (exact True.intro); ((show FnOk _ _ _; assumption)); (exact True.intro))
  · rw [decide_eq_false hk] at h
    rw [show leastF a b = a from if_neg hk]
    refine fn_go hmo Try.func127 (by kernel_rfl) [(7, Hint.call (Inst.mk [fA b, fA a] [] (bz false) []))] [] [AV.v (Value.float FloatKind.f64 a) = AV.v (Value.float FloatKind.f64 a), AV.v (Value.float FloatKind.f64 b) = AV.v (Value.float FloatKind.f64 b) ∧ AV.v (Value.float FloatKind.f64 a) = AV.v (Value.float FloatKind.f64 a) ∧ True, FnOk Try.prog (97 : Nat) (Inst.mk [AV.v (Value.float FloatKind.f64 b), AV.v (Value.float FloatKind.f64 a)] [] (AV.v (Value.bool false)) [])] (by kernel_rfl) ?_
    ((repeat' refine And.intro ?_ ?_); (iterate 3 (with_reducible rfl)); (exact True.intro); ((show FnOk _ _ _; assumption)); (exact True.intro))
theorem most_fn : FnOk Try.prog 128 ⟨[fA a, fA b], [], fA (mostF a b), []⟩ := by
  have h := floLess_fn ha hb
  by_cases hk : keyB a < keyB b
  · rw [decide_eq_true hk] at h
    rw [show mostF a b = b from if_pos hk]
    refine fn_go hmo Try.func128 (by kernel_rfl) [(7, Hint.call (Inst.mk [fA a, fA b] [] (bz true) []))] [] [AV.v (Value.float FloatKind.f64 b) = AV.v (Value.float FloatKind.f64 b), AV.v (Value.float FloatKind.f64 a) = AV.v (Value.float FloatKind.f64 a) ∧ AV.v (Value.float FloatKind.f64 b) = AV.v (Value.float FloatKind.f64 b) ∧ True, FnOk Try.prog (97 : Nat) (Inst.mk [AV.v (Value.float FloatKind.f64 a), AV.v (Value.float FloatKind.f64 b)] [] (AV.v (Value.bool true)) [])] (by kernel_rfl) ?_
    ((repeat' refine And.intro ?_ ?_); (iterate 3 (with_reducible rfl)); (exact True.intro); ((show FnOk _ _ _; assumption)); (exact True.intro))
  · rw [decide_eq_false hk] at h
    rw [show mostF a b = a from if_neg hk]
    refine fn_go hmo Try.func128 (by kernel_rfl) [(7, Hint.call (Inst.mk [fA a, fA b] [] (bz false) []))] [] [AV.v (Value.float FloatKind.f64 a) = AV.v (Value.float FloatKind.f64 a), AV.v (Value.float FloatKind.f64 a) = AV.v (Value.float FloatKind.f64 a) ∧ AV.v (Value.float FloatKind.f64 b) = AV.v (Value.float FloatKind.f64 b) ∧ True, FnOk Try.prog (97 : Nat) (Inst.mk [AV.v (Value.float FloatKind.f64 a), AV.v (Value.float FloatKind.f64 b)] [] (AV.v (Value.bool false)) [])] (by kernel_rfl) ?_
    ((repeat' refine And.intro ?_ ?_); (iterate 3 (with_reducible rfl)); (exact True.intro); ((show FnOk _ _ _; assumption)); (exact True.intro))
end
/-! ### exact.Read -/
theorem flags_of : ∀ x : Fin 64, flg (((x.val % 2 : Nat) : Int) == 1) 1 + flg (((x.val / 2 % 2 : Nat) : Int) == 1) 2 + flg (((x.val / 4 % 2 : Nat) : Int) == 1) 4 + flg (((x.val / 8 % 2 : Nat) : Int) == 1) 8 + flg (((x.val / 16 % 2 : Nat) : Int) == 1) 16 = x.val % 32 := by decide +kernel
theorem decS_cam {b : List UInt8} (h : hd b 0 ≤ 63) : camN (decS b) = hd b 0 - hd b 0 / 32 % 2 * 32 := by
  have e : camN (decS b) = hd b 0 % 32 := flags_of ⟨hd b 0, by omega⟩
  rw [e]; omega
theorem words_first {b : List UInt8} {n : Nat} (hn : 0 < n) : wordsE b n n = 0 → wordB b 0 ≠ 0 := by
  intro h
  have hs := words_step b n 0 hn
  rw [Nat.sub_zero, h] at hs
  intro h0
  split at hs
  · omega
  · rw [if_pos ⟨.inl rfl, h0⟩] at hs; omega
theorem magP_trim {b : List UInt8} (h : readE b = 0) : magP (wordB b) (hd b 1 + hd b 2) (hd b 2) = dgw (vw (magP (wordB b) (hd b 1 + hd b 2) (hd b 2))) ∧ (hd b 0 / 32 % 2 = 1 → vw (magP (wordB b) (hd b 1 + hd b 2) (hd b 2)) ≠ 0) ∧ hd b 0 ≤ 63 ∧ hd b 1 + hd b 2 ≤ 70 := by
  have h0 : headE b = 0 := Decidable.byContradiction fun h1 => by rw [readE_head h1] at h; exact h1 h
  have h3 : 3 ≤ b.length := Decidable.byContradiction fun h1 => by rw [readE_short h0 h1] at h; cases h
  rw [readE_words h0 h3] at h
  have hh : ¬ (63 < hd b 0 ∨ (hd b 0 / 32 % 2 = 1 ∧ hd b 0 / 16 % 2 = 0)) ∧ ¬ (70 < hd b 1 + hd b 2 ∨ (0 < hd b 2 ∧ hd b 0 / 16 % 2 = 0) ∨ (hd b 2 = 0 ∧ (0 < hd b 1 ∨ hd b 0 / 32 % 2 = 1))) := by
    unfold headE at h0
    split at h0
    · cases h0
    · split at h0
      · cases h0
      · split at h0
        · cases h0
        · constructor <;> omega
  obtain ⟨g1, g2⟩ := hh
  have hw := magP_Wd b (hd b 1 + hd b 2) (hd b 2)
  rcases Nat.eq_zero_or_pos (hd b 2) with hn | hn
  · have h1 : hd b 1 = 0 := by omega
    rw [hn, h1]
    refine ⟨?_, fun h5 => by omega, by omega, by omega⟩
    show ([] : List Nat) = dgw (vw [])
    rw [vd_nilW, dig_zeroW]
  · have hf := words_first hn h
    have hlen := magP_len (wordB b) (hd b 1 + hd b 2) (hd b 2) (by omega)
    have htop : dg (magP (wordB b) (hd b 1 + hd b 2) (hd b 2)) (hd b 1 + hd b 2 - 1) = wordB b 0 := by
      have := magP_at (wordB b) (hd b 1 + hd b 2) (hd b 2) 0 hn (by omega)
      unfold dg
      rw [List.getD_eq_getElem?_getD]
      rw [Nat.sub_zero] at this
      rw [this]; rfl
    have hts : tsz (magP (wordB b) (hd b 1 + hd b 2) (hd b 2)) = hd b 1 + hd b 2 := by
      have e := tsz_take (magP (wordB b) (hd b 1 + hd b 2) (hd b 2)) (hd b 1 + hd b 2 - 1) (by omega)
      rw [show hd b 1 + hd b 2 - 1 + 1 = (magP (wordB b) (hd b 1 + hd b 2) (hd b 2)).length by omega, List.take_length, htop, if_neg hf] at e
      omega
    have e := take_tszW _ hw
    rw [hts] at e
    rw [List.take_of_length_le (by omega)] at e
    refine ⟨e, fun _ h5 => ?_, by omega, by omega⟩
    have := (tsz_zeroW _).2 h5
    omega
theorem decS_mag {b : List UInt8} (h : readE b = 0) : wA (dgw (decS b).all.natAbs) = wA (magP (wordB b) (hd b 1 + hd b 2) (hd b 2)) ∧ decide ((decS b).all < 0) = decide (hd b 0 / 32 % 2 = 1) ∧ (decS b).all.natAbs < roomN := by
  obtain ⟨h1, h2, h3, h4⟩ := magP_trim h
  have hlen := magP_len (wordB b) (hd b 1 + hd b 2) (hd b 2) (by omega)
  have hlt := vd_ltW _ (magP_Wd b (hd b 1 + hd b 2) (hd b 2))
  rw [hlen] at hlt
  have hroom : roomN = 4294967296 ^ 70 := by unfold roomN roomK; rw [p2_mul, show (2 : Nat) ^ 32 = 4294967296 from rfl]
  have hlt2 : vw (magP (wordB b) (hd b 1 + hd b 2) (hd b 2)) < roomN := by rw [hroom]; exact Nat.lt_of_lt_of_le hlt (Nat.pow_le_pow_right (by decide) h4)
  have hall : (decS b).all = if hd b 0 / 32 = 1 then -((vw (magP (wordB b) (hd b 1 + hd b 2) (hd b 2)) : Nat) : Int) else ((vw (magP (wordB b) (hd b 1 + hd b 2) (hd b 2)) : Nat) : Int) := rfl
  have habs : (decS b).all.natAbs = vw (magP (wordB b) (hd b 1 + hd b 2) (hd b 2)) := by rw [hall]; split <;> omega
  refine ⟨by rw [habs, ← h1], ?_, by rw [habs]; exact hlt2⟩
  rw [decide_eq_decide, hall]
  by_cases hn : hd b 0 / 32 = 1
  · have := h2 (by omega)
    rw [if_pos hn]; omega
  · rw [if_neg hn]; omega
theorem exRead_no {b : List UInt8} {e : Nat} (hb : b.length ≤ 4611686018427387904) (he : readE b = e) : FnOk Try.prog 96 ⟨[bytT b], [], .tup [.junk, iz (e : Nat)], []⟩ := by
  intro M w0 E vs hob hm hl hs
  obtain ⟨u, rfl⟩ : ∃ u, vs = [u] := List.length_eq_one_iff.1 hl
  obtain ⟨A, c, rfl, hR⟩ := bytes_open hm.fz (hs 0 _ u rfl rfl)
  refine (read_any E.w E.w.heap.size A c b hR (Nat.le_refl _) (by omega)).mono ?_
  rintro y w' ⟨p, rfl, _, hbel⟩
  obtain ⟨h1, h2⟩ := hm.grow hbel E.F (fun b hb => .inl hb) (fun b hb => hb)
  refine ⟨⟨w', E.F, E.β, E.ν, E.ob⟩, .tuple #[p, .int .i64 (readE b : Int)], rfl, rfl, hob, h1, h2, [p, .int .i64 (readE b : Int)], rfl, rfl, fun j y v hy hv => ?_⟩
  match j, hy, hv with
  | 0, hy, hv => injection hy with hy; subst hy; exact trivial
  | 1, hy, hv => injection hy with hy; injection hv with hv; subst hy; subst hv; rw [he]; exact ⟨rfl, rfl⟩
  | j + 2, hy, hv => simp at hy
theorem exRead_ok {b : List UInt8} (hb : b.length ≤ 4611686018427387904) (h0 : readE b = 0) (q : Nat) : FnOk Try.prog 96 ⟨[bytT b], [], .tup [.ptr q 0, iz 0], [exO q (camN (decS b) : Nat) (decS b).all]⟩ := by
  intro M w0 E vs hob hm hl hs
  obtain ⟨u, rfl⟩ : ∃ u, vs = [u] := List.length_eq_one_iff.1 hl
  obtain ⟨A, c, rfl, hR⟩ := bytes_open hm.fz (hs 0 _ u rfl rfl)
  refine (read_any E.w E.w.heap.size A c b hR (Nat.le_refl _) (by omega)).mono ?_
  rintro y w' ⟨p, rfl, hat, hbel⟩
  obtain ⟨g, gm, rfl, hg, hgm, hne, hk1, hk2⟩ := hat h0
  obtain ⟨m1, m2, m3⟩ := decS_mag h0
  obtain ⟨_, _, t3, t4⟩ := magP_trim h0
  have hlen := magP_len (wordB b) (hd b 1 + hd b 2) (hd b 2) (by omega)
  have hcam := decS_cam t3
  have hsz : ∀ {n : Nat} {t : TypeId} {cs : Array Value}, Blk w' n t cs → n < w'.heap.size := fun {n t cs} hk => by
    unfold Blk at hk
    rcases Nat.lt_or_ge n w'.heap.size with h1 | h1
    · exact h1
    · rw [Array.getElem?_eq_none h1] at hk; cases hk
  let E' : Env := ⟨w', fun x => E.F x ∨ (E.w.heap.size ≤ x ∧ x < w'.heap.size ∧ x ≠ g), fun o => if o = q then g else E.β o, E.ν, lo [exO q (camN (decS b) : Nat) (decS b).all]⟩
  have hobn : ∀ o, E.ob o = none := fun o => by rw [hob]; rfl
  have hobq : E'.ob q = some (exO q (camN (decS b) : Nat) (decS b).all).2 := lo_eq _ _ _
  have hob' : ∀ o, o ≠ q → E'.ob o = none := fun o ho => by show lo [exO q _ _] o = none; unfold exO; rw [lo_ne _ _ ho]; rfl
  have hbkq : bk E' q = some g := by unfold bk; rw [hobq]; show some (if q = q then g else E.β q) = _; rw [if_pos rfl]
  have hrep : Rep w' E'.F (wA (dgw (decS b).all.natAbs)) (.slice (some ⟨gm, 0, none⟩) (hd b 1 + hd b 2) (hd b 1 + hd b 2)) := by
    rw [m1]
    unfold wA
    rw [hlen]
    rcases Nat.eq_zero_or_pos (hd b 1 + hd b 2) with hz | hz
    · have hnil := List.eq_nil_of_length_eq_zero (hlen.trans hz)
      rw [hnil, hz]
      exact .nil _ _ (Nat.zero_le _)
    · refine .lst _ _ _ _ (Go.Proofs.Ytfhmaincnlaapaa.u32n (magP (wordB b) (hd b 1 + hd b 2) (hd b 2))) hz (Nat.le_refl _) (by simp [maxLen]; omega) (.inr ⟨hgm, hsz hk2, fun h => hne h.symm⟩) (by simp [Go.Proofs.Ytfhmaincnlaapaa.u32n, wL_len, hlen]) (fun u hu => ?_) (fun j u hj => ?_) (fun j x u hx hu => ?_)
      · obtain ⟨z, _, rfl⟩ := List.mem_map.1 hu; rfl
      · have := hk2.cell (i := j)
        rw [add_at]
        rw [this]
        simpa using hj
      · unfold wL at hx
        rw [List.getElem?_map] at hx
        unfold Go.Proofs.Ytfhmaincnlaapaa.u32n at hu
        rw [List.getElem?_map] at hu
        cases hz2 : (magP (wordB b) (hd b 1 + hd b 2) (hd b 2))[j]? with
        | none => rw [hz2] at hx; cases hx
        | some d =>
          rw [hz2] at hx hu
          injection hx with hx; injection hu with hu; subst hx; subst hu
          exact .v _ rfl
  obtain ⟨hm', haf⟩ := hm.step (E' := E') (· = q) hbel.os hbel.tape hbel.output hbel.size (fun x hx _ => hbel.block x hx) (fun x hx => .inl hx)
    (fun x hx => by
      rcases hx with hx | ⟨h1, h2, _⟩
      · exact .inl hx
      · exact .inr ⟨h2, .inl h1⟩)
    (fun o ho => ⟨(hob' o ho).trans (hobn o).symm, if_neg ho, rfl⟩)
    (fun o ho h1 => absurd (hobn o) h1)
    (fun _ o x ho hx => by
      subst ho
      rw [hobq] at hx; injection hx with hx; subst hx
      refine ⟨[.bool true, .int .u8 ((hd b 0 - hd b 0 / 32 % 2 * 32 : Nat) : Int), .bool (decide (hd b 0 / 32 % 2 = 1)), .slice (some ⟨gm, 0, none⟩) (hd b 1 + hd b 2) (hd b 1 + hd b 2)], by show Blk w' (if o = o then g else E.β o) _ _; rw [if_pos rfl]; exact hk1, leafs_rep (E := E') ?_⟩
      rw [hcam, m2]
      exact (RepL.one.2 (.v _ rfl)).app (a := [_]) ((RepL.one.2 (.v _ rfl)).app (a := [_]) ((RepL.one.2 (.v _ rfl)).app (a := [_]) (RepL.one.2 hrep))))
    (fun o x ho hx => by
      subst ho
      rw [hbkq] at hx; injection hx with hx; subst hx
      refine ⟨fun hf => ?_, hsz hk1, .inl hg⟩
      rcases hf with hf | ⟨_, _, hf⟩
      · have := hm.fz _ hf; omega
      · exact hf rfl)
    (fun o o' x ho ho' _ _ => by rw [ho, ho'])
  refine ⟨E', .tuple #[.pointer (some ⟨g, 0, none⟩), .int .i64 (readE b : Int)], rfl, rfl, rfl, hm', haf, [.pointer (some ⟨g, 0, none⟩), .int .i64 (readE b : Int)], rfl, rfl, fun j y v hy hv => ?_⟩
  match j, hy, hv with
  | 0, hy, hv =>
    injection hy with hy; injection hv with hv; subst hy; subst hv
    refine ⟨by rw [hobq]; simp, fun t cs hh => ?_⟩
    show _ = Value.pointer (some ⟨if q = q then g else E.β q, 0, none⟩)
    rw [if_pos rfl]
  | 1, hy, hv => injection hy with hy; injection hv with hv; subst hy; subst hv; rw [h0]; exact ⟨rfl, rfl⟩
  | j + 2, hy, hv => simp at hy
end Go.Proofs.Ytfhmaincnlaapaa.Sy
namespace Go.Proofs.Ytfhmaincnlaapaa.Sy
open Go.ChangeShapes Go.WideShapes Go.ChangeAt Go.RowKit
set_option linter.unusedVariables false
set_option linter.unusedSimpArgs false
def wholeA (X : WholeS) : AV := .agg [iz X.sum, iz X.abs, wA X.sq, iz X.mn, iz X.mx]
def realA (X : RealS) : AV := .agg [bytT X.sum, fA X.mn, fA X.mx]
def noW : WholeS := ⟨0, 0, [], 0, 0⟩
def noR : RealS := ⟨[], 0, 0⟩
structure OkW (X : WholeS) : Prop where
  sum : I64 X.sum
  abs : I64 X.abs
  sq : Wd X.sq
  len : X.sq.length ≤ 1000
  mn : I64 X.mn
  mx : I64 X.mx
structure OkR (X : RealS) : Prop where
  len : X.sum.length ≤ 1000
  mn : X.mn < 18446744073709551616
  mx : X.mx < 18446744073709551616
def joinW (x y : WholeS) : Option WholeS := if (addW x.sum y.sum).2 = true ∧ (addW x.abs y.abs).2 = true then some ⟨(addW x.sum y.sum).1, (addW x.abs y.abs).1, dgw (vw x.sq + vw y.sq), min x.mn y.mn, max x.mx y.mx⟩ else none
theorem wholes_fn {x y : WholeS} (hx : OkW x) (hy : OkW y) : FnOk Try.prog 67 ⟨[wholeA x, wholeA y], [], .tup (match joinW x y with | some z => [wholeA z, iz 0] | none => [wholeA noW, iz 10]), []⟩ := by
  have h1 := wadd_ok hx.sum hy.sum
  have h2 := wadd_ok hx.abs hy.abs
  have h3 := add_ok hx.sq hy.sq (by have := hx.len; omega) (by have := hy.len; omega)
  cases e1 : (addW x.sum y.sum).2 with
  | false =>
    rw [show joinW x y = none by unfold joinW; rw [e1]; simp]
    rw [e1] at h1
    refine fn_go hmo Try.func67 (by kernel_rfl) [(15, Hint.call (Inst.mk [iz x.sum, iz y.sum] [] (AV.tup [iz (addW x.sum y.sum).fst, bz false]) [])), (23, Hint.call (Inst.mk [iz x.abs, iz y.abs] [] (AV.tup [iz (addW x.abs y.abs).fst, bz (addW x.abs y.abs).snd]) []))] [] [[AV.v (Value.int IntKind.i64 (0 : Int)), AV.v (Value.int IntKind.i64 (0 : Int)), AV.lst (0 : Nat) [], AV.v (Value.int IntKind.i64 (0 : Int)), AV.v (Value.int IntKind.i64 (0 : Int))] = [AV.v (Value.int IntKind.i64 noW.sum), AV.v (Value.int IntKind.i64 noW.abs), AV.lst (0 : Nat) [], AV.v (Value.int IntKind.i64 noW.mn), AV.v (Value.int IntKind.i64 noW.mx)] ∧ (10 : Int) = (10 : Int) ∧ True, x.sum = x.sum ∧ y.sum = y.sum ∧ True, FnOk Try.prog (66 : Nat) (Inst.mk [AV.v (Value.int IntKind.i64 x.sum), AV.v (Value.int IntKind.i64 y.sum)] [] (AV.tup [AV.v (Value.int IntKind.i64 (addW x.sum y.sum).fst), AV.v (Value.bool false)]) []), x.abs = x.abs ∧ y.abs = y.abs ∧ True, FnOk Try.prog (66 : Nat) (Inst.mk [AV.v (Value.int IntKind.i64 x.abs), AV.v (Value.int IntKind.i64 y.abs)] [] (AV.tup [AV.v (Value.int IntKind.i64 (addW x.abs y.abs).fst), AV.v (Value.bool (addW x.abs y.abs).snd)]) [])] (by kernel_rfl) ?_
    ((repeat' refine And.intro ?_ ?_); (exact rfl); (with_reducible rfl); (exact True.intro); (iterate 2 (with_reducible rfl)); (exact True.intro); ((show FnOk _ _ _; assumption)); (iterate 2 (with_reducible rfl)); (exact True.intro); ((show FnOk _ _ _; assumption)); (exact True.intro))
  | true =>
    rw [e1] at h1
    cases e2 : (addW x.abs y.abs).2 with
    | false =>
      rw [show joinW x y = none by unfold joinW; rw [e2]; simp]
      rw [e2] at h2
      refine fn_go hmo Try.func67 (by kernel_rfl) [(15, Hint.call (Inst.mk [iz x.sum, iz y.sum] [] (AV.tup [iz (addW x.sum y.sum).fst, bz true]) [])), (23, Hint.call (Inst.mk [iz x.abs, iz y.abs] [] (AV.tup [iz (addW x.abs y.abs).fst, bz false]) []))] [] [[AV.v (Value.int IntKind.i64 (0 : Int)), AV.v (Value.int IntKind.i64 (0 : Int)), AV.lst (0 : Nat) [], AV.v (Value.int IntKind.i64 (0 : Int)), AV.v (Value.int IntKind.i64 (0 : Int))] = [AV.v (Value.int IntKind.i64 noW.sum), AV.v (Value.int IntKind.i64 noW.abs), AV.lst (0 : Nat) [], AV.v (Value.int IntKind.i64 noW.mn), AV.v (Value.int IntKind.i64 noW.mx)] ∧ (10 : Int) = (10 : Int) ∧ True, x.sum = x.sum ∧ y.sum = y.sum ∧ True, FnOk Try.prog (66 : Nat) (Inst.mk [AV.v (Value.int IntKind.i64 x.sum), AV.v (Value.int IntKind.i64 y.sum)] [] (AV.tup [AV.v (Value.int IntKind.i64 (addW x.sum y.sum).fst), AV.v (Value.bool true)]) []), x.abs = x.abs ∧ y.abs = y.abs ∧ True, FnOk Try.prog (66 : Nat) (Inst.mk [AV.v (Value.int IntKind.i64 x.abs), AV.v (Value.int IntKind.i64 y.abs)] [] (AV.tup [AV.v (Value.int IntKind.i64 (addW x.abs y.abs).fst), AV.v (Value.bool false)]) [])] (by kernel_rfl) ?_
      ((repeat' refine And.intro ?_ ?_); (exact rfl); (with_reducible rfl); (exact True.intro); (iterate 2 (with_reducible rfl)); (exact True.intro); ((show FnOk _ _ _; assumption)); (iterate 2 (with_reducible rfl)); (exact True.intro); ((show FnOk _ _ _; assumption)); (exact True.intro))
    | true =>
      rw [show joinW x y = some ⟨(addW x.sum y.sum).1, (addW x.abs y.abs).1, dgw (vw x.sq + vw y.sq), min x.mn y.mn, max x.mx y.mx⟩ from if_pos ⟨e1, e2⟩]
      rw [e2] at h2
      refine fn_go hmo Try.func67 (by kernel_rfl) [(15, Hint.call (Inst.mk [iz x.sum, iz y.sum] [] (AV.tup [iz (addW x.sum y.sum).fst, bz true]) [])), (23, Hint.call (Inst.mk [iz x.abs, iz y.abs] [] (AV.tup [iz (addW x.abs y.abs).fst, bz true]) [])), (39, Hint.call (Inst.mk [wA x.sq, wA y.sq] [] (wA (dgw (vw x.sq + vw y.sq))) [])), (44, Hint.val (AV.v (Value.int IntKind.i64 (min x.mn y.mn)))), (49, Hint.val (AV.v (Value.int IntKind.i64 (max x.mx y.mx))))] [] [[AV.v (Value.int IntKind.i64 (addW x.sum y.sum).fst), AV.v (Value.int IntKind.i64 (addW x.abs y.abs).fst), AV.lst (dgw (vw x.sq + vw y.sq)).length (wL (dgw (vw x.sq + vw y.sq))), AV.v (Value.int IntKind.i64 (min x.mn y.mn)), AV.v (Value.int IntKind.i64 (max x.mx y.mx))] = [AV.v (Value.int IntKind.i64 (WholeS.mk (addW x.sum y.sum).fst (addW x.abs y.abs).fst (dgw (vw x.sq + vw y.sq)) (min x.mn y.mn) (max x.mx y.mx)).sum), AV.v (Value.int IntKind.i64 (WholeS.mk (addW x.sum y.sum).fst (addW x.abs y.abs).fst (dgw (vw x.sq + vw y.sq)) (min x.mn y.mn) (max x.mx y.mx)).abs), AV.lst (WholeS.mk (addW x.sum y.sum).fst (addW x.abs y.abs).fst (dgw (vw x.sq + vw y.sq)) (min x.mn y.mn) (max x.mx y.mx)).sq.length (wL (WholeS.mk (addW x.sum y.sum).fst (addW x.abs y.abs).fst (dgw (vw x.sq + vw y.sq)) (min x.mn y.mn) (max x.mx y.mx)).sq), AV.v (Value.int IntKind.i64 (WholeS.mk (addW x.sum y.sum).fst (addW x.abs y.abs).fst (dgw (vw x.sq + vw y.sq)) (min x.mn y.mn) (max x.mx y.mx)).mn), AV.v (Value.int IntKind.i64 (WholeS.mk (addW x.sum y.sum).fst (addW x.abs y.abs).fst (dgw (vw x.sq + vw y.sq)) (min x.mn y.mn) (max x.mx y.mx)).mx)] ∧ (0 : Int) = (0 : Int) ∧ True, x.sum = x.sum ∧ y.sum = y.sum ∧ True, FnOk Try.prog (66 : Nat) (Inst.mk [AV.v (Value.int IntKind.i64 x.sum), AV.v (Value.int IntKind.i64 y.sum)] [] (AV.tup [AV.v (Value.int IntKind.i64 (addW x.sum y.sum).fst), AV.v (Value.bool true)]) []), x.abs = x.abs ∧ y.abs = y.abs ∧ True, FnOk Try.prog (66 : Nat) (Inst.mk [AV.v (Value.int IntKind.i64 x.abs), AV.v (Value.int IntKind.i64 y.abs)] [] (AV.tup [AV.v (Value.int IntKind.i64 (addW x.abs y.abs).fst), AV.v (Value.bool true)]) []), (x.sq.length = x.sq.length ∧ wL x.sq = wL x.sq) ∧ (y.sq.length = y.sq.length ∧ wL y.sq = wL y.sq) ∧ True, FnOk Try.prog (125 : Nat) (Inst.mk [AV.lst x.sq.length (wL x.sq), AV.lst y.sq.length (wL y.sq)] [] (AV.lst (dgw (vw x.sq + vw y.sq)).length (wL (dgw (vw x.sq + vw y.sq)))) []), (bif false then if x.mn < y.mn then y.mn else x.mn else if y.mn < x.mn then y.mn else x.mn) = min x.mn y.mn, (bif true then if x.mx < y.mx then y.mx else x.mx else if y.mx < x.mx then y.mx else x.mx) = max x.mx y.mx] (by kernel_rfl) ?_
      ((repeat' refine And.intro ?_ ?_); (iterate 2 (with_reducible rfl)); (exact True.intro); (iterate 2 (with_reducible rfl)); (exact True.intro); ((show FnOk _ _ _; assumption)); (iterate 2 (with_reducible rfl)); (exact True.intro); ((show FnOk _ _ _; assumption)); (iterate 4 (with_reducible rfl)); (exact True.intro); ((show FnOk _ _ _; assumption)); (iterate 2 ((simp only [cond_true, cond_false]; split <;> omega))); (exact True.intro))
/-! ### reals -/
theorem orCam : ∀ a b c d e a' b' c' d' e' : Bool, orU8 ((flg a 1 + flg b 2 + flg c 4 + flg d 8 + flg e 16 : Nat) : Int) ((flg a' 1 + flg b' 2 + flg c' 4 + flg d' 8 + flg e' 16 : Nat) : Int) = ((flg (a || a') 1 + flg (b || b') 2 + flg (c || c') 4 + flg (d || d') 8 + flg (e || e') 16 : Nat) : Int) := by decide +kernel
theorem exJoinS_ok {s o : SumS} (hs : s.all.natAbs < roomN) (ho : o.all.natAbs < roomN) : FnOk Try.prog 126 ⟨[.ptr 1000 0, .ptr 1001 0], [exO 1000 (camN s : Nat) s.all, exO 1001 (camN o : Nat) o.all], bz (joinS s o).2, [exO 1000 (camN (joinS s o).1 : Nat) (joinS s o).1.all, exO 1001 (camN o : Nat) o.all]⟩ := by
  have h := exJoin_ok (camN s : Nat) (camN o : Nat) s.all o.all hs ho
  by_cases hr : (s.all + o.all).natAbs < roomN
  · rw [if_pos hr, decide_eq_true hr] at h
    rw [show joinS s o = (⟨s.none || o.none, s.up || o.up, s.down || o.down, s.minus || o.minus, s.plus || o.plus, s.all + o.all⟩, true) from if_pos hr]
    have e : orU8 ((camN s : Nat) : Int) ((camN o : Nat) : Int) = ((camN ⟨s.none || o.none, s.up || o.up, s.down || o.down, s.minus || o.minus, s.plus || o.plus, s.all + o.all⟩ : Nat) : Int) := orCam ..
    rw [e] at h
    exact h
  · rw [if_neg hr, decide_eq_false hr] at h
    rw [show joinS s o = (s, false) from if_neg hr]
    exact h
theorem joinS_room {s o : SumS} (hs : s.all.natAbs < roomN) : (joinS s o).1.all.natAbs < roomN := by
  unfold joinS; split
  · assumption
  · exact hs
/-- what two real measures come to: 0, or why not -/
def joinR (x y : RealS) : RealS × Nat := if readE x.sum ≠ 0 ∨ readE y.sum ≠ 0 then (noR, 13) else if (joinS (decS x.sum) (decS y.sum)).2 = true then (⟨encS (joinS (decS x.sum) (decS y.sum)).1, leastF x.mn y.mn, mostF x.mx y.mx⟩, 0) else (noR, 10)
theorem reals_fn {x y : RealS} (hx : OkR x) (hy : OkR y) : FnOk Try.prog 68 ⟨[realA x, realA y], [], .tup [realA (joinR x y).1, iz ((joinR x y).2 : Nat)], []⟩ := by
  have lx := hx.len
  have ly := hy.len
  by_cases he : readE x.sum ≠ 0 ∨ readE y.sum ≠ 0
  · rw [show joinR x y = (noR, 13) from if_pos he]
    obtain ⟨e, e1⟩ : ∃ e, readE x.sum = e := ⟨_, rfl⟩
    obtain ⟨f, f1⟩ : ∃ f, readE y.sum = f := ⟨_, rfl⟩
    rw [e1, f1] at he
    have h1 := exRead_no (by omega) e1
    have h2 := exRead_no (by omega) f1
    refine fn_go hmo Try.func68 (by kernel_rfl) [(13, Hint.call (Inst.mk [bytT x.sum] [] (AV.tup [AV.junk, iz (↑e : Int)]) [])), (19, Hint.call (Inst.mk [bytT y.sum] [] (AV.tup [AV.junk, iz (↑f : Int)]) [])), (25, Hint.gd), (26, Hint.gd), (27, Hint.gdv (AV.v (Value.bool true)))] [] [[AV.lst (0 : Nat) [], AV.v (Value.float FloatKind.f64 (0 : Nat)), AV.v (Value.float FloatKind.f64 (0 : Nat))] = [AV.lst (0 : Nat) [], AV.v (Value.float FloatKind.f64 (0 : Nat)), AV.v (Value.float FloatKind.f64 (0 : Nat))] ∧ (13 : Int) = (↑(13 : Nat) : Int) ∧ True, (x.sum.length = x.sum.length ∧ byL x.sum = byL x.sum) ∧ True, FnOk Try.prog (96 : Nat) (Inst.mk [AV.lst x.sum.length (byL x.sum)] [] (AV.tup [AV.junk, AV.v (Value.int IntKind.i64 (↑e : Int))]) []), (y.sum.length = y.sum.length ∧ byL y.sum = byL y.sum) ∧ True, FnOk Try.prog (96 : Nat) (Inst.mk [AV.lst y.sum.length (byL y.sum)] [] (AV.tup [AV.junk, AV.v (Value.int IntKind.i64 (↑f : Int))]) []), (((↑e : Int) != (0 : Int)) == false) = true → true = true, (((↑e : Int) != (0 : Int)) == false) = true → (((↑e : Int) != (0 : Int)) == false, AV.v (Value.int IntKind.i64 (↑f : Int))).fst = true, (bif (↑e : Int) != (0 : Int) then true else (↑f : Int) != (0 : Int)) = true, true = true → true = true ∧ (((↑e : Int) != (0 : Int)) = true → true = true) ∧ (((↑e : Int) != (0 : Int)) = false → (((↑e : Int) != (0 : Int)) == false, AV.v (Value.bool ((↑f : Int) != (0 : Int)))).fst = true)] (by kernel_rfl) ?_
    ((repeat' refine And.intro ?_ ?_); (with_reducible rfl); (omega); (exact True.intro); (iterate 2 (with_reducible rfl)); (exact True.intro); ((show FnOk _ _ _; assumption)); (iterate 2 (with_reducible rfl)); (exact True.intro); ((show FnOk _ _ _; assumption)); (exact (fun (_ : (_ : Bool) = true) => rfl)); (exact (fun (h : (_ : Bool) = true) => h)); (iterate 2 ((simp only [Bool.or_eq_true, Bool.and_eq_true, Bool.or_eq_false_iff, Bool.and_eq_false_iff, Bool.not_eq_true', Bool.not_eq_false', decide_eq_true_eq, decide_eq_false_iff_not, beq_iff_eq, beq_eq_false_iff_ne, bne_iff_ne, bne_eq_false_iff_eq, ne_eq, ← decide_not, decide_eq_decide, Bool.cond_true_left, Bool.cond_false_right, reduceCtorEq, or_false, false_or, and_true, true_and, implies_true, Bool.false_or, Bool.or_false, Bool.true_or, Bool.or_true, Bool.and_false, Bool.false_and, Bool.and_true, Bool.true_and]; omega))); (exact True.intro))
  · have e1 : readE x.sum = 0 := by omega
    have f1 : readE y.sum = 0 := by omega
    have h1 := exRead_ok (b := x.sum) (by omega) e1 1000
    have h2 := exRead_ok (b := y.sum) (by omega) f1 1001
    obtain ⟨_, _, r1⟩ := decS_mag e1
    obtain ⟨_, _, r2⟩ := decS_mag f1
    have h3 := exJoinS_ok r1 r2
    have hj : joinR x y = if (joinS (decS x.sum) (decS y.sum)).2 = true then (⟨encS (joinS (decS x.sum) (decS y.sum)).1, leastF x.mn y.mn, mostF x.mx y.mx⟩, 0) else (noR, 10) := if_neg he
    have hroom := joinS_room (o := decS y.sum) r1
    cases hz : (joinS (decS x.sum) (decS y.sum)).2 with
    | false =>
      rw [hj, hz, if_neg (by simp)]
      rw [hz] at h3
      refine fn_go hmo Try.func68 (by kernel_rfl) [(13, Hint.call (Inst.mk [bytT x.sum] [] (AV.tup [AV.ptr (1000 : Nat) (0 : Nat), iz (0 : Int)]) [exO (1000 : Nat) (↑(camN (decS x.sum)) : Int) (decS x.sum).all])), (19, Hint.call (Inst.mk [bytT y.sum] [] (AV.tup [AV.ptr (1001 : Nat) (0 : Nat), iz (0 : Int)]) [exO (1001 : Nat) (↑(camN (decS y.sum)) : Int) (decS y.sum).all])), (31, Hint.call (Inst.mk [AV.ptr (1000 : Nat) (0 : Nat), AV.ptr (1001 : Nat) (0 : Nat)] [exO (1000 : Nat) (↑(camN (decS x.sum)) : Int) (decS x.sum).all, exO (1001 : Nat) (↑(camN (decS y.sum)) : Int) (decS y.sum).all] (bz false) [exO (1000 : Nat) (↑(camN (joinS (decS x.sum) (decS y.sum)).fst) : Int) (joinS (decS x.sum) (decS y.sum)).fst.all, exO (1001 : Nat) (↑(camN (decS y.sum)) : Int) (decS y.sum).all]))] [] [[AV.lst (0 : Nat) [], AV.v (Value.float FloatKind.f64 (0 : Nat)), AV.v (Value.float FloatKind.f64 (0 : Nat))] = [AV.lst (0 : Nat) [], AV.v (Value.float FloatKind.f64 (0 : Nat)), AV.v (Value.float FloatKind.f64 (0 : Nat))] ∧ (10 : Int) = (↑(10 : Nat) : Int) ∧ True, (x.sum.length = x.sum.length ∧ byL x.sum = byL x.sum) ∧ True, FnOk Try.prog (96 : Nat) (Inst.mk [AV.lst x.sum.length (byL x.sum)] [] (AV.tup [AV.ptr (1000 : Nat) (0 : Nat), AV.v (Value.int IntKind.i64 (0 : Int))]) [((1000 : Nat), AObj.cells (196 : TypeId) [AV.v (Value.bool true), AV.v (Value.int IntKind.u8 (↑(camN (decS x.sum)) : Int)), AV.v (Value.bool (decide ((decS x.sum).all < (0 : Int)))), AV.lst (dgw (decS x.sum).all.natAbs).length (wL (dgw (decS x.sum).all.natAbs))])]), (y.sum.length = y.sum.length ∧ byL y.sum = byL y.sum) ∧ True, FnOk Try.prog (96 : Nat) (Inst.mk [AV.lst y.sum.length (byL y.sum)] [] (AV.tup [AV.ptr (1001 : Nat) (0 : Nat), AV.v (Value.int IntKind.i64 (0 : Int))]) [((1001 : Nat), AObj.cells (196 : TypeId) [AV.v (Value.bool true), AV.v (Value.int IntKind.u8 (↑(camN (decS y.sum)) : Int)), AV.v (Value.bool (decide ((decS y.sum).all < (0 : Int)))), AV.lst (dgw (decS y.sum).all.natAbs).length (wL (dgw (decS y.sum).all.natAbs))])]), ((1000 : Nat) = (1000 : Nat) ∧ (0 : Nat) = (0 : Nat)) ∧ ((1001 : Nat) = (1001 : Nat) ∧ (0 : Nat) = (0 : Nat)) ∧ True, FnOk Try.prog (126 : Nat) (Inst.mk [AV.ptr (1000 : Nat) (0 : Nat), AV.ptr (1001 : Nat) (0 : Nat)] [((1000 : Nat), AObj.cells (196 : TypeId) [AV.v (Value.bool true), AV.v (Value.int IntKind.u8 (↑(camN (decS x.sum)) : Int)), AV.v (Value.bool (decide ((decS x.sum).all < (0 : Int)))), AV.lst (dgw (decS x.sum).all.natAbs).length (wL (dgw (decS x.sum).all.natAbs))]), ((1001 : Nat), AObj.cells (196 : TypeId) [AV.v (Value.bool true), AV.v (Value.int IntKind.u8 (↑(camN (decS y.sum)) : Int)), AV.v (Value.bool (decide ((decS y.sum).all < (0 : Int)))), AV.lst (dgw (decS y.sum).all.natAbs).length (wL (dgw (decS y.sum).all.natAbs))])] (AV.v (Value.bool false)) [((1000 : Nat), AObj.cells (196 : TypeId) [AV.v (Value.bool true), AV.v (Value.int IntKind.u8 (↑(camN (joinS (decS x.sum) (decS y.sum)).fst) : Int)), AV.v (Value.bool (decide ((joinS (decS x.sum) (decS y.sum)).fst.all < (0 : Int)))), AV.lst (dgw (joinS (decS x.sum) (decS y.sum)).fst.all.natAbs).length (wL (dgw (joinS (decS x.sum) (decS y.sum)).fst.all.natAbs))]), ((1001 : Nat), AObj.cells (196 : TypeId) [AV.v (Value.bool true), AV.v (Value.int IntKind.u8 (↑(camN (decS y.sum)) : Int)), AV.v (Value.bool (decide ((decS y.sum).all < (0 : Int)))), AV.lst (dgw (decS y.sum).all.natAbs).length (wL (dgw (decS y.sum).all.natAbs))])]), [AV.v (Value.bool true), AV.v (Value.int IntKind.u8 (↑(camN (decS x.sum)) : Int)), AV.v (Value.bool (decide ((decS x.sum).all < (0 : Int)))), AV.lst (dgw (decS x.sum).all.natAbs).length (wL (dgw (decS x.sum).all.natAbs))] = [AV.v (Value.bool true), AV.v (Value.int IntKind.u8 (↑(camN (decS x.sum)) : Int)), AV.v (Value.bool (decide ((decS x.sum).all < (0 : Int)))), AV.lst (dgw (decS x.sum).all.natAbs).length (wL (dgw (decS x.sum).all.natAbs))], [AV.v (Value.bool true), AV.v (Value.int IntKind.u8 (↑(camN (decS y.sum)) : Int)), AV.v (Value.bool (decide ((decS y.sum).all < (0 : Int)))), AV.lst (dgw (decS y.sum).all.natAbs).length (wL (dgw (decS y.sum).all.natAbs))] = [AV.v (Value.bool true), AV.v (Value.int IntKind.u8 (↑(camN (decS y.sum)) : Int)), AV.v (Value.bool (decide ((decS y.sum).all < (0 : Int)))), AV.lst (dgw (decS y.sum).all.natAbs).length (wL (dgw (decS y.sum).all.natAbs))]] (by kernel_rfl) ?_
      ((repeat' refine And.intro ?_ ?_); (with_reducible rfl); (omega); (exact True.intro); (iterate 2 (with_reducible rfl)); (exact True.intro); ((show FnOk _ _ _; assumption)); (iterate 2 (with_reducible rfl)); (exact True.intro); ((show FnOk _ _ _; assumption)); (iterate 4 (with_reducible rfl)); (exact True.intro); ((show FnOk _ _ _; assumption)); (iterate 2 (with_reducible rfl)); (exact True.intro))
    | true =>
      rw [hj, hz, if_pos rfl]
      rw [hz] at h3
      have h4 := exBytes_ok (joinS (decS x.sum) (decS y.sum)).1 hroom
      have h5 := least_fn hx.mn hy.mn
      have h6 := most_fn hx.mx hy.mx
      clear hj hroom r1 r2
      obtain ⟨z, hzz⟩ : ∃ z, (joinS (decS x.sum) (decS y.sum)).1 = z := ⟨_, rfl⟩
      rw [hzz] at h3 h4 ⊢
      clear hz hzz
      refine fn_go hmo Try.func68 (by kernel_rfl) [(13, Hint.call (Inst.mk [bytT x.sum] [] (AV.tup [AV.ptr (1000 : Nat) (0 : Nat), iz (0 : Int)]) [exO (1000 : Nat) (↑(camN (decS x.sum)) : Int) (decS x.sum).all])), (19, Hint.call (Inst.mk [bytT y.sum] [] (AV.tup [AV.ptr (1001 : Nat) (0 : Nat), iz (0 : Int)]) [exO (1001 : Nat) (↑(camN (decS y.sum)) : Int) (decS y.sum).all])), (31, Hint.call (Inst.mk [AV.ptr (1000 : Nat) (0 : Nat), AV.ptr (1001 : Nat) (0 : Nat)] [exO (1000 : Nat) (↑(camN (decS x.sum)) : Int) (decS x.sum).all, exO (1001 : Nat) (↑(camN (decS y.sum)) : Int) (decS y.sum).all] (bz true) [exO (1000 : Nat) (↑(camN z) : Int) z.all, exO (1001 : Nat) (↑(camN (decS y.sum)) : Int) (decS y.sum).all])), (35, Hint.call (Inst.mk [AV.ptr (1000 : Nat) (0 : Nat)] [exO (1000 : Nat) (↑(camN z) : Int) z.all] (AV.lst (encS z).length (byL (encS z))) [exO (1000 : Nat) (↑(camN z) : Int) z.all])), (40, Hint.call (Inst.mk [fA x.mn, fA y.mn] [] (fA (leastF x.mn y.mn)) [])), (45, Hint.call (Inst.mk [fA x.mx, fA y.mx] [] (fA (mostF x.mx y.mx)) []))] [] [[AV.lst (encS z).length (byL (encS z)), AV.v (Value.float FloatKind.f64 (leastF x.mn y.mn)), AV.v (Value.float FloatKind.f64 (mostF x.mx y.mx))] = [AV.lst (RealS.mk (encS z) (leastF x.mn y.mn) (mostF x.mx y.mx)).sum.length (byL (RealS.mk (encS z) (leastF x.mn y.mn) (mostF x.mx y.mx)).sum), AV.v (Value.float FloatKind.f64 (RealS.mk (encS z) (leastF x.mn y.mn) (mostF x.mx y.mx)).mn), AV.v (Value.float FloatKind.f64 (RealS.mk (encS z) (leastF x.mn y.mn) (mostF x.mx y.mx)).mx)] ∧ (0 : Int) = (↑(0 : Nat) : Int) ∧ True, (x.sum.length = x.sum.length ∧ byL x.sum = byL x.sum) ∧ True, FnOk Try.prog (96 : Nat) (Inst.mk [AV.lst x.sum.length (byL x.sum)] [] (AV.tup [AV.ptr (1000 : Nat) (0 : Nat), AV.v (Value.int IntKind.i64 (0 : Int))]) [((1000 : Nat), AObj.cells (196 : TypeId) [AV.v (Value.bool true), AV.v (Value.int IntKind.u8 (↑(camN (decS x.sum)) : Int)), AV.v (Value.bool (decide ((decS x.sum).all < (0 : Int)))), AV.lst (dgw (decS x.sum).all.natAbs).length (wL (dgw (decS x.sum).all.natAbs))])]), (y.sum.length = y.sum.length ∧ byL y.sum = byL y.sum) ∧ True, FnOk Try.prog (96 : Nat) (Inst.mk [AV.lst y.sum.length (byL y.sum)] [] (AV.tup [AV.ptr (1001 : Nat) (0 : Nat), AV.v (Value.int IntKind.i64 (0 : Int))]) [((1001 : Nat), AObj.cells (196 : TypeId) [AV.v (Value.bool true), AV.v (Value.int IntKind.u8 (↑(camN (decS y.sum)) : Int)), AV.v (Value.bool (decide ((decS y.sum).all < (0 : Int)))), AV.lst (dgw (decS y.sum).all.natAbs).length (wL (dgw (decS y.sum).all.natAbs))])]), ((1000 : Nat) = (1000 : Nat) ∧ (0 : Nat) = (0 : Nat)) ∧ ((1001 : Nat) = (1001 : Nat) ∧ (0 : Nat) = (0 : Nat)) ∧ True, FnOk Try.prog (126 : Nat) (Inst.mk [AV.ptr (1000 : Nat) (0 : Nat), AV.ptr (1001 : Nat) (0 : Nat)] [((1000 : Nat), AObj.cells (196 : TypeId) [AV.v (Value.bool true), AV.v (Value.int IntKind.u8 (↑(camN (decS x.sum)) : Int)), AV.v (Value.bool (decide ((decS x.sum).all < (0 : Int)))), AV.lst (dgw (decS x.sum).all.natAbs).length (wL (dgw (decS x.sum).all.natAbs))]), ((1001 : Nat), AObj.cells (196 : TypeId) [AV.v (Value.bool true), AV.v (Value.int IntKind.u8 (↑(camN (decS y.sum)) : Int)), AV.v (Value.bool (decide ((decS y.sum).all < (0 : Int)))), AV.lst (dgw (decS y.sum).all.natAbs).length (wL (dgw (decS y.sum).all.natAbs))])] (AV.v (Value.bool true)) [((1000 : Nat), AObj.cells (196 : TypeId) [AV.v (Value.bool true), AV.v (Value.int IntKind.u8 (↑(camN z) : Int)), AV.v (Value.bool (decide (z.all < (0 : Int)))), AV.lst (dgw z.all.natAbs).length (wL (dgw z.all.natAbs))]), ((1001 : Nat), AObj.cells (196 : TypeId) [AV.v (Value.bool true), AV.v (Value.int IntKind.u8 (↑(camN (decS y.sum)) : Int)), AV.v (Value.bool (decide ((decS y.sum).all < (0 : Int)))), AV.lst (dgw (decS y.sum).all.natAbs).length (wL (dgw (decS y.sum).all.natAbs))])]), [AV.v (Value.bool true), AV.v (Value.int IntKind.u8 (↑(camN (decS x.sum)) : Int)), AV.v (Value.bool (decide ((decS x.sum).all < (0 : Int)))), AV.lst (dgw (decS x.sum).all.natAbs).length (wL (dgw (decS x.sum).all.natAbs))] = [AV.v (Value.bool true), AV.v (Value.int IntKind.u8 (↑(camN (decS x.sum)) : Int)), AV.v (Value.bool (decide ((decS x.sum).all < (0 : Int)))), AV.lst (dgw (decS x.sum).all.natAbs).length (wL (dgw (decS x.sum).all.natAbs))], [AV.v (Value.bool true), AV.v (Value.int IntKind.u8 (↑(camN (decS y.sum)) : Int)), AV.v (Value.bool (decide ((decS y.sum).all < (0 : Int)))), AV.lst (dgw (decS y.sum).all.natAbs).length (wL (dgw (decS y.sum).all.natAbs))] = [AV.v (Value.bool true), AV.v (Value.int IntKind.u8 (↑(camN (decS y.sum)) : Int)), AV.v (Value.bool (decide ((decS y.sum).all < (0 : Int)))), AV.lst (dgw (decS y.sum).all.natAbs).length (wL (dgw (decS y.sum).all.natAbs))], ((1000 : Nat) = (1000 : Nat) ∧ (0 : Nat) = (0 : Nat)) ∧ True, FnOk Try.prog (86 : Nat) (Inst.mk [AV.ptr (1000 : Nat) (0 : Nat)] [((1000 : Nat), AObj.cells (196 : TypeId) [AV.v (Value.bool true), AV.v (Value.int IntKind.u8 (↑(camN z) : Int)), AV.v (Value.bool (decide (z.all < (0 : Int)))), AV.lst (dgw z.all.natAbs).length (wL (dgw z.all.natAbs))])] (AV.lst (encS z).length (byL (encS z))) [((1000 : Nat), AObj.cells (196 : TypeId) [AV.v (Value.bool true), AV.v (Value.int IntKind.u8 (↑(camN z) : Int)), AV.v (Value.bool (decide (z.all < (0 : Int)))), AV.lst (dgw z.all.natAbs).length (wL (dgw z.all.natAbs))])]), [AV.v (Value.bool true), AV.v (Value.int IntKind.u8 (↑(camN z) : Int)), AV.v (Value.bool (decide (z.all < (0 : Int)))), AV.lst (dgw z.all.natAbs).length (wL (dgw z.all.natAbs))] = [AV.v (Value.bool true), AV.v (Value.int IntKind.u8 (↑(camN z) : Int)), AV.v (Value.bool (decide (z.all < (0 : Int)))), AV.lst (dgw z.all.natAbs).length (wL (dgw z.all.natAbs))], AV.v (Value.float FloatKind.f64 x.mn) = AV.v (Value.float FloatKind.f64 x.mn) ∧ AV.v (Value.float FloatKind.f64 y.mn) = AV.v (Value.float FloatKind.f64 y.mn) ∧ True, FnOk Try.prog (127 : Nat) (Inst.mk [AV.v (Value.float FloatKind.f64 x.mn), AV.v (Value.float FloatKind.f64 y.mn)] [] (AV.v (Value.float FloatKind.f64 (leastF x.mn y.mn))) []), AV.v (Value.float FloatKind.f64 x.mx) = AV.v (Value.float FloatKind.f64 x.mx) ∧ AV.v (Value.float FloatKind.f64 y.mx) = AV.v (Value.float FloatKind.f64 y.mx) ∧ True, FnOk Try.prog (128 : Nat) (Inst.mk [AV.v (Value.float FloatKind.f64 x.mx), AV.v (Value.float FloatKind.f64 y.mx)] [] (AV.v (Value.float FloatKind.f64 (mostF x.mx y.mx))) [])] (by kernel_rfl) ?_
      ((repeat' refine And.intro ?_ ?_); (with_reducible rfl); (omega); (exact True.intro); (iterate 2 (with_reducible rfl)); (exact True.intro); ((show FnOk _ _ _; assumption)); (iterate 2 (with_reducible rfl)); (exact True.intro); ((show FnOk _ _ _; assumption)); (iterate 4 (with_reducible rfl)); (exact True.intro); ((show FnOk _ _ _; assumption)); (iterate 4 (with_reducible rfl)); (exact True.intro); ((show FnOk _ _ _; assumption)); (iterate 3 (with_reducible rfl)); (exact True.intro); ((show FnOk _ _ _; assumption)); (iterate 2 (with_reducible rfl)); (exact True.intro); ((show FnOk _ _ _; assumption)); (exact True.intro))
end Go.Proofs.Ytfhmaincnlaapaa.Sy
