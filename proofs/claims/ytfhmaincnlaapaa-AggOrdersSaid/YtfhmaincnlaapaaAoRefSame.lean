/-
  bushelref02.Same, bushelref14.Same, bushelref15.Same.
  What agg.Get comes to; what is put of a right cell is got.
  fact.one.
  What fact.Get comes to; what is put is got.
  bushelref12.Light.
  bushellaw12.awake.
  bushelref14.Light, bushelref15.Light, bushelref20.Same of two equal sheets.
  bushelref25.Sheets says true of two lists that read alike.
  One cell's number of facts is another one.
  Contracts on trees out of elder ones: results without references, results in new blocks; bytes as trees.
  WHAT A THING READS AS, AS A TREE: from things that stand below a block to trees, and back.
  bushelref05.Read on trees.
-/
import Derived.Laws.BitsAllLaws
import Derived.Deep.LoopGhost
import Derived.Deep.DeepCutAuto
import Derived.Deep.RegionHeldLaw
import Derived.Deep.RegionLawGrows
import Derived.StillTailTactics
import Derived.Test.YtfhmaincnlaapaaAoSy3
import Derived.Test.YtfhmaincnlaapaaAoWordMath
import Derived.Test.YtfhmaincnlaapaaAoRefRead
import Derived.Test.YtfhmaincnlaapaaAoBufOutKeep
import Derived.Test.YtfhmaincnlaapaaAoExactRead
namespace Go.Proofs.Ytfhmaincnlaapaa.Sy
open Go.ChangeShapes Go.WideShapes Go.ChangeAt Go.RowKit
set_option linter.unusedVariables false
set_option linter.unusedSimpArgs false
def bytT (l : List UInt8) : AV := .lst l.length (byL l)
section
variable (b : List UInt8) (p g : Bool) (low n : Nat) (hb : b.length ≤ 4611686018427387904) (hm : low + n ≤ 70)
include hb hm
end
/-- the sum that bytes are, where they are one's -/
def decS (b : List UInt8) : SumS := ⟨((hd b 0 % 2 : Nat) : Int) == 1, ((hd b 0 / 2 % 2 : Nat) : Int) == 1, ((hd b 0 / 4 % 2 : Nat) : Int) == 1, ((hd b 0 / 8 % 2 : Nat) : Int) == 1, ((hd b 0 / 16 % 2 : Nat) : Int) == 1, if hd b 0 / 32 = 1 then -((vw (magP (wordB b) (hd b 1 + hd b 2) (hd b 2)) : Nat) : Int) else ((vw (magP (wordB b) (hd b 1 + hd b 2) (hd b 2)) : Nat) : Int)⟩
theorem magP_Wd (b : List UInt8) (m i : Nat) : Wd (magP (wordB b) m i) := by
  intro d hd
  unfold magP at hd
  rcases List.mem_append.1 hd with h | h
  · have := List.eq_of_mem_replicate h; omega
  · rw [List.mem_reverse, List.mem_map] at h
    obtain ⟨j, _, rfl⟩ := h
    exact wordB_lt b j
end Go.Proofs.Ytfhmaincnlaapaa.Sy
namespace Go.Proofs.Ytfhmaincnlaapaa.Sy
open Go.ChangeShapes Go.WideShapes Go.ChangeAt Go.RowKit
set_option linter.unusedVariables false
/-- cells that read as trees -/
def RepL (w : World) (F : Nat → Prop) (cs : List AV) (us : List Value) : Prop := us.length = cs.length ∧ ∀ (j : Nat) (x : AV) (u : Value), cs[j]? = some x → us[j]? = some u → Rep w F x u
section
variable {w : World} {F : Nat → Prop}
theorem RepL.nil : RepL w F [] [] := ⟨rfl, fun j x u h => by simp at h⟩
theorem RepL.app {a b : List AV} {us vs : List Value} (h : RepL w F a us) (k : RepL w F b vs) : RepL w F (a ++ b) (us ++ vs) := by
  refine ⟨by simp [h.1, k.1], fun j x u hx hu => ?_⟩
  by_cases hj : j < a.length
  · rw [List.getElem?_append_left hj] at hx
    rw [List.getElem?_append_left (by rw [h.1]; exact hj)] at hu
    exact h.2 j x u hx hu
  · rw [List.getElem?_append_right (by omega)] at hx
    rw [List.getElem?_append_right (by rw [h.1]; omega), h.1] at hu
    exact k.2 _ x u hx hu
theorem RepL.cut {a b : List AV} {us : List Value} (h : RepL w F (a ++ b) us) : ∃ c d, us = c ++ d ∧ RepL w F a c ∧ RepL w F b d := by
  have hl := h.1
  rw [List.length_append] at hl
  refine ⟨us.take a.length, us.drop a.length, (List.take_append_drop _ _).symm, ⟨by rw [List.length_take]; omega, fun j x u hx hu => ?_⟩, ⟨by rw [List.length_drop]; omega, fun j x u hx hu => ?_⟩⟩
  · have hj := lt_of_some hx
    rw [List.getElem?_take_of_lt hj] at hu
    exact h.2 j x u (by rw [List.getElem?_append_left hj]; exact hx) hu
  · rw [List.getElem?_drop] at hu
    exact h.2 (a.length + j) x u (by rw [List.getElem?_append_right (by omega), Nat.add_sub_cancel_left]; exact hx) hu
theorem RepL.one {x : AV} {u : Value} : RepL w F [x] [u] ↔ Rep w F x u := by
  constructor
  · intro h; exact h.2 0 x u rfl rfl
  · intro h
    refine ⟨rfl, fun j y v hy hv => ?_⟩
    cases j with
    | zero => simp only [List.getElem?_cons_zero, Option.some.injEq] at hy hv; subst hy; subst hv; exact h
    | succ j => simp at hy
theorem RepL.ones {cs : List AV} {us : List Value} (h : RepL w F cs us) : ∀ u ∈ us, u.oneCell' = true := fun u hu => by
  obtain ⟨j, hj, rfl⟩ := List.getElem_of_mem hu
  obtain ⟨x, hx⟩ := getElem?_of (l := cs) (j := j) (by rw [← h.1]; exact hj)
  exact (h.2 j x _ hx (List.getElem?_eq_getElem hj)).one
end
/-- enc: the trees of a thing's cells -/
structure Enc {α : Type} (R : Rp α) (enc : α → List AV) (ok : α → Prop) : Prop where
  len : ∀ x, (enc x).length = R.size
  fw : ∀ {w : World} {B : Nat} {F : Nat → Prop} {x : α} {cs : List Value}, (∀ b, b < B → F b) → R.rep w B x cs → RepL w F (enc x) cs ∧ ok x
  bw : ∀ {w : World} {B : Nat} {F : Nat → Prop} {x : α} {cs : List Value}, (∀ b, F b → b < B) → RepL w F (enc x) cs → ok x → R.rep w B x cs
theorem Enc.val {α : Type} {f : α → Value} {ok : α → Prop} {h1 : ∀ x, (f x).oneCell' = true} : Enc (Rp.val f ok h1) (fun x => [.v (f x)]) ok where
  len x := rfl
  fw hF h := by obtain ⟨rfl, h⟩ := h; exact ⟨RepL.one.2 (.v _ (h1 _)), h⟩
  bw {w B F x cs} hF h ho := by
    refine ⟨?_, ho⟩
    obtain ⟨u, rfl⟩ : ∃ u, cs = [u] := List.length_eq_one_iff.1 h.1
    cases RepL.one.1 h with
    | v _ _ => rfl
theorem Enc.two {α β γ : Type} {p : α → β} {q : α → γ} {R : Rp β} {S : Rp γ} {e1 : β → List AV} {e2 : γ → List AV} {o1 : β → Prop} {o2 : γ → Prop} (h : Enc R e1 o1) (k : Enc S e2 o2) : Enc (Rp.two p q R S) (fun x => e1 (p x) ++ e2 (q x)) (fun x => o1 (p x) ∧ o2 (q x)) where
  len x := by show (e1 (p x) ++ e2 (q x)).length = R.size + S.size; rw [List.length_append, h.len, k.len]
  fw hF hx := by
    obtain ⟨c, d, rfl, a, b⟩ := hx
    obtain ⟨a1, a2⟩ := h.fw hF a
    obtain ⟨b1, b2⟩ := k.fw hF b
    exact ⟨a1.app b1, a2, b2⟩
  bw hF hx ho := by
    obtain ⟨c, d, rfl, a, b⟩ := hx.cut
    exact ⟨c, d, rfl, h.bw hF a ho.1, k.bw hF b ho.2⟩
def encL {α : Type} (e : α → List AV) (l : List α) : List AV := [.lst l.length (l.flatMap e)]
theorem Enc.chunk {α : Type} {R : Rp α} {e : α → List AV} {ok : α → Prop} (h : Enc R e ok) {w : World} {B : Nat} {F : Nat → Prop} (hF : ∀ b, b < B → F b) : ∀ {l : List α} {xs : List Value}, Chunk R w B l xs → RepL w F (l.flatMap e) xs ∧ ∀ x ∈ l, ok x
  | [], xs, hc => by cases hc; exact ⟨.nil, fun x hx => by cases hx⟩
  | x :: l, xs, hc => by
    obtain ⟨c, rest, rfl, a, b⟩ := hc
    obtain ⟨a1, a2⟩ := h.fw hF a
    obtain ⟨b1, b2⟩ := h.chunk hF b
    exact ⟨a1.app b1, fun y hy => by rcases List.mem_cons.1 hy with rfl | hy; exact a2; exact b2 y hy⟩
theorem Enc.unchunk {α : Type} {R : Rp α} {e : α → List AV} {ok : α → Prop} (h : Enc R e ok) {w : World} {B : Nat} {F : Nat → Prop} (hF : ∀ b, F b → b < B) : ∀ {l : List α} {xs : List Value}, RepL w F (l.flatMap e) xs → (∀ x ∈ l, ok x) → Chunk R w B l xs
  | [], xs, hr, _ => List.eq_nil_of_length_eq_zero hr.1
  | x :: l, xs, hr, ho => by
    obtain ⟨c, d, rfl, a, b⟩ := RepL.cut (a := e x) (b := l.flatMap e) hr
    exact ⟨c, d, rfl, h.bw hF a (ho x (by simp)), h.unchunk hF b fun y hy => ho y (by simp [hy])⟩
theorem Enc.flat_len {α : Type} {R : Rp α} {e : α → List AV} {ok : α → Prop} (h : Enc R e ok) (l : List α) : (l.flatMap e).length = l.length * R.size := by
  induction l with
  | nil => simp
  | cons x l ih => rw [List.flatMap_cons, List.length_append, h.len, ih, List.length_cons, Nat.succ_mul]; omega
theorem Enc.sl {α : Type} {R : Rp α} {e : α → List AV} {ok : α → Prop} (h : Enc R e ok) : Enc R.sl (encL e) (fun l => ∀ x ∈ l, ok x) where
  len l := rfl
  fw {w B F l cs} hF hx := by
    obtain ⟨A, c, xs, rfl, h1, h2, h3, h4⟩ := hx
    obtain ⟨k1, k2⟩ := h.chunk hF h4
    refine ⟨RepL.one.2 ?_, k2⟩
    rcases Nat.eq_zero_or_pos l.length with h0 | h0
    · obtain rfl := List.eq_nil_of_length_eq_zero h0
      exact .nil A c h2
    · obtain ⟨a, rfl, hb, hc⟩ := h3.2 h0
      exact .lst _ c _ a xs h0 h1 h2 (hF _ hb) k1.1 k1.ones hc k1.2
  bw {w B F l cs} hF hx ho := by
    obtain ⟨u, rfl⟩ : ∃ u, cs = [u] := List.length_eq_one_iff.1 hx.1
    have hr : Rep w F (.lst l.length (l.flatMap e)) u := RepL.one.1 hx
    generalize hn : l.length = n at hr
    generalize hcs : l.flatMap e = cs at hr
    cases hr with
    | nil A c hm =>
      obtain rfl := List.eq_nil_of_length_eq_zero hn
      exact ⟨A, c, [], rfl, Nat.zero_le _, hm, Rd.nil, rfl⟩
    | lst _ c _ a us h0 h1 h2 hFa hl h1' hu hr =>
      subst hcs
      have hRL : RepL w F (l.flatMap e) us := ⟨hl, hr⟩
      have hch := h.unchunk hF hRL ho
      refine ⟨some a, c, us, by rw [hn], by rw [hn]; exact h1, h2, ⟨by rw [hl, h.flat_len], fun _ => ⟨a, rfl, hF _ hFa, hu⟩⟩, hch⟩
/-- a struct -/
theorem Enc.see {α : Type} {R : Rp α} {e : α → List AV} {ok : α → Prop} (h : Enc R e ok) {E : Env} {B : Nat} (hF : ∀ b, b < B → E.F b) {x : α} {cs : List Value} (hx : R.rep E.w B x cs) : Sees1 E (.agg (e x)) (.agg cs.toArray) := by
  obtain ⟨k, _⟩ := h.fw hF hx
  exact ⟨cs, rfl, k.1, fun j y u hy hu => ⟨Leaf.rep (k.2 j y u hy hu), (k.2 j y u hy hu).one⟩⟩
/-- leaves of a pure tree -/
def pureV : AV → Bool
  | .v _ => true
  | .lst _ _ => true
  | _ => false
theorem Enc.unsee {α : Type} {R : Rp α} {e : α → List AV} {ok : α → Prop} (h : Enc R e ok) {E : Env} {B : Nat} (hF : ∀ b, E.F b → b < B) {x : α} {u : Value} (hp : (e x).all pureV = true) (hx : Sees1 E (.agg (e x)) u) (ho : ok x) : ∃ cs : List Value, u = .agg cs.toArray ∧ R.rep E.w B x cs := by
  obtain ⟨us, rfl, hl, hs⟩ := hx
  refine ⟨us, rfl, h.bw hF ⟨hl, fun j y v hy hv => ?_⟩ ho⟩
  have h1 := (hs j y v hy hv).1
  have h2 := List.all_eq_true.1 hp y (List.mem_of_getElem? hy)
  cases y with
  | v z => obtain ⟨rfl, h3⟩ := h1; exact .v _ h3
  | lst n cs => exact h1
  | _ => cases h2
end Go.Proofs.Ytfhmaincnlaapaa.Sy
namespace Go.Proofs.Ytfhmaincnlaapaa.Sy
open Go.ChangeShapes Go.WideShapes Go.ChangeAt Go.RowKit
set_option linter.unusedVariables false
theorem FnOk.of_calls {P : Program} {f : FuncId} {args : List AV} {r : Value} (hr : r.oneCell' = true) (h : ∀ (E : Env) (vs : List Value), (∀ b, E.F b → b < E.w.heap.size) → vs.length = args.length → (∀ (j : Nat) (x : AV) (u : Value), args[j]? = some x → vs[j]? = some u → Sees1 E x u) →
    Calls P f vs.toArray E.w fun y w' => y = .returned r ∧ Below E.w.heap.size E.w w') : FnOk P f ⟨args, [], .v r, []⟩ := by
  intro M w0 E vs hob hm hl hs
  refine (h E vs hm.fz hl hs).mono ?_
  rintro y w' ⟨rfl, hb⟩
  obtain ⟨h1, h2⟩ := hm.grow hb E.F (fun b hb => .inl hb) (fun b hb => hb)
  exact ⟨⟨w', E.F, E.β, E.ν, E.ob⟩, r, rfl, rfl, hob, h1, h2, rfl, hr⟩
theorem bytes_open {E : Env} {l : List UInt8} {u : Value} (hF : ∀ b, E.F b → b < E.w.heap.size) (h : Sees1 E (.lst l.length (byL l)) u) : ∃ A c, u = .slice A l.length c ∧ Rd E.w E.w.heap.size 1 A l.length (u8s l) := by
  have hr : Rep E.w E.F (.lst l.length (byL l)) u := h
  generalize hn : l.length = n at hr ⊢
  generalize hcs : byL l = cs at hr
  cases hr with
  | nil A c _ =>
    obtain rfl := List.eq_nil_of_length_eq_zero hn
    exact ⟨A, c, rfl, Rd.nil⟩
  | lst _ c _ a us h0 h1 h2 hFa hl h1' hu hr =>
    subst hcs
    have hus : us = u8s l := by
      refine List.ext_getElem? fun j => ?_
      by_cases hj : j < l.length
      · obtain ⟨u, h5⟩ := getElem?_of (l := us) (j := j) (by rw [hl]; simpa [byL] using hj)
        have h6 := hr j (.v (.int .u8 ((l[j]).toNat : Int))) u (by unfold byL; rw [List.getElem?_map, List.getElem?_eq_getElem hj]; rfl) h5
        unfold u8s
        rw [h5, List.getElem?_map, List.getElem?_eq_getElem hj]
        cases h6 with
        | v _ h7 => rfl
      · rw [List.getElem?_eq_none (by rw [hl]; simpa [byL] using hj), List.getElem?_eq_none (by simpa [u8s] using hj)]
    exact ⟨some a, c, rfl, by rw [← hus, hl]; simp [byL, hn], fun _ => ⟨a, rfl, hF _ hFa, by rw [← hus]; exact hu⟩⟩
theorem leafs_rep {E : Env} {cs : List AV} {us : List Value} (h : RepL E.w E.F cs us) : Leafs E cs us := ⟨h.1, fun j x u hx hu => ⟨Leaf.rep (h.2 j x u hx hu), (h.2 j x u hx hu).one⟩⟩
end Go.Proofs.Ytfhmaincnlaapaa.Sy
namespace Go.Proofs.Ytfhmaincnlaapaa
open Go.ChangeShapes Go.WideShapes Go.ChangeAt Go.RowKit
set_option linter.unusedVariables false

end Go.Proofs.Ytfhmaincnlaapaa
namespace Go.Proofs.Ytfhmaincnlaapaa
open Go.ChangeShapes Go.WideShapes Go.ChangeAt Go.RowKit
set_option linter.unusedVariables false

end Go.Proofs.Ytfhmaincnlaapaa
namespace Go.Proofs.Ytfhmaincnlaapaa
open Go.ChangeShapes Go.WideShapes Go.ChangeAt Go.RowKit
set_option linter.unusedVariables false

theorem lightC_no {C : CellS} (h : ¬ (C.ints.length ≤ 10 ∧ C.nums.length ≤ 10 ∧ C.ints.all lightW = true ∧ C.nums.all lightR = true)) : lightC C = false := by
  rw [← Bool.not_eq_true]
  intro hh
  unfold lightC at hh
  simp only [Bool.and_eq_true, decide_eq_true_iff] at hh
  exact h ⟨hh.1.1.1, hh.1.1.2, hh.1.2, hh.2⟩
theorem lightC_yes {C : CellS} (h1 : C.ints.length ≤ 10) (h2 : C.nums.length ≤ 10) (h3 : C.ints.all lightW = true) (h4 : C.nums.all lightR = true) : lightC C = true := by
  unfold lightC; rw [h3, h4]; simp [h1, h2]
set_option maxRecDepth 20000 in
set_option maxHeartbeats 4000000 in
theorem lightC_any (w : World) (B : Nat) (C : CellS) (D2 : Option Addr) (d2 : Nat) (D3 : Option Addr) (d3 : Nat) (hv : CellV w B C D2 d2 D3 d3) (hB : B ≤ w.heap.size) :
    Calls Try.prog 32 #[.agg #[.int .u64 (C.key : Int), .int .i64 C.count, .slice D2 C.ints.length d2, .slice D3 C.nums.length d3]] w fun y w' => y = .returned (.bool (lightC C)) ∧ Below w.heap.size w w' := by
  have hw0 := belA (belR w) (.cells #[.int .u64 (C.key : Int), .int .i64 C.count, .slice D2 C.ints.length d2, .slice D3 C.nums.length d3] 52)
  have kc := Blk.new w 52 #[.int .u64 (C.key : Int), .int .i64 C.count, .slice D2 C.ints.length d2, .slice D3 C.nums.length d3]
  have KC := Lib.hid kc
  have HV := Lib.hid (hv.keep (hw0.mono hB) (Nat.le_refl _)); have HW0 := Lib.hid hw0
  clear hv kc hw0
  by_cases g1 : C.ints.length ≤ 10
  case neg =>
    have t1 : decide ((10 : Int) < (C.ints.length : Int)) = true := decide_eq_true (by omega)
    have HF := Lib.hid (lightC_no (C := C) fun hh => g1 hh.1)
    rw [HF.out]
    clear g1
    go_enter Try.func32, Try.ntmps32
    go_wp2
    go_ret
    exact ⟨rfl, HW0.out⟩
  have t1 : decide ((10 : Int) < (C.ints.length : Int)) = false := decide_eq_false (by omega)
  by_cases g2 : C.nums.length ≤ 10
  case neg =>
    have t2 : decide ((10 : Int) < (C.nums.length : Int)) = true := decide_eq_true (by omega)
    have HF := Lib.hid (lightC_no (C := C) fun hh => g2 hh.2.1)
    rw [HF.out]
    clear g2
    go_enter Try.func32, Try.ntmps32
    go_wp2
    go_ret
    exact ⟨rfl, HW0.out⟩
  have t2 : decide ((10 : Int) < (C.nums.length : Int)) = false := decide_eq_false (by omega)
  have HNO := Lib.hid fun (hb : ¬ (C.ints.all lightW = true ∧ C.nums.all lightR = true)) => lightC_no (C := C) fun hh => hb hh.2.2
  have HYES := Lib.hid fun (h5 : C.ints.all lightW = true) (h6 : C.nums.all lightR = true) => lightC_yes g1 g2 h5 h6
  go_enter Try.func32, Try.ntmps32
  go_wp2
  generalize w.alloc (.cells #[.int .u64 (C.key : Int), .int .i64 C.count, .slice D2 C.ints.length d2, .slice D3 C.nums.length d3] 52) = W at *
  have m2 := KC.out.cell 2; have m3 := KC.out.cell 3
  simp at m2 m3
  clear t1 t2
  go_loop [3] (fun i => ∃ k : Nat, k ≤ C.ints.length ∧ i = .int .i64 (k : Int) ∧ Hid ((C.ints.take k).all lightW = true)) (fun i => C.ints.length - (intOf i).toNat)
  case atStart => exact ⟨0, by omega, rfl, Lib.hid rfl⟩
  case round =>
    obtain ⟨k, hk, rfl, HA⟩ := hrel
    by_cases hlt : k < C.ints.length
    · obtain ⟨a, Aq, cq, ea, hab, x0, x1, x2, _⟩ := HV.out.ints.wholeAt hlt
      have q1 : (0 : Int) ≤ (k : Int) := by omega
      have q2 : (k : Int) < (C.ints.length : Int) := by omega
      have hts := all_take_succ lightW C.ints k hlt
      rw [HA.out, Bool.true_and] at hts
      have HN1 := Lib.hid fun (hf : lightW C.ints[k] = false) => HNO.out fun hh => by rw [all_no lightW C.ints k hlt hf] at hh; exact absurd hh.1 (by decide)
      rw [ea] at m2
      generalize C.ints[k] = X at *
      by_cases hx : X.sq.length ≤ 20
      · have t1 : decide ((20 : Int) < (X.sq.length : Int)) = false := decide_eq_false (by omega)
        have HT2 := Lib.hid (hts.trans (decide_eq_true hx))
        clear hts hx
        go_wp2
        go_round
        case rel => exact ⟨k + 1, by omega, by go_num, HT2⟩
        case measure => simp [intOf]; omega
      · have t1 : decide ((20 : Int) < (X.sq.length : Int)) = true := decide_eq_true (by omega)
        have HF := Lib.hid (HN1.out (decide_eq_false hx))
        clear hts hx
        go_wp2
        go_ret
        exact ⟨(by rw [HF.out] <;> rfl), HW0.out⟩
    · obtain rfl : k = C.ints.length := by omega
      rw [List.take_length] at HA
      have HA1 := HA
      have t0 : decide ((C.ints.length : Int) < (C.ints.length : Int)) = false := decide_eq_false (by omega)
      clear HA
      go_wp2
      go_loop [4] (fun i => ∃ k : Nat, k ≤ C.nums.length ∧ i = .int .i64 (k : Int) ∧ Hid ((C.nums.take k).all lightR = true)) (fun i => C.nums.length - (intOf i).toNat)
      case atStart => exact ⟨0, by omega, rfl, Lib.hid rfl⟩
      case round =>
        obtain ⟨k, hk, rfl, HA⟩ := hrel
        by_cases hlt : k < C.nums.length
        · obtain ⟨a, Aq, cq, ea, hab, x0, x1, x2, _⟩ := HV.out.nums.realAt hlt
          have q1 : (0 : Int) ≤ (k : Int) := by omega
          have q2 : (k : Int) < (C.nums.length : Int) := by omega
          have hts := all_take_succ lightR C.nums k hlt
          rw [HA.out, Bool.true_and] at hts
          have HN1 := Lib.hid fun (hf : lightR C.nums[k] = false) => HNO.out fun hh => by rw [all_no lightR C.nums k hlt hf] at hh; exact absurd hh.2 (by decide)
          rw [ea] at m3
          generalize C.nums[k] = X at *
          by_cases hx : X.sum.length ≤ 300
          · have t1 : decide ((300 : Int) < (X.sum.length : Int)) = false := decide_eq_false (by omega)
            have HT2 := Lib.hid (hts.trans (decide_eq_true hx))
            clear hts hx
            go_wp2
            go_round
            case rel => exact ⟨k + 1, by omega, by go_num, HT2⟩
            case measure => simp [intOf]; omega
          · have t1 : decide ((300 : Int) < (X.sum.length : Int)) = true := decide_eq_true (by omega)
            have HF := Lib.hid (HN1.out (decide_eq_false hx))
            clear hts hx
            go_wp2
            go_ret
            exact ⟨(by rw [HF.out] <;> rfl), HW0.out⟩
        · obtain rfl : k = C.nums.length := by omega
          rw [List.take_length] at HA
          have HT := Lib.hid (HYES.out HA1.out HA.out)
          go_wp2
          go_ret
          exact ⟨(by rw [HT.out] <;> rfl), HW0.out⟩
end Go.Proofs.Ytfhmaincnlaapaa
namespace Go.Proofs.Ytfhmaincnlaapaa
open Go.ChangeShapes Go.WideShapes Go.ChangeAt Go.RowKit
set_option linter.unusedVariables false

end Go.Proofs.Ytfhmaincnlaapaa
namespace Go.Proofs.Ytfhmaincnlaapaa
open Go.ChangeShapes Go.WideShapes Go.ChangeAt Go.RowKit
set_option linter.unusedVariables false

def lightF (F : FactS) : Bool := decide (F.codes.length ≤ 20) && decide (F.ints.length ≤ 20) && decide (F.nums.length ≤ 20)
def lightFs (l : List FactS) : Bool := l.all lightF
def lightTo (l : List FactS) (k : Nat) : Prop := ∀ j (hj : j < l.length), j < k → lightF l[j] = true
theorem lightTo.snoc {l : List FactS} {k : Nat} (h : lightTo l k) (hk : k < l.length) (hx : lightF l[k] = true) : lightTo l (k + 1) := fun j hj hjk => by
  by_cases e : j = k
  · subst e; exact hx
  · exact h j hj (by omega)
theorem lightTo.all {l : List FactS} (h : lightTo l l.length) : lightFs l = true := by
  unfold lightFs; rw [List.all_eq_true]
  intro x hx
  obtain ⟨j, hj, rfl⟩ := List.getElem_of_mem hx
  exact h j hj hj
end Go.Proofs.Ytfhmaincnlaapaa
namespace Go.Proofs.Ytfhmaincnlaapaa
open Go.ChangeShapes Go.WideShapes Go.ChangeAt Go.RowKit
set_option linter.unusedVariables false

end Go.Proofs.Ytfhmaincnlaapaa
namespace Go.Proofs.Ytfhmaincnlaapaa
open Go.ChangeShapes Go.WideShapes Go.ChangeAt Go.RowKit
set_option linter.unusedVariables false

/-- a fact that is being read -/
structure OneRel (w wr : World) (g : Nat) (t : List UInt8) (SV : Array Value) (v0 v1 v2 : Value) (a b : List Int) (c : List Nat) (p e : Nat) : Prop where
  s : Blk wr w.heap.size 26 SV
  r : Blk wr (w.heap.size + 1) 79 #[.slice none 0 0, .slice none 0 0, .slice none 0 0]
  f : Blk wr (w.heap.size + 1 + 1) 79 #[v0, v1, v2]
  o0 : wr.ownsRow (w.heap.size + 1 + 1 + 1) 3 1 v0 a.length (i64s a)
  o1 : wr.ownsRow (w.heap.size + 1 + 1 + 1) 2 1 v1 b.length (i64s b)
  o2 : wr.ownsRow (w.heap.size + 1 + 1 + 1) 115 1 v2 c.length (f64s c)
  i : InS wr g t p e
  n : Only g w wr
section
variable {w wr w2 w3 : World} {g : Nat} {t : List UInt8} {SV : Array Value} {v0 v1 v2 v' : Value} {a b : List Int} {c : List Nat} {p e p' e' : Nat}
theorem OneRel.lt (h : OneRel w wr g t SV v0 v1 v2 a b c p e) : w.heap.size + 1 + 1 + 1 ≤ wr.heap.size := h.f.lt
theorem OneRel.drew (h : OneRel w wr g t SV v0 v1 v2 a b c p e) : OneRel w wr.drew g t SV v0 v1 v2 a b c p e :=
  ⟨h.s, h.r, h.f, own_drewN h.o0 1, own_drewN h.o1 1, own_drewN h.o2 1, h.i, h.n.drew⟩
theorem OneRel.alloc (h : OneRel w wr g t SV v0 v1 v2 a b c p e) (o : Obj) : OneRel w (wr.alloc o) g t SV v0 v1 v2 a b c p e :=
  ⟨h.s.alloc o, h.r.alloc o, h.f.alloc o, h.o0.alloc o, h.o1.alloc o, h.o2.alloc o, h.i.below (belA (belR wr) o) h.i.lt, h.n.alloc o⟩
theorem own_far {w : World} {base n g : Nat} {e : TypeId} {size : Nat} {v : Value} {xs : List Value} (h : w.ownsRow base e size v n xs) (hg : g < base) : v.ownBlock ≠ some g := fun he => by have := (h.lt g he).1; omega
theorem OneRel.only (h : OneRel w wr g t SV v0 v1 v2 a b c p e) (hg : g < w.heap.size) (k : Only g wr w2) (hi : InS w2 g t p' e') : OneRel w w2 g t SV v0 v1 v2 a b c p' e' :=
  ⟨k.blk h.s (by omega), k.blk h.r (by omega), k.blk h.f (by omega), k.own h.o0 (own_far h.o0 (by omega)), k.own h.o1 (own_far h.o1 (by omega)), k.own h.o2 (own_far h.o2 (by omega)), hi, h.n.trans k⟩
theorem OneRel.fin (h : OneRel w wr g t SV v0 v1 v2 a b c p e) (hg : g < w.heap.size) :
    (((wr.setCell ⟨w.heap.size + 1, 0, none⟩ v0).setCell ⟨w.heap.size + 1, 1, none⟩ v1).setCell ⟨w.heap.size + 1, 2, none⟩ v2).ownsRow w.heap.size 3 1 v0 a.length (i64s a) ∧
    (((wr.setCell ⟨w.heap.size + 1, 0, none⟩ v0).setCell ⟨w.heap.size + 1, 1, none⟩ v1).setCell ⟨w.heap.size + 1, 2, none⟩ v2).ownsRow w.heap.size 2 1 v1 b.length (i64s b) ∧
    (((wr.setCell ⟨w.heap.size + 1, 0, none⟩ v0).setCell ⟨w.heap.size + 1, 1, none⟩ v1).setCell ⟨w.heap.size + 1, 2, none⟩ v2).ownsRow w.heap.size 115 1 v2 c.length (f64s c) ∧
    InS (((wr.setCell ⟨w.heap.size + 1, 0, none⟩ v0).setCell ⟨w.heap.size + 1, 1, none⟩ v1).setCell ⟨w.heap.size + 1, 2, none⟩ v2) g t p e ∧
    Only g w (((wr.setCell ⟨w.heap.size + 1, 0, none⟩ v0).setCell ⟨w.heap.size + 1, 1, none⟩ v1).setCell ⟨w.heap.size + 1, 2, none⟩ v2) := by
  have hset := ((Only.set1 wr (w.heap.size + 1) 0 v0).trans (Only.set1 (wr.setCell ⟨w.heap.size + 1, 0, none⟩ v0) (w.heap.size + 1) 1 v1)).trans (Only.set1 ((wr.setCell ⟨w.heap.size + 1, 0, none⟩ v0).setCell ⟨w.heap.size + 1, 1, none⟩ v1) (w.heap.size + 1) 2 v2)
  have hz := h.lt
  exact ⟨own_mono (hset.own h.o0 (own_far h.o0 (by omega))) (by omega), own_mono (hset.own h.o1 (own_far h.o1 (by omega))) (by omega), own_mono (hset.own h.o2 (own_far h.o2 (by omega))) (by omega),
    h.i.below (hset.below (B := w.heap.size + 1) (Nat.le_refl _) (by omega)) (by omega), ((h.n.set_ (.inr (by simp only; omega)) _).set_ (.inr (by simp only; omega)) _).set_ (.inr (by simp only; omega)) _⟩
end
end Go.Proofs.Ytfhmaincnlaapaa
namespace Go.Proofs.Ytfhmaincnlaapaa
open Go.ChangeShapes Go.WideShapes Go.ChangeAt Go.RowKit
set_option linter.unusedVariables false

def zeroC : CellS := ⟨0, 0, [], []⟩
/-- two cells alike -/
def sameW (x y : WholeS) : Bool := decide (x.sum = y.sum) && decide (x.abs = y.abs) && decide (x.mn = y.mn) && decide (x.mx = y.mx) && decide (x.sq = y.sq)
def sameR (x y : RealS) : Bool := decide (x.sum = y.sum) && decide (keyB x.mn = keyB y.mn) && decide (keyB x.mx = keyB y.mx)
def sameWs : List WholeS → List WholeS → Bool
  | [], [] => true
  | x :: l, y :: m => sameW x y && sameWs l m
  | _, _ => false
def sameRs : List RealS → List RealS → Bool
  | [], [] => true
  | x :: l, y :: m => sameR x y && sameRs l m
  | _, _ => false
def sameC (C D : CellS) : Bool := decide (C.key = D.key) && decide (C.count = D.count) && sameWs C.ints D.ints && sameRs C.nums D.nums
theorem sameW_eq {x y : WholeS} (h : sameW x y = true) : x = y := by
  unfold sameW at h
  simp only [Bool.and_eq_true, decide_eq_true_iff] at h
  obtain ⟨⟨⟨⟨h1, h2⟩, h3⟩, h4⟩, h5⟩ := h
  cases x; cases y; simp only at h1 h2 h3 h4 h5; subst h1 h2 h3 h4 h5; rfl
theorem sameW_self (x : WholeS) : sameW x x = true := by unfold sameW; simp
theorem sameWs_eq {l m : List WholeS} (h : sameWs l m = true) : l = m := by
  induction l generalizing m with
  | nil => cases m with
    | nil => rfl
    | cons y m => cases h
  | cons x l ih => cases m with
    | nil => cases h
    | cons y m =>
      unfold sameWs at h
      rw [Bool.and_eq_true] at h
      rw [sameW_eq h.1, ih h.2]
theorem sameWs_self : ∀ l : List WholeS, sameWs l l = true
  | [] => rfl
  | x :: l => by unfold sameWs; rw [sameW_self, sameWs_self l]; rfl
theorem sameRs_len {l m : List RealS} (h : sameRs l m = true) : l.length = m.length := by
  induction l generalizing m with
  | nil => cases m with
    | nil => rfl
    | cons y m => cases h
  | cons x l ih => cases m with
    | nil => cases h
    | cons y m =>
      unfold sameRs at h
      rw [Bool.and_eq_true] at h
      rw [List.length_cons, List.length_cons, ih h.2]
theorem sameRs_snoc {l m : List RealS} {x y : RealS} (h : sameRs l m = true) (k : sameR x y = true) : sameRs (l ++ [x]) (m ++ [y]) = true := by
  induction l generalizing m with
  | nil => cases m with
    | nil => show (sameR x y && sameRs [] []) = true; rw [k]; rfl
    | cons y m => cases h
  | cons x l ih => cases m with
    | nil => cases h
    | cons y m =>
      unfold sameRs at h
      rw [Bool.and_eq_true] at h
      rw [List.cons_append, List.cons_append]
      unfold sameRs
      rw [h.1, ih h.2]; rfl
/-! ### what is put is got -/
def wholeOk (x : WholeS) : Prop := (-9223372036854775808 ≤ x.sum ∧ x.sum ≤ 9223372036854775807) ∧ (-9223372036854775808 ≤ x.abs ∧ x.abs ≤ 9223372036854775807) ∧ (-9223372036854775808 ≤ x.mn ∧ x.mn ≤ 9223372036854775807) ∧ (-9223372036854775808 ≤ x.mx ∧ x.mx ≤ 9223372036854775807) ∧ ∀ n ∈ x.sq, n < 4294967296
/-- what is needed of a cell for its bytes to be read back -/
structure CellOk (C : CellS) : Prop where
  key : C.key < 18446744073709551616
  count : -9223372036854775808 ≤ C.count ∧ C.count ≤ 9223372036854775807
  ints : ∀ x ∈ C.ints, wholeOk x
end Go.Proofs.Ytfhmaincnlaapaa
namespace Go.Proofs.Ytfhmaincnlaapaa
open Go.ChangeShapes Go.WideShapes Go.ChangeAt Go.RowKit
set_option linter.unusedVariables false

theorem run_store_fS {P : Program} {w : World} {a : Addr} {m : Mode} (k : FloatKind) (b : Nat) : (store a (.float k b) m).run P w = stored P w a (.float k b) m := run_store P w a _ m rfl
attribute [local go_sem] run_store_fS
theorem take_same {l m : List Nat} {k : Nat} (h : l.take k = m.take k) (h1 : k < l.length) (h2 : k < m.length) (e : l[k] = m[k]) : l.take (k + 1) = m.take (k + 1) := by
  rw [List.take_succ_eq_append_getElem h1, List.take_succ_eq_append_getElem h2, h, e]
theorem eq_of_take {l m : List Nat} (hl : l.length = m.length) (h : l.take l.length = m.take l.length) : l = m := by
  rw [List.take_length] at h
  rw [h, hl, List.take_length]
theorem u32n_get (l : List Nat) (j : Nat) (h : j < l.length) : (u32n l)[j]? = some (.int .u32 ((l[j] : Nat) : Int)) := by simp [u32n, h]
theorem rd_word {w : World} {B n : Nat} {A : Option Addr} {l : List Nat} {k : Nat} (h : Rd w B 1 A n (u32n l)) (hk : k < l.length) : ∃ a, A = some a ∧ a.block < B ∧ w.cell? (a.add k) = some (.int .u32 ((l[k] : Nat) : Int)) := by
  obtain ⟨a, u, e, hb, hx, hc⟩ := h.at1 (k := k) (by have := h.1; simp at this; omega)
  rw [u32n_get l k hk] at hx
  injection hx with hx
  exact ⟨a, e, hb, by rw [hc, hx]⟩
set_option maxRecDepth 20000 in
theorem same02_any (w : World) (B : Nat) (A A' : Option Addr) (c c' : Nat) (l m : List Nat) (h : Rd w B 1 A l.length (u32n l)) (h' : Rd w B 1 A' m.length (u32n m)) (hn : l.length ≤ 9223372036854775807) (hm : m.length ≤ 9223372036854775807) :
    Calls Try.prog 65 #[.slice A l.length c, .slice A' m.length c'] w fun y w' => y = .returned (.bool (decide (l = m))) ∧ Drw w w' := by
  have H := Lib.hid h; have H' := Lib.hid h'; clear h h'
  by_cases hl : l.length = m.length
  · have t1 : ((l.length : Int) != (m.length : Int)) = false := by rw [hl]; simp
    have HL := Lib.hid hl; clear hl
    go_enter Try.func65, Try.ntmps65
    go_wp2
    go_loopw [5] (fun i wr => ∃ k : Nat, k ≤ l.length ∧ i = .int .i64 (k : Int) ∧ Hid (l.take k = m.take k) ∧ Hid (Drw w wr)) (fun i _ => l.length - (intOf i).toNat)
    case atStart => exact ⟨0, by omega, rfl, rfl, Drw.refl _⟩
    case round =>
      obtain ⟨k, hk, rfl, HT, HD⟩ := hrel
      by_cases hlt : k < l.length
      · have hltm : k < m.length := by rw [← HL.out]; exact hlt
        obtain ⟨a, rfl, hab, x0⟩ := rd_word (rd_drw H.out HD.out) hlt
        obtain ⟨a', rfl, hab', y0⟩ := rd_word (rd_drw H'.out HD.out) hltm
        have q1 : (0 : Int) ≤ (k : Int) := by omega
        have q2 : (k : Int) < (l.length : Int) := by omega
        have q3 : (k : Int) < (m.length : Int) := by omega
        have hnx := take_same HT.out hlt hltm
        have hne : l[k] ≠ m[k] → decide (l = m) = false := fun hh => decide_eq_false fun e => hh (by subst e; rfl)
        generalize l[k] = x at *
        generalize m[k] = y at *
        by_cases g : x = y
        · subst g
          have t2 : ((x : Int) != (x : Int)) = false := by simp
          have HNX := Lib.hid (hnx rfl)
          clear hnx hne
          go_wp2
          go_quiet (fail)
          go_wp2
          go_roundw
          case rel => exact ⟨k + 1, by omega, by go_num, HNX.out, HD.out.drewN _⟩
          case measure => simp [intOf]; omega
        · have t2 : ((x : Int) != (y : Int)) = true := by rw [bne_iff_ne]; omega
          have HF := Lib.hid (hne g)
          clear hnx hne g
          go_wp2
          go_quiet (fail)
          go_wp2
          go_ret
          exact ⟨by rw [HF.out]; rfl, HD.out.drewN _⟩
      · obtain rfl : k = l.length := by omega
        have HF := Lib.hid (decide_eq_true (eq_of_take HL.out HT.out))
        have q2 : ¬ (l.length : Int) < (l.length : Int) := by omega
        go_wp2
        go_ret
        exact ⟨by rw [HF.out]; rfl, HD.out⟩
  · have t1 : ((l.length : Int) != (m.length : Int)) = true := by rw [bne_iff_ne]; omega
    have HF := Lib.hid (decide_eq_false (p := l = m) fun e => hl (by rw [e]))
    clear hl
    go_enter Try.func65, Try.ntmps65
    go_wp2
    go_ret
    exact ⟨by rw [HF.out]; rfl, Drw.refl _⟩
/-! ### cells -/
theorem sameRs_at {l m : List RealS} (h : sameRs l m = true) (k : Nat) (hk : k < l.length) (hm : k < m.length) : sameR l[k] m[k] = true := by
  induction l generalizing m k with
  | nil => simp at hk
  | cons x l ih => cases m with
    | nil => simp at hm
    | cons y m =>
      unfold sameRs at h
      rw [Bool.and_eq_true] at h
      cases k with
      | zero => exact h.1
      | succ k => exact ih h.2 k (by simpa using hk) (by simpa using hm)
theorem sameC_parts {C D : CellS} (h : sameC C D = true) : C.key = D.key ∧ C.count = D.count ∧ C.ints = D.ints ∧ sameRs C.nums D.nums = true := by
  unfold sameC at h
  simp only [Bool.and_eq_true, decide_eq_true_iff] at h
  exact ⟨h.1.1.1, h.1.1.2, sameWs_eq h.1.2, h.2⟩
theorem sameC_no {C D : CellS} (h : ¬ (C.key = D.key ∧ C.count = D.count ∧ C.ints = D.ints ∧ sameRs C.nums D.nums = true)) : sameC C D = false := by
  rw [← Bool.not_eq_true]; exact fun hh => h (sameC_parts hh)
theorem sameC_yes {C D : CellS} (h1 : C.key = D.key) (h2 : C.count = D.count) (h3 : C.ints = D.ints) (h4 : sameRs C.nums D.nums = true) : sameC C D = true := by
  unfold sameC; rw [h3, sameWs_self, h4]; simp [h1, h2]
theorem takeW_same {l m : List WholeS} {k : Nat} (h : l.take k = m.take k) (h1 : k < l.length) (h2 : k < m.length) (e : l[k] = m[k]) : l.take (k + 1) = m.take (k + 1) := by
  rw [List.take_succ_eq_append_getElem h1, List.take_succ_eq_append_getElem h2, h, e]
theorem eqW_of_take {l m : List WholeS} (hl : l.length = m.length) (h : l.take l.length = m.take l.length) : l = m := by
  rw [List.take_length] at h
  rw [h, hl, List.take_length]
theorem takeR_same {l m : List RealS} {k : Nat} (h : sameRs (l.take k) (m.take k) = true) (h1 : k < l.length) (h2 : k < m.length) (e : sameR l[k] m[k] = true) : sameRs (l.take (k + 1)) (m.take (k + 1)) = true := by
  rw [List.take_succ_eq_append_getElem h1, List.take_succ_eq_append_getElem h2]; exact sameRs_snoc h e
theorem eqR_of_take {l m : List RealS} (hl : l.length = m.length) (h : sameRs (l.take l.length) (m.take l.length) = true) : sameRs l m = true := by
  rw [List.take_length, hl, List.take_length] at h; exact h
/-- two whole measures' cells in blocks of the call's own -/
structure TwoW (w wr : World) (g1 g2 : Nat) (C D : Array Value) : Prop where
  a : Blk wr g1 52 C
  b : Blk wr g2 52 D
  n : Below w.heap.size w wr
theorem TwoW.below {w wr w' : World} {g1 g2 : Nat} {C D : Array Value} (h : TwoW w wr g1 g2 C D) (hb : Below wr.heap.size wr w') : TwoW w w' g1 g2 C D :=
  ⟨h.a.below hb h.a.lt, h.b.below hb h.b.lt, belT h.n hb⟩
set_option maxRecDepth 20000 in
set_option maxHeartbeats 8000000 in
theorem same14_any (w : World) (B : Nat) (C : CellS) (A2 : Option Addr) (c2 : Nat) (A3 : Option Addr) (c3 : Nat) (D : CellS) (D2 : Option Addr) (d2 : Nat) (D3 : Option Addr) (d3 : Nat) (hv : CellV w B C A2 c2 A3 c3) (hu : CellV w B D D2 d2 D3 d3) (hB : B ≤ w.heap.size) :
    Calls Try.prog 36 #[.agg #[.int .u64 (C.key : Int), .int .i64 C.count, .slice A2 C.ints.length c2, .slice A3 C.nums.length c3], .agg #[.int .u64 (D.key : Int), .int .i64 D.count, .slice D2 D.ints.length d2, .slice D3 D.nums.length d3]] w
      fun y w' => y = .returned (.bool (sameC C D)) ∧ Below w.heap.size w w' := by
  have hml : C.ints.length ≤ 9223372036854775807 := by have h1 := hv.ints.1; have h2 := hv.ints.2.1; unfold maxLen at h2; omega
  have hmn : C.nums.length ≤ 9223372036854775807 := by have h1 := hv.nums.1; have h2 := hv.nums.2.1; unfold maxLen at h2; omega
  obtain ⟨W0, hW0⟩ : ∃ W0, W0 = (w.alloc (.cells #[.int .u64 (C.key : Int), .int .i64 C.count, .slice A2 C.ints.length c2, .slice A3 C.nums.length c3] 52)).alloc (.cells #[.int .u64 (D.key : Int), .int .i64 D.count, .slice D2 D.ints.length d2, .slice D3 D.nums.length d3] 52) := ⟨_, rfl⟩
  have ht0 : TwoW w W0 w.heap.size (w.heap.size + 1) #[.int .u64 (C.key : Int), .int .i64 C.count, .slice A2 C.ints.length c2, .slice A3 C.nums.length c3] #[.int .u64 (D.key : Int), .int .i64 D.count, .slice D2 D.ints.length d2, .slice D3 D.nums.length d3] := by
    rw [hW0]
    exact ⟨(Blk.new w _ _).alloc _, by have := Blk.new (w.alloc (.cells #[.int .u64 (C.key : Int), .int .i64 C.count, .slice A2 C.ints.length c2, .slice A3 C.nums.length c3] 52)) 52 #[.int .u64 (D.key : Int), .int .i64 D.count, .slice D2 D.ints.length d2, .slice D3 D.nums.length d3]; simpa using this, belA (belA (belR w) _) _⟩
  have HT0 := Lib.hid ht0; have HW0 := Lib.hid hW0; have HV := Lib.hid hv; have HU := Lib.hid hu
  clear ht0 hW0 hv hu
  have r0 := HT0.out.a.cell 0; have r1 := HT0.out.a.cell 1; have r2 := HT0.out.a.cell 2; have r3 := HT0.out.a.cell 3
  have s0 := HT0.out.b.cell 0; have s1 := HT0.out.b.cell 1; have s2 := HT0.out.b.cell 2; have s3 := HT0.out.b.cell 3
  simp at r0 r1 r2 r3 s0 s1 s2 s3
  rw [HW0.out] at r0 r1 r2 r3 s0 s1 s2 s3
  clear r0 r1 r2 r3 s0 s1 s2 s3
  by_cases g1 : C.key = D.key
  case neg =>
    have t1 : ((C.key : Int) != (D.key : Int)) = true := by rw [bne_iff_ne]; omega
    have HF := Lib.hid (sameC_no (C := C) (D := D) fun h => g1 h.1)
    clear g1
    go_enter Try.func36, Try.ntmps36
    go_wp2
    go_ret
    exact ⟨by rw [HF.out]; rfl, by have := HT0.out.n; rw [HW0.out] at this; exact this⟩
  by_cases g2 : C.count = D.count
  case neg =>
    have t1 : ((C.key : Int) != (D.key : Int)) = false := by rw [bne_eq_false_iff_eq]; omega
    have t2 : (C.count != D.count) = true := by rw [bne_iff_ne]; omega
    have HF := Lib.hid (sameC_no (C := C) (D := D) fun h => g2 h.2.1)
    clear g1 g2
    go_enter Try.func36, Try.ntmps36
    go_wp2
    go_ret
    exact ⟨by rw [HF.out]; rfl, by have := HT0.out.n; rw [HW0.out] at this; exact this⟩
  by_cases g3 : C.ints.length = D.ints.length
  case neg =>
    have t1 : ((C.key : Int) != (D.key : Int)) = false := by rw [bne_eq_false_iff_eq]; omega
    have t2 : (C.count != D.count) = false := by rw [bne_eq_false_iff_eq]; omega
    have t3 : ((C.ints.length : Int) != (D.ints.length : Int)) = true := by rw [bne_iff_ne]; omega
    have HF := Lib.hid (sameC_no (C := C) (D := D) fun h => g3 (by rw [h.2.2.1]))
    clear g1 g2 g3
    go_enter Try.func36, Try.ntmps36
    go_wp2
    go_ret
    exact ⟨by rw [HF.out]; rfl, by have := HT0.out.n; rw [HW0.out] at this; exact this⟩
  by_cases g4 : C.nums.length = D.nums.length
  case neg =>
    have t1 : ((C.key : Int) != (D.key : Int)) = false := by rw [bne_eq_false_iff_eq]; omega
    have t2 : (C.count != D.count) = false := by rw [bne_eq_false_iff_eq]; omega
    have t3 : ((C.ints.length : Int) != (D.ints.length : Int)) = false := by rw [bne_eq_false_iff_eq]; omega
    have t4 : ((C.nums.length : Int) != (D.nums.length : Int)) = true := by rw [bne_iff_ne]; omega
    have HF := Lib.hid (sameC_no (C := C) (D := D) fun h => g4 (sameRs_len h.2.2.2))
    clear g1 g2 g3 g4
    go_enter Try.func36, Try.ntmps36
    go_wp2
    go_ret
    exact ⟨by rw [HF.out]; rfl, by have := HT0.out.n; rw [HW0.out] at this; exact this⟩
  have t1 : ((C.key : Int) != (D.key : Int)) = false := by rw [bne_eq_false_iff_eq]; omega
  have t2 : (C.count != D.count) = false := by rw [bne_eq_false_iff_eq]; omega
  have t3 : ((C.ints.length : Int) != (D.ints.length : Int)) = false := by rw [bne_eq_false_iff_eq]; omega
  have t4 : ((C.nums.length : Int) != (D.nums.length : Int)) = false := by rw [bne_eq_false_iff_eq]; omega
  have HYES := Lib.hid (sameC_yes (C := C) (D := D) g1 g2)
  have G3 := Lib.hid g3; have G4 := Lib.hid g4
  clear g1 g2 g3 g4
  go_enter Try.func36, Try.ntmps36
  go_wp2
  clear t1 t2 t3 t4
  rw [← HW0.out]
  have hzw : w.heap.size + 1 < W0.heap.size := by rw [HW0.out]; simp
  go_loopw [5] (fun i wr => ∃ k : Nat, k ≤ C.ints.length ∧ i = .int .i64 (k : Int) ∧ Hid (C.ints.take k = D.ints.take k) ∧ Hid (TwoW w wr w.heap.size (w.heap.size + 1) #[.int .u64 (C.key : Int), .int .i64 C.count, .slice A2 C.ints.length c2, .slice A3 C.nums.length c3] #[.int .u64 (D.key : Int), .int .i64 D.count, .slice D2 D.ints.length d2, .slice D3 D.nums.length d3])) (fun i _ => C.ints.length - (intOf i).toNat)
  case atStart => exact ⟨0, by omega, rfl, rfl, HT0.out⟩
  case round =>
    obtain ⟨k, hk, rfl, HE, HT⟩ := hrel
    have r2 := HT.out.a.cell 2; have s2 := HT.out.b.cell 2
    simp at r2 s2
    by_cases hlt : k < C.ints.length
    · have hltm : k < D.ints.length := by rw [← G3.out]; exact hlt
      obtain ⟨a, Aq, cq, ea, hab, x0, x1, x2, x3, x4, hRq, hq1, hq2, hq3, hs, ha, hmi, hmx⟩ := (HV.out.ints.keep (HT.out.n.mono hB) (Nat.le_refl _)).wholeAt hlt
      obtain ⟨b, Bq, bq, eb, hbb, y0, y1, y2, y3, y4, hSq, hp1, hp2, hp3, ps, pa, pmi, pmx⟩ := (HU.out.ints.keep (HT.out.n.mono hB) (Nat.le_refl _)).wholeAt hltm
      have q1 : (0 : Int) ≤ (k : Int) := by omega
      have q2 : (k : Int) < (C.ints.length : Int) := by omega
      have q3 : (k : Int) < (D.ints.length : Int) := by omega
      have hnx := takeW_same HE.out hlt hltm
      have hne : C.ints[k] ≠ D.ints[k] → sameC C D = false := fun hh => sameC_no fun h => hh (by have := h.2.2.1; simp only [this])
      subst ea eb
      have hzr : w.heap.size + 1 < wr.heap.size := HT.out.b.lt
      have hza : (a.add (k * 5)).block < wr.heap.size := by rw [block_add]; omega
      have hzb : (b.add (k * 5)).block < wr.heap.size := by rw [block_add]; omega
      have hzr2 : w.heap.size < wr.heap.size := by omega
      have hza2 : (a.add (k * 5)).block < wr.heap.size + 1 := by omega
      have hzb2 : (b.add (k * 5)).block < wr.heap.size + 1 := by omega
      generalize C.ints[k] = X at *
      generalize D.ints[k] = Y at *
      have HNX := Lib.hid hnx; have HNE := Lib.hid hne
      have HRq := Lib.hid hRq; have HSq := Lib.hid hSq
      have hmq : X.sq.length ≤ 9223372036854775807 := by unfold maxLen at hq2; omega
      have hmp : Y.sq.length ≤ 9223372036854775807 := by unfold maxLen at hp2; omega
      have hA1 := ((Blk.new wr 114 #[.int .i64 X.sum, .int .i64 X.abs, .slice Aq X.sq.length cq, .int .i64 X.mn, .int .i64 X.mx]).alloc (.cells #[.int .i64 Y.sum, .int .i64 Y.abs, .slice Bq Y.sq.length bq, .int .i64 Y.mn, .int .i64 Y.mx] 114)).drew
      have hA2 := (Blk.new (wr.alloc (.cells #[.int .i64 X.sum, .int .i64 X.abs, .slice Aq X.sq.length cq, .int .i64 X.mn, .int .i64 X.mx] 114)) 114 #[.int .i64 Y.sum, .int .i64 Y.abs, .slice Bq Y.sq.length bq, .int .i64 Y.mn, .int .i64 Y.mx]).drew
      have hA3 := ((Blk.new wr 114 #[.int .i64 Y.sum, .int .i64 Y.abs, .slice Bq Y.sq.length bq, .int .i64 Y.mn, .int .i64 Y.mx]).alloc (.cells #[.int .i64 X.sum, .int .i64 X.abs, .slice Aq X.sq.length cq, .int .i64 X.mn, .int .i64 X.mx] 114)).drew
      have hA4 := (Blk.new (wr.alloc (.cells #[.int .i64 Y.sum, .int .i64 Y.abs, .slice Bq Y.sq.length bq, .int .i64 Y.mn, .int .i64 Y.mx] 114)) 114 #[.int .i64 X.sum, .int .i64 X.abs, .slice Aq X.sq.length cq, .int .i64 X.mn, .int .i64 X.mx]).drew
      have hz1 : (wr.alloc (.cells #[.int .i64 X.sum, .int .i64 X.abs, .slice Aq X.sq.length cq, .int .i64 X.mn, .int .i64 X.mx] 114)).heap.size = wr.heap.size + 1 := by simp
      have hz2 : (wr.alloc (.cells #[.int .i64 Y.sum, .int .i64 Y.abs, .slice Bq Y.sq.length bq, .int .i64 Y.mn, .int .i64 Y.mx] 114)).heap.size = wr.heap.size + 1 := by simp
      rw [hz1] at hA2; rw [hz2] at hA4
      have hA5 := (belA (belA (belR wr) (.cells #[.int .i64 X.sum, .int .i64 X.abs, .slice Aq X.sq.length cq, .int .i64 X.mn, .int .i64 X.mx] 114)) (.cells #[.int .i64 Y.sum, .int .i64 Y.abs, .slice Bq Y.sq.length bq, .int .i64 Y.mn, .int .i64 Y.mx] 114)).drew
      have hA6 := (belA (belA (belR wr) (.cells #[.int .i64 Y.sum, .int .i64 Y.abs, .slice Bq Y.sq.length bq, .int .i64 Y.mn, .int .i64 Y.mx] 114)) (.cells #[.int .i64 X.sum, .int .i64 X.abs, .slice Aq X.sq.length cq, .int .i64 X.mn, .int .i64 X.mx] 114)).drew
      have HA1 := Lib.hid hA1; have HA2 := Lib.hid hA2; have HA3 := Lib.hid hA3; have HA4 := Lib.hid hA4; have HA5 := Lib.hid hA5; have HA6 := Lib.hid hA6
      have hzB : B ≤ wr.heap.size := Nat.le_trans hB HT.out.n.size
      clear hnx hne hRq hSq hA1 hA2 hA3 hA4 hz1 hz2 hA5 hA6
      go_upto_region 6 with (fail)
      go_cut [6, 7] (fun v6 v7 wx => ∃ gx gy : Nat, v6 = .pointer (some ⟨gx, 0, none⟩) ∧ v7 = .pointer (some ⟨gy, 0, none⟩) ∧ Hid (Blk wx gx 114 #[.int .i64 X.sum, .int .i64 X.abs, .slice Aq X.sq.length cq, .int .i64 X.mn, .int .i64 X.mx]) ∧ Hid (Blk wx gy 114 #[.int .i64 Y.sum, .int .i64 Y.abs, .slice Bq Y.sq.length bq, .int .i64 Y.mn, .int .i64 Y.mx]) ∧ Hid (Below wr.heap.size wr wx))
      case first =>
        go_region
        all_goals
          go_wp2
          go_meet
          case rel => first | exact ⟨_, _, rfl, rfl, HA1.out, HA2.out, HA5.out⟩ | exact ⟨_, _, rfl, rfl, HA4.out, HA3.out, HA6.out⟩
      case rest =>
        obtain ⟨gx, gy, rfl, rfl, HX, HY, HBx⟩ := hcut
        clear x0 x1 x2 x3 x4 y0 y1 y2 y3 y4 HA1 HA2 HA3 HA4 HA5 HA6
        have x0 := HX.out.cell 0; have x1 := HX.out.cell 1; have x2 := HX.out.cell 2; have x3 := HX.out.cell 3; have x4 := HX.out.cell 4
        have y0 := HY.out.cell 0; have y1 := HY.out.cell 1; have y2 := HY.out.cell 2; have y3 := HY.out.cell 3; have y4 := HY.out.cell 4
        simp at x0 x1 x2 x3 x4 y0 y1 y2 y3 y4
        have HTX := Lib.hid (HT.out.below HBx.out)
        have HSM := Lib.hid (same02_any _ B Aq Bq cq bq X.sq Y.sq (HRq.out.below (HBx.out.mono hzB)) (HSq.out.below (HBx.out.mono hzB)) hmq hmp)
        by_cases e1 : X.sum = Y.sum
        case neg =>
          have t1 : (X.sum != Y.sum) = true := by rw [bne_iff_ne]; exact e1
          have HF := Lib.hid (HNE.out fun hh => e1 (by rw [hh]))
          clear e1
          go_wp2
          go_ret
          exact ⟨by rw [HF.out]; rfl, HTX.out.n⟩
        have t1 : (X.sum != Y.sum) = false := by rw [bne_eq_false_iff_eq]; exact e1
        by_cases e2 : X.abs = Y.abs
        case neg =>
          have t2 : (X.abs != Y.abs) = true := by rw [bne_iff_ne]; exact e2
          have HF := Lib.hid (HNE.out fun hh => e2 (by rw [hh]))
          clear e1 e2
          go_wp2
          go_ret
          exact ⟨by rw [HF.out]; rfl, HTX.out.n⟩
        have t2 : (X.abs != Y.abs) = false := by rw [bne_eq_false_iff_eq]; exact e2
        by_cases e3 : X.mn = Y.mn
        case neg =>
          have t3 : (X.mn != Y.mn) = true := by rw [bne_iff_ne]; exact e3
          have HF := Lib.hid (HNE.out fun hh => e3 (by rw [hh]))
          clear e1 e2 e3
          go_wp2
          go_ret
          exact ⟨by rw [HF.out]; rfl, HTX.out.n⟩
        have t3 : (X.mn != Y.mn) = false := by rw [bne_eq_false_iff_eq]; exact e3
        by_cases e4 : X.mx = Y.mx
        case neg =>
          have t4 : (X.mx != Y.mx) = true := by rw [bne_iff_ne]; exact e4
          have HF := Lib.hid (HNE.out fun hh => e4 (by rw [hh]))
          clear e1 e2 e3 e4
          go_wp2
          go_ret
          exact ⟨by rw [HF.out]; rfl, HTX.out.n⟩
        have t4 : (X.mx != Y.mx) = false := by rw [bne_eq_false_iff_eq]; exact e4
        by_cases e5 : X.sq = Y.sq
        case neg =>
          have hsm := HSM.out
          rw [decide_eq_false e5] at hsm
          have HS2 := Lib.hid hsm
          have HF := Lib.hid (HNE.out fun hh => e5 (by rw [hh]))
          clear e1 e2 e3 e4 e5 hsm HSM
          go_wp2_with (go_at_call 65; (with_reducible refine HS2.out.mono ?_); rintro y w5 ⟨rfl, hd5⟩; have HB5 := Lib.hid (hd5.below HTX.out.n); clear hd5)
          go_ret
          exact ⟨by rw [HF.out]; rfl, HB5.out⟩
        have hsm := HSM.out
        rw [decide_eq_true e5] at hsm
        have HS2 := Lib.hid hsm
        have hxy : X = Y := by cases X; cases Y; simp only at e1 e2 e3 e4 e5; subst e1 e2 e3 e4 e5; rfl
        have HNX2 := Lib.hid (HNX.out hxy)
        clear e1 e2 e3 e4 e5 hsm HSM hxy
        go_wp2_with (go_at_call 65; (with_reducible refine HS2.out.mono ?_); rintro y w5 ⟨rfl, hd5⟩; have HT5 := Lib.hid (HTX.out.below (hd5.below (belR _))); clear hd5)
        go_roundw
        case rel => exact ⟨k + 1, by omega, by go_num, HNX2.out, HT5.out⟩
        case measure => simp [intOf]; omega
    · obtain rfl : k = C.ints.length := by omega
      have HE2 := Lib.hid (eqW_of_take G3.out HE.out)
      have q2 : ¬ (C.ints.length : Int) < (C.ints.length : Int) := by omega
      go_wp2
      clear r2 s2
      go_loopw [8] (fun i wr => ∃ k : Nat, k ≤ C.nums.length ∧ i = .int .i64 (k : Int) ∧ Hid (sameRs (C.nums.take k) (D.nums.take k) = true) ∧ Hid (TwoW w wr w.heap.size (w.heap.size + 1) #[.int .u64 (C.key : Int), .int .i64 C.count, .slice A2 C.ints.length c2, .slice A3 C.nums.length c3] #[.int .u64 (D.key : Int), .int .i64 D.count, .slice D2 D.ints.length d2, .slice D3 D.nums.length d3])) (fun i _ => C.nums.length - (intOf i).toNat)
      case atStart => exact ⟨0, by omega, rfl, rfl, HT.out⟩
      case round =>
        obtain ⟨k, hk, rfl, HE, HT⟩ := hrel
        have r3 := HT.out.a.cell 3; have s3 := HT.out.b.cell 3
        simp at r3 s3
        by_cases hlt : k < C.nums.length
        · have hltm : k < D.nums.length := by rw [← G4.out]; exact hlt
          obtain ⟨a, Aq, cq, ea, hab, x0, x1, x2, hRq, hq1, hq2, hs, ha⟩ := (HV.out.nums.keep (HT.out.n.mono hB) (Nat.le_refl _)).realAt hlt
          obtain ⟨b, Bq, bq, eb, hbb, y0, y1, y2, hSq, hp1, hp2, ps, pa⟩ := (HU.out.nums.keep (HT.out.n.mono hB) (Nat.le_refl _)).realAt hltm
          have q1 : (0 : Int) ≤ (k : Int) := by omega
          have q2 : (k : Int) < (C.nums.length : Int) := by omega
          have q3 : (k : Int) < (D.nums.length : Int) := by omega
          have hnx := takeR_same HE.out hlt hltm
          have hne : sameR C.nums[k] D.nums[k] = false → sameC C D = false := fun hh => sameC_no fun h => by have := sameRs_at h.2.2.2 k hlt hltm; rw [hh] at this; cases this
          subst ea eb
          have hzr : w.heap.size + 1 < wr.heap.size := HT.out.b.lt
          have hza : (a.add (k * 3)).block < wr.heap.size := by rw [block_add]; omega
          have hzb : (b.add (k * 3)).block < wr.heap.size := by rw [block_add]; omega
          have hzr2 : w.heap.size < wr.heap.size := by omega
          have hza2 : (a.add (k * 3)).block < wr.heap.size + 1 := by omega
          have hzb2 : (b.add (k * 3)).block < wr.heap.size + 1 := by omega
          generalize C.nums[k] = X at *
          generalize D.nums[k] = Y at *
          obtain ⟨s1, m1, M1⟩ := X
          obtain ⟨s2, m2, M2⟩ := Y
          simp only at x0 x1 x2 y0 y1 y2 hRq hSq hs ha ps pa hq1 hp1
          have HNX := Lib.hid hnx; have HNE := Lib.hid hne
          have HRq := Lib.hid hRq; have HSq := Lib.hid hSq
          have hA1 := ((Blk.new wr 117 #[.slice Aq s1.length cq, .float .f64 m1, .float .f64 M1]).alloc (.cells #[.slice Bq s2.length bq, .float .f64 m2, .float .f64 M2] 117)).drew
          have hA2 := (Blk.new (wr.alloc (.cells #[.slice Aq s1.length cq, .float .f64 m1, .float .f64 M1] 117)) 117 #[.slice Bq s2.length bq, .float .f64 m2, .float .f64 M2]).drew
          have hA3 := ((Blk.new wr 117 #[.slice Bq s2.length bq, .float .f64 m2, .float .f64 M2]).alloc (.cells #[.slice Aq s1.length cq, .float .f64 m1, .float .f64 M1] 117)).drew
          have hA4 := (Blk.new (wr.alloc (.cells #[.slice Bq s2.length bq, .float .f64 m2, .float .f64 M2] 117)) 117 #[.slice Aq s1.length cq, .float .f64 m1, .float .f64 M1]).drew
          have hz1 : (wr.alloc (.cells #[.slice Aq s1.length cq, .float .f64 m1, .float .f64 M1] 117)).heap.size = wr.heap.size + 1 := by simp
          have hz2 : (wr.alloc (.cells #[.slice Bq s2.length bq, .float .f64 m2, .float .f64 M2] 117)).heap.size = wr.heap.size + 1 := by simp
          rw [hz1] at hA2; rw [hz2] at hA4
          have hA5 := (belA (belA (belR wr) (.cells #[.slice Aq s1.length cq, .float .f64 m1, .float .f64 M1] 117)) (.cells #[.slice Bq s2.length bq, .float .f64 m2, .float .f64 M2] 117)).drew
          have hA6 := (belA (belA (belR wr) (.cells #[.slice Bq s2.length bq, .float .f64 m2, .float .f64 M2] 117)) (.cells #[.slice Aq s1.length cq, .float .f64 m1, .float .f64 M1] 117)).drew
          have HA1 := Lib.hid hA1; have HA2 := Lib.hid hA2; have HA3 := Lib.hid hA3; have HA4 := Lib.hid hA4; have HA5 := Lib.hid hA5; have HA6 := Lib.hid hA6
          have hzB : B ≤ wr.heap.size := Nat.le_trans hB HT.out.n.size
          clear hnx hne hRq hSq hA1 hA2 hA3 hA4 hz1 hz2 hA5 hA6
          go_upto_region 12 with (fail)
          go_cut [9, 10] (fun v6 v7 wx => ∃ gx gy : Nat, v6 = .pointer (some ⟨gx, 0, none⟩) ∧ v7 = .pointer (some ⟨gy, 0, none⟩) ∧ Hid (Blk wx gx 117 #[.slice Aq s1.length cq, .float .f64 m1, .float .f64 M1]) ∧ Hid (Blk wx gy 117 #[.slice Bq s2.length bq, .float .f64 m2, .float .f64 M2]) ∧ Hid (Below wr.heap.size wr wx))
          case first =>
            go_region
            all_goals
              go_wp2
              go_meet
              case rel => first | exact ⟨_, _, rfl, rfl, HA1.out, HA2.out, HA5.out⟩ | exact ⟨_, _, rfl, rfl, HA4.out, HA3.out, HA6.out⟩
          case rest =>
            obtain ⟨gx, gy, rfl, rfl, HX, HY, HBx⟩ := hcut
            clear x0 x1 x2 y0 y1 y2 HA1 HA2 HA3 HA4 HA5 HA6
            have x0 := HX.out.cell 0; have x1 := HX.out.cell 1; have x2 := HX.out.cell 2
            have y0 := HY.out.cell 0; have y1 := HY.out.cell 1; have y2 := HY.out.cell 2
            simp at x0 x1 x2 y0 y1 y2
            have HTX := Lib.hid (HT.out.below HBx.out)
            have hcv := run_str (P := Try.prog) (src := 53) (dst := 9) (c := cq) (HRq.out.below (HBx.out.mono hzB)) Try.underlying53 Try.underlying5 Try.underlying9
            have hcv' := run_str (P := Try.prog) (src := 53) (dst := 9) (c := bq) (HSq.out.below (HBx.out.mono hzB)) Try.underlying53 Try.underlying5 Try.underlying9
            have HS1 := Lib.hid (fun W => refFSame_any m1 m2 W hs ps)
            have HS2 := Lib.hid (fun W => refFSame_any M1 M2 W ha pa)
            by_cases e1 : s1 = s2
            case neg =>
              have HF := Lib.hid (HNE.out (by rw [← Bool.not_eq_true]; intro hh; unfold sameR at hh; simp only [Bool.and_eq_true, decide_eq_true_iff] at hh; exact e1 hh.1.1))
              go_wp2
              go_ret
              exact ⟨by rw [HF.out]; rfl, HTX.out.n⟩
            subst e1
            by_cases e2 : keyB m1 = keyB m2
            case neg =>
              have hsm := HS1.out
              rw [decide_eq_false e2] at hsm
              have HSM := Lib.hid hsm
              have HF := Lib.hid (HNE.out (by rw [← Bool.not_eq_true]; intro hh; unfold sameR at hh; simp only [Bool.and_eq_true, decide_eq_true_iff] at hh; exact e2 hh.1.2))
              clear e2 hsm HS1
              go_wp2_with (go_at_call 78; (with_reducible refine (HSM.out _).mono ?_); rintro y w5 ⟨rfl, hd5⟩; have HB5 := Lib.hid (Drw.below hd5 HTX.out.n); clear hd5)
              go_ret
              exact ⟨by rw [HF.out]; rfl, HB5.out⟩
            by_cases e3 : keyB M1 = keyB M2
            case neg =>
              have hsm := HS1.out
              rw [decide_eq_true e2] at hsm
              have hsn := HS2.out
              rw [decide_eq_false e3] at hsn
              have HSM := Lib.hid hsm; have HSN := Lib.hid hsn
              have HF := Lib.hid (HNE.out (by rw [← Bool.not_eq_true]; intro hh; unfold sameR at hh; simp only [Bool.and_eq_true, decide_eq_true_iff] at hh; exact e3 hh.2))
              clear e2 e3 hsm hsn HS1 HS2
              go_wp2_with (first
                | (go_at_call 78; (with_reducible refine (HSM.out _).mono ?_); rintro y w5 ⟨rfl, hd5⟩; have HB5 := Lib.hid (Drw.below hd5 HTX.out.n); have HX5 := HX.out.drw hd5; have HY5 := HY.out.drw hd5; have x25 := HX5.cell 2; have y25 := HY5.cell 2; simp at x25 y25; clear hd5 HX5 HY5 HSM)
                | (go_at_call 78; (with_reducible refine (HSN.out _).mono ?_); rintro y w6 ⟨rfl, hd6⟩; have HB6 := Lib.hid (Drw.below hd6 HB5.out); clear hd6))
              go_ret
              exact ⟨by rw [HF.out]; rfl, HB6.out⟩
            have hsm := HS1.out
            rw [decide_eq_true e2] at hsm
            have hsn := HS2.out
            rw [decide_eq_true e3] at hsn
            have HSM := Lib.hid hsm; have HSN := Lib.hid hsn
            have HNX2 := Lib.hid (HNX.out (by unfold sameR; simp [e2, e3]))
            clear e2 e3 hsm hsn HS1 HS2
            go_wp2_with (first
              | (go_at_call 78; (with_reducible refine (HSM.out _).mono ?_); rintro y w5 ⟨rfl, hd5⟩; have HT5 := Lib.hid (HTX.out.below (Drw.below hd5 (belR _))); have HX5 := HX.out.drw hd5; have HY5 := HY.out.drw hd5; have x25 := HX5.cell 2; have y25 := HY5.cell 2; simp at x25 y25; clear hd5 HX5 HY5 HSM)
              | (go_at_call 78; (with_reducible refine (HSN.out _).mono ?_); rintro y w6 ⟨rfl, hd6⟩; have HT6 := Lib.hid (HT5.out.below (Drw.below hd6 (belR _))); clear hd6))
            go_roundw
            case rel => exact ⟨k + 1, by omega, by go_num, HNX2.out, HT6.out⟩
            case measure => simp [intOf]; omega
        · obtain rfl : k = C.nums.length := by omega
          have HF := Lib.hid (HYES.out HE2.out (eqR_of_take G4.out HE.out))
          have q2 : ¬ (C.nums.length : Int) < (C.nums.length : Int) := by omega
          go_wp2
          go_ret
          exact ⟨by rw [HF.out]; rfl, HT.out.n⟩
end Go.Proofs.Ytfhmaincnlaapaa
