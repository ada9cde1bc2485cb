/-
  schema.Full, schema.Keys; nat.size, nat.Trim; flo.Less.
  CELLS, without the program: their bytes; whether one is right.
  LEAVES, without the program: what two lists share.
  NUMBERS OF DIGITS OF BASE 1000: sums, differences, products, quotients of digits, as far as they go.
  NUMBERS OF DIGITS OF BASE 1000 (bushelref01), without the program.
  What fact.Get reads is a batch of the schema.
  fact.Get.
-/
import Derived.Test.YtfhmaincnlaapaaGreatFgBufOut
import Derived.Test.YtfhmaincnlaapaaGreatFgBufOutKeep
import Derived.Test.YtfhmaincnlaapaaGreatFgRefNodesW
import Derived.Test.YtfhmaincnlaapaaGreatFgSchemaCheck
import Derived.Test.YtfhmaincnlaapaaGreatFgFactLight
import Derived.Test.YtfhmaincnlaapaaGreatFgGetLaw
namespace Go.Proofs.YtfhmaincnlaapaaGreat
open Go.ChangeShapes Go.WideShapes Go.ChangeAt Go.RowKit
set_option linter.unusedVariables false

theorem info_fact : (Tryz.prog.info? 86).map (fun i => (i.zero, i.size, i.bytes)) = some (some (.agg #[.slice none 0 0, .slice none 0 0, .slice none 0 0]), 3, 72) := by kernel_rfl
theorem szAt_le {S : Sch} (ho : SchOk S) (k : Nat) : szAt S k ≤ 9223372036854775807 := by
  unfold szAt
  by_cases hk : k < S.dims.length
  · have := (ho.dims (S.dims.getD k (⟨#[]⟩, 0)) (getD_mem hk)).2.2
    exact this
  · rw [show S.dims.getD k (⟨#[]⟩, 0) = (⟨#[]⟩, 0) from by simp [List.getD, Nat.not_lt.1 hk]]; decide
theorem oneS_ok {S : Sch} (ho : SchOk S) (t : List UInt8) (p e : Nat) : FactOk (oneS S t p e).1 := by
  refine ⟨runN_all (P := fun x => -9223372036854775808 ≤ x ∧ x ≤ 9223372036854775807) (fun k p e x hx => ?_) _ _ _, runN_all (P := fun x => -9223372036854775808 ≤ x ∧ x ≤ 9223372036854775807) (fun k p e x hx => ?_) _ _ _, runN_all (P := fun x => x < 18446744073709551616) (fun k p e x hx => ?_) _ _ _⟩
  · obtain rfl := List.mem_singleton.1 hx
    have := inU_le t p e (szAt S k - 1).toNat
    have := szAt_le ho k
    omega
  · obtain rfl := List.mem_singleton.1 hx
    unfold stepV
    split
    · exact getI_bounds _
    · decide
  · obtain rfl := List.mem_singleton.1 hx
    unfold stepV
    split
    · exact getF_lt _
    · decide
theorem factsS_ok {S : Sch} (ho : SchOk S) (t : List UInt8) (k : Nat) : ∀ F ∈ (factsS S t k).1, FactOk F :=
  runN_all (fun k p e x hx => by obtain rfl := List.mem_singleton.1 hx; exact oneS_ok ho t p e) _ _ _
theorem factsS_len (S : Sch) (t : List UInt8) (k : Nat) : (factsS S t k).1.length = k := runN_len (fun _ _ _ => rfl) _ _ _
/-- the cells of facts whose parts are the call's own -/
def FaO (w : World) (base : Nat) : List FactS → List Value → Prop
  | [], xs => xs = []
  | F :: l, xs => ∃ v0 v1 v2 rest, xs = v0 :: v1 :: v2 :: rest ∧ w.ownsRow base 3 1 v0 F.codes.length (i64s F.codes) ∧ w.ownsRow base 2 1 v1 F.ints.length (i64s F.ints) ∧
      w.ownsRow base 57 1 v2 F.nums.length (f64s F.nums) ∧ FaO w base l rest
section
variable {w w' : World} {base g : Nat} {l : List FactS} {xs : List Value}
theorem FaO.map (h : FaO w base l xs) (h0 : ∀ v n ys, w.ownsRow base 3 1 v n ys → w'.ownsRow base 3 1 v n ys) (h1 : ∀ v n ys, w.ownsRow base 2 1 v n ys → w'.ownsRow base 2 1 v n ys)
    (h2 : ∀ v n ys, w.ownsRow base 57 1 v n ys → w'.ownsRow base 57 1 v n ys) : FaO w' base l xs := by
  induction l generalizing xs with
  | nil => exact h
  | cons F l ih =>
    obtain ⟨v0, v1, v2, rest, rfl, o0, o1, o2, hr⟩ := h
    exact ⟨v0, v1, v2, rest, rfl, h0 _ _ _ o0, h1 _ _ _ o1, h2 _ _ _ o2, ih hr⟩
theorem FaO.only (h : FaO w base l xs) (k : Only g w w') (hg : g < base) : FaO w' base l xs :=
  h.map (fun v n ys ho => k.own ho (own_far ho hg)) (fun v n ys ho => k.own ho (own_far ho hg)) (fun v n ys ho => k.own ho (own_far ho hg))
theorem FaO.alloc (h : FaO w base l xs) (o : Obj) : FaO (w.alloc o) base l xs := h.map (fun v n ys ho => ho.alloc o) (fun v n ys ho => ho.alloc o) (fun v n ys ho => ho.alloc o)
theorem FaO.drewN (h : FaO w base l xs) (k : Nat) : FaO (w.drewN k) base l xs := h.map (fun v n ys ho => ho) (fun v n ys ho => ho) (fun v n ys ho => ho)
theorem FaO.appd {v v' : Value} {b n : Nat} {ys : List Value} (h : FaO w base l xs) (k : Appd w w' v v') (ho : w.ownsRow b 86 3 v n ys) : FaO w' base l xs :=
  h.map (fun _ _ _ h' => k.kept h' (own_own_ne h' ho (by decide))) (fun _ _ _ h' => k.kept h' (own_own_ne h' ho (by decide))) (fun _ _ _ h' => k.kept h' (own_own_ne h' ho (by decide)))
theorem FaO.snoc {F : FactS} {v0 v1 v2 : Value} (h : FaO w base l xs) (o0 : w.ownsRow base 3 1 v0 F.codes.length (i64s F.codes)) (o1 : w.ownsRow base 2 1 v1 F.ints.length (i64s F.ints))
    (o2 : w.ownsRow base 57 1 v2 F.nums.length (f64s F.nums)) : FaO w base (l ++ [F]) (xs ++ [v0, v1, v2]) := by
  induction l generalizing xs with
  | nil => cases h; exact ⟨v0, v1, v2, [], rfl, o0, o1, o2, rfl⟩
  | cons F' l ih =>
    obtain ⟨u0, u1, u2, rest, rfl, p0, p1, p2, hr⟩ := h
    exact ⟨u0, u1, u2, rest ++ [v0, v1, v2], rfl, p0, p1, p2, ih hr⟩
theorem FaO.chunk (h : FaO w base l xs) (ho : ∀ F ∈ l, FactOk F) : Chunk factR w w.heap.size l xs := by
  induction l generalizing xs with
  | nil => exact h
  | cons F l ih =>
    obtain ⟨v0, v1, v2, rest, rfl, o0, o1, o2, hr⟩ := h
    obtain ⟨A0, c0, rfl, a0, b0, _⟩ := own_form o0
    obtain ⟨A1, c1, rfl, a1, b1, _⟩ := own_form o1
    obtain ⟨A2, c2, rfl, a2, b2, _⟩ := own_form o2
    refine ⟨[_, _, _], rest, rfl, factR_mk ⟨A0, c0, A1, c1, A2, c2, rfl, rfl, rfl, Rd.own o0, Rd.own o1, Rd.own o2, ⟨a0, b0⟩, ⟨a1, b1⟩, a2, b2⟩ (ho F (by simp)), ih hr fun F' hF => ho F' (by simp [hF])⟩
end
theorem own_one {w : World} {base n : Nat} {e : TypeId} {size : Nat} {v : Value} {xs : List Value} (h : w.ownsRow base e size v n xs) : v.oneCell' = true := by
  obtain ⟨A, c, rfl, _⟩ := own_form h; rfl
theorem sch_manyOk {S : Sch} (h : checkN S = 0) : S.dims.length ≤ 6 ∧ S.ints.length ≤ 3 ∧ S.nums.length ≤ 2 ∧ ∀ k, k < S.dims.length → 1 ≤ szAt S k ∧ szAt S k ≤ 4096 := by
  obtain ⟨hm, p, hp⟩ := checkN_zero h
  unfold manyOk at hm
  exact ⟨by omega, by omega, by omega, keysTo_some S _ p hp⟩
/-- the facts read so far -/
structure GetRel (w wr : World) (g : Nat) (t : List UInt8) (SV : Array Value) (ov : Value) (m : List FactS) (p e : Nat) : Prop where
  s : Blk wr w.heap.size 26 SV
  o : ∃ xs, wr.ownsRow (g + 1) 86 3 ov m.length xs ∧ FaO wr (g + 1) m xs
  i : InS wr g t p e
  b : Below w.heap.size w wr
theorem GetRel.one {w wr w2 w3 : World} {g : Nat} {t : List UInt8} {SV : Array Value} {ov ov' : Value} {m : List FactS} {F : FactS} {p' e' : Nat} {v0 v1 v2 : Value} {xs : List Value} (hg : w.heap.size + 1 ≤ g)
    (s : Blk wr w.heap.size 26 SV) (b : Below w.heap.size w wr) (o : wr.ownsRow (g + 1) 86 3 ov m.length xs) (f : FaO wr (g + 1) m xs) (hgl : g < wr.heap.size)
    (o0 : w2.ownsRow wr.heap.size 3 1 v0 F.codes.length (i64s F.codes)) (o1 : w2.ownsRow wr.heap.size 2 1 v1 F.ints.length (i64s F.ints)) (o2 : w2.ownsRow wr.heap.size 57 1 v2 F.nums.length (f64s F.nums))
    (i : InS w2 g t p' e') (k : Only g wr w2) (ho : w3.ownsRow (g + 1) 86 3 ov' (m.length + 1) (xs ++ [v0, v1, v2])) (hap : Appd w2 w3 ov ov') : GetRel w w3 g t SV ov' (m ++ [F]) p' e' := by
  have ow2 := k.own o (own_far o (by omega))
  have hz := k.size
  have hb3 : Below (g + 1) w2 w3 := hap.below (by omega) ow2
  have hzb := b.size
  refine ⟨(k.blk s (by omega)).below hb3 (by omega), ⟨_, by rw [List.length_append]; exact ho, ?_⟩, i.below hb3 (by omega), (b.trans (k.below (by omega) (by omega))).trans (hb3.mono (by omega))⟩
  exact ((f.only k (by omega)).appd hap ow2).snoc (own_mono (hap.kept o0 (own_own_ne o0 ow2 (by decide))) (by omega)) (own_mono (hap.kept o1 (own_own_ne o1 ow2 (by decide))) (by omega)) (own_mono (hap.kept o2 (own_own_ne o2 ow2 (by decide))) (by omega))
theorem GetRel.drw {w wr w2 : World} {g : Nat} {t : List UInt8} {SV : Array Value} {ov : Value} {m : List FactS} {p e : Nat} (h : GetRel w wr g t SV ov m p e) (k : Drw wr w2) : GetRel w w2 g t SV ov m p e := by
  obtain ⟨n, rfl⟩ := k
  obtain ⟨xs, h1, h2⟩ := h.o
  exact ⟨h.s, ⟨xs, h1, h2.drewN n⟩, h.i, below_drewN h.b n⟩
set_option maxRecDepth 20000 in
set_option maxHeartbeats 4000000 in
theorem factGet_any (w : World) (B : Nat) (v : Value) (S : Sch) (A : Option Addr) (n c : Nat) (t : List UInt8) (h : SchAt w B v S) (ho : SchOk S) (hR : Rd w B 1 A n (u8s t)) (hB : B ≤ w.heap.size) (ht : n ≤ 1000000) :
    Calls Tryz.prog 11 #[v, .slice A n c] w fun y w' => ∃ A' c', y = .returned (.tuple #[.slice A' (getB S t).1.length c', .int .i64 ((getB S t).2 : Int)]) ∧ SlR factR w' w'.heap.size (getB S t).1 A' c' ∧ Below w.heap.size w w' := by
  have hh := h
  obtain ⟨A0, c0, A1, c1, A2, c2, A3, c3, rfl, r0, r1, r2, r3, b0, b1, b2, b3⟩ := hh
  clear r0 r1 r2 r3 b0 b1 b2 b3
  have hw0 := belA (belR w) (.cells #[.slice A0 S.dims.length c0, .slice A1 S.ints.length c1, .slice A2 S.nums.length c2, .slice A3 S.views.length c3] 26)
  have hc := schemaCheck_any (w.alloc (.cells #[.slice A0 S.dims.length c0, .slice A1 S.ints.length c1, .slice A2 S.nums.length c2, .slice A3 S.views.length c3] 26)) B _ S (h.keep (hw0.mono hB) (Nat.le_refl _)) ho (by simp; omega)
  have K0 := Lib.hid (Blk.new w 26 #[.slice A0 S.dims.length c0, .slice A1 S.ints.length c1, .slice A2 S.nums.length c2, .slice A3 S.views.length c3])
  have HW0 := Lib.hid hw0; have H := Lib.hid h; have HR := Lib.hid hR; have HO := Lib.hid ho
  clear hw0 h hR
  by_cases h0 : checkN S = 0
  case neg =>
    rw [getB_arg t h0]
    have t0 := i64_ne0 h0
    have HC := Lib.hid hc
    clear h0 hc
    go_enter Tryz.func11, Tryz.ntmps11
    go_wp2_with (go_at_call 39; (with_reducible refine HC.out.mono ?_); rintro y w1 ⟨rfl, hb1⟩; have HB1 := Lib.hid hb1; clear hb1)
    go_ret2
    exact ⟨none, 0, rfl, SlR.nil, HW0.out.trans (HB1.out.mono (by simp))⟩
  case pos =>
    obtain ⟨s1, s2, s3, s4⟩ := sch_manyOk h0
    rw [h0] at hc
    have hmany := fun h1 h2 => getB_many (t := t) h0 h1 h2
    have hearly := fun k hk h1 he => getB_early (t := t) h0 k hk h1 he
    have hgood := fun h1 h2 => getB_ok (t := t) h0 h1 h2
    have hend := fun h1 h2 => getB_end (t := t) h0 h1 h2
    have hst : ∀ k, factsS S t (k + 1) = ((factsS S t k).1 ++ [(oneS S t (factsS S t k).2.1 (factsS S t k).2.2).1], (oneS S t (factsS S t k).2.1 (factsS S t k).2.2).2) := fun k => rfl
    have hs0 : factsS S t 0 = ([], (inU t 0 0 200).2) := rfl
    have hok := factsS_ok ho t
    have hlen := factsS_len S t
    have hu2 := inU_le t 0 0 200
    have hue : (inU t 0 0 200).2.2 ≠ 0 → (inU t 0 0 200).1 = 0 := fun he => by
      unfold inU at he ⊢; simp only at he ⊢; unfold stepV; rw [if_neg he]
    have hone := fun (W : World) (g p e : Nat) (hS : SchAt W B (.agg #[.slice A0 S.dims.length c0, .slice A1 S.ints.length c1, .slice A2 S.nums.length c2, .slice A3 S.views.length c3]) S) (hB : B ≤ g) hi => one_any W B g (.agg #[.slice A0 S.dims.length c0, .slice A1 S.ints.length c1, .slice A2 S.nums.length c2, .slice A3 S.views.length c3]) S t p e hS hB ⟨by omega, by omega, by omega⟩ s4 hi
    have hcu : ∀ (W : World) (g : Nat), InS W g t 0 0 → Calls Tryz.prog 41 #[.pointer (some ⟨g, 0, none⟩), .int .u64 200] W
      fun y w' => y = .returned (.int .u64 ((inU t 0 0 200).1 : Int)) ∧ InS w' g t (inU t 0 0 200).2.1 (inU t 0 0 200).2.2 ∧ Only g W w' := fun W g hi => inU_any W g t 0 0 200 hi
    generalize getB S t = G at *
    generalize factsS S t = fs at *
    generalize inU t 0 0 200 = r at *
    obtain ⟨n0, p0, e0⟩ := r
    simp only at hmany hearly hgood hend hs0 hu2 hue hcu
    have HC := Lib.hid hc; have HMA := Lib.hid hmany; have HEA := Lib.hid hearly; have HGO := Lib.hid hgood; have HEN := Lib.hid hend; have HST := Lib.hid hst; have HS0 := Lib.hid hs0; have HOK := Lib.hid hok; have HLEN := Lib.hid hlen; have HUE := Lib.hid hue; have HONE := Lib.hid hone; have HCU := Lib.hid hcu
    clear hc hmany hearly hgood hend hst hs0 hok hlen hue hone hcu s4
    go_enter Tryz.func11, Tryz.ntmps11
    go_wp2_with fail
    (with_reducible refine HC.out.mono ?_); rintro y w1 ⟨rfl, hb1⟩
    have HB1 := Lib.hid (HW0.out.trans (hb1.mono (show w.heap.size ≤ _ by simp)))
    have HK1 := Lib.hid (K0.out.below hb1 (by simp))
    have hn1 := newIn_any w1 A n c t ((HR.out.below (HB1.out.mono hB)).more (Nat.le_trans hB HB1.out.size)) ht
    have HN1 := Lib.hid hn1
    clear hb1 hn1 HC
    go_wp2_with fail
    (with_reducible refine HN1.out.mono ?_); rintro y w2 ⟨g, rfl, hg, hi2, hb2⟩
    have hcu2 := HCU.out w2 g hi2
    have hgl := hi2.lt
    have hgw : w.heap.size + 1 ≤ g := by have := HK1.out.lt; omega
    have HB2 := Lib.hid (belT HB1.out hb2); have HK2 := Lib.hid (HK1.out.below hb2 HK1.out.lt); have HCU2 := Lib.hid hcu2
    clear hi2 hb2 hcu2 HN1
    go_wp2_with fail
    (with_reducible refine HCU2.out.mono ?_); rintro y w3 ⟨rfl, hi3, ho3⟩
    have hft := fault_any w3 g t p0 e0 hi3
    have HB3 := Lib.hid (HB2.out.trans (ho3.below (show w.heap.size ≤ g by omega) HB2.out.size)); have HK3 := Lib.hid (ho3.blk HK2.out (by omega)); have HFT := Lib.hid hft; have HI3 := Lib.hid hi3
    clear hi3 ho3 hft HCU2
    go_wp2_with fail
    (with_reducible refine HFT.out.mono ?_); rintro y w4 ⟨rfl, hd4⟩
    have HB4 := Lib.hid (hd4.below HB3.out); have HK4 := Lib.hid (HK3.out.drw hd4); have HI4 := Lib.hid (HI3.out.drw hd4)
    clear hd4 HFT
    by_cases hc1 : e0 = 0 ∧ n0 = 0
    · obtain ⟨rfl, rfl⟩ := hc1
      have hm := HMA.out rfl rfl
      have HM := Lib.hid hm
      clear hm
      go_wp2
      go_ret2
      exact ⟨none, 0, by rw [HM.out]; rfl, by rw [HM.out]; exact SlR.nil, HB4.out⟩
    have HC1 := Lib.hid hc1
    have hrel0 : GetRel w w4 g t #[.slice A0 S.dims.length c0, .slice A1 S.ints.length c1, .slice A2 S.nums.length c2, .slice A3 S.views.length c3] (.slice none 0 0) (fs 0).1 (fs 0).2.1 (fs 0).2.2 := by
      rw [HS0.out]
      exact ⟨HK4.out, ⟨[], World.ownsRow_nil _ _ _ 3, rfl⟩, HI4.out, HB4.out⟩
    have HR0 := Lib.hid hrel0
    clear hrel0
    have hgo : (e0 ≠ 0 ∧ n0 = 0) ∨ (e0 = 0 ∧ n0 ≠ 0) := by
      by_cases he : e0 = 0
      · exact .inr ⟨he, fun h => hc1 ⟨he, h⟩⟩
      · exact .inl ⟨he, HUE.out he⟩
    clear hc1
    have hcase : ((((e0 : Int) == 0) = false) ∨ (e0 = 0 ∧ ((n0 : Int) == 0) = false)) := by
      rcases hgo with ⟨h1, h2⟩ | ⟨h1, h2⟩
      · exact .inl (by rw [beq_eq_false_iff_ne]; omega)
      · exact .inr ⟨h1, by rw [beq_eq_false_iff_ne]; omega⟩
    clear hgo HUE HMA
    have hn0 : n0 ≤ 200 := hu2
    rcases hcase with t1 | ⟨rfl, t1⟩
    all_goals
      go_wp2
      go_loopw [10, 33] (fun ov i wr => ∃ k : Nat, k ≤ n0 ∧ i = .int .u64 (k : Int) ∧ Hid (GetRel w wr g t #[.slice A0 S.dims.length c0, .slice A1 S.ints.length c1, .slice A2 S.nums.length c2, .slice A3 S.views.length c3] ov (fs k).1 (fs k).2.1 (fs k).2.2)) (fun _ i _ => n0 - (intOf i).toNat)
      case atStart => exact ⟨0, by omega, rfl, HR0.out⟩
      case round =>
        obtain ⟨k, hk, rfl, HRR⟩ := hrel
        obtain ⟨hs, ⟨xs, hox, hfx⟩, hi, hb⟩ := HRR.out
        have hlk := HLEN.out k
        have k0 := hs.cell 0; have k1 := hs.cell 1; have k2 := hs.cell 2; have k3 := hs.cell 3
        simp at k0 k1 k2 k3
        have hgr := hi.lt
        have hzr := hb.size
        by_cases hlt : k < n0
        · have hst := HST.out k
          have hea := HEA.out (k + 1) (by omega) HC1.out
          rw [hst] at hea
          have hon := HONE.out wr g _ _ (H.out.keep (hb.mono hB) (Nat.le_refl _)) (by omega) hi
          obtain ⟨l0, l1, l2⟩ := oneS_len S t (fs k).2.1 (fs k).2.2
          generalize oneS S t (fs k).2.1 (fs k).2.2 = r1 at *
          obtain ⟨F, p2, e2⟩ := r1
          generalize (fs k).1 = m at *
          generalize (fs k).2.1 = p at *
          generalize (fs k).2.2 = e at *
          simp only at hst hea hon l0 l1 l2
          have q1 : decide ((k : Int) < (n0 : Int)) = true := decide_eq_true (by omega)
          have HS := Lib.hid hs; have HOX := Lib.hid hox; have HFX := Lib.hid hfx; have HI := Lib.hid hi; have HB := Lib.hid hb; have HSTK := Lib.hid hst; have HEK := Lib.hid hea; have HON := Lib.hid hon; have L0 := Lib.hid l0; have L1 := Lib.hid l1; have L2 := Lib.hid l2
          clear hs hox hfx hi hb hst hea hon l0 l1 l2
          go_wp2_with fail
          (with_reducible refine HON.out.mono ?_); rintro y w5 ⟨v0, v1, v2, rfl, o0, o1, o2, i5, n5⟩
          rw [← L0.out] at o0; rw [← L1.out] at o1; rw [← L2.out] at o2
          have hz5 := n5.size
          have HOW := Lib.hid (n5.own HOX.out (own_far HOX.out (by omega)))
          have HU : Hid (∀ u ∈ [v0, v1, v2], u.oneCell' = true) := Lib.hid (by
            intro u hu
            simp only [List.mem_cons, List.not_mem_nil, or_false] at hu
            rcases hu with rfl | rfl | rfl
            · exact own_one o0
            · exact own_one o1
            · exact own_one o2)
          have HONE5 := Lib.hid (fun ov' w3 ho hap => GetRel.one (w3 := w3) (ov' := ov') hgw HS.out HB.out HOX.out HFX.out hgr o0 o1 o2 i5 n5 ho hap)
          clear o0 o1 o2 i5 n5
          go_wp2_with (at_builtin; refine wpList_appN w5 [v0, v1, v2] 3 rfl (by decide) HU.out rfl (.tmp 35) (.tmp 39) 30 rfl (g + 1) 86 (.agg #[.slice none 0 0, .slice none 0 0, .slice none 0 0]) 72 info_fact rfl Tryz.underlying30 _ m.length xs HOW.out rfl rfl ?_ ?_ ?_ ?_; omega; omega; omega; intro v6 w6 ho6 hap6; have HR6 := Lib.hid (HONE5.out v6 w6 ho6 hap6); have HFT6 := Lib.hid (fault_any w6 g t p2 e2 HR6.out.i); clear ho6 hap6)
          (with_reducible refine HFT6.out.mono ?_); rintro y w7 ⟨rfl, hd7⟩
          have HR7 := Lib.hid (HR6.out.drw hd7)
          clear hd7 HFT6
          by_cases he2 : e2 = 0
          · subst he2
            go_wp2
            go_roundw
            case rel => exact ⟨k + 1, by omega, by go_num, by rw [HSTK.out]; exact HR7.out⟩
            case measure => simp [intOf]; omega
          · have t9 : ((e2 : Int) != 0) = true := by rw [bne_iff_ne]; omega
            have HEE := Lib.hid (HEK.out he2)
            clear he2
            go_wp2
            go_ret2
            exact ⟨none, 0, by rw [HEE.out]; rfl, by rw [HEE.out]; exact SlR.nil, HR7.out.b⟩
        · obtain rfl : k = n0 := by omega
          have hen := end_any wr g t _ _ hi
          have hgo2 := HGO.out HC1.out
          have hen2 := HEN.out HC1.out
          have hokk := HOK.out k
          obtain ⟨A5, c5, rfl, _, _, _⟩ := own_form hox
          generalize endE t (fs k).2.1 (fs k).2.2 = en at *
          have HEND := Lib.hid hen; have HGO2 := Lib.hid hgo2; have HEN2 := Lib.hid hen2; have HOKK := Lib.hid hokk
          have HOX := Lib.hid hox; have HFX := Lib.hid hfx; have HB := Lib.hid hb
          have q1 : decide ((k : Int) < (k : Int)) = false := decide_eq_false (by omega)
          clear hen hgo2 hen2 hokk hox hfx hb hi hs k0 k1 k2 k3
          go_wp2_with fail
          (with_reducible refine HEND.out.mono ?_); rintro y w5 ⟨rfl, _, n5⟩
          have hz5 := n5.size
          have HB5 := Lib.hid (HB.out.trans (n5.below (show w.heap.size ≤ g by omega) (by omega)))
          have HO5 := Lib.hid (n5.own HOX.out (own_far HOX.out (by omega)))
          have HF5 := Lib.hid (HFX.out.only n5 (by omega))
          clear n5
          by_cases he : en = 0
          · subst he
            have HG := Lib.hid (HGO2.out rfl)
            clear HEN2
            go_wp2
            go_ret2
            exact ⟨A5, c5, by rw [HG.out]; show _ = Ending.returned (.tuple #[.slice A5 (fs k).1.length c5, .int .i64 0]); rw [hlk]; rfl, by rw [HG.out]; exact SlR.own (R := factR) HO5.out (HF5.out.chunk HOKK.out), HB5.out⟩
          · have t9 : ((en : Int) != 0) = true := by rw [bne_iff_ne]; omega
            have HG := Lib.hid (HEN2.out he)
            clear he
            go_wp2
            go_ret2
            exact ⟨none, 0, by rw [HG.out]; rfl, by rw [HG.out]; exact SlR.nil, HB5.out⟩
end Go.Proofs.YtfhmaincnlaapaaGreat
namespace Go.Proofs.YtfhmaincnlaapaaGreat
set_option linter.unusedVariables false
theorem fitsN_al {S : Sch} {F G : FactS} (h : keyFact F = keyFact G) : fitsN S F = fitsN S G := by
  obtain ⟨h1, h2, h3⟩ := keyFact_iff.1 h
  have hn : F.nums.length = G.nums.length := (keysF_len F.nums).symm.trans ((congrArg List.length h3).trans (keysF_len G.nums))
  have hl : lensOk S F ↔ lensOk S G := by unfold lensOk; rw [h1, h2, hn]
  have hc : ∀ k, codesTo S F k = codesTo S G k := fun k => by
    unfold codesTo
    refine congrArg (fun p => (List.range k).all p) (funext fun j => ?_)
    unfold codeOk codeAt; rw [h1]
  unfold fitsN
  rw [h1, hc]
  by_cases hG : lensOk S G
  · rw [if_pos hG, if_pos (hl.2 hG)]
  · rw [if_neg hG, if_neg (fun h => hG (hl.1 h))]
theorem AlF.batch {S : Sch} {l m : List FactS} (h : AlF l m) (hb : (batchN S l).2 = 0) : (batchN S m).2 = 0 := by
  obtain ⟨h1, h2, h3, h4⟩ := batchN_zero hb
  have hl := h.len
  rw [batchN_ok h1 (by omega) fun j hj => ?_]
  have := h4 j (by omega)
  unfold fitsAt at this ⊢
  rw [← fitsN_al (h.getD j)]
  exact this
theorem runN_at {V : Type} {P : Nat → V → Prop} {f : Nat → Nat → Nat → List V × Nat × Nat} (h : ∀ k p e, ∃ x, (f k p e).1 = [x] ∧ P k x) (p e : Nat) : ∀ n j, j < n → ∃ x, (runN f p e n).1[j]? = some x ∧ P j x := by
  have hlen : ∀ n, (runN f p e n).1.length = n := fun n => runN_len (fun k p e => by obtain ⟨x, hx, _⟩ := h k p e; rw [hx]; rfl) p e n
  intro n
  induction n with
  | zero => intro j hj; omega
  | succ n ih =>
    intro j hj
    rw [runN_succ]
    by_cases hjn : j < n
    · obtain ⟨x, hx, hp⟩ := ih j hjn
      exact ⟨x, by rw [List.getElem?_append_left (by rw [hlen]; exact hjn)]; exact hx, hp⟩
    · obtain rfl : j = n := by omega
      obtain ⟨x, hx, hp⟩ := h j (runN f p e j).2.1 (runN f p e j).2.2
      refine ⟨x, ?_, hp⟩
      rw [List.getElem?_append_right (by rw [hlen]; exact Nat.le_refl _), hlen, Nat.sub_self, hx]
      rfl
theorem oneS_fits {S : Sch} (hz : ∀ k, k < S.dims.length → 1 ≤ szAt S k ∧ szAt S k ≤ 4096) (t : List UInt8) (p e : Nat) : fitsN S (oneS S t p e).1 = 0 := by
  obtain ⟨l0, l1, l2⟩ := oneS_len S t p e
  refine fitsN_ok ⟨l0, l1, l2⟩ ?_
  rw [l0]
  unfold codesTo
  rw [List.all_eq_true]
  intro k hk
  rw [List.mem_range] at hk
  obtain ⟨x, hx, hp⟩ := runN_at (f := uF t (szAt S)) (P := fun k x => ∃ y : Nat, x = (y : Int) ∧ y ≤ (szAt S k - 1).toNat) (fun k p e => ⟨_, rfl, _, rfl, inU_le t p e _⟩) p e S.dims.length k hk
  obtain ⟨y, rfl, hy⟩ := hp
  have hc : codeAt (oneS S t p e).1 k = (y : Int) := by
    unfold codeAt
    show ((runN (uF t (szAt S)) p e S.dims.length).1).getD k 0 = _
    rw [List.getD_eq_getElem?_getD, hx]
    rfl
  have := hz k hk
  unfold codeOk
  rw [hc, decide_eq_true (by omega), decide_eq_true (by omega)]
  rfl
theorem getB_fits {S : Sch} {t : List UInt8} (h : (getB S t).2 = 0) : (batchN S (getB S t).1).2 = 0 := by
  by_cases h0 : checkN S = 0
  · have hn := inU_le t 0 0 200
    by_cases h1 : (inU t 0 0 200).2.2 = 0 ∧ (inU t 0 0 200).1 = 0
    · rw [getB_many h0 h1.1 h1.2] at h; cases h
    · by_cases h2 : endE t (factsS S t (inU t 0 0 200).1).2.1 (factsS S t (inU t 0 0 200).1).2.2 = 0
      · rw [getB_ok h0 h1 h2]
        have he : (factsS S t (inU t 0 0 200).1).2.2 = 0 := by
          rcases Nat.eq_zero_or_pos (factsS S t (inU t 0 0 200).1).2.2 with h3 | h3
          · exact h3
          · unfold endE at h2; rw [if_neg (by omega)] at h2; exact h2
        have he0 : (inU t 0 0 200).2.2 = 0 := by
          rcases Nat.eq_zero_or_pos (inU t 0 0 200).2.2 with h3 | h3
          · exact h3
          · have := runN_late (factF_stuck S t) (inU t 0 0 200).2.1 (inU t 0 0 200).2.2 0 (inU t 0 0 200).1 (Nat.zero_le _) (by show (inU t 0 0 200).2.2 ≠ 0; omega)
            have h4 : (factsS S t (inU t 0 0 200).1).2 = (inU t 0 0 200).2 := this
            rw [h4] at he; omega
        have hl := factsS_len S t (inU t 0 0 200).1
        obtain ⟨_, _, _, hz⟩ := sch_manyOk h0
        rw [batchN_ok h0 (by rw [hl]; exact ⟨by rcases Nat.eq_zero_or_pos (inU t 0 0 200).1 with h5 | h5; exact absurd ⟨he0, h5⟩ h1; exact h5, hn⟩) fun j hj => ?_]
        rw [fitsAt_get _ _ _ hj]
        refine (runN_all (P := fun F => fitsN S F = 0) (f := factF S t) (fun k p e F hF => ?_) _ _ _) _ (List.getElem_mem hj)
        have : F = (oneS S t p e).1 := by simpa [factF] using hF
        rw [this]; exact oneS_fits hz t p e
      · rw [getB_end h0 h1 h2] at h; exact absurd h h2
  · rw [getB_arg t h0] at h; cases h
end Go.Proofs.YtfhmaincnlaapaaGreat
namespace Go.Proofs.YtfhmaincnlaapaaGreat
open Go.ChangeShapes Go.WideShapes Go.ChangeAt Go.RowKit
set_option linter.unusedVariables false

/-- the number of a list of digits, the lowest one first -/
def vd : List Nat → Nat
  | [] => 0
  | d :: l => d + 1000 * vd l
theorem vd_cons (d : Nat) (l : List Nat) : vd (d :: l) = d + 1000 * vd l := rfl
/-- a number's digits, no noughts at the end -/
def dig (n : Nat) : List Nat := if h : n = 0 then [] else n % 1000 :: dig (n / 1000)
termination_by n
decreasing_by exact Nat.div_lt_self (by omega) (by decide)
theorem dig_zero : dig 0 = [] := by rw [dig]; simp
theorem dig_pos {n : Nat} (h : n ≠ 0) : dig n = n % 1000 :: dig (n / 1000) := by rw [dig]; simp [h]
theorem vd_dig (n : Nat) : vd (dig n) = n := by
  induction n using Nat.strongRecOn with
  | ind n ih =>
    by_cases h : n = 0
    · subst h; rw [dig_zero]; rfl
    · rw [dig_pos h]
      unfold vd
      rw [ih (n / 1000) (by omega)]
      omega
theorem dig_lt (n : Nat) : ∀ d ∈ dig n, d < 1000 := by
  induction n using Nat.strongRecOn with
  | ind n ih =>
    by_cases h : n = 0
    · subst h; rw [dig_zero]; intro d hd; cases hd
    · rw [dig_pos h]
      intro d hd
      rcases List.mem_cons.1 hd with rfl | hd
      · omega
      · exact ih (n / 1000) (by omega) d hd
theorem vd_app (l m : List Nat) : vd (l ++ m) = vd l + 1000 ^ l.length * vd m := by
  induction l with
  | nil => simp [vd]
  | cons d l ih =>
    rw [List.cons_append, vd_cons, vd_cons, ih, List.length_cons, Nat.pow_succ, Nat.mul_add, ← Nat.mul_assoc, Nat.mul_comm 1000 (1000 ^ l.length)]
    omega
theorem vd_lt (l : List Nat) (h : ∀ d ∈ l, d < 1000) : vd l < 1000 ^ l.length := by
  induction l with
  | nil => simp [vd]
  | cons d l ih =>
    unfold vd
    have h1 := h d (by simp)
    have h2 := ih (fun x hx => h x (by simp [hx]))
    rw [List.length_cons, Nat.pow_succ]
    omega
/-- the length without noughts at the end -/
def tsz : List Nat → Nat
  | [] => 0
  | d :: l => if tsz l = 0 then (if d = 0 then 0 else 1) else tsz l + 1
theorem tsz_le (l : List Nat) : tsz l ≤ l.length := by
  induction l with
  | nil => simp [tsz]
  | cons d l ih => unfold tsz; rw [List.length_cons]; split <;> (try split) <;> omega
theorem tsz_zero (l : List Nat) : tsz l = 0 ↔ vd l = 0 := by
  induction l with
  | nil => simp [tsz, vd]
  | cons d l ih =>
    unfold tsz vd
    split
    · rename_i h
      have := ih.1 h
      split <;> omega
    · rename_i h
      have : vd l ≠ 0 := fun e => h (ih.2 e)
      omega
theorem take_tsz (l : List Nat) (h : ∀ d ∈ l, d < 1000) : l.take (tsz l) = dig (vd l) := by
  induction l with
  | nil => simp [tsz, vd, dig_zero]
  | cons d l ih =>
    have hd := h d (by simp)
    have hl := ih (fun x hx => h x (by simp [hx]))
    unfold tsz vd
    split
    · rename_i h0
      have hz := (tsz_zero l).1 h0
      split
      · rename_i hd0; subst hd0; rw [hz]; simp [dig_zero]
      · rename_i hd0
        rw [hz, Nat.mul_zero, Nat.add_zero, dig_pos hd0, Nat.mod_eq_of_lt hd, Nat.div_eq_of_lt hd, dig_zero]; simp
    · rename_i h0
      have hz : vd l ≠ 0 := fun e => h0 ((tsz_zero l).2 e)
      have e1 : (d + 1000 * vd l) % 1000 = d := by omega
      have e2 : (d + 1000 * vd l) / 1000 = vd l := by omega
      rw [List.take_succ_cons, hl, dig_pos (n := d + 1000 * vd l) (by omega), e1, e2]
theorem tsz_last (l : List Nat) (d : Nat) : tsz (l ++ [d]) = if d = 0 then tsz l else l.length + 1 := by
  induction l with
  | nil => simp [tsz]
  | cons x l ih =>
    rw [List.cons_append]
    unfold tsz
    rw [ih]
    by_cases hd : d = 0
    · rw [if_pos hd, if_pos hd]
    · rw [if_neg hd, if_neg hd, if_neg (by omega), List.length_cons]
theorem vd_pow (l : List Nat) (k : Nat) : vd (List.replicate k 0 ++ l) = 1000 ^ k * vd l := by
  rw [vd_app, List.length_replicate]
  have : vd (List.replicate k 0) = 0 := by
    induction k with
    | zero => rfl
    | succ k ih => rw [List.replicate_succ]; unfold vd; rw [ih]
  omega
theorem dig_len {n k : Nat} (h : n < 1000 ^ k) : (dig n).length ≤ k := by
  induction k generalizing n with
  | zero => have : n = 0 := by simpa using h
            subst this; rw [dig_zero]; simp
  | succ k ih =>
    by_cases h0 : n = 0
    · subst h0; rw [dig_zero]; simp
    · rw [dig_pos h0, List.length_cons]
      have := ih (n := n / 1000) (by rw [Nat.pow_succ] at h; omega)
      omega
end Go.Proofs.YtfhmaincnlaapaaGreat
namespace Go.Proofs.YtfhmaincnlaapaaGreat
open Go.ChangeShapes Go.WideShapes Go.ChangeAt Go.RowKit
set_option linter.unusedVariables false

/-- digit j, nought beyond the end -/
def dg (l : List Nat) (j : Nat) : Nat := l.getD j 0
theorem dg_get (l : List Nat) (j : Nat) (h : j < l.length) : l[j] = dg l j := by simp [dg, List.getD, h]
theorem dg_far (l : List Nat) (j : Nat) (h : l.length ≤ j) : dg l j = 0 := by simp [dg, List.getD, h]
theorem dg_lt (l : List Nat) (j : Nat) (h : ∀ d ∈ l, d < 1000) : dg l j < 1000 := by
  rcases Nat.lt_or_ge j l.length with hj | hj
  · rw [← dg_get l j hj]; exact h _ (List.getElem_mem hj)
  · rw [dg_far l j hj]; decide
theorem vd_nil : vd [] = 0 := rfl
/-- the number from digit i on -/
theorem vd_drop (l : List Nat) (i : Nat) : vd (l.drop i) = dg l i + 1000 * vd (l.drop (i + 1)) := by
  rcases Nat.lt_or_ge i l.length with hi | hi
  · rw [List.drop_eq_getElem_cons hi, vd_cons, dg_get l i hi]
  · rw [List.drop_eq_nil_of_le hi, List.drop_eq_nil_of_le (by omega), dg_far l i hi]; rfl
theorem vd_drop_far (l : List Nat) (i : Nat) (h : l.length ≤ i) : vd (l.drop i) = 0 := by rw [List.drop_eq_nil_of_le h]; rfl
theorem vd_snoc (l : List Nat) (d : Nat) : vd (l ++ [d]) = vd l + 1000 ^ l.length * d := by rw [vd_app, vd_cons, vd_nil]; simp
/-- the same from digit i on, less at digit i: less -/
theorem vd_less {a b : List Nat} (ha : ∀ d ∈ a, d < 1000) (hb : ∀ d ∈ b, d < 1000) {i : Nat} (h : vd (a.drop (i + 1)) = vd (b.drop (i + 1))) (hl : dg a i < dg b i) : vd a < vd b := by
  have e1 := vd_drop a i
  have e2 := vd_drop b i
  have hlt : vd (a.drop i) < vd (b.drop i) := by omega
  clear e1 e2 h hl
  induction i with
  | zero => simpa using hlt
  | succ i ih =>
    apply ih
    have e1 := vd_drop a i
    have e2 := vd_drop b i
    have h1 := dg_lt a i ha
    have h2 := dg_lt b i hb
    omega
/-- the sum of digits, as far as it goes -/
def SumR (a b out : List Nat) (i carry : Nat) : Prop := out.length = i ∧ carry ≤ 1 ∧ (∀ d ∈ out, d < 1000) ∧ vd out + 1000 ^ i * (carry + vd (a.drop i) + vd (b.drop i)) = vd a + vd b
theorem SumR.zero (a b : List Nat) : SumR a b [] 0 0 := ⟨rfl, by decide, fun d hd => (by cases hd), by simp [vd_nil]⟩
theorem SumR.succ {a b out : List Nat} {i carry : Nat} (ha : ∀ d ∈ a, d < 1000) (hb : ∀ d ∈ b, d < 1000) (h : SumR a b out i carry) : SumR a b (out ++ [(dg a i + dg b i + carry) % 1000]) (i + 1) ((dg a i + dg b i + carry) / 1000) := by
  obtain ⟨h1, h2, h3, h4⟩ := h
  have x1 := dg_lt a i ha
  have x2 := dg_lt b i hb
  refine ⟨by simp [h1], by omega, fun d hd => ?_, ?_⟩
  · rcases List.mem_append.1 hd with hd | hd
    · exact h3 d hd
    · obtain rfl := List.mem_singleton.1 hd; exact Nat.mod_lt _ (by decide)
  · rw [vd_snoc, h1, ← h4, vd_drop a i, vd_drop b i, Nat.pow_succ]
    generalize 1000 ^ i = P
    generalize vd (a.drop (i + 1)) = x
    generalize vd (b.drop (i + 1)) = y
    obtain ⟨s, hs⟩ : ∃ s, dg a i + dg b i + carry = s := ⟨_, rfl⟩
    have e1 : carry + (dg a i + 1000 * x) + (dg b i + 1000 * y) = s % 1000 + 1000 * (s / 1000 + x + y) := by omega
    rw [hs, e1, Nat.mul_add P (s % 1000), Nat.mul_assoc P 1000, Nat.add_assoc]
theorem SumR.end_ {a b out : List Nat} {i carry : Nat} (h : SumR a b out i carry) (h1 : a.length ≤ i) (h2 : b.length ≤ i) : vd (out ++ [carry]) = vd a + vd b ∧ ∀ d ∈ out ++ [carry], d < 1000 := by
  obtain ⟨g1, g2, g3, g4⟩ := h
  rw [vd_drop_far a i h1, vd_drop_far b i h2] at g4
  refine ⟨by rw [vd_snoc, g1, ← g4]; simp, fun d hd => ?_⟩
  rcases List.mem_append.1 hd with hd | hd
  · exact g3 d hd
  · obtain rfl := List.mem_singleton.1 hd; omega
/-- the difference of digits, as far as it goes -/
def RestR (a b out : List Nat) (i borrow : Nat) : Prop := out.length = i ∧ borrow ≤ 1 ∧ (∀ d ∈ out, d < 1000) ∧ (vd out : Int) + (1000 ^ i : Nat) * ((vd (a.drop i) : Int) - vd (b.drop i) - borrow) = (vd a : Int) - vd b
theorem RestR.zero (a b : List Nat) : RestR a b [] 0 0 := ⟨rfl, by decide, fun d hd => (by cases hd), by simp [vd_nil]⟩
theorem RestR.step {a b out : List Nat} {i borrow d borrow' : Nat} (hd : d < 1000) (hb' : borrow' ≤ 1) (h : RestR a b out i borrow) (he : (dg a i : Int) - dg b i - borrow = (d : Int) - 1000 * borrow') : RestR a b (out ++ [d]) (i + 1) borrow' := by
  obtain ⟨h1, h2, h3, h4⟩ := h
  refine ⟨by simp [h1], hb', fun x hx => ?_, ?_⟩
  · rcases List.mem_append.1 hx with hx | hx
    · exact h3 x hx
    · obtain rfl := List.mem_singleton.1 hx; exact hd
  · rw [vd_snoc, h1, ← h4, vd_drop a i, vd_drop b i, Nat.pow_succ]
    generalize 1000 ^ i = P
    generalize vd (a.drop (i + 1)) = x
    generalize vd (b.drop (i + 1)) = y
    have e1 : ((dg a i + 1000 * x : Nat) : Int) - ((dg b i + 1000 * y : Nat) : Int) - borrow = d + 1000 * ((x : Int) - y - borrow') := by omega
    rw [e1, Int.mul_add]
    simp only [Int.natCast_add, Int.natCast_mul]
    rw [Int.mul_assoc (P : Int), Int.add_assoc]
    rfl
theorem RestR.end_ {a b out : List Nat} (h : ∃ borrow, RestR a b out a.length borrow) (hle : vd b ≤ vd a) : vd out = vd a - vd b ∧ ∀ d ∈ out, d < 1000 := by
  obtain ⟨borrow, g1, g2, g3, g4⟩ := h
  refine ⟨?_, g3⟩
  rw [vd_drop_far a _ (Nat.le_refl _)] at g4
  have hlt := vd_lt out g3
  rw [g1] at hlt
  generalize 1000 ^ a.length = P at *
  generalize hx : vd (b.drop a.length) = x at *
  have hz : x + borrow = 0 := by
    rcases Nat.eq_zero_or_pos (x + borrow) with h0 | h0
    · exact h0
    · exfalso
      have e : (P : Int) * ((0 : Nat) - (x : Int) - borrow) = -((P * (x + borrow) : Nat) : Int) := by push_cast; rw [show ((0 : Int) - x - borrow) = -((x : Int) + borrow) from by omega, Int.mul_neg]
      rw [e] at g4
      have : P * 1 ≤ P * (x + borrow) := Nat.mul_le_mul_left _ h0
      omega
  obtain ⟨rfl, rfl⟩ : x = 0 ∧ borrow = 0 := by omega
  simp at g4
  omega
/-- one digit turned -/
theorem vd_set (l : List Nat) (j x : Nat) (h : j < l.length) : vd (l.set j x) + 1000 ^ j * dg l j = vd l + 1000 ^ j * x := by
  induction l generalizing j with
  | nil => simp at h
  | cons d l ih =>
    cases j with
    | zero => simp [vd_cons, dg]; omega
    | succ j =>
      have := ih j (by simpa using h)
      rw [List.set_cons_succ, vd_cons, vd_cons, Nat.pow_succ]
      have e : dg (d :: l) (j + 1) = dg l j := by simp [dg]
      rw [e, Nat.mul_comm (1000 ^ j) 1000, Nat.mul_assoc, Nat.mul_assoc]
      omega
theorem dg_set_self (l : List Nat) (j x : Nat) (h : j < l.length) : dg (l.set j x) j = x := by simp [dg, List.getD, h]
theorem dg_set_ne (l : List Nat) (j k x : Nat) (h : j ≠ k) : dg (l.set j x) k = dg l k := by simp [dg, List.getD, List.getElem?_set_ne h]
theorem vd_repl (k : Nat) : vd (List.replicate k 0) = 0 := by have := vd_pow [] k; simpa [vd_nil] using this
/-- the product of digits, as far as it goes: rounds i; in round i, k digits of b -/
def MulR (a b out : List Nat) (i : Nat) : Prop := out.length = a.length + b.length + 1 ∧ (∀ d ∈ out, d < 1000) ∧ (∀ j, i + b.length ≤ j → dg out j = 0) ∧ vd out = vd (a.take i) * vd b
def MulI (a b out : List Nat) (i k carry : Nat) : Prop := out.length = a.length + b.length + 1 ∧ (∀ d ∈ out, d < 1000) ∧ (∀ j, i + b.length ≤ j → dg out j = 0) ∧ carry < 1000 ∧ vd out + 1000 ^ (i + k) * carry = vd (a.take i) * vd b + 1000 ^ i * (dg a i * vd (b.take k))
theorem mem_set_lt {l : List Nat} {j x : Nat} (h : ∀ d ∈ l, d < 1000) (hx : x < 1000) : ∀ d ∈ l.set j x, d < 1000 := fun d hd => by
  rcases List.mem_or_eq_of_mem_set hd with hd | rfl
  · exact h d hd
  · exact hx
theorem vd_take_succ (l : List Nat) (k : Nat) (h : k < l.length) : vd (l.take (k + 1)) = vd (l.take k) + 1000 ^ k * dg l k := by
  rw [List.take_succ_eq_append_getElem h, vd_snoc, List.length_take, dg_get l k h, Nat.min_eq_left (by omega)]
theorem MulR.zero (a b : List Nat) : MulR a b (List.replicate (a.length + b.length + 1) 0) 0 := by
  refine ⟨by simp, fun d hd => ?_, fun j _ => ?_, ?_⟩
  · have := List.eq_of_mem_replicate hd; omega
  · unfold dg List.getD; rw [List.getElem?_replicate]; split <;> rfl
  · rw [vd_repl]; simp [vd_nil]
theorem MulR.start {a b out : List Nat} {i : Nat} (h : MulR a b out i) : MulI a b out i 0 0 := ⟨h.1, h.2.1, h.2.2.1, by decide, by rw [h.2.2.2]; simp [vd_nil]⟩
theorem prod_bd {x y z c : Nat} (hx : x < 1000) (hy : y < 1000) (hz : z < 1000) (hc : c < 1000) : z + x * y + c < 1000000 := by
  have : x * y ≤ 999 * 999 := Nat.mul_le_mul (by omega) (by omega)
  omega
theorem MulI.succ {a b out : List Nat} {i k carry : Nat} (ha : ∀ d ∈ a, d < 1000) (hb : ∀ d ∈ b, d < 1000) (h : MulI a b out i k carry) (hi : i < a.length) (hk : k < b.length) :
    MulI a b (out.set (i + k) ((dg out (i + k) + dg a i * dg b k + carry) % 1000)) i (k + 1) ((dg out (i + k) + dg a i * dg b k + carry) / 1000) := by
  obtain ⟨h1, h2, h3, h4, h5⟩ := h
  have x1 := dg_lt a i ha
  have x2 := dg_lt b k hb
  have x3 := dg_lt out (i + k) h2
  have hbd := prod_bd x1 x2 x3 h4
  have hs := vd_set out (i + k) ((dg out (i + k) + dg a i * dg b k + carry) % 1000) (by omega)
  refine ⟨by simp [h1], mem_set_lt h2 (Nat.mod_lt _ (by decide)), fun j hj => by rw [dg_set_ne _ _ _ _ (by omega)]; exact h3 j hj, by omega, ?_⟩
  rw [vd_take_succ b k hk, Nat.mul_add, Nat.mul_add, ← Nat.add_assoc (vd (a.take i) * vd b), ← h5, ← Nat.add_assoc i k 1, Nat.pow_succ]
  generalize dg out (i + k) = o at *
  generalize dg a i = p at *
  generalize dg b k = q at *
  have e1 : 1000 ^ i * (p * (1000 ^ k * q)) = 1000 ^ (i + k) * (p * q) := by rw [Nat.pow_add, ← Nat.mul_assoc p, Nat.mul_comm p, Nat.mul_assoc (1000 ^ k), ← Nat.mul_assoc (1000 ^ i)]
  rw [e1]
  generalize vd (out.set (i + k) ((o + p * q + carry) % 1000)) = V' at *
  generalize vd out = V at *
  generalize 1000 ^ (i + k) = P at *
  obtain ⟨s, hss⟩ : ∃ s, o + p * q + carry = s := ⟨_, rfl⟩
  rw [hss] at hs ⊢
  have e2 : P * s = P * o + P * (p * q) + P * carry := by rw [← hss, Nat.mul_add, Nat.mul_add]
  have e3 : P * s = P * (s % 1000) + P * 1000 * (s / 1000) := by
    rw [Nat.mul_assoc, ← Nat.mul_add, Nat.mod_add_div]
  omega
theorem MulI.end_ {a b out : List Nat} {i carry : Nat} (h : MulI a b out i b.length carry) (hi : i < a.length) : MulR a b (out.set (i + b.length) carry) (i + 1) := by
  obtain ⟨h1, h2, h3, h4, h5⟩ := h
  have hs := vd_set out (i + b.length) carry (by omega)
  have h0 := h3 (i + b.length) (Nat.le_refl _)
  refine ⟨by simp [h1], mem_set_lt h2 h4, fun j hj => by rw [dg_set_ne _ _ _ _ (by omega)]; exact h3 j (by omega), ?_⟩
  rw [h0, Nat.mul_zero, Nat.add_zero] at hs
  rw [hs, h5, vd_take_succ a i hi, List.take_length, Nat.add_mul, Nat.mul_assoc]
theorem MulR.all {a b out : List Nat} (h : MulR a b out a.length) : vd out = vd a * vd b ∧ ∀ d ∈ out, d < 1000 := by
  obtain ⟨_, h2, _, h4⟩ := h
  rw [List.take_length] at h4
  exact ⟨h4, h2⟩
/-- how many digits -/
def nd (z : Int) : Nat := (dig z.natAbs).length
theorem dig_len2 {n k : Nat} (h : n < 2 ^ k) : (dig n).length ≤ k := dig_len (Nat.lt_of_lt_of_le h (Nat.pow_le_pow_left (by decide) k))
/-- long division: what is left, and a digit more -/
theorem ldiv_step {b r d : Nat} (hb : 0 < b) (hr : r < b) (hd : d < 1000) : (d + 1000 * r) / b < 1000 := by
  rw [Nat.div_lt_iff_lt_mul hb]
  have : 1000 * r + 1000 ≤ 1000 * b := by omega
  rw [Nat.mul_comm]; omega
/-- long division, as far as it goes: digits from i on are done -/
def DivR (a q : List Nat) (b i r : Nat) : Prop := q.length = a.length ∧ (∀ d ∈ q, d < 1000) ∧ (∀ j, j < i → dg q j = 0) ∧ r < b ∧ vd (q.drop i) * b + r = vd (a.drop i)
theorem DivR.start (a : List Nat) (b : Nat) (hb : 0 < b) : DivR a (List.replicate a.length 0) b a.length 0 := by
  refine ⟨by simp, fun d hd => ?_, fun j _ => ?_, hb, ?_⟩
  · have := List.eq_of_mem_replicate hd; omega
  · unfold dg List.getD; rw [List.getElem?_replicate]; split <;> rfl
  · rw [vd_drop_far _ _ (by simp), vd_drop_far _ _ (Nat.le_refl _)]; simp
theorem drop_set_le (l : List Nat) (i x : Nat) : (l.set i x).drop (i + 1) = l.drop (i + 1) := by rw [List.drop_set_of_lt (by omega)]
theorem DivR.step {a q : List Nat} {b i r : Nat} (ha : ∀ d ∈ a, d < 1000) (h : DivR a q b (i + 1) r) (hi : i < a.length) : DivR a (q.set i ((dg a i + 1000 * r) / b)) b i ((dg a i + 1000 * r) % b) := by
  obtain ⟨h1, h2, h3, h4, h5⟩ := h
  have hb : 0 < b := by omega
  have hd := ldiv_step hb h4 (dg_lt a i ha)
  refine ⟨by simp [h1], mem_set_lt h2 hd, fun j hj => by rw [dg_set_ne _ _ _ _ (by omega)]; exact h3 j (by omega), Nat.mod_lt _ hb, ?_⟩
  rw [vd_drop (q.set i _) i, vd_drop a i, dg_set_self _ _ _ (by omega), drop_set_le, ← h5, Nat.add_mul]
  have e := Nat.div_add_mod (dg a i + 1000 * r) b
  rw [Nat.mul_comm b] at e
  rw [Nat.mul_add, ← Nat.mul_assoc]
  generalize (dg a i + 1000 * r) / b * b = x at *
  generalize (dg a i + 1000 * r) % b = y at *
  generalize 1000 * vd (List.drop (i + 1) q) * b = z
  omega
theorem set_zero {q : List Nat} {i : Nat} (h : dg q i = 0) : q.set i 0 = q := by
  apply List.ext_getElem?
  intro j
  rw [List.getElem?_set]
  split
  · rename_i e; subst e
    split
    · rename_i hl
      rw [List.getElem?_eq_getElem hl, dg_get q _ hl, h]
    · rename_i hl
      rw [List.getElem?_eq_none (by omega)]
  · rfl
theorem DivR.less {a q : List Nat} {b i r : Nat} (ha : ∀ d ∈ a, d < 1000) (h : DivR a q b (i + 1) r) (hi : i < a.length) (hl : dg a i + 1000 * r < b) : DivR a q b i (dg a i + 1000 * r) := by
  have h' := h.step ha hi
  rw [Nat.div_eq_of_lt hl, Nat.mod_eq_of_lt hl, set_zero (h.2.2.1 i (by omega))] at h'
  exact h'
theorem DivR.all {a q : List Nat} {b r : Nat} (h : DivR a q b 0 r) : vd q = vd a / b ∧ (∀ d ∈ q, d < 1000) := by
  obtain ⟨_, h2, _, h4, h5⟩ := h
  refine ⟨?_, h2⟩
  rw [List.drop_zero, List.drop_zero] at h5
  rw [← h5, Nat.add_comm, Nat.add_mul_div_right _ _ (by omega), Nat.div_eq_of_lt h4]; omega
theorem quot_of {b r q : Nat} (h1 : q * b ≤ r) (h2 : r < (q + 1) * b) : r / b = q := by
  have hb : 0 < b := by
    rcases Nat.eq_zero_or_pos b with h0 | h0
    · subst h0; omega
    · exact h0
  apply Nat.le_antisymm
  · exact Nat.le_of_lt_succ ((Nat.div_lt_iff_lt_mul hb).2 h2)
  · exact (Nat.le_div_iff_mul_le hb).2 h1
end Go.Proofs.YtfhmaincnlaapaaGreat
namespace Go.Proofs.YtfhmaincnlaapaaGreat
open Go.ChangeShapes Go.WideShapes Go.ChangeAt Go.RowKit
set_option linter.unusedVariables false

end Go.Proofs.YtfhmaincnlaapaaGreat
namespace Go.Proofs.YtfhmaincnlaapaaGreat
open Go.ChangeShapes Go.WideShapes Go.ChangeAt Go.RowKit
set_option linter.unusedVariables false

def encSq (l : List Nat) : List UInt8 := l.flatMap encU
def encWhole (x : WholeS) : List UInt8 := encI x.sum ++ encI x.abs ++ encU x.sq.length ++ encSq x.sq ++ encI x.mn ++ encI x.mx
def encReal (x : RealS) : List UInt8 := encU x.sum.length ++ x.sum ++ be 8 (keyB x.mn) ++ be 8 (keyB x.mx)
def encWholes (l : List WholeS) : List UInt8 := l.flatMap encWhole
def encReals (l : List RealS) : List UInt8 := l.flatMap encReal
/-- what the first bytes of a sum tell -/
def hd (b : List UInt8) (i : Nat) : Nat := (b.getD i 0).toNat
def headE (b : List UInt8) : Nat :=
  if 0 < b.length ∧ (63 < hd b 0 ∨ (hd b 0 / 32 % 2 = 1 ∧ hd b 0 / 16 % 2 = 0)) then 6
  else if 1 < b.length ∧ (69 < hd b 1 ∨ (0 < hd b 1 ∧ hd b 0 / 16 % 2 = 0)) then 6
  else if 2 < b.length ∧ (70 < hd b 1 + hd b 2 ∨ (0 < hd b 2 ∧ hd b 0 / 16 % 2 = 0) ∨ (hd b 2 = 0 ∧ (0 < hd b 1 ∨ hd b 0 / 32 % 2 = 1))) then 6
  else 0
/-- word i of a sum's bytes -/
def wordB (b : List UInt8) (i : Nat) : Nat := bv ((b.drop (3 + 4 * i)).take 4)
/-- the words from number i on, n in all -/
def wordsE (b : List UInt8) (n : Nat) : Nat → Nat
  | 0 => if 3 + 4 * n < b.length then 7 else 0
  | k + 1 => if b.length < 3 + 4 * (n - (k + 1)) + 4 then 5 else if (n - (k + 1) = 0 ∨ k = 0) ∧ wordB b (n - (k + 1)) = 0 then 6 else wordsE b n k
def readE (b : List UInt8) : Nat := if headE b ≠ 0 then headE b else if b.length < 3 then 5 else wordsE b (hd b 2) (hd b 2)
def keysP (S : Sch) (mask : Nat) : Nat → Nat
  | 0 => 1
  | k + 1 => if mask.testBit k then keysP S mask k * (szAt S k).toNat else keysP S mask k
def keysOf (S : Sch) (mask : Nat) : Option Nat := if checkN S = 0 ∧ mask < p2 S.dims.length then some (keysP S mask S.dims.length) else none
def okW (x : WholeS) : Bool := decide (0 ≤ x.abs) && decide (x.sum ≤ x.abs) && decide (-x.abs ≤ x.sum) && decide (x.mn ≤ x.mx) && decide (x.sq.length ≤ 7) && decide (tsz x.sq = x.sq.length)
def okR (x : RealS) : Bool := decide (readE x.sum = 0) && decide (keyB x.mn ≤ keyB x.mx)
def rightC (S : Sch) (mask : Nat) (C : CellS) : Bool :=
  match keysOf S mask with
  | none => false
  | some n => decide (C.key < n) && decide (1 ≤ C.count) && decide (C.ints.length = S.ints.length) && decide (C.nums.length = S.nums.length) && C.ints.all okW && C.nums.all okR
def risingC : List CellS → Bool
  | [] => true
  | [_] => true
  | C :: D :: l => decide (C.key < D.key) && risingC (D :: l)
end Go.Proofs.YtfhmaincnlaapaaGreat
namespace Go.Proofs.YtfhmaincnlaapaaGreat
open Go.ChangeShapes Go.WideShapes Go.ChangeAt Go.RowKit
set_option linter.unusedVariables false

theorem Rd.u32n {w : World} {B : Nat} {A : Option Addr} {l : List Nat} (h : Rd w B 1 A l.length (u32n l)) {k : Nat} (hk : k < l.length) : ∃ a, A = some a ∧ a.block < B ∧ w.cell? (a.add k) = some (.int .u32 ((l.getD k 0 : Nat) : Int)) := by
  obtain ⟨a, u, e, hb, hx, hc⟩ := h.at1 hk
  refine ⟨a, e, hb, ?_⟩
  rw [hc]
  simp [hk] at hx
  simp [List.getD, hk, ← hx]
theorem tsz_take (l : List Nat) (m : Nat) (h : m < l.length) : tsz (l.take (m + 1)) = if l.getD m 0 = 0 then tsz (l.take m) else m + 1 := by
  rw [List.take_succ_eq_append_getElem h, tsz_last, List.length_take, Nat.min_eq_left (by omega)]
  simp [List.getD, h]
theorem rd_take1 {w : World} {B n k : Nat} {A : Option Addr} {xs : List Value} (h : Rd w B 1 A n xs) (hk : k ≤ n) : Rd w B 1 A k (xs.take k) := by
  have hl := h.1
  refine ⟨by rw [List.length_take]; omega, fun hn => ?_⟩
  obtain ⟨a, rfl, hb, hcell⟩ := h.2 (by omega)
  refine ⟨a, rfl, hb, fun j u hu => hcell j u ?_⟩
  rw [List.getElem?_take] at hu
  split at hu
  · exact hu
  · cases hu
end Go.Proofs.YtfhmaincnlaapaaGreat
