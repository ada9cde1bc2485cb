/-
  fact.Get.
-/
import Derived.Test.YtpnolgghbenekaaFactOne
import Derived.Test.YtpnolgghbenekaaFactLight
namespace Go.Proofs.Ytpnolgghbenekaa
open Go.ChangeShapes Go.WideShapes Go.ChangeAt Go.RowKit
set_option linter.unusedVariables false

theorem info_fact : (Try.prog.info? 66).map (fun i => (i.zero, i.size, i.bytes)) = some (some (.agg #[.slice none 0 0, .slice none 0 0, .slice none 0 0]), 3, 72) := by kernel_rfl
theorem szAt_le {S : Sch} (ho : SchOk S) (k : Nat) : szAt S k ≤ 9223372036854775807 := by
  unfold szAt
  by_cases hk : k < S.dims.length
  · have := (ho.dims (S.dims.getD k (⟨#[]⟩, 0)) (getD_mem hk)).2.2
    exact this
  · rw [show S.dims.getD k (⟨#[]⟩, 0) = (⟨#[]⟩, 0) from by simp [List.getD, Nat.not_lt.1 hk]]; decide
theorem oneS_ok {S : Sch} (ho : SchOk S) (t : List UInt8) (p e : Nat) : FactOk (oneS S t p e).1 := by
  refine ⟨runN_all (P := fun x => -9223372036854775808 ≤ x ∧ x ≤ 9223372036854775807) (fun k p e x hx => ?_) _ _ _, runN_all (P := fun x => -9223372036854775808 ≤ x ∧ x ≤ 9223372036854775807) (fun k p e x hx => ?_) _ _ _, runN_all (P := fun x => x < 18446744073709551616) (fun k p e x hx => ?_) _ _ _⟩
  · obtain rfl := List.mem_singleton.1 hx
    have := inU_le t p e (szAt S k - 1).toNat
    have := szAt_le ho k
    omega
  · obtain rfl := List.mem_singleton.1 hx
    unfold stepV
    split
    · exact getI_bounds _
    · decide
  · obtain rfl := List.mem_singleton.1 hx
    unfold stepV
    split
    · exact getF_lt _
    · decide
theorem factsS_ok {S : Sch} (ho : SchOk S) (t : List UInt8) (k : Nat) : ∀ F ∈ (factsS S t k).1, FactOk F :=
  runN_all (fun k p e x hx => by obtain rfl := List.mem_singleton.1 hx; exact oneS_ok ho t p e) _ _ _
theorem factsS_len (S : Sch) (t : List UInt8) (k : Nat) : (factsS S t k).1.length = k := runN_len (fun _ _ _ => rfl) _ _ _
/-- the cells of facts whose parts are the call's own -/
def FaO (w : World) (base : Nat) : List FactS → List Value → Prop
  | [], xs => xs = []
  | F :: l, xs => ∃ v0 v1 v2 rest, xs = v0 :: v1 :: v2 :: rest ∧ w.ownsRow base 3 1 v0 F.codes.length (i64s F.codes) ∧ w.ownsRow base 2 1 v1 F.ints.length (i64s F.ints) ∧
      w.ownsRow base 77 1 v2 F.nums.length (f64s F.nums) ∧ FaO w base l rest
section
variable {w w' : World} {base g : Nat} {l : List FactS} {xs : List Value}
theorem FaO.map (h : FaO w base l xs) (h0 : ∀ v n ys, w.ownsRow base 3 1 v n ys → w'.ownsRow base 3 1 v n ys) (h1 : ∀ v n ys, w.ownsRow base 2 1 v n ys → w'.ownsRow base 2 1 v n ys)
    (h2 : ∀ v n ys, w.ownsRow base 77 1 v n ys → w'.ownsRow base 77 1 v n ys) : FaO w' base l xs := by
  induction l generalizing xs with
  | nil => exact h
  | cons F l ih =>
    obtain ⟨v0, v1, v2, rest, rfl, o0, o1, o2, hr⟩ := h
    exact ⟨v0, v1, v2, rest, rfl, h0 _ _ _ o0, h1 _ _ _ o1, h2 _ _ _ o2, ih hr⟩
theorem FaO.only (h : FaO w base l xs) (k : Only g w w') (hg : g < base) : FaO w' base l xs :=
  h.map (fun v n ys ho => k.own ho (own_far ho hg)) (fun v n ys ho => k.own ho (own_far ho hg)) (fun v n ys ho => k.own ho (own_far ho hg))
theorem FaO.alloc (h : FaO w base l xs) (o : Obj) : FaO (w.alloc o) base l xs := h.map (fun v n ys ho => ho.alloc o) (fun v n ys ho => ho.alloc o) (fun v n ys ho => ho.alloc o)
theorem FaO.drewN (h : FaO w base l xs) (k : Nat) : FaO (w.drewN k) base l xs := h.map (fun v n ys ho => ho) (fun v n ys ho => ho) (fun v n ys ho => ho)
theorem FaO.appd {v v' : Value} {b n : Nat} {ys : List Value} (h : FaO w base l xs) (k : Appd w w' v v') (ho : w.ownsRow b 66 3 v n ys) : FaO w' base l xs :=
  h.map (fun _ _ _ h' => k.kept h' (own_own_ne h' ho (by decide))) (fun _ _ _ h' => k.kept h' (own_own_ne h' ho (by decide))) (fun _ _ _ h' => k.kept h' (own_own_ne h' ho (by decide)))
theorem FaO.snoc {F : FactS} {v0 v1 v2 : Value} (h : FaO w base l xs) (o0 : w.ownsRow base 3 1 v0 F.codes.length (i64s F.codes)) (o1 : w.ownsRow base 2 1 v1 F.ints.length (i64s F.ints))
    (o2 : w.ownsRow base 77 1 v2 F.nums.length (f64s F.nums)) : FaO w base (l ++ [F]) (xs ++ [v0, v1, v2]) := by
  induction l generalizing xs with
  | nil => cases h; exact ⟨v0, v1, v2, [], rfl, o0, o1, o2, rfl⟩
  | cons F' l ih =>
    obtain ⟨u0, u1, u2, rest, rfl, p0, p1, p2, hr⟩ := h
    exact ⟨u0, u1, u2, rest ++ [v0, v1, v2], rfl, p0, p1, p2, ih hr⟩
theorem FaO.chunk (h : FaO w base l xs) (ho : ∀ F ∈ l, FactOk F) : Chunk factR w w.heap.size l xs := by
  induction l generalizing xs with
  | nil => exact h
  | cons F l ih =>
    obtain ⟨v0, v1, v2, rest, rfl, o0, o1, o2, hr⟩ := h
    obtain ⟨A0, c0, rfl, a0, b0, _⟩ := own_form o0
    obtain ⟨A1, c1, rfl, a1, b1, _⟩ := own_form o1
    obtain ⟨A2, c2, rfl, a2, b2, _⟩ := own_form o2
    refine ⟨[_, _, _], rest, rfl, factR_mk ⟨A0, c0, A1, c1, A2, c2, rfl, rfl, rfl, Rd.own o0, Rd.own o1, Rd.own o2, ⟨a0, b0⟩, ⟨a1, b1⟩, a2, b2⟩ (ho F (by simp)), ih hr fun F' hF => ho F' (by simp [hF])⟩
end
theorem own_one {w : World} {base n : Nat} {e : TypeId} {size : Nat} {v : Value} {xs : List Value} (h : w.ownsRow base e size v n xs) : v.oneCell' = true := by
  obtain ⟨A, c, rfl, _⟩ := own_form h; rfl
theorem sch_manyOk {S : Sch} (h : checkN S = 0) : S.dims.length ≤ 6 ∧ S.ints.length ≤ 3 ∧ S.nums.length ≤ 2 ∧ ∀ k, k < S.dims.length → 1 ≤ szAt S k ∧ szAt S k ≤ 4096 := by
  obtain ⟨hm, p, hp⟩ := checkN_zero h
  unfold manyOk at hm
  exact ⟨by omega, by omega, by omega, keysTo_some S _ p hp⟩
/-- the facts read so far -/
structure GetRel (w wr : World) (g : Nat) (t : List UInt8) (SV : Array Value) (ov : Value) (m : List FactS) (p e : Nat) : Prop where
  s : Blk wr w.heap.size 52 SV
  o : ∃ xs, wr.ownsRow (g + 1) 66 3 ov m.length xs ∧ FaO wr (g + 1) m xs
  i : InS wr g t p e
  b : Below w.heap.size w wr
theorem GetRel.one {w wr w2 w3 : World} {g : Nat} {t : List UInt8} {SV : Array Value} {ov ov' : Value} {m : List FactS} {F : FactS} {p' e' : Nat} {v0 v1 v2 : Value} {xs : List Value} (hg : w.heap.size + 1 ≤ g)
    (s : Blk wr w.heap.size 52 SV) (b : Below w.heap.size w wr) (o : wr.ownsRow (g + 1) 66 3 ov m.length xs) (f : FaO wr (g + 1) m xs) (hgl : g < wr.heap.size)
    (o0 : w2.ownsRow wr.heap.size 3 1 v0 F.codes.length (i64s F.codes)) (o1 : w2.ownsRow wr.heap.size 2 1 v1 F.ints.length (i64s F.ints)) (o2 : w2.ownsRow wr.heap.size 77 1 v2 F.nums.length (f64s F.nums))
    (i : InS w2 g t p' e') (k : Only g wr w2) (ho : w3.ownsRow (g + 1) 66 3 ov' (m.length + 1) (xs ++ [v0, v1, v2])) (hap : Appd w2 w3 ov ov') : GetRel w w3 g t SV ov' (m ++ [F]) p' e' := by
  have ow2 := k.own o (own_far o (by omega))
  have hz := k.size
  have hb3 : Below (g + 1) w2 w3 := hap.below (by omega) ow2
  have hzb := b.size
  refine ⟨(k.blk s (by omega)).below hb3 (by omega), ⟨_, by rw [List.length_append]; exact ho, ?_⟩, i.below hb3 (by omega), (b.trans (k.below (by omega) (by omega))).trans (hb3.mono (by omega))⟩
  exact ((f.only k (by omega)).appd hap ow2).snoc (own_mono (hap.kept o0 (own_own_ne o0 ow2 (by decide))) (by omega)) (own_mono (hap.kept o1 (own_own_ne o1 ow2 (by decide))) (by omega)) (own_mono (hap.kept o2 (own_own_ne o2 ow2 (by decide))) (by omega))
theorem GetRel.drw {w wr w2 : World} {g : Nat} {t : List UInt8} {SV : Array Value} {ov : Value} {m : List FactS} {p e : Nat} (h : GetRel w wr g t SV ov m p e) (k : Drw wr w2) : GetRel w w2 g t SV ov m p e := by
  obtain ⟨n, rfl⟩ := k
  obtain ⟨xs, h1, h2⟩ := h.o
  exact ⟨h.s, ⟨xs, h1, h2.drewN n⟩, h.i, below_drewN h.b n⟩
theorem lt_bool {a b : Nat} (h : a < b) : decide ((a : Int) < (b : Int)) = true := decide_eq_true (by omega)
theorem ge_bool {a b : Nat} (h : ¬ a < b) : decide ((a : Int) < (b : Int)) = false := decide_eq_false (by omega)
set_option maxRecDepth 20000 in
set_option maxHeartbeats 4000000 in
theorem factGet_any (w : World) (B : Nat) (v : Value) (S : Sch) (A : Option Addr) (n c : Nat) (t : List UInt8) (h : SchAt w B v S) (ho : SchOk S) (hR : Rd w B 1 A n (u8s t)) (hB : B ≤ w.heap.size) (ht : n ≤ 1000000) :
    Calls Try.prog 46 #[v, .slice A n c] w fun y w' => ∃ A' c', y = .returned (.tuple #[.slice A' (getB S t).1.length c', .int .i64 ((getB S t).2 : Int)]) ∧ SlR factR w' w'.heap.size (getB S t).1 A' c' ∧ Below w.heap.size w w' := by
  have hh := h
  obtain ⟨A0, c0, A1, c1, A2, c2, A3, c3, rfl, r0, r1, r2, r3, b0, b1, b2, b3⟩ := hh
  clear r0 r1 r2 r3 b0 b1 b2 b3
  have hw0 := belA (belR w) (.cells #[.slice A0 S.dims.length c0, .slice A1 S.ints.length c1, .slice A2 S.nums.length c2, .slice A3 S.views.length c3] 52)
  have hc := schemaCheck_any (w.alloc (.cells #[.slice A0 S.dims.length c0, .slice A1 S.ints.length c1, .slice A2 S.nums.length c2, .slice A3 S.views.length c3] 52)) B _ S (h.keep (hw0.mono hB) (Nat.le_refl _)) ho (by simp; omega)
  have K0 := Lib.hid (Blk.new w 52 #[.slice A0 S.dims.length c0, .slice A1 S.ints.length c1, .slice A2 S.nums.length c2, .slice A3 S.views.length c3])
  have HW0 := Lib.hid hw0; have H := Lib.hid h; have HR := Lib.hid hR; have HO := Lib.hid ho
  clear hw0 h hR
  by_cases h0 : checkN S = 0
  case neg =>
    rw [getB_arg t h0]
    have t0 := i64_ne0 h0
    have HC := Lib.hid hc
    clear h0 hc
    go_enter Try.func46, Try.ntmps46
    go_wp2_with (go_at_call 59; (with_reducible refine HC.out.mono ?_); rintro y w1 ⟨rfl, hb1⟩; have HB1 := Lib.hid hb1; clear hb1)
    go_ret2
    exact ⟨none, 0, rfl, SlR.nil, HW0.out.trans (HB1.out.mono (by simp))⟩
  case pos =>
    obtain ⟨s1, s2, s3, s4⟩ := sch_manyOk h0
    rw [h0] at hc
    have hmany := fun h1 h2 => getB_many (t := t) h0 h1 h2
    have hearly := fun k hk h1 he => getB_early (t := t) h0 k hk h1 he
    have hgood := fun h1 h2 => getB_ok (t := t) h0 h1 h2
    have hend := fun h1 h2 => getB_end (t := t) h0 h1 h2
    have hst : ∀ k, factsS S t (k + 1) = ((factsS S t k).1 ++ [(oneS S t (factsS S t k).2.1 (factsS S t k).2.2).1], (oneS S t (factsS S t k).2.1 (factsS S t k).2.2).2) := fun k => rfl
    have hs0 : factsS S t 0 = ([], (inU t 0 0 200).2) := rfl
    have hok := factsS_ok ho t
    have hlen := factsS_len S t
    have hu2 := inU_le t 0 0 200
    have hue : (inU t 0 0 200).2.2 ≠ 0 → (inU t 0 0 200).1 = 0 := fun he => by
      unfold inU at he ⊢; simp only at he ⊢; unfold stepV; rw [if_neg he]
    have hone := fun (W : World) (g p e : Nat) (hS : SchAt W B (.agg #[.slice A0 S.dims.length c0, .slice A1 S.ints.length c1, .slice A2 S.nums.length c2, .slice A3 S.views.length c3]) S) (hB : B ≤ g) hi => one_any W B g (.agg #[.slice A0 S.dims.length c0, .slice A1 S.ints.length c1, .slice A2 S.nums.length c2, .slice A3 S.views.length c3]) S t p e hS hB ⟨by omega, by omega, by omega⟩ s4 hi
    have hcu : ∀ (W : World) (g : Nat), InS W g t 0 0 → Calls Try.prog 55 #[.pointer (some ⟨g, 0, none⟩), .int .u64 200] W
      fun y w' => y = .returned (.int .u64 ((inU t 0 0 200).1 : Int)) ∧ InS w' g t (inU t 0 0 200).2.1 (inU t 0 0 200).2.2 ∧ Only g W w' := fun W g hi => inU_any W g t 0 0 200 hi
    generalize getB S t = G at *
    generalize factsS S t = fs at *
    generalize inU t 0 0 200 = r at *
    obtain ⟨n0, p0, e0⟩ := r
    simp only at hmany hearly hgood hend hs0 hu2 hue hcu
    have HC := Lib.hid hc; have HMA := Lib.hid hmany; have HEA := Lib.hid hearly; have HGO := Lib.hid hgood; have HEN := Lib.hid hend; have HST := Lib.hid hst; have HS0 := Lib.hid hs0; have HOK := Lib.hid hok; have HLEN := Lib.hid hlen; have HUE := Lib.hid hue; have HONE := Lib.hid hone; have HCU := Lib.hid hcu
    clear hc hmany hearly hgood hend hst hs0 hok hlen hue hone hcu s4
    go_enter Try.func46, Try.ntmps46
    go_wp2_with fail
    (with_reducible refine HC.out.mono ?_); rintro y w1 ⟨rfl, hb1⟩
    have HB1 := Lib.hid (HW0.out.trans (hb1.mono (show w.heap.size ≤ _ by simp)))
    have HK1 := Lib.hid (K0.out.below hb1 (by simp))
    have hn1 := newIn_any w1 A n c t ((HR.out.below (HB1.out.mono hB)).more (Nat.le_trans hB HB1.out.size)) ht
    have HN1 := Lib.hid hn1
    clear hb1 hn1 HC
    go_wp2_with fail
    (with_reducible refine HN1.out.mono ?_); rintro y w2 ⟨g, rfl, hg, hi2, hb2⟩
    have hcu2 := HCU.out w2 g hi2
    have hgl := hi2.lt
    have hgw : w.heap.size + 1 ≤ g := by have := HK1.out.lt; omega
    have HB2 := Lib.hid (belT HB1.out hb2); have HK2 := Lib.hid (HK1.out.below hb2 HK1.out.lt); have HCU2 := Lib.hid hcu2
    clear hi2 hb2 hcu2 HN1
    go_wp2_with fail
    (with_reducible refine HCU2.out.mono ?_); rintro y w3 ⟨rfl, hi3, ho3⟩
    have hft := fault_any w3 g t p0 e0 hi3
    have HB3 := Lib.hid (HB2.out.trans (ho3.below (show w.heap.size ≤ g by omega) HB2.out.size)); have HK3 := Lib.hid (ho3.blk HK2.out (by omega)); have HFT := Lib.hid hft; have HI3 := Lib.hid hi3
    clear hi3 ho3 hft HCU2
    go_wp2_with fail
    (with_reducible refine HFT.out.mono ?_); rintro y w4 ⟨rfl, hd4⟩
    have HB4 := Lib.hid (hd4.below HB3.out); have HK4 := Lib.hid (HK3.out.drw hd4); have HI4 := Lib.hid (HI3.out.drw hd4)
    clear hd4 HFT
    by_cases hc1 : e0 = 0 ∧ n0 = 0
    · obtain ⟨rfl, rfl⟩ := hc1
      have hm := HMA.out rfl rfl
      have HM := Lib.hid hm
      clear hm
      go_wp2
      go_ret2
      exact ⟨none, 0, by rw [HM.out]; rfl, by rw [HM.out]; exact SlR.nil, HB4.out⟩
    have HC1 := Lib.hid hc1
    have hrel0 : GetRel w w4 g t #[.slice A0 S.dims.length c0, .slice A1 S.ints.length c1, .slice A2 S.nums.length c2, .slice A3 S.views.length c3] (.slice none 0 0) (fs 0).1 (fs 0).2.1 (fs 0).2.2 := by
      rw [HS0.out]
      exact ⟨HK4.out, ⟨[], World.ownsRow_nil _ _ _ 3, rfl⟩, HI4.out, HB4.out⟩
    have HR0 := Lib.hid hrel0
    clear hrel0
    have hgo : (e0 ≠ 0 ∧ n0 = 0) ∨ (e0 = 0 ∧ n0 ≠ 0) := by
      by_cases he : e0 = 0
      · exact .inr ⟨he, fun h => hc1 ⟨he, h⟩⟩
      · exact .inl ⟨he, HUE.out he⟩
    clear hc1
    have hcase : ((((e0 : Int) == 0) = false) ∨ (e0 = 0 ∧ ((n0 : Int) == 0) = false)) := by
      rcases hgo with ⟨h1, h2⟩ | ⟨h1, h2⟩
      · exact .inl (by rw [beq_eq_false_iff_ne]; omega)
      · exact .inr ⟨h1, by rw [beq_eq_false_iff_ne]; omega⟩
    clear hgo HUE HMA
    have hn0 : n0 ≤ 200 := hu2
    rcases hcase with t1 | ⟨rfl, t1⟩
    all_goals
      go_wp2
      go_loopw [10, 33] (fun ov i wr => ∃ k : Nat, k ≤ n0 ∧ i = .int .u64 (k : Int) ∧ Hid (GetRel w wr g t #[.slice A0 S.dims.length c0, .slice A1 S.ints.length c1, .slice A2 S.nums.length c2, .slice A3 S.views.length c3] ov (fs k).1 (fs k).2.1 (fs k).2.2)) (fun _ i _ => n0 - (intOf i).toNat)
      case atStart => exact ⟨0, by omega, rfl, HR0.out⟩
      case round =>
        obtain ⟨k, hk, rfl, HRR⟩ := hrel
        obtain ⟨hs, ⟨xs, hox, hfx⟩, hi, hb⟩ := HRR.out
        have hlk := HLEN.out k
        have k0 := hs.cell 0; have k1 := hs.cell 1; have k2 := hs.cell 2; have k3 := hs.cell 3
        simp at k0 k1 k2 k3
        have hgr := hi.lt
        have hzr := hb.size
        by_cases hlt : k < n0
        · have hst := HST.out k
          have hea := HEA.out (k + 1) (by omega) HC1.out
          rw [hst] at hea
          have hon := HONE.out wr g _ _ (H.out.keep (hb.mono hB) (Nat.le_refl _)) (by omega) hi
          obtain ⟨l0, l1, l2⟩ := oneS_len S t (fs k).2.1 (fs k).2.2
          generalize oneS S t (fs k).2.1 (fs k).2.2 = r1 at *
          obtain ⟨F, p2, e2⟩ := r1
          generalize (fs k).1 = m at *
          generalize (fs k).2.1 = p at *
          generalize (fs k).2.2 = e at *
          simp only at hst hea hon l0 l1 l2
          have q1 : decide ((k : Int) < (n0 : Int)) = true := decide_eq_true (by omega)
          have HS := Lib.hid hs; have HOX := Lib.hid hox; have HFX := Lib.hid hfx; have HI := Lib.hid hi; have HB := Lib.hid hb; have HSTK := Lib.hid hst; have HEK := Lib.hid hea; have HON := Lib.hid hon; have L0 := Lib.hid l0; have L1 := Lib.hid l1; have L2 := Lib.hid l2
          clear hs hox hfx hi hb hst hea hon l0 l1 l2
          go_wp2_with fail
          (with_reducible refine HON.out.mono ?_); rintro y w5 ⟨v0, v1, v2, rfl, o0, o1, o2, i5, n5⟩
          rw [← L0.out] at o0; rw [← L1.out] at o1; rw [← L2.out] at o2
          have hz5 := n5.size
          have HOW := Lib.hid (n5.own HOX.out (own_far HOX.out (by omega)))
          have HU : Hid (∀ u ∈ [v0, v1, v2], u.oneCell' = true) := Lib.hid (by
            intro u hu
            simp only [List.mem_cons, List.not_mem_nil, or_false] at hu
            rcases hu with rfl | rfl | rfl
            · exact own_one o0
            · exact own_one o1
            · exact own_one o2)
          have HONE5 := Lib.hid (fun ov' w3 ho hap => GetRel.one (w3 := w3) (ov' := ov') hgw HS.out HB.out HOX.out HFX.out hgr o0 o1 o2 i5 n5 ho hap)
          clear o0 o1 o2 i5 n5
          go_wp2_with (at_builtin; refine wpList_appN w5 [v0, v1, v2] 3 rfl (by decide) HU.out rfl (.tmp 35) (.tmp 39) 53 rfl (g + 1) 66 (.agg #[.slice none 0 0, .slice none 0 0, .slice none 0 0]) 72 info_fact rfl Try.underlying53 _ m.length xs HOW.out rfl rfl ?_ ?_ ?_ ?_; omega; omega; omega; intro v6 w6 ho6 hap6; have HR6 := Lib.hid (HONE5.out v6 w6 ho6 hap6); have HFT6 := Lib.hid (fault_any w6 g t p2 e2 HR6.out.i); clear ho6 hap6)
          (with_reducible refine HFT6.out.mono ?_); rintro y w7 ⟨rfl, hd7⟩
          have HR7 := Lib.hid (HR6.out.drw hd7)
          clear hd7 HFT6
          by_cases he2 : e2 = 0
          · subst he2
            go_wp2
            go_roundw
            case rel => exact ⟨k + 1, by omega, by go_num, by rw [HSTK.out]; exact HR7.out⟩
            case measure => simp [intOf]; omega
          · have t9 : ((e2 : Int) != 0) = true := by rw [bne_iff_ne]; omega
            have HEE := Lib.hid (HEK.out he2)
            clear he2
            go_wp2
            go_ret2
            exact ⟨none, 0, by rw [HEE.out]; rfl, by rw [HEE.out]; exact SlR.nil, HR7.out.b⟩
        · obtain rfl : k = n0 := by omega
          have hen := end_any wr g t _ _ hi
          have hgo2 := HGO.out HC1.out
          have hen2 := HEN.out HC1.out
          have hokk := HOK.out k
          obtain ⟨A5, c5, rfl, _, _, _⟩ := own_form hox
          generalize endE t (fs k).2.1 (fs k).2.2 = en at *
          have HEND := Lib.hid hen; have HGO2 := Lib.hid hgo2; have HEN2 := Lib.hid hen2; have HOKK := Lib.hid hokk
          have HOX := Lib.hid hox; have HFX := Lib.hid hfx; have HB := Lib.hid hb
          have q1 : decide ((k : Int) < (k : Int)) = false := decide_eq_false (by omega)
          clear hen hgo2 hen2 hokk hox hfx hb hi hs k0 k1 k2 k3
          go_wp2_with fail
          (with_reducible refine HEND.out.mono ?_); rintro y w5 ⟨rfl, _, n5⟩
          have hz5 := n5.size
          have HB5 := Lib.hid (HB.out.trans (n5.below (show w.heap.size ≤ g by omega) (by omega)))
          have HO5 := Lib.hid (n5.own HOX.out (own_far HOX.out (by omega)))
          have HF5 := Lib.hid (HFX.out.only n5 (by omega))
          clear n5
          by_cases he : en = 0
          · subst he
            have HG := Lib.hid (HGO2.out rfl)
            clear HEN2
            go_wp2
            go_ret2
            exact ⟨A5, c5, by rw [HG.out]; show _ = Ending.returned (.tuple #[.slice A5 (fs k).1.length c5, .int .i64 0]); rw [hlk]; rfl, by rw [HG.out]; exact SlR.own (R := factR) HO5.out (HF5.out.chunk HOKK.out), HB5.out⟩
          · have t9 : ((en : Int) != 0) = true := by rw [bne_iff_ne]; omega
            have HG := Lib.hid (HEN2.out he)
            clear he
            go_wp2
            go_ret2
            exact ⟨none, 0, by rw [HG.out]; rfl, by rw [HG.out]; exact SlR.nil, HB5.out⟩
end Go.Proofs.Ytpnolgghbenekaa
