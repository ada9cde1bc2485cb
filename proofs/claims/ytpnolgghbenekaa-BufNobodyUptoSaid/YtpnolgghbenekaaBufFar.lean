/-
  The writer beside a row of the caller's own: []byte(s), and buf.Out.B of it.
-/
import Derived.Test.YtpnolgghbenekaaBufOutAll
import Derived.Lib.ConvBytes
namespace Go.Proofs.Ytpnolgghbenekaa
open Go.ChangeShapes Go.WideShapes Go.ChangeAt Go.RowKit
set_option linter.unusedVariables false

theorem Rd.same_block {w w' : World} {B m : Nat} {a : Addr} {xs : List Value} (h : Rd w B 1 (some a) m xs) (hb : w'.heap[a.block]? = w.heap[a.block]?) : Rd w' B 1 (some a) m xs :=
  ⟨h.1, fun hn => by
    obtain ⟨a', e, hlt, hc⟩ := h.2 hn
    injection e with e
    subst e
    refine ⟨a, rfl, hlt, fun j u hj => ?_⟩
    have := hc j u hj
    unfold World.cell? at this ⊢
    rw [block_add] at this ⊢
    rw [hb]
    exact this⟩
theorem conv_bytes (w : World) (s : ByteArray) : ∃ W c, (convert 9 36 (.string s)).run Try.prog w = .ok (.slice (some ⟨w.heap.size, 0, none⟩) s.size c) W ∧ Rd W (w.heap.size + 1) 1 (some ⟨w.heap.size, 0, none⟩) s.size (u8s s.data.toList) ∧ Below w.heap.size w W ∧ w.heap.size < W.heap.size := by
  refine ⟨_, _, Lib.run_convert_string_bytes w 9 36 5 s Try.underlying9 Try.underlying36 Try.underlying5, ⟨?_, fun _ => ⟨_, rfl, Nat.lt_succ_self _, fun j u hu => ?_⟩⟩, ⟨?_, ?_, ?_, ?_, fun i hi => Lib.bytesWorld_at_old w _ s i hi⟩, ?_⟩
  · rw [Nat.mul_one]; simp [u8s]
  · have hadd : (⟨w.heap.size, 0, none⟩ : Addr).add j = ⟨w.heap.size, j, none⟩ := by unfold Addr.add; split <;> simp_all
    have hj : j < s.size := by
      have := (List.getElem?_eq_some_iff.1 hu).1
      simp [u8s] at this
      exact this
    rw [hadd, Lib.bytesWorld_cell w _ s j hj, ← hu]
    have hj2 : j < s.data.toList.length := by simpa using hj
    simp only [u8s, List.getElem?_map, List.getD_eq_getElem?_getD, List.getElem?_eq_getElem hj2, Option.map_some, Option.getD_some]
  · unfold Lib.bytesWorld World.freeze; rw [if_neg (by decide)]; rfl
  · unfold Lib.bytesWorld World.freeze; rw [if_neg (by decide)]; rfl
  · unfold Lib.bytesWorld World.freeze; rw [if_neg (by decide)]; rfl
  · rw [Lib.bytesWorld_size]; omega
  · rw [Lib.bytesWorld_size]; omega

/-- the writer, and another block nb -/
def OutF (w : World) (base g nb : Nat) (l : List UInt8) : Prop :=
  base ≤ g ∧ base ≤ w.heap.size ∧ g ≠ nb ∧ nb < w.heap.size ∧ ∃ v, Blk w g 92 #[.bool true, v] ∧ w.ownsRow base 5 1 v l.length (u8s l) ∧ v.ownBlock ≠ some nb
theorem OutF.out {w : World} {base g nb : Nat} {l : List UInt8} (h : OutF w base g nb l) : OutS w base g l := by
  obtain ⟨h1, h2, _, _, v, h3, h4, _⟩ := h; exact ⟨h1, h2, v, h3, h4⟩
theorem OutF.below {w w' : World} {base g nb : Nat} {l : List UInt8} (h : OutF w base g nb l) (hb : Below w.heap.size w w') : OutF w' base g nb l := by
  obtain ⟨h1, h2, h3, h4, v, hB, ho, h5⟩ := h
  exact ⟨h1, Nat.le_trans h2 hb.size, h3, Nat.lt_of_lt_of_le h4 hb.size, v, hB.below hb hB.lt, own_below ho hb (Nat.le_refl _), h5⟩
theorem OutS.far {w w' : World} {base g : Nat} {l : List UInt8} (h : OutS w base g l) (hb : Below w.heap.size w w') (hlt : w.heap.size < w'.heap.size) : OutF w' base g w.heap.size l := by
  have hgl := h.lt
  obtain ⟨h1, h2, v, hB, ho⟩ := h
  exact ⟨h1, Nat.le_trans h2 hb.size, by omega, hlt, v, hB.below hb hB.lt, own_below ho hb (Nat.le_refl _), fun e => by have := (ho.lt _ e).2; omega⟩
theorem lay_far (w : World) (base g nb : Nat) (l k : List UInt8) (A : Option Addr) (m c B : Nat) (h : OutF w base g nb l) (hR : Rd w B 1 A m (u8s k)) (hlen : l.length + m ≤ 1000000000) :
    Calls Try.prog 105 #[.pointer (some ⟨g, 0, none⟩), .slice A m c] w fun x w' => x = .returned (.tuple #[]) ∧ OutF w' base g nb (l ++ k) ∧ Below base w w' ∧ w'.heap[nb]? = w.heap[nb]? := by
  obtain rfl : m = k.length := hR.u8.symm
  obtain ⟨hg, hz, hgn, hnb, v, hB, ho, hvn⟩ := h
  obtain ⟨A1, c1, rfl, _, _, _⟩ := own_form ho
  have hne := own_blk_ne ho hB (by decide)
  have c0 := hB.cell 0; have c1' := hB.cell 1
  simp at c0 c1'
  have HR := Lib.hid hR; have HO := Lib.hid ho; have HB := Lib.hid hB; have NE := Lib.hid hne; have HVN := Lib.hid hvn; clear hR ho hB hne hvn
  go_enter Try.func105, Try.ntmps105
  go_wp2_with (at_builtin; refine wpList_appS _ rfl _ _ 36 rfl base 5 _ 1 1 info_u8 rfl (by decide) Try.underlying36 _ _ _ HO.out rfl _ _ _ _ _ HR.out rfl (u8s_one _) ?_ ?_ ?_ ?_; omega; omega; exact hz; intro v2 w2 ho2 hb2; obtain ⟨A2, c2, rfl, _, _, _⟩ := own_form ho2; have B2 := hb2.blk HB.out NE.out; have d1 := B2.cell 1; have f1 := B2.frozen 1; simp at d1; have HO2 := Lib.hid ho2; have HB2 := Lib.hid B2; have HP2 := Lib.hid hb2; clear ho2 B2 hb2)
  go_end0
  have hz2 := HP2.out.1.size
  have hb3 := HP2.out.below hz HO.out
  refine ⟨rfl, ⟨hg, by simpa using Nat.le_trans hz hb3.size, hgn, by simpa using Nat.lt_of_lt_of_le hnb hz2, .slice A2 (l.length + k.length) c2, ?_, ?_, ?_⟩, hb3.setCell hg _, ?_⟩
  · have := HB2.out.set_ 1 (.slice A2 (l.length + k.length) c2)
    simpa using this
  · rw [u8s_append, List.length_append]
    exact ((Only.refl g w2).set_ (.inl rfl) _).own HO2.out (own_blk_ne HO2.out HB2.out (by decide))
  · intro e
    rcases HP2.out.2 with e' | ⟨q, e', hq⟩
    · exact HVN.out (e' ▸ e)
    · rw [e] at e'
      injection e' with e'
      omega
  · exact (Below.heap_setCell w2 ⟨g, 1, none⟩ _ nb (fun e => hgn (by simpa using e.symm))).trans (HP2.out.1.block nb hnb (fun e => HVN.out e.symm))
theorem outB_far (w : World) (base g nb : Nat) (k l : List UInt8) (m c : Nat) (h : OutF w base g nb l) (hR : Rd w (nb + 1) 1 (some ⟨nb, 0, none⟩) m (u8s k)) (hm : m ≤ 1000000) (hlen : l.length ≤ 900000000) :
    Calls Try.prog 84 #[.pointer (some ⟨g, 0, none⟩), .slice (some ⟨nb, 0, none⟩) m c] w fun y w' => y = .returned (.tuple #[]) ∧ OutS w' base g (l ++ encU m ++ k) ∧ Below base w w' := by
  have hu := codeU_any m w (by omega)
  have hbz := h.2.1
  have hnb := h.2.2.2.1
  have hw := wd_le m
  have wm : IntKind.u64.wrap (m : Int) = (m : Int) := by rw [IntKind.wrap_u64]; omega
  have HU := Lib.hid hu; have H := Lib.hid h; have HR := Lib.hid hR; clear hu h hR
  go_enter Try.func84, Try.ntmps84
  go_wp2_with fail
  (with_reducible refine HU.out.mono ?_); rintro y w1 ⟨v1, rfl, ho1, hb1⟩
  obtain ⟨A1, c1, rfl, _, _, _⟩ := own_form ho1
  have hl := lay_far w1 base g nb l (encU m) A1 (wd m + 1) c1 _ (H.out.below hb1) (Rd.own ho1) (by omega)
  have HR1 := Lib.hid (HR.out.same_block (hb1.block nb hnb))
  have HL := Lib.hid hl; have HO1 := Lib.hid ho1; clear hl ho1
  go_wp2_with fail
  (with_reducible refine HL.out.mono ?_); rintro y w2 ⟨rfl, ho2, hb2, hk2⟩
  have hbb : Below base w w2 := (hb1.mono hbz).trans hb2
  have hl2 := lay_far w2 base g nb (l ++ encU m) k (some ⟨nb, 0, none⟩) m c _ ho2 (HR1.out.same_block hk2) (by rw [List.length_append, encU_length]; omega)
  have HL2 := Lib.hid hl2; clear hl2 ho2 hb1 hb2 hk2
  go_wp2_with (go_at_call 105; (with_reducible refine HL2.out.mono ?_); rintro y w3 ⟨rfl, ho3, hb3, hk3⟩)
  go_end0
  exact ⟨rfl, ho3.out, hbb.trans hb3⟩
end Go.Proofs.Ytpnolgghbenekaa
