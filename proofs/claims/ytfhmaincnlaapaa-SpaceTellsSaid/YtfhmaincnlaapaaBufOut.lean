/-
  THE WRITER buf.Out: NewOut, lay, Bytes, U.
-/
import Derived.Test.YtfhmaincnlaapaaBlk
import Derived.Test.YtfhmaincnlaapaaGetWalks
namespace Go.Proofs.Ytfhmaincnlaapaa
open Go.ChangeShapes Go.WideShapes Go.ChangeAt Go.RowKit
set_option linter.unusedVariables false

/-- THE WRITER AT BLOCK g: what was laid; all of it lies from block base on -/
def OutS (w : World) (base g : Nat) (l : List UInt8) : Prop :=
  base ≤ g ∧ base ≤ w.heap.size ∧ ∃ v, Blk w g 216 #[.bool true, v] ∧ w.ownsRow base 5 1 v l.length (u8s l)
theorem OutS.lt {w : World} {base g : Nat} {l : List UInt8} (h : OutS w base g l) : g < w.heap.size := by obtain ⟨_, _, v, hb, _⟩ := h; exact hb.lt
theorem OutS.drw {w w' : World} {base g : Nat} {l : List UInt8} (h : OutS w base g l) (k : Drw w w') : OutS w' base g l := by obtain ⟨n, rfl⟩ := k; exact h
/-- all that is new lies behind what was there -/
theorem OutS.below {w w' : World} {base g : Nat} {l : List UInt8} (h : OutS w base g l) (hb : Below w.heap.size w w') : OutS w' base g l := by
  obtain ⟨h1, h2, v, hB, ho⟩ := h
  exact ⟨h1, Nat.le_trans h2 hb.size, v, hB.below hb hB.lt, own_below ho hb (Nat.le_refl _)⟩

theorem newOut_any (w : World) : Calls Try.prog 114 #[] w fun x w' => x = .returned (.pointer (some ⟨w.heap.size, 0, none⟩)) ∧ OutS w' w.heap.size w.heap.size [] ∧ Below w.heap.size w w' := by
  go_enter Try.func114, Try.ntmps114
  go_wp2
  go_ret
  exact ⟨rfl, ⟨Nat.le_refl _, by simp, _, Blk.new _ _ _, World.ownsRow_nil _ _ _ 1⟩, belA (belR w) _⟩

theorem lay_any (w : World) (base g : Nat) (l k : List UInt8) (A : Option Addr) (m c B : Nat) (h : OutS w base g l) (hR : Rd w B 1 A m (u8s k)) (hlen : l.length + m ≤ 1000000000) :
    Calls Try.prog 161 #[.pointer (some ⟨g, 0, none⟩), .slice A m c] w fun x w' => x = .returned (.tuple #[]) ∧ OutS w' base g (l ++ k) ∧ Below base w w' := by
  obtain rfl : m = k.length := hR.u8.symm
  obtain ⟨hg, hz, v, hB, ho⟩ := h
  obtain ⟨A1, c1, rfl, _, _, _⟩ := own_form ho
  have hne := own_blk_ne ho hB (by decide)
  have c0 := hB.cell 0; have c1' := hB.cell 1
  simp at c0 c1'
  have HR := Lib.hid hR; have HO := Lib.hid ho; have HB := Lib.hid hB; have NE := Lib.hid hne; clear hR ho hB hne
  go_enter Try.func161, Try.ntmps161
  go_wp2_with (at_builtin; refine wpList_appS _ rfl _ _ 53 rfl base 5 _ 1 1 info_u8 rfl (by decide) Try.underlying53 _ _ _ HO.out rfl _ _ _ _ _ HR.out rfl (u8s_one _) ?_ ?_ ?_ ?_; omega; omega; exact hz; intro v2 w2 ho2 hb2; obtain ⟨A2, c2, rfl, _, _, _⟩ := own_form ho2; have B2 := hb2.blk HB.out NE.out; have d1 := B2.cell 1; have f1 := B2.frozen 1; simp at d1; have HO2 := Lib.hid ho2; have HB2 := Lib.hid B2; have HP2 := Lib.hid hb2; clear ho2 B2 hb2)
  go_end0
  have hz2 := HP2.out.1.size
  have hb3 := HP2.out.below hz HO.out
  refine ⟨rfl, ⟨hg, by simpa using Nat.le_trans hz hb3.size, .slice A2 (l.length + k.length) c2, ?_, ?_⟩, hb3.setCell hg _⟩
  · have := HB2.out.set_ 1 (.slice A2 (l.length + k.length) c2)
    simpa using this
  · rw [u8s_append, List.length_append]
    exact ((Only.refl g w2).set_ (.inl rfl) _).own HO2.out (own_blk_ne HO2.out HB2.out (by decide))

theorem outBytes_any (w : World) (base g : Nat) (l : List UInt8) (h : OutS w base g l) (hlen : l.length ≤ 1000000000) :
    Calls Try.prog 119 #[.pointer (some ⟨g, 0, none⟩)] w fun x w' => ∃ v, x = .returned v ∧ w'.ownsRow w.heap.size 5 1 v l.length (u8s l) ∧ Below w.heap.size w w' := by
  obtain ⟨hg, hz, v, hB, ho⟩ := h
  obtain ⟨A1, c1, rfl, _, _, _⟩ := own_form ho
  have c1' := hB.cell 1
  simp at c1'
  have hR := Rd.own ho
  have hnil := World.ownsRow_nil w w.heap.size 5 1
  have HR := Lib.hid hR; have HO := Lib.hid ho; have HB := Lib.hid hB; clear hR ho hB
  go_enter Try.func119, Try.ntmps119
  go_wp2_with (at_builtin; refine wpList_appS _ rfl _ _ 53 rfl w.heap.size 5 _ 1 1 info_u8 rfl (by decide) Try.underlying53 _ _ _ hnil rfl _ _ _ _ _ HR.out rfl (u8s_one _) ?_ ?_ ?_ ?_; omega; omega; exact Nat.le_refl _; intro v2 w2 ho2 hb2; have HO2 := Lib.hid ho2; have HP2 := Lib.hid hb2; clear ho2 hb2)
  go_ret
  have := HO2.out
  rw [Nat.zero_add, List.nil_append] at this
  exact ⟨_, rfl, this, HP2.out.below_nil (Nat.le_refl _)⟩

theorem outU_any (w : World) (base g x : Nat) (l : List UInt8) (h : OutS w base g l) (hx : x < 18446744073709551616) (hlen : l.length ≤ 900000000) :
    Calls Try.prog 115 #[.pointer (some ⟨g, 0, none⟩), .int .u64 (x : Int)] w fun y w' => y = .returned (.tuple #[]) ∧ OutS w' base g (l ++ encU x) ∧ Below base w w' := by
  have hw := wd_le x
  have hu := codeU_any x w hx
  have hbz := h.2.1
  have HU := Lib.hid hu; have H := Lib.hid h; clear hu h
  go_enter Try.func115, Try.ntmps115
  go_wp2_with fail
  (with_reducible refine HU.out.mono ?_); rintro y w1 ⟨v1, rfl, ho1, hb1⟩
  obtain ⟨A1, c1, rfl, _, _, _⟩ := own_form ho1
  have hl := lay_any w1 base g l (encU x) A1 (wd x + 1) c1 _ (H.out.below hb1) (Rd.own ho1) (by omega)
  have HL := Lib.hid hl; have HO1 := Lib.hid ho1; clear hl ho1
  go_wp2_with (go_at_call 161; (with_reducible refine HL.out.mono ?_); rintro y w2 ⟨rfl, ho2, hb2⟩)
  go_end0
  exact ⟨rfl, ho2, (hb1.mono hbz).trans hb2⟩
end Go.Proofs.Ytfhmaincnlaapaa
