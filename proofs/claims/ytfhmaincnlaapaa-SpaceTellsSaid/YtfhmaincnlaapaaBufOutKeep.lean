/-
  THE WRITER's lay, U, I, F, T, B once more: what blocks of other types they keep.
  THE WRITER's I, F, T, B.
-/
import Derived.Test.YtfhmaincnlaapaaBufOut
import Derived.Test.YtfhmaincnlaapaaFloLess
namespace Go.Proofs.Ytfhmaincnlaapaa
open Go.ChangeShapes Go.WideShapes Go.ChangeAt Go.RowKit
set_option linter.unusedVariables false

theorem encI_9 (I : Int) : (encI I).length ≤ 9 := by
  have := wd_le I.toNat; have := wd_le (-(I + 1)).toNat
  unfold encI
  split <;> simp [be_length] <;> omega
theorem encT_2 (l : List UInt8) : (encT l).length ≤ 2 * l.length + 2 := by
  induction l with
  | nil => simp [encT]
  | cons b l ih =>
    simp only [encT]
    split <;> simp only [List.length_cons] <;> omega
theorem outI_any (w : World) (base g : Nat) (x : Int) (l : List UInt8) (h : OutS w base g l) (h1 : -9223372036854775808 ≤ x) (h2 : x ≤ 9223372036854775807) (hlen : l.length ≤ 900000000) :
    Calls Try.prog 116 #[.pointer (some ⟨g, 0, none⟩), .int .i64 x] w fun y w' => y = .returned (.tuple #[]) ∧ OutS w' base g (l ++ (encI x)) ∧ Below base w w' := by
  have hu := codeI_any x w h1 h2
  have hbz := h.2.1
  have h9 := encI_9 x
  have HU := Lib.hid hu; have H := Lib.hid h; clear hu h
  go_enter Try.func116, Try.ntmps116
  go_wp2_with fail
  (with_reducible refine HU.out.mono ?_); rintro y w1 ⟨v1, rfl, ho1, hb1⟩
  obtain ⟨A1, c1, rfl, _, _, _⟩ := own_form ho1
  have hl := lay_any w1 base g l ((encI x)) A1 ((encI x).length) c1 _ (H.out.below hb1) (Rd.own ho1) (by omega)
  have HL := Lib.hid hl; have HO1 := Lib.hid ho1; clear hl ho1
  go_wp2_with (go_at_call 161; (with_reducible refine HL.out.mono ?_); rintro y w2 ⟨rfl, ho2, hb2⟩)
  go_end0
  exact ⟨rfl, ho2, (hb1.mono hbz).trans hb2⟩
theorem outF_any (w : World) (base g : Nat) (x : Nat) (l : List UInt8) (h : OutS w base g l) (hx : x < 18446744073709551616) (hlen : l.length ≤ 900000000) :
    Calls Try.prog 118 #[.pointer (some ⟨g, 0, none⟩), .float .f64 x] w fun y w' => y = .returned (.tuple #[]) ∧ OutS w' base g (l ++ (be 8 (keyB x))) ∧ Below base w w' := by
  have hu := codeF_any x w hx
  have hbz := h.2.1
  have HU := Lib.hid hu; have H := Lib.hid h; clear hu h
  go_enter Try.func118, Try.ntmps118
  go_wp2_with fail
  (with_reducible refine HU.out.mono ?_); rintro y w1 ⟨v1, rfl, ho1, hb1⟩
  obtain ⟨A1, c1, rfl, _, _, _⟩ := own_form ho1
  have hl := lay_any w1 base g l ((be 8 (keyB x))) A1 (8) c1 _ (H.out.below hb1) (Rd.own ho1) (by omega)
  have HL := Lib.hid hl; have HO1 := Lib.hid ho1; clear hl ho1
  go_wp2_with (go_at_call 161; (with_reducible refine HL.out.mono ?_); rintro y w2 ⟨rfl, ho2, hb2⟩)
  go_end0
  exact ⟨rfl, ho2, (hb1.mono hbz).trans hb2⟩
theorem outB_any (w : World) (base g : Nat) (k l : List UInt8) (A : Option Addr) (m c B : Nat) (h : OutS w base g l) (hR : Rd w B 1 A m (u8s k)) (hB : B ≤ base) (hm : m ≤ 1000000) (hlen : l.length ≤ 900000000) :
    Calls Try.prog 117 #[.pointer (some ⟨g, 0, none⟩), .slice A m c] w fun y w' => y = .returned (.tuple #[]) ∧ OutS w' base g (l ++ encU m ++ k) ∧ Below base w w' := by
  have hu := codeU_any m w (by omega)
  have hbz := h.2.1
  have hw := wd_le m
  have wm : IntKind.u64.wrap (m : Int) = (m : Int) := by rw [IntKind.wrap_u64]; omega
  have HU := Lib.hid hu; have H := Lib.hid h; have HR := Lib.hid hR; clear hu h hR
  go_enter Try.func117, Try.ntmps117
  go_wp2_with fail
  (with_reducible refine HU.out.mono ?_); rintro y w1 ⟨v1, rfl, ho1, hb1⟩
  obtain ⟨A1, c1, rfl, _, _, _⟩ := own_form ho1
  have hl := lay_any w1 base g l (encU m) A1 (wd m + 1) c1 _ (H.out.below hb1) (Rd.own ho1) (by omega)
  have HL := Lib.hid hl; have HO1 := Lib.hid ho1; clear hl ho1
  go_wp2_with fail
  (with_reducible refine HL.out.mono ?_); rintro y w2 ⟨rfl, ho2, hb2⟩
  have hbb : Below base w w2 := (hb1.mono hbz).trans hb2
  have hl2 := lay_any w2 base g (l ++ encU m) k A m c B ho2 (HR.out.below (hbb.mono hB)) (by rw [List.length_append, encU_length]; omega)
  have HL2 := Lib.hid hl2; clear hl2 ho2 hb1 hb2
  go_wp2_with (go_at_call 161; (with_reducible refine HL2.out.mono ?_); rintro y w3 ⟨rfl, ho3, hb3⟩)
  go_end0
  exact ⟨rfl, ho3, hbb.trans hb3⟩
end Go.Proofs.Ytfhmaincnlaapaa
namespace Go.Proofs.Ytfhmaincnlaapaa
open Go.ChangeShapes Go.WideShapes Go.ChangeAt Go.RowKit
set_option linter.unusedVariables false

/-- whatever block is neither a writer nor bytes stands as it was -/
def KeptK (w w' : World) : Prop := ∀ h t cs, Blk w h t cs → t ≠ 216 → t ≠ 5 → Blk w' h t cs
theorem KeptK.refl (w : World) : KeptK w w := fun _ _ _ h _ _ => h
theorem KeptK.trans {a b c : World} (h : KeptK a b) (k : KeptK b c) : KeptK a c := fun g t cs hb h1 h2 => k g t cs (h g t cs hb h1 h2) h1 h2
theorem KeptK.of_below {w w' : World} (h : Below w.heap.size w w') : KeptK w w' := fun g t cs hb _ _ => hb.below h hb.lt
theorem KeptK.drewN {a b : World} (h : KeptK a b) (n : Nat) : KeptK a (b.drewN n) := fun g t cs hb h1 h2 => h g t cs hb h1 h2
theorem layK_any (w : World) (base g : Nat) (l k : List UInt8) (A : Option Addr) (m c B : Nat) (h : OutS w base g l) (hR : Rd w B 1 A m (u8s k)) (hlen : l.length + m ≤ 1000000000) :
    Calls Try.prog 161 #[.pointer (some ⟨g, 0, none⟩), .slice A m c] w fun x w' => x = .returned (.tuple #[]) ∧ OutS w' base g (l ++ k) ∧ Below base w w' ∧ KeptK w w' := by
  obtain rfl : m = k.length := hR.u8.symm
  obtain ⟨hg, hz, v, hB, ho⟩ := h
  obtain ⟨A1, c1, rfl, _, _, _⟩ := own_form ho
  have hne := own_blk_ne ho hB (by decide)
  have c0 := hB.cell 0; have c1' := hB.cell 1
  simp at c0 c1'
  have HR := Lib.hid hR; have HO := Lib.hid ho; have HB := Lib.hid hB; have NE := Lib.hid hne; clear hR ho hB hne
  go_enter Try.func161, Try.ntmps161
  go_wp2_with (at_builtin; refine wpList_appS _ rfl _ _ 53 rfl base 5 _ 1 1 info_u8 rfl (by decide) Try.underlying53 _ _ _ HO.out rfl _ _ _ _ _ HR.out rfl (u8s_one _) ?_ ?_ ?_ ?_; omega; omega; exact hz; intro v2 w2 ho2 hb2; obtain ⟨A2, c2, rfl, _, _, _⟩ := own_form ho2; have B2 := hb2.blk HB.out NE.out; have d1 := B2.cell 1; have f1 := B2.frozen 1; simp at d1; have HO2 := Lib.hid ho2; have HB2 := Lib.hid B2; have HP2 := Lib.hid hb2; clear ho2 B2 hb2)
  go_end0
  have hz2 := HP2.out.1.size
  have hb3 := HP2.out.below hz HO.out
  refine ⟨rfl, ⟨hg, by simpa using Nat.le_trans hz hb3.size, .slice A2 (l.length + k.length) c2, ?_, ?_⟩, hb3.setCell hg _, fun h t cs hbk n1 n2 => ?_⟩
  · have := HB2.out.set_ 1 (.slice A2 (l.length + k.length) c2)
    simpa using this
  · rw [u8s_append, List.length_append]
    exact ((Only.refl g w2).set_ (.inl rfl) _).own HO2.out (own_blk_ne HO2.out HB2.out (by decide))
  · have hne1 : h ≠ g := Blk.ne_ hbk HB.out n1
    have hne2 := own_blk_ne HO.out hbk (fun e => n2 e.symm)
    exact (HP2.out.blk hbk hne2).far (p := ⟨g, 1, none⟩) hne1 _
theorem outUK_any (w : World) (base g x : Nat) (l : List UInt8) (h : OutS w base g l) (hx : x < 18446744073709551616) (hlen : l.length ≤ 900000000) :
    Calls Try.prog 115 #[.pointer (some ⟨g, 0, none⟩), .int .u64 (x : Int)] w fun y w' => y = .returned (.tuple #[]) ∧ OutS w' base g (l ++ encU x) ∧ Below base w w' ∧ KeptK w w' := by
  have hw := wd_le x
  have hu := codeU_any x w hx
  have hbz := h.2.1
  have HU := Lib.hid hu; have H := Lib.hid h; clear hu h
  go_enter Try.func115, Try.ntmps115
  go_wp2_with fail
  (with_reducible refine HU.out.mono ?_); rintro y w1 ⟨v1, rfl, ho1, hb1⟩
  obtain ⟨A1, c1, rfl, _, _, _⟩ := own_form ho1
  have hl := layK_any w1 base g l (encU x) A1 (wd x + 1) c1 _ (H.out.below hb1) (Rd.own ho1) (by omega)
  have HL := Lib.hid hl; have HO1 := Lib.hid ho1; clear hl ho1
  go_wp2_with (go_at_call 161; (with_reducible refine HL.out.mono ?_); rintro y w2 ⟨rfl, ho2, hb2, hk2⟩)
  go_end0
  exact ⟨rfl, ho2, (hb1.mono hbz).trans hb2, (KeptK.of_below hb1).trans hk2⟩
theorem outIK_any (w : World) (base g : Nat) (x : Int) (l : List UInt8) (h : OutS w base g l) (h1 : -9223372036854775808 ≤ x) (h2 : x ≤ 9223372036854775807) (hlen : l.length ≤ 900000000) :
    Calls Try.prog 116 #[.pointer (some ⟨g, 0, none⟩), .int .i64 x] w fun y w' => y = .returned (.tuple #[]) ∧ OutS w' base g (l ++ (encI x)) ∧ Below base w w' ∧ KeptK w w' := by
  have hu := codeI_any x w h1 h2
  have hbz := h.2.1
  have h9 := encI_9 x
  have HU := Lib.hid hu; have H := Lib.hid h; clear hu h
  go_enter Try.func116, Try.ntmps116
  go_wp2_with fail
  (with_reducible refine HU.out.mono ?_); rintro y w1 ⟨v1, rfl, ho1, hb1⟩
  obtain ⟨A1, c1, rfl, _, _, _⟩ := own_form ho1
  have hl := layK_any w1 base g l ((encI x)) A1 ((encI x).length) c1 _ (H.out.below hb1) (Rd.own ho1) (by omega)
  have HL := Lib.hid hl; have HO1 := Lib.hid ho1; clear hl ho1
  go_wp2_with (go_at_call 161; (with_reducible refine HL.out.mono ?_); rintro y w2 ⟨rfl, ho2, hb2, hk2⟩)
  go_end0
  exact ⟨rfl, ho2, (hb1.mono hbz).trans hb2, (KeptK.of_below hb1).trans hk2⟩
theorem outFK_any (w : World) (base g : Nat) (x : Nat) (l : List UInt8) (h : OutS w base g l) (hx : x < 18446744073709551616) (hlen : l.length ≤ 900000000) :
    Calls Try.prog 118 #[.pointer (some ⟨g, 0, none⟩), .float .f64 x] w fun y w' => y = .returned (.tuple #[]) ∧ OutS w' base g (l ++ (be 8 (keyB x))) ∧ Below base w w' ∧ KeptK w w' := by
  have hu := codeF_any x w hx
  have hbz := h.2.1
  have HU := Lib.hid hu; have H := Lib.hid h; clear hu h
  go_enter Try.func118, Try.ntmps118
  go_wp2_with fail
  (with_reducible refine HU.out.mono ?_); rintro y w1 ⟨v1, rfl, ho1, hb1⟩
  obtain ⟨A1, c1, rfl, _, _, _⟩ := own_form ho1
  have hl := layK_any w1 base g l ((be 8 (keyB x))) A1 (8) c1 _ (H.out.below hb1) (Rd.own ho1) (by omega)
  have HL := Lib.hid hl; have HO1 := Lib.hid ho1; clear hl ho1
  go_wp2_with (go_at_call 161; (with_reducible refine HL.out.mono ?_); rintro y w2 ⟨rfl, ho2, hb2, hk2⟩)
  go_end0
  exact ⟨rfl, ho2, (hb1.mono hbz).trans hb2, (KeptK.of_below hb1).trans hk2⟩
theorem outBK_any (w : World) (base g : Nat) (k l : List UInt8) (A : Option Addr) (m c B : Nat) (h : OutS w base g l) (hR : Rd w B 1 A m (u8s k)) (hB : B ≤ base) (hm : m ≤ 1000000) (hlen : l.length ≤ 900000000) :
    Calls Try.prog 117 #[.pointer (some ⟨g, 0, none⟩), .slice A m c] w fun y w' => y = .returned (.tuple #[]) ∧ OutS w' base g (l ++ encU m ++ k) ∧ Below base w w' ∧ KeptK w w' := by
  have hu := codeU_any m w (by omega)
  have hbz := h.2.1
  have hw := wd_le m
  have wm : IntKind.u64.wrap (m : Int) = (m : Int) := by rw [IntKind.wrap_u64]; omega
  have HU := Lib.hid hu; have H := Lib.hid h; have HR := Lib.hid hR; clear hu h hR
  go_enter Try.func117, Try.ntmps117
  go_wp2_with fail
  (with_reducible refine HU.out.mono ?_); rintro y w1 ⟨v1, rfl, ho1, hb1⟩
  obtain ⟨A1, c1, rfl, _, _, _⟩ := own_form ho1
  have hl := layK_any w1 base g l (encU m) A1 (wd m + 1) c1 _ (H.out.below hb1) (Rd.own ho1) (by omega)
  have HL := Lib.hid hl; have HO1 := Lib.hid ho1; clear hl ho1
  go_wp2_with fail
  (with_reducible refine HL.out.mono ?_); rintro y w2 ⟨rfl, ho2, hb2, hk2⟩
  have hbb : Below base w w2 := (hb1.mono hbz).trans hb2
  have hl2 := layK_any w2 base g (l ++ encU m) k A m c B ho2 (HR.out.below (hbb.mono hB)) (by rw [List.length_append, encU_length]; omega)
  have HL2 := Lib.hid hl2; have HK2 := Lib.hid ((KeptK.of_below hb1).trans hk2); clear hl2 ho2 hb1 hb2 hk2
  go_wp2_with (go_at_call 161; (with_reducible refine HL2.out.mono ?_); rintro y w3 ⟨rfl, ho3, hb3, hk3⟩)
  go_end0
  exact ⟨rfl, ho3, hbb.trans hb3, HK2.out.trans hk3⟩
end Go.Proofs.Ytfhmaincnlaapaa
