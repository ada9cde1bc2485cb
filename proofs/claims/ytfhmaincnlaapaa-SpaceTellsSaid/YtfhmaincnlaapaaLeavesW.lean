/-
  tree.Leaves.
  LEAVES being filled, without the program.
  LEAVES OF CELLS, without the program: a list one of whose cells is another one.
-/
import Derived.Test.YtfhmaincnlaapaaCellPure
import Derived.Test.YtfhmaincnlaapaaCellsRight
import Derived.Test.YtfhmaincnlaapaaAggPut
import Derived.Test.YtfhmaincnlaapaaTreeNodesW
namespace Go.Proofs.Ytfhmaincnlaapaa
open Go.ChangeShapes Go.WideShapes Go.ChangeAt Go.RowKit
set_option linter.unusedVariables false

theorem items_split (l : List CellS) (k : Nat) : l.map itemC = (l.take k).map itemC ++ (l.drop k).map itemC := by rw [← List.map_append, List.take_append_drop]
theorem leaves_front (b : Nat) (l : List CellS) (k : Nat) (C : CellS) (hk : k < l.length) (i : Nat) (hi : i < (leaves b l).length) (hs : sumA ((leaves b l).take (i + 1)) < k) :
    ∃ s, (leaves b l)[i]? = some s ∧ (leaves b (l.set k C))[i]? = some s := by
  have e1 := items_split l k
  have e2 : (l.set k C).map itemC = (l.take k).map itemC ++ (C :: l.drop (k + 1)).map itemC := by
    rw [← List.map_append, List.set_eq_take_append_cons_drop, if_pos hk]
  have hl : ((l.take k).map itemC).length = k := by rw [List.length_map, List.length_take]; omega
  unfold leaves at hi hs ⊢
  rw [e1] at hi hs ⊢
  rw [e2]
  exact share_front 3 b _ _ _ i hi (by rw [hl]; exact hs)
theorem leaves_back (b : Nat) (l : List CellS) (k : Nat) (C : CellS) (i : Nat) (hk : k < i) (hi : i < l.length) (hb : brkB l[i].key 0 = true) :
    ∃ T ssA ssB : List Sht, leaves b l = ssA ++ T ∧ leaves b (l.set k C) = ssB ++ T ∧ sumA T = l.length - i ∧ ∀ s ∈ T, 1 ≤ s.a := by
  obtain ⟨T, h1, h2, h3⟩ := share_back 3 b (encCell l[i]) ((l.drop (i + 1)).map itemC)
  have hd : (l.drop i).map itemC = (encCell l[i], true) :: (l.drop (i + 1)).map itemC := by
    rw [List.drop_eq_getElem_cons hi, List.map_cons]; unfold itemC; rw [hb]
  have hd2 : (l.set k C).drop i = l.drop i := by rw [List.drop_set_of_lt hk]
  obtain ⟨ssA, eA⟩ := h3 ((l.take i).map itemC)
  obtain ⟨ssB, eB⟩ := h3 (((l.set k C).take i).map itemC)
  refine ⟨T, ssA, ssB, ?_, ?_, ?_, h2⟩
  · unfold leaves; rw [items_split l i, hd]; exact eA
  · unfold leaves; rw [items_split (l.set k C) i, hd2, hd]; exact eB
  · rw [h1, List.length_map, List.length_drop]; omega
/-- how many things stand ahead of the last j sheets -/
def leftT (T : List Sht) (j : Nat) : Nat := sumA (T.take (T.length - j))
theorem leftT_zero (T : List Sht) : leftT T 0 = sumA T := by unfold leftT; rw [Nat.sub_zero, List.take_length]
theorem leftT_all (T : List Sht) : leftT T T.length = 0 := by unfold leftT; rw [Nat.sub_self]; rfl
theorem leftT_succ (T : List Sht) (j : Nat) (hj : j < T.length) : ∃ s, T[T.length - (j + 1)]? = some s ∧ leftT T j = leftT T (j + 1) + s.a := by
  have hlt : T.length - (j + 1) < T.length := by omega
  refine ⟨T[T.length - (j + 1)], List.getElem?_eq_getElem hlt, ?_⟩
  unfold leftT
  have : T.length - j = (T.length - (j + 1)) + 1 := by omega
  rw [this, List.take_succ_eq_append_getElem hlt, sumA_app, sumA_cons]
  rfl
theorem leftT_pos (T : List Sht) (h : ∀ s ∈ T, 1 ≤ s.a) (j : Nat) (hj : j < T.length) : 0 < leftT T j := by
  obtain ⟨s, e, h2⟩ := leftT_succ T j hj
  have := h s (List.mem_of_getElem? e)
  omega
theorem sumA_take (l : List Sht) (i : Nat) (s : Sht) (h : l[i]? = some s) : sumA (l.take (i + 1)) = sumA (l.take i) + s.a := by
  have hlt := (List.getElem?_eq_some_iff.1 h).1
  have he := (List.getElem?_eq_some_iff.1 h).2
  rw [List.take_succ_eq_append_getElem hlt, sumA_app, sumA_cons, he]
  rfl
theorem tail_get (ss T : List Sht) (j : Nat) (hj : j < T.length) : (ss ++ T)[(ss ++ T).length - (j + 1)]? = T[T.length - (j + 1)]? := by
  rw [List.length_append, List.getElem?_append_right (by omega)]
  congr 1; omega
end Go.Proofs.Ytfhmaincnlaapaa
namespace Go.Proofs.Ytfhmaincnlaapaa
open Go.ChangeShapes Go.WideShapes Go.ChangeAt Go.RowKit
set_option linter.unusedVariables false

def pkC (b : Nat) (l : List CellS) (k : Nat) : Pst := pk 3 b ([], 0, []) ((l.take k).map itemC)
theorem pkC_zero (b : Nat) (l : List CellS) : pkC b l 0 = ([], 0, []) := rfl
theorem pk_one (kd : Int) (b : Nat) (st : Pst) (x : List UInt8 × Bool) : pk kd b st [x] = pput kd b st x.1 x.2 := by
  rw [pk_cons]; rfl
theorem fst_mk {α β : Type} (x : α) (y : β) : (x, y).1 = x := rfl
theorem snd_mk {α β : Type} (x : α) (y : β) : (x, y).2 = y := rfl
theorem item_eq (C : CellS) : itemC C = (encCell C, brkB C.key 0) := rfl
theorem item_1 (C : CellS) : (itemC C).1 = encCell C := Eq.trans (congrArg Prod.fst (item_eq C)) (fst_mk _ _)
theorem item_2 (C : CellS) : (itemC C).2 = brkB C.key 0 := Eq.trans (congrArg Prod.snd (item_eq C)) (snd_mk _ _)
theorem pkC_succ (b : Nat) (l : List CellS) (k : Nat) (h : k < l.length) : pkC b l (k + 1) = pput 3 b (pkC b l k) (encCell l[k]) (brkB l[k].key 0) := by
  unfold pkC
  rw [List.take_succ_eq_append_getElem h, List.map_append, pk_app, List.map_cons, List.map_nil, pk_one, item_1, item_2]
theorem pkC_all (b : Nat) (l : List CellS) : pend 3 b (pkC b l l.length) = leaves b l := by
  unfold pkC leaves; rw [List.take_length]
theorem pput_bd (kd : Int) (b : Nat) (st : Pst) (x : List UInt8) (br : Bool) (m : Nat) (h : st.1.length ≤ m ∧ st.2.1 ≤ m ∧ st.2.2.length ≤ 6000) (hx : x.length ≤ 6000) :
    (pput kd b st x br).1.length ≤ m + 1 ∧ (pput kd b st x br).2.1 ≤ m + 1 ∧ (pput kd b st x br).2.2.length ≤ 6000 := by
  obtain ⟨ss, n, d⟩ := st
  simp only at h
  unfold pput
  simp only
  split
  · refine ⟨?_, by simp only; omega, hx⟩
    simp only
    split
    · rw [List.length_append, List.length_singleton]; omega
    · omega
  · rename_i hc
    simp only [not_or, Nat.not_lt] at hc
    refine ⟨by simp only; omega, by simp only; omega, ?_⟩
    simp only [List.length_append]; omega
theorem pkC_bd (b : Nat) (l : List CellS) (hl : ∀ C ∈ l, lightC C = true) (k : Nat) (hk : k ≤ l.length) : (pkC b l k).1.length ≤ k ∧ (pkC b l k).2.1 ≤ k ∧ (pkC b l k).2.2.length ≤ 6000 := by
  induction k with
  | zero => simp [pkC_zero]
  | succ k ih =>
    rw [pkC_succ b l k (by omega)]
    exact pput_bd 3 b _ _ _ k (ih (by omega)) (encCell_le (hl _ (List.getElem_mem _)))
theorem leaves_sum (b : Nat) (l : List CellS) : sumA (leaves b l) = l.length := by
  have h := pk_sum 3 b (l.map itemC) [] 0 []
  unfold leaves
  generalize pk 3 b ([], 0, []) (l.map itemC) = r at *
  obtain ⟨ss, n, d⟩ := r
  simp only [List.length_map] at h
  have e0 : sumA ([] : List Sht) = 0 := rfl
  unfold pend
  split
  · rw [sumA_app, sumA_cons]; simp only; omega
  · simp only at *; omega
theorem sumA_mem (L : List Sht) (s : Sht) (h : s ∈ L) : s.a ≤ sumA L := by
  induction L with
  | nil => cases h
  | cons x L ih =>
    rw [sumA_cons]
    rcases List.mem_cons.1 h with rfl | h
    · omega
    · have := ih h; omega
theorem leaves_len (b : Nat) (l : List CellS) : (leaves b l).length ≤ l.length := by
  have h := pk_pos 3 b (l.map itemC) [] 0 [] (fun s hs => by cases hs)
  have hs := leaves_sum b l
  have h1 : ∀ s ∈ leaves b l, 1 ≤ s.a := by
    unfold leaves
    generalize pk 3 b ([], 0, []) (l.map itemC) = r at *
    obtain ⟨ss, n, d⟩ := r
    intro s hs
    unfold pend at hs
    split at hs
    · rename_i hn
      rcases List.mem_append.1 hs with hs | hs
      · exact h.1 s hs
      · obtain rfl := List.mem_singleton.1 hs; exact hn
    · exact h.1 s hs
  rw [← hs]
  generalize leaves b l = L at *
  clear h hs
  induction L with
  | nil => simp
  | cons x L ih =>
    have := h1 x (by simp)
    have := ih fun s hs => h1 s (by simp [hs])
    rw [sumA_cons, List.length_cons]; omega
end Go.Proofs.Ytfhmaincnlaapaa
namespace Go.Proofs.Ytfhmaincnlaapaa
open Go.ChangeShapes Go.WideShapes Go.ChangeAt Go.RowKit
set_option linter.unusedVariables false

set_option maxRecDepth 20000 in
theorem leaves_arg (w : World) (B : Nat) (v : Value) (S : Sch) (A : Option Addr) (c : Nat) (l : List CellS) (mask : Nat) (h : SchAt w B v S) (ho : SchOk S) (g : SlR cellR w B l A c) (hB : B ≤ w.heap.size) (hm : mask < 4294967296) (hr : rightL S mask l = false) :
    Calls Try.prog 21 #[v, .int .u32 (mask : Int), .slice A l.length c] w fun y w' => y = .returned (.tuple #[.slice none 0 0, .int .i64 1]) ∧ Below w.heap.size w w' := by
  have hh := h
  obtain ⟨A0, c0, A1, c1, A2, c2, A3, c3, rfl, r0, r1, r2, r3, b0, b1, b2, b3⟩ := hh
  clear r0 r1 r2 r3 b0 b1 b2 b3
  have hw0 := belA (belR w) (.cells #[.slice A0 S.dims.length c0, .slice A1 S.ints.length c1, .slice A2 S.nums.length c2, .slice A3 S.views.length c3] 26)
  have hc := cellsRight_any (w.alloc (.cells #[.slice A0 S.dims.length c0, .slice A1 S.ints.length c1, .slice A2 S.nums.length c2, .slice A3 S.views.length c3] 26)) B _ S A c l mask (h.keep (hw0.mono hB) (Nat.le_refl _)) ho (g.keep (hw0.mono hB) (Nat.le_refl _)) (by simp; omega) hm
  rw [hr] at hc
  have HC := Lib.hid hc; have HW0 := Lib.hid hw0
  clear hc hr hw0 h g
  go_enter Try.func21, Try.ntmps21
  go_wp2_with (go_at_call 55; (with_reducible refine HC.out.mono ?_); rintro y w1 ⟨rfl, hb1⟩; have HB1 := Lib.hid (HW0.out.trans (hb1.mono (show w.heap.size ≤ _ by simp))); clear hb1)
  go_ret2
  exact ⟨rfl, HB1.out⟩
set_option maxRecDepth 20000 in
set_option maxHeartbeats 8000000 in
theorem leaves_ok (w : World) (B : Nat) (v : Value) (S : Sch) (A : Option Addr) (c : Nat) (l : List CellS) (mask : Nat) (h : SchAt w B v S) (ho : SchOk S) (g : SlR cellR w B l A c) (hB : B ≤ w.heap.size) (hm : mask < 4294967296) (hr : rightL S mask l = true)
    (hl : ∀ C ∈ l, lightC C = true) (hn : l.length ≤ 1000) :
    Calls Try.prog 21 #[v, .int .u32 (mask : Int), .slice A l.length c] w fun y w' => ∃ v' xs, y = .returned (.tuple #[v', .int .i64 0]) ∧ w'.ownsRow w.heap.size 55 4 v' (leaves mask l).length xs ∧ ShR w' w'.heap.size (leaves mask l) xs ∧ Below w.heap.size w w' := by
  have hh := h
  obtain ⟨A0, c0, A1, c1, A2, c2, A3, c3, rfl, r0, r1, r2, r3, b0, b1, b2, b3⟩ := hh
  clear r0 r1 r2 r3 b0 b1 b2 b3
  have hw0 := belA (belR w) (.cells #[.slice A0 S.dims.length c0, .slice A1 S.ints.length c1, .slice A2 S.nums.length c2, .slice A3 S.views.length c3] 26)
  have hc := cellsRight_any (w.alloc (.cells #[.slice A0 S.dims.length c0, .slice A1 S.ints.length c1, .slice A2 S.nums.length c2, .slice A3 S.views.length c3] 26)) B _ S A c l mask (h.keep (hw0.mono hB) (Nat.le_refl _)) ho (g.keep (hw0.mono hB) (Nat.le_refl _)) (by simp; omega) hm
  rw [hr] at hc
  have HC := Lib.hid hc; have HW0 := Lib.hid hw0; have G := Lib.hid g; have HL := Lib.hid hl; have HBD := Lib.hid (pkC_bd mask l hl)
  have wm : IntKind.u64.wrap (mask : Int) = (mask : Int) := by rw [IntKind.wrap_u64]; omega
  clear hc hr hw0 h g hl
  go_enter Try.func21, Try.ntmps21
  go_wp2_with (go_at_call 55; (with_reducible refine HC.out.mono ?_); rintro y w1 ⟨rfl, hb1⟩; have HB1 := Lib.hid (HW0.out.trans (hb1.mono (show w.heap.size ≤ _ by simp))); clear hb1)
  have hz1 := HB1.out.size
  have hp0 : PkS (w1.alloc (.cells #[.int .i64 3, .int .u64 (mask : Int), .slice none 0 0, .int .u64 0, .slice none 0 0] 107)) w.heap.size w1.heap.size 3 mask [] 0 [] :=
    ⟨hz1, .slice none 0 0, .slice none 0 0, w.heap.size, [], Blk.new _ _ _, Nat.le_refl _, by simp; omega, World.ownsRow_nil _ _ _ 1, World.ownsRow_nil _ _ _ 4, rfl⟩
  have HP0 := Lib.hid hp0; clear hp0
  go_loopw [22] (fun i wr => ∃ k : Nat, k ≤ l.length ∧ i = .int .i64 (k : Int) ∧ Hid (PkS wr w.heap.size w1.heap.size 3 mask (pkC mask l k).1 (pkC mask l k).2.1 (pkC mask l k).2.2) ∧ Hid (Below w.heap.size w wr)) (fun i _ => l.length - (intOf i).toNat)
  case atStart => exact ⟨0, by omega, rfl, by rw [pkC_zero]; exact HP0.out, belA HB1.out _⟩
  case round =>
    obtain ⟨k, hk, rfl, HP, HB⟩ := hrel
    have hz := HB.out.size
    have hbd := HBD.out k hk
    by_cases hlt : k < l.length
    · obtain ⟨a, D2, d2, D3, d3, rfl, hab, x0, x1, x2, x3, hv⟩ := (G.out.keep (HB.out.mono hB) (Nat.le_refl _)).cellAt hlt
      have q1 : (0 : Int) ≤ (k : Int) := by omega
      have q2 : (k : Int) < (l.length : Int) := by omega
      have hst := pkC_succ mask l k hlt
      have hlc := HL.out _ (List.getElem_mem hlt)
      have hle := encCell_le hlc
      generalize l[k] = C at *
      generalize pkC mask l k = st at *
      obtain ⟨ss, m, d⟩ := st
      simp only at hbd HP
      have hbx := belA (belR wr) (.cells #[.int .u64 (C.key : Int), .int .i64 C.count, .slice D2 C.ints.length d2, .slice D3 C.nums.length d3] 52)
      have hap := aggPut_any (wr.alloc (.cells #[.int .u64 (C.key : Int), .int .i64 C.count, .slice D2 C.ints.length d2, .slice D3 C.nums.length d3] 52)).drew B C D2 d2 D3 d3 (hv.keep (hbx.drew.mono (by omega)) (Nat.le_refl _)) hlc (by simp; omega)
      have hpa : PkS (wr.alloc (.cells #[.int .u64 (C.key : Int), .int .i64 C.count, .slice D2 C.ints.length d2, .slice D3 C.nums.length d3] 52)).drew w.heap.size w1.heap.size 3 mask ss m d := HP.out.below hbx.drew
      have hba : Blk (wr.alloc (.cells #[.int .u64 (C.key : Int), .int .i64 C.count, .slice D2 C.ints.length d2, .slice D3 C.nums.length d3] 52)).drew wr.heap.size 52 #[.int .u64 (C.key : Int), .int .i64 C.count, .slice D2 C.ints.length d2, .slice D3 C.nums.length d3] := Blk.new _ _ _
      have HST := Lib.hid hst; have HPA := Lib.hid hpa; have HBA := Lib.hid hba; have HAP := Lib.hid hap
      clear hst hpa hba hap hbx hv HP
      go_wp2_with fail
      go_region_with (first
        | (go_at_call 57; (with_reducible refine HAP.out.mono ?_); rintro y w2 ⟨v2, rfl, ho2, hb2⟩; obtain ⟨A2', c2', rfl, _, _, _⟩ := own_form ho2; have B2 := HBA.out.below hb2 (by simp); have z0 := B2.cell 0; simp at z0; have P2 := HPA.out.below hb2; have HP2 := Lib.hid P2; have HO2 := Lib.hid ho2; have HB2 := Lib.hid hb2; clear ho2 hb2 P2 B2)
        | (go_at_call 58; (with_reducible refine (break_any C.key 0 _).mono ?_); rintro y w' ⟨rfl, rfl⟩)
        | (go_at_call 56; (with_reducible refine (packPut_any _ _ _ _ _ (ss, m, d) _ _ _ _ _ HP2.out HO2.out ?_ ?_ ?_ ?_).mono ?_); (first | omega | (simp only; omega)); (first | omega | (simp only; omega)); (first | omega | (simp only; omega)); (first | omega | (simp only; omega)); rintro y w3 ⟨rfl, hp3, hb3⟩; have HP3 := Lib.hid hp3; have HB3 := Lib.hid hb3; clear hp3 hb3))
      all_goals
        go_wp2
        go_roundw
        case rel => exact ⟨k + 1, by omega, by go_num, by rw [HST.out]; exact HP3.out, HB.out.trans ((((belA (belR wr) _).drew.trans (HB2.out.mono (by simp))).mono hz).trans HB3.out)⟩
        case measure => simp [intOf]; omega
    · obtain rfl : k = l.length := by omega
      have he := packEnd_any wr w.heap.size w1.heap.size mask 3 (pkC mask l l.length) HP.out (by omega) (by omega)
      obtain ⟨R, hRR⟩ : ∃ R, leaves mask l = R := ⟨_, rfl⟩
      rw [pkC_all, hRR] at he
      have HRR := Lib.hid hRR
      have HE := Lib.hid he; clear he HP hRR
      go_wp2_with fail
      (with_reducible refine HE.out.mono ?_); rintro y w2 ⟨rfl, hp2, hb2⟩
      obtain ⟨_, bv, ov, Bd, xs, hB2, _, _, _, h4, h5⟩ := hp2
      obtain ⟨A2, c2, rfl, _, _, _⟩ := own_form h4
      have x4 := hB2.cell 4
      simp at x4
      have H4 := Lib.hid h4; have H5 := Lib.hid h5; have HB2 := Lib.hid hB2; clear h4 h5 hB2
      go_wp2
      go_ret2
      rw [HRR.out]
      exact ⟨_, xs, rfl, H4.out, H5.out.reads, HB.out.trans hb2⟩
end Go.Proofs.Ytfhmaincnlaapaa
