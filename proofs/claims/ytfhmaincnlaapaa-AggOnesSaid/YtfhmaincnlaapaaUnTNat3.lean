/-
  nat.Mul.
  agg.Join on trees.
  agg.wholes, agg.reals.
  What cells come to together; flo's and bushelref03's Least, Most; exact.Read as it stands in new memory.
  bushelref05.Read on trees.
  exact.Read: what it answers.
-/
import Derived.StillTailTactics
import Derived.Deep.DeepCutAuto
import Derived.Laws.OwnMore
import Derived.Test.YtfhmaincnlaapaaUnRefRead
import Derived.Test.YtfhmaincnlaapaaUnEncC
import Derived.Test.YtfhmaincnlaapaaUnTKey2
import Derived.Test.YtfhmaincnlaapaaUnTNat2
import Derived.Test.YtfhmaincnlaapaaUnTBytes
import Derived.Test.YtfhmaincnlaapaaUnExactHead
namespace Go.Proofs.Ytfhmaincnlaapaa
open Go.ChangeShapes Go.WideShapes Go.ChangeAt Go.RowKit
set_option linter.unusedVariables false

theorem made_u32 (n : Nat) : madeCells #[.int .u32 0] n = (u32n (List.replicate n 0)).toArray := by
  apply Array.ext'
  rw [toList_madeCells_one]
  simp [u32n]
theorem u32n_set (L : List Nat) (j x : Nat) : (u32n L).toArray.setIfInBounds j (.int .u32 (x : Int)) = (u32n (L.set j x)).toArray := by
  simp [u32n, List.map_set]
theorem words_end (b : List UInt8) (n : Nat) : wordsE b n 0 = if 3 + 4 * n < b.length then 7 else 0 := rfl
theorem words_step (b : List UInt8) (n i : Nat) (h : i < n) : wordsE b n (n - i) = if b.length < 3 + 4 * i + 4 then 5 else if (i = 0 ∨ i + 1 = n) ∧ wordB b i = 0 then 6 else wordsE b n (n - (i + 1)) := by
  obtain ⟨k, rfl⟩ : ∃ k, n = i + 1 + k := ⟨n - (i + 1), by omega⟩
  have e1 : i + 1 + k - i = k + 1 := by omega
  have e2 : i + 1 + k - (i + 1) = k := by omega
  rw [e1, e2]
  show (if b.length < 3 + 4 * (i + 1 + k - (k + 1)) + 4 then 5 else if (i + 1 + k - (k + 1) = 0 ∨ k = 0) ∧ wordB b (i + 1 + k - (k + 1)) = 0 then 6 else wordsE b (i + 1 + k) k) = _
  have e3 : i + 1 + k - (k + 1) = i := by omega
  have e4 : (k = 0) ↔ (i + 1 = i + 1 + k) := by omega
  rw [e3]
  simp only [e4]
/-- the first j bytes of word i -/
def partB (b : List UInt8) (i j : Nat) : Nat := bv ((b.drop (3 + 4 * i)).take j)
theorem partB_zero (b : List UInt8) (i : Nat) : partB b i 0 = 0 := rfl
theorem partB_four (b : List UInt8) (i : Nat) : partB b i 4 = wordB b i := rfl
theorem partB_succ (b : List UInt8) (i j : Nat) (h : 3 + 4 * i + j < b.length) : partB b i (j + 1) = partB b i j * 256 + hd b (3 + 4 * i + j) := by
  unfold partB
  rw [bv_take _ _ (by rw [List.length_drop]; omega)]
  congr 1
  rw [List.getElem_drop, hd_get b _ h]
theorem partB_lt (b : List UInt8) (i j : Nat) (h : j ≤ 4) : partB b i j < 256 ^ j := by
  unfold partB
  have h1 := bv_lt ((b.drop (3 + 4 * i)).take j)
  exact Nat.lt_of_lt_of_le h1 (Nat.pow_le_pow_right (by decide) (by rw [List.length_take]; omega))
theorem wordB_lt (b : List UInt8) (i : Nat) : wordB b i < 4294967296 := partB_lt b i 4 (Nat.le_refl _)
theorem or_next (x y : Nat) (hx : x < 16777216) (hy : y < 256) : bits .or .u32 (IntKind.u32.wrap ((x : Int) * 256)) (y : Int) = ((x * 256 + y : Nat) : Int) := by
  have e : IntKind.u32.wrap ((x : Int) * 256) = ((x * 256 : Nat) : Int) := by rw [IntKind.wrap_u32]; omega
  rw [e, u32_or_nat _ _ (by omega) (by omega), or_byte32 x y hy]
/-- the words that were read, and j bytes of the next -/
def midP (b : List UInt8) (m i j : Nat) : List Nat := (magP (wordB b) m i).set (m - 1 - i) (partB b i j)
theorem midP_zero (b : List UInt8) (m i : Nat) (h : i < m) : midP b m i 0 = magP (wordB b) m i := by
  unfold midP
  rw [partB_zero]
  have := magP_cur (wordB b) m i h
  apply List.ext_getElem?
  intro k
  rw [List.getElem?_set]
  split
  · rename_i e; subst e
    have := (List.getElem?_eq_some_iff.1 this).1
    rw [if_pos this, magP_cur _ _ _ h]
  · rfl
theorem midP_four (b : List UInt8) (m i : Nat) (h : i < m) : midP b m i 4 = magP (wordB b) m (i + 1) := by
  unfold midP; rw [partB_four]; exact magP_succ _ _ _ h
theorem midP_set (b : List UInt8) (m i j x : Nat) : (midP b m i j).set (m - 1 - i) x = (magP (wordB b) m i).set (m - 1 - i) x := by unfold midP; rw [List.set_set]
theorem midP_next (b : List UInt8) (m i j : Nat) : (midP b m i j).set (m - 1 - i) (partB b i (j + 1)) = midP b m i (j + 1) := by rw [midP_set]; rfl
theorem midP_at (b : List UInt8) (m i j : Nat) (h : i < m) : (midP b m i j)[m - 1 - i]? = some (partB b i j) := magP_get _ _ _ _ h
/-- the row of words in memory -/
def MagW (w wr : World) (g : Nat) (L : List Nat) : Prop := Blk wr g 33 (u32n L).toArray ∧ Below w.heap.size w wr
theorem MagW.put {w wr : World} {g : Nat} {L : List Nat} (h : MagW w wr g L) (hg : w.heap.size ≤ g) (j x : Nat) : MagW w (wr.setCell ⟨g, j, none⟩ (.int .u32 (x : Int))) g (L.set j x) := by
  obtain ⟨h3, h4⟩ := h
  refine ⟨?_, h4.setCell hg _⟩
  have := h3.set_ j (.int .u32 (x : Int))
  rw [u32n_set] at this
  exact this
theorem MagW.at {w wr : World} {g : Nat} {L : List Nat} (h : MagW w wr g L) {j x : Nat} (hj : L[j]? = some x) : wr.cell? ⟨g, j, none⟩ = some (.int .u32 (x : Int)) := by
  rw [h.1.cell]
  simp [u32n, hj]

theorem MagW.drew {w wr : World} {g : Nat} {L : List Nat} (h : MagW w wr g L) : MagW w wr.drew g L := ⟨h.1.drew, h.2.drew⟩
/-- the sum that stands at p -/
def SumAt (w : World) (base : Nat) (p : Value) (b : List UInt8) : Prop :=
  ∃ g gm : Nat, p = .pointer (some ⟨g, 0, none⟩) ∧ base ≤ g ∧ base ≤ gm ∧ g ≠ gm ∧
    Blk w g 196 #[.bool true, .int .u8 ((hd b 0 - hd b 0 / 32 % 2 * 32 : Nat) : Int), .bool (decide (hd b 0 / 32 % 2 = 1)), .slice (some ⟨gm, 0, none⟩) (hd b 1 + hd b 2) (hd b 1 + hd b 2)] ∧
    Blk w gm 33 (u32n (magP (wordB b) (hd b 1 + hd b 2) (hd b 2))).toArray
set_option maxRecDepth 20000 in
set_option maxHeartbeats 16000000 in
theorem read_any (w : World) (B : Nat) (A : Option Addr) (c : Nat) (b : List UInt8) (hR : Rd w B 1 A b.length (u8s b)) (hB : B ≤ w.heap.size) (hl : b.length ≤ 9223372036854775807) :
    Calls Try.prog 96 #[.slice A b.length c] w fun y w' => ∃ p : Value, y = .returned (.tuple #[p, .int .i64 (readE b : Int)]) ∧ (readE b = 0 → SumAt w' w.heap.size p b) ∧ Below w.heap.size w w' := by
  have hh := head_any w B A c b hR
  by_cases h0 : headE b = 0
  case neg =>
    have er := readE_head h0
    rw [er]
    have t0 := i64_ne0 h0
    have HH := Lib.hid hh; have H0 := Lib.hid h0
    clear h0 hh er
    generalize headE b = e at *
    go_enter Try.func96, Try.ntmps96
    go_wp2_with (go_at_call 153; (with_reducible refine HH.out.mono ?_); rintro y w1 ⟨rfl, hd1⟩)
    go_ret2
    exact ⟨_, rfl, fun h => absurd h H0.out, hd1.below (belR w)⟩
  rw [h0] at hh
  have HH := Lib.hid hh; have HH0 := Lib.hid h0
  clear hh h0
  by_cases h3 : 3 ≤ b.length
  case neg =>
    have er := readE_short HH0.out h3
    rw [er]
    have t1 : decide ((b.length : Int) < 3) = true := decide_eq_true (by omega)
    clear er
    go_enter Try.func96, Try.ntmps96
    go_wp2_with (go_at_call 153; (with_reducible refine HH.out.mono ?_); rintro y w1 ⟨rfl, hd1⟩)
    go_ret2
    exact ⟨_, rfl, fun h => absurd h (by decide), hd1.below (belR w)⟩
  have t1 : decide ((b.length : Int) < 3) = false := decide_eq_false (by omega)
  have er := readE_words HH0.out h3
  obtain ⟨o1, o2, o3⟩ := headE_ok HH0.out h3
  have HR := Lib.hid hR
  obtain ⟨a, rfl, hab, k0⟩ := hR.byte (k := 0) (by omega)
  have hc : ∀ W, Below w.heap.size w W → ∀ i (h : i < b.length), W.cell? (a.add i) = some (.int .u8 ((hd b i : Nat) : Int)) := fun W hb i h => by
    obtain ⟨a', e, _, hx⟩ := (HR.out.below (hb.mono hB)).byte h
    injection e with e; subst e
    rw [hd_get _ _ h]; exact hx
  clear k0
  have hlt : ∀ i, hd b i < 256 := fun i => UInt8.toNat_lt _
  have HC := Lib.hid hc; have HLT := Lib.hid hlt
  have x0 := hlt 0; have x1 := hlt 1; have x2 := hlt 2
  have HWS : Hid (∀ i, i < hd b 2 → wordsE b (hd b 2) (hd b 2 - i) = if b.length < 3 + 4 * i + 4 then 5 else if (i = 0 ∨ i + 1 = hd b 2) ∧ wordB b i = 0 then 6 else wordsE b (hd b 2) (hd b 2 - (i + 1))) := Lib.hid fun i hi => words_step b (hd b 2) i hi
  have HWE := Lib.hid (words_end b (hd b 2))
  have d1 := hc w (belR w) 1 (by omega)
  have d2 := hc w (belR w) 2 (by omega)
  have d1b := d1; have d2b := d2
  rw [show (1 : Nat) = 0 + 1 from rfl, add_succ] at d1b
  rw [show (2 : Nat) = 1 + 1 from rfl, add_succ] at d2b
  simp only [show (0 : Nat) + 1 = 1 from rfl, show (1 : Nat) + 1 = 2 from rfl] at d1b d2b
  have q1 : (1 : Int) < (b.length : Int) := by omega
  have q2 : (2 : Int) < (b.length : Int) := by omega
  unfold SumAt
  generalize hy1 : hd b 1 = y1 at *
  generalize hy2 : hd b 2 = n at *
  generalize hm : y1 + n = m at *
  have wadd : IntKind.i64.wrap ((y1 : Int) + (n : Int)) = (m : Int) := by rw [IntWalk.i64_in _ (by omega)]; omega
  have wy1 : IntKind.i64.wrap (y1 : Int) = (y1 : Int) := IntWalk.i64_in _ (by omega)
  have wn : IntKind.i64.wrap (n : Int) = (n : Int) := IntWalk.i64_in _ (by omega)
  have hmk := fun w => run_make_row' (P := Try.prog) 24 33 (.int .u32 0) 4 Try.underlying24 info_u32 rfl .i64 .i64 m (by omega) (by omega) w
  have HER := Lib.hid er; have HHY := Lib.hid (And.intro hy1 hy2)
  clear hc hlt hR er hy1 hy2
  go_enter Try.func96, Try.ntmps96
  go_wp2_with (go_at_call 153; (with_reducible refine HH.out.mono ?_); rintro y w1 ⟨rfl, j1, rfl⟩)
  go_quiet (fail)
  go_wp2
  clear d1 d2 d1b d2b
  have hM0 : ∀ q, MagW w ((w.drewN q).alloc (.cells (madeCells #[.int .u32 0] m) 33)) w.heap.size (magP (wordB b) m 0) := fun q => by
    refine ⟨?_, (belA (belD (belR w) q) _)⟩
    have e : (u32n (magP (wordB b) m 0)).toArray = madeCells #[.int .u32 0] m := by rw [made_u32]; simp [magP]
    rw [e]
    exact Blk.new (w.drewN q) _ _
  have HM0 := Lib.hid hM0
  clear hM0 hmk
  go_loopw [32] (fun i wr => ∃ k : Nat, k ≤ n ∧ i = .int .i64 (k : Int) ∧ Hid (MagW w wr w.heap.size (magP (wordB b) m k)) ∧ Hid (wordsE b n (n - k) = readE b)) (fun i _ => n - (intOf i).toNat)
  case atStart => exact ⟨0, by omega, rfl, HM0.out _, by rw [Nat.sub_zero]; exact HER.out.symm⟩
  case round =>
    obtain ⟨i, hi, rfl, HM, HE⟩ := hrel
    by_cases hlt : i < n
    · have hws := HWS.out i hlt
      rw [HE.out] at hws
      have q3 : (i : Int) < (n : Int) := by omega
      obtain ⟨m1, hm1⟩ : ∃ m1, m1 + 1 = m := ⟨m - 1, by omega⟩
      obtain ⟨p, hp⟩ : ∃ p, p + i = m1 := ⟨m1 - i, by omega⟩
      obtain ⟨n1, hn1⟩ : ∃ n1, n1 + 1 = n := ⟨n - 1, by omega⟩
      obtain ⟨i4, hi4⟩ : ∃ i4, 4 * i = i4 := ⟨_, rfl⟩
      obtain ⟨i43, hi43⟩ : ∃ i43, 3 + i4 = i43 := ⟨_, rfl⟩
      have w51 : IntKind.i64.wrap ((m : Int) - 1) = (m1 : Int) := by rw [IntWalk.i64_in _ (by omega)]; omega
      have w53 : IntKind.i64.wrap ((m1 : Int) - (i : Int)) = (p : Int) := by rw [IntWalk.i64_in _ (by omega)]; omega
      have w39 : IntKind.i64.wrap (4 * (i : Int)) = (i4 : Int) := by rw [IntWalk.i64_in _ (by omega)]; omega
      have w40 : IntKind.i64.wrap (3 + (i4 : Int)) = (i43 : Int) := by rw [IntWalk.i64_in _ (by omega)]; omega
      have w87 : IntKind.i64.wrap ((n : Int) - 1) = (n1 : Int) := by rw [IntWalk.i64_in _ (by omega)]; omega
      have hpi : m - 1 - i = p := by omega
      have c1 : (0 : Int) ≤ (p : Int) := by omega
      have c2 : (p : Int) < (m : Int) := by omega
      have hM1 : MagW w wr w.heap.size (midP b m i 0) := by rw [midP_zero b m i (by omega)]; exact HM.out
      have HM1 := Lib.hid hM1; have HWS1 := Lib.hid hws
      clear hM1 hws HM HM0
      go_wp2
      go_loopw [35] (fun kv ws => ∃ k : Nat, k ≤ 4 ∧ kv = .int .i64 (k : Int) ∧ Hid (MagW w ws w.heap.size (midP b m i k)) ∧ (k = 0 ∨ 3 + 4 * i + k ≤ b.length)) (fun kv _ => 4 - (intOf kv).toNat)
      case atStart => exact ⟨0, by omega, rfl, HM1.out, .inl rfl⟩
      case round =>
        obtain ⟨k, hk, rfl, HM, hkl⟩ := hrel
        obtain ⟨at', hat⟩ : ∃ at', i43 + k = at' := ⟨_, rfl⟩
        have w42 : IntKind.i64.wrap ((i43 : Int) + (k : Int)) = (at' : Int) := by rw [IntWalk.i64_in _ (by omega)]; omega
        by_cases hk4 : k < 4
        · have g1 : decide ((k : Int) < 4) = true := decide_eq_true (by omega)
          by_cases hal : at' < b.length
          · have g2 : decide ((b.length : Int) ≤ (at' : Int)) = false := decide_eq_false (by omega)
            have c3 : (0 : Int) ≤ (at' : Int) := by omega
            have c4 : (at' : Int) < (b.length : Int) := by omega
            have y0 := HM.out.at (midP_at b m i k (by omega))
            rw [hpi] at y0
            have z0 := HC.out wr HM.out.2 at' hal
            have hpx := partB_lt b i k (by omega)
            have hpy := HLT.out at'
            have hps := partB_succ b i k (by omega)
            rw [show 3 + 4 * i + k = at' from by omega] at hps
            have hpz : partB b i k < 16777216 := Nat.lt_of_lt_of_le hpx (by have := Nat.pow_le_pow_right (show 0 < 256 by decide) (show k ≤ 3 by omega); simpa using this)
            have hor := or_next (partB b i k) (hd b at') hpz hpy
            rw [← hps] at hor
            have wy : IntKind.u32.wrap ((hd b at' : Nat) : Int) = ((hd b at' : Nat) : Int) := by rw [IntKind.wrap_u32]; omega
            have hfz := HM.out.drew.1.frozen p
            have hcz : wr.drew.cell? ⟨w.heap.size, p, none⟩ = some (.int .u32 (partB b i k : Int)) := y0
            have HMN : Hid (MagW w (wr.drew.setCell ⟨w.heap.size, p, none⟩ (.int .u32 (partB b i (k + 1) : Int))) w.heap.size (midP b m i (k + 1))) := Lib.hid (by
              have := HM.out.drew.put (by omega) p (partB b i (k + 1))
              rw [← hpi, midP_next, hpi] at this
              exact this)
            clear hpx hps hpz hpy
            generalize partB b i (k + 1) = pz at *
            generalize partB b i k = px at *
            generalize hd b at' = py at *
            go_upto_region 17 with (fail)
            go_still_tail 24, (by kernel_rfl)
            go_wp2
            go_roundw
            case rel => exact ⟨k + 1, by omega, by go_num, HMN.out, .inr (by omega)⟩
            case measure => simp [intOf]; omega
          · have g2 : decide ((b.length : Int) ≤ (at' : Int)) = true := decide_eq_true (by omega)
            have hws := HWS1.out
            rw [if_pos (by omega)] at hws
            have HB5 := Lib.hid HM.out.2
            have HW5 := Lib.hid hws
            clear hws HM
            go_wp2
            go_ret2
            exact ⟨_, by rw [HW5.out]; rfl, fun h => absurd (HW5.out.symm.trans h) (by decide), HB5.out⟩
        · obtain rfl : k = 4 := by omega
          have hk5 : 3 + 4 * i + 4 ≤ b.length := by omega
          have hws := HWS1.out
          rw [if_neg (by omega)] at hws
          rw [midP_four b m i (by omega)] at HM
          have z0 := HM.out.at (magP_at (wordB b) m (i + 1) i (by omega) (by omega))
          rw [hpi] at z0
          have HMF := HM
          have hwl := wordB_lt b i
          have g1 : decide (((4 : Nat) : Int) < 4) = false := by decide
          have HB5 := Lib.hid HM.out.2
          by_cases hi0 : i = 0
          · have g3 : ((i : Int) == 0) = true := by rw [beq_iff_eq]; omega
            obtain rfl : p = m1 := by omega
            by_cases hw0 : wordB b i = 0
            · have g4 : ((wordB b i : Int) == 0) = true := by rw [beq_iff_eq]; omega
              rw [if_pos ⟨.inl hi0, hw0⟩] at hws
              have HW5 := Lib.hid hws
              clear hws HM hw0 HMF
              generalize wordB b i = wd at *
              go_wp2
              go_ret2
              exact ⟨_, by rw [HW5.out]; rfl, fun h => absurd (HW5.out.symm.trans h) (by decide), HB5.out⟩
            · have g4 : ((wordB b i : Int) == 0) = false := by rw [beq_eq_false_iff_ne]; omega
              rw [if_neg fun hh => hw0 hh.2] at hws
              have HW5 := Lib.hid hws
              by_cases hin : i = n1
              · have g5 : ((i : Int) == (n1 : Int)) = true := by rw [beq_iff_eq]; omega
                have hyp : y1 = p := by omega
                have c5 : (0 : Int) ≤ (y1 : Int) := by omega
                have c6 : (y1 : Int) < (m : Int) := by omega
                have z1 := z0
                rw [← hyp] at z1
                clear hws HM hw0 hyp hi0 hin
                generalize wordB b i = wd at *
                go_wp2
                go_roundw
                case rel => exact ⟨i + 1, by omega, by go_num, HMF.out, HW5.out.symm⟩
                case measure => simp [intOf]; omega
              · have g5 : ((i : Int) == (n1 : Int)) = false := by rw [beq_eq_false_iff_ne]; omega
                clear hws HM hw0
                generalize wordB b i = wd at *
                go_wp2
                go_roundw
                case rel => exact ⟨i + 1, by omega, by go_num, HMF.out, HW5.out.symm⟩
                case measure => simp [intOf]; omega
          · have g3 : ((i : Int) == 0) = false := by rw [beq_eq_false_iff_ne]; omega
            by_cases hin : i = n1
            · have g5 : ((i : Int) == (n1 : Int)) = true := by rw [beq_iff_eq]; omega
              have hyp : y1 = p := by omega
              have c5 : (0 : Int) ≤ (y1 : Int) := by omega
              have c6 : (y1 : Int) < (m : Int) := by omega
              rw [← hyp] at z0
              clear hyp
              by_cases hw0 : wordB b i = 0
              · have g4 : ((wordB b i : Int) == 0) = true := by rw [beq_iff_eq]; omega
                rw [if_pos ⟨.inr (by omega), hw0⟩] at hws
                have HW5 := Lib.hid hws
                clear hws HM hw0 HMF
                generalize wordB b i = wd at *
                go_wp2
                go_ret2
                exact ⟨_, by rw [HW5.out]; rfl, fun h => absurd (HW5.out.symm.trans h) (by decide), HB5.out⟩
              · have g4 : ((wordB b i : Int) == 0) = false := by rw [beq_eq_false_iff_ne]; omega
                rw [if_neg fun hh => hw0 hh.2] at hws
                have HW5 := Lib.hid hws
                clear hws HM hw0
                generalize wordB b i = wd at *
                go_wp2
                go_roundw
                case rel => exact ⟨i + 1, by omega, by go_num, HMF.out, HW5.out.symm⟩
                case measure => simp [intOf]; omega
            · have g5 : ((i : Int) == (n1 : Int)) = false := by rw [beq_eq_false_iff_ne]; omega
              rw [if_neg fun hh => by omega] at hws
              have HW5 := Lib.hid hws
              clear hws HM
              generalize wordB b i = wd at *
              go_wp2
              go_roundw
              case rel => exact ⟨i + 1, by omega, by go_num, HMF.out, HW5.out.symm⟩
              case measure => simp [intOf]; omega
    · obtain rfl : i = n := by omega
      have he := HE.out
      rw [Nat.sub_self, HWE.out] at he
      obtain ⟨n4, hn4⟩ : ∃ n4, 4 * i = n4 := ⟨_, rfl⟩
      obtain ⟨n43, hn43⟩ : ∃ n43, 3 + n4 = n43 := ⟨_, rfl⟩
      have w101 : IntKind.i64.wrap (4 * (i : Int)) = (n4 : Int) := by rw [IntWalk.i64_in _ (by omega)]; omega
      have w102 : IntKind.i64.wrap (3 + (n4 : Int)) = (n43 : Int) := by rw [IntWalk.i64_in _ (by omega)]; omega
      by_cases hmo : 3 + 4 * i < b.length
      · have g1 : decide ((n43 : Int) < (b.length : Int)) = true := decide_eq_true (by omega)
        rw [if_pos hmo] at he
        have HW5 := Lib.hid he; have HB5 := Lib.hid HM.out.2
        clear he HM HM0 HE
        go_wp2
        go_ret2
        exact ⟨_, by rw [← HW5.out]; rfl, fun h => absurd (HW5.out.trans h) (by decide), HB5.out⟩
      · have g1 : decide ((n43 : Int) < (b.length : Int)) = false := decide_eq_false (by omega)
        rw [if_neg hmo] at he
        have HW5 := Lib.hid he
        have z0 := HC.out wr HM.out.2 0 (by omega)
        rw [add_zero'] at z0
        have hn32 : bits .andNot .u8 ((hd b 0 : Nat) : Int) 32 = ((hd b 0 - hd b 0 / 32 % 2 * 32 : Nat) : Int) := by
          have := u8_andNot_nat (hd b 0) 32 x0 (by decide)
          rw [show hd b 0 &&& (255 - 32) = hd b 0 - hd b 0 / 32 % 2 * 32 from not32 ⟨hd b 0, x0⟩] at this
          exact this
        have c3 : (0 : Int) < (b.length : Int) := by omega
        have p0 : hd b 0 / 32 % 2 = 0 ∨ hd b 0 / 32 % 2 = 1 := by omega
        have a32 : bits .and .u8 ((hd b 0 : Nat) : Int) 32 = ((hd b 0 / 32 % 2 * 32 : Nat) : Int) := by
          have := u8_and_nat (hd b 0) 32 x0 (by decide)
          rw [show hd b 0 &&& 32 = hd b 0 / 32 % 2 * 32 from and32 ⟨hd b 0, x0⟩] at this
          exact this
        obtain ⟨ct, hct⟩ : ∃ ct, hd b 0 - hd b 0 / 32 % 2 * 32 = ct := ⟨_, rfl⟩
        rw [hct] at hn32
        have HCT := Lib.hid hct
        clear he HM0 HE hct
        rcases p0 with hp | hp
        · rw [hp] at a32
          have a32' : bits .and .u8 ((hd b 0 : Nat) : Int) 32 = 0 := a32
          have HP := Lib.hid hp
          clear a32 hp
          go_upto_region 24 with (fail)
          go_region_with (fail)
          all_goals go_wp2
          all_goals go_ret2
          all_goals exact ⟨_, by rw [← HW5.out]; rfl, fun _ => ⟨_, w.heap.size, rfl, HM.out.2.size, Nat.le_refl _, (by have := HM.out.1.lt; omega), by rw [HCT.out, HP.out]; exact (Blk.new _ _ _).drew, (HM.out.1.alloc _).drew⟩, (belA HM.out.2 _).drew⟩
        · rw [hp] at a32
          have a32' : bits .and .u8 ((hd b 0 : Nat) : Int) 32 = 32 := a32
          have HP := Lib.hid hp
          clear a32 hp
          go_upto_region 24 with (fail)
          go_region_with (fail)
          all_goals go_wp2
          all_goals go_ret2
          all_goals exact ⟨_, by rw [← HW5.out]; rfl, fun _ => ⟨_, w.heap.size, rfl, HM.out.2.size, Nat.le_refl _, (by have := HM.out.1.lt; omega), by rw [HCT.out, HP.out]; exact (Blk.new _ _ _).drew, (HM.out.1.alloc _).drew⟩, (belA HM.out.2 _).drew⟩
end Go.Proofs.Ytfhmaincnlaapaa
namespace Go.Proofs.Ytfhmaincnlaapaa.Sy
open Go.ChangeShapes Go.WideShapes Go.ChangeAt Go.RowKit
set_option linter.unusedVariables false
set_option linter.unusedSimpArgs false
def bytT (l : List UInt8) : AV := .lst l.length (byL l)
section
variable (b : List UInt8) (p g : Bool) (low n : Nat) (hb : b.length ≤ 4611686018427387904) (hm : low + n ≤ 70)
include hb hm
end
end Go.Proofs.Ytfhmaincnlaapaa.Sy
namespace Go.Proofs.Ytfhmaincnlaapaa.Sy
open Go.ChangeShapes Go.WideShapes Go.ChangeAt Go.RowKit
set_option linter.unusedVariables false
set_option linter.unusedSimpArgs false
def fA (n : Nat) : AV := .v (.float .f64 n)
section
variable {a b : Nat} (ha : a < 18446744073709551616) (hb : b < 18446744073709551616)
include ha hb
end
/-! ### exact.Read -/
end Go.Proofs.Ytfhmaincnlaapaa.Sy
namespace Go.Proofs.Ytfhmaincnlaapaa.Sy
open Go.ChangeShapes Go.WideShapes Go.ChangeAt Go.RowKit
set_option linter.unusedVariables false
set_option linter.unusedSimpArgs false
def noW : WholeS := ⟨0, 0, [], 0, 0⟩
def noR : RealS := ⟨[], 0, 0⟩
structure OkW (X : WholeS) : Prop where
  sum : I64 X.sum
  abs : I64 X.abs
  sq : Wd X.sq
  len : X.sq.length ≤ 1000
  mn : I64 X.mn
  mx : I64 X.mx
structure OkR (X : RealS) : Prop where
  len : X.sum.length ≤ 1000
  mn : X.mn < 18446744073709551616
  mx : X.mx < 18446744073709551616
/-! ### reals -/
end Go.Proofs.Ytfhmaincnlaapaa.Sy
namespace Go.Proofs.Ytfhmaincnlaapaa.Sy
open Go.ChangeShapes Go.WideShapes Go.ChangeAt Go.RowKit
set_option linter.unusedVariables false
set_option linter.unusedSimpArgs false
/-! ### cells -/
def whL (X : WholeS) : List AV := [iz X.sum, iz X.abs, wA X.sq, iz X.mn, iz X.mx]
def reL (X : RealS) : List AV := [bytT X.sum, fA X.mn, fA X.mx]
def wsL (l : List WholeS) : List AV := l.flatMap whL
def rsL (l : List RealS) : List AV := l.flatMap reL
def cellL (C : CellS) : List AV := [uz (C.key : Nat), iz C.count, .lst C.ints.length (wsL C.ints), .lst C.nums.length (rsL C.nums)]
def cellT (C : CellS) : AV := .agg (cellL C)
theorem flat_one {α : Type} (g : α → AV) (l : List α) : (l.flatMap fun x => [g x]) = l.map g := by
  induction l with
  | nil => rfl
  | cons x l ih => simp only [List.flatMap_cons, ih, List.map_cons]; rfl
theorem encWh_eq : encWh = whL := by
  funext X
  have e : X.sq.flatMap encU32n = wL X.sq := flat_one u3 X.sq
  show encI64 X.sum ++ (encI64 X.abs ++ ([AV.lst X.sq.length (X.sq.flatMap encU32n)] ++ (encI64 X.mn ++ encI64 X.mx))) = _
  rw [e]; rfl
theorem encRe_eq : encRe = reL := by
  funext X
  have e : X.sum.flatMap encU8 = byL X.sum := flat_one (fun b : UInt8 => AV.v (.int .u8 (b.toNat : Int))) X.sum
  show [AV.lst X.sum.length (X.sum.flatMap encU8)] ++ (encF64 X.mn ++ encF64 X.mx) = _
  rw [e]; rfl
theorem cellT_eq (C : CellS) : AV.agg (encCl C) = cellT C := by
  show AV.agg (encU64n C.key ++ (encI64 C.count ++ ([AV.lst C.ints.length (C.ints.flatMap encWh)] ++ [AV.lst C.nums.length (C.nums.flatMap encRe)]))) = _
  rw [encWh_eq, encRe_eq]; rfl
def wAt (l : List WholeS) (i : Nat) : WholeS := l.getD i noW
def rAt (l : List RealS) (i : Nat) : RealS := l.getD i noR
theorem wsL_snoc (l : List WholeS) (x : WholeS) : wsL l ++ whL x = wsL (l ++ [x]) := by simp [wsL]
theorem rsL_snoc (l : List RealS) (x : RealS) : rsL l ++ reL x = rsL (l ++ [x]) := by simp [rsL]
theorem wsL_len (l : List WholeS) : (wsL l).length = l.length * 5 := by
  induction l with
  | nil => rfl
  | cons x l ih => simp only [wsL, List.flatMap_cons, List.length_append] at ih ⊢; rw [ih]; simp [whL]; omega
theorem rsL_len (l : List RealS) : (rsL l).length = l.length * 3 := by
  induction l with
  | nil => rfl
  | cons x l ih => simp only [rsL, List.flatMap_cons, List.length_append] at ih ⊢; rw [ih]; simp [reL]; omega
/-! ### the first that fails -/
def noC : CellS := ⟨0, 0, [], []⟩
structure OkC (C : CellS) : Prop where
  key : C.key < 18446744073709551616
  count : I64 C.count
  li : C.ints.length ≤ 1000
  ln : C.nums.length ≤ 1000
  ints : ∀ X ∈ C.ints, OkW X
  nums : ∀ X ∈ C.nums, OkR X
theorem OkC.w {C : CellS} (h : OkC C) {i : Nat} (hi : i < C.ints.length) : OkW (wAt C.ints i) := by
  have : wAt C.ints i = C.ints[i] := by unfold wAt; simp [hi]
  rw [this]; exact h.ints _ (List.getElem_mem hi)
theorem OkC.r {C : CellS} (h : OkC C) {i : Nat} (hi : i < C.nums.length) : OkR (rAt C.nums i) := by
  have : rAt C.nums i = C.nums[i] := by unfold rAt; simp [hi]
  rw [this]; exact h.nums _ (List.getElem_mem hi)
/-! ### the loops -/
def nilA : AV := .v (.slice none 0 0)
def celO (q : Nat) (l : List AV) : Nat × AObj := (q, .cells 52 l)
def rowWh (q n : Nat) (cs : List AV) : Nat × AObj := (q, .row 114 5 n 0 cs)
def rowRe (q n : Nat) (cs : List AV) : Nat × AObj := (q, .row 117 3 n 0 cs)
def zeroC : List AV := [uz 0, iz 0, nilA, nilA]
section
variable {a b : CellS} (ha : OkC a) (hb : OkC b) (k c : Int) (hl : b.ints.length = a.ints.length)
include ha hb hl
end
section
variable {a b : CellS} (ha : OkC a) (hb : OkC b) (k c : Int) (zs : List WholeS) (hl : b.nums.length = a.nums.length)
include ha hb hl
end
/-! ### agg.Join -/
theorem cell_no : cellT noC = .agg [uz 0, iz 0, .lst 0 [], .lst 0 []] := rfl
end Go.Proofs.Ytfhmaincnlaapaa.Sy
namespace Go.Proofs.Ytfhmaincnlaapaa.Sy
open Go.ChangeShapes Go.WideShapes Go.ChangeAt Go.RowKit
set_option linter.unusedVariables false
set_option linter.unusedSimpArgs false
/-- the product of digits in N places, as far as it goes: rounds i; in round i, k digits of b -/
def MulN (N : Nat) (a b out : List Nat) (i : Nat) : Prop := out.length = N ∧ (∀ d ∈ out, d < 4294967296) ∧ (∀ j, i + b.length ≤ j → dg out j = 0) ∧ vw out = vw (a.take i) * vw b
def MulJ (N : Nat) (a b out : List Nat) (i k carry : Nat) : Prop := out.length = N ∧ (∀ d ∈ out, d < 4294967296) ∧ (∀ j, i + b.length ≤ j → dg out j = 0) ∧ carry < 4294967296 ∧ vw out + 4294967296 ^ (i + k) * carry = vw (a.take i) * vw b + 4294967296 ^ i * (dg a i * vw (b.take k))
theorem MulN.zero (N : Nat) (a b : List Nat) : MulN N a b (List.replicate (N) 0) 0 := by
  refine ⟨by simp, fun d hd => ?_, fun j _ => ?_, ?_⟩
  · have := List.eq_of_mem_replicate hd; omega
  · unfold dg List.getD; rw [List.getElem?_replicate]; split <;> rfl
  · rw [vd_replW]; simp [vd_nilW]
theorem MulN.start {N : Nat} {a b out : List Nat} {i : Nat} (h : MulN N a b out i) : MulJ N a b out i 0 0 := ⟨h.1, h.2.1, h.2.2.1, by decide, by rw [h.2.2.2]; simp [vd_nilW]⟩
theorem MulJ.succ {N : Nat} {a b out : List Nat} {i k carry : Nat} (hN : a.length + b.length ≤ N) (ha : ∀ d ∈ a, d < 4294967296) (hb : ∀ d ∈ b, d < 4294967296) (h : MulJ N a b out i k carry) (hi : i < a.length) (hk : k < b.length) :
    MulJ N a b (out.set (i + k) ((dg out (i + k) + dg a i * dg b k + carry) % 4294967296)) i (k + 1) ((dg out (i + k) + dg a i * dg b k + carry) / 4294967296) := by
  obtain ⟨h1, h2, h3, h4, h5⟩ := h
  have x1 := dg_ltW a i ha
  have x2 := dg_ltW b k hb
  have x3 := dg_ltW out (i + k) h2
  have hbd := prod_bdW x1 x2 x3 h4
  have hs := vd_setW out (i + k) ((dg out (i + k) + dg a i * dg b k + carry) % 4294967296) (by omega)
  refine ⟨by simp [h1], mem_set_ltW h2 (Nat.mod_lt _ (by decide)), fun j hj => by rw [dg_set_ne _ _ _ _ (by omega)]; exact h3 j hj, by omega, ?_⟩
  rw [vd_take_succW b k hk, Nat.mul_add, Nat.mul_add, ← Nat.add_assoc (vw (a.take i) * vw b), ← h5, ← Nat.add_assoc i k 1, Nat.pow_succ]
  generalize dg out (i + k) = o at *
  generalize dg a i = p at *
  generalize dg b k = q at *
  have e1 : 4294967296 ^ i * (p * (4294967296 ^ k * q)) = 4294967296 ^ (i + k) * (p * q) := by rw [Nat.pow_add, ← Nat.mul_assoc p, Nat.mul_comm p, Nat.mul_assoc (4294967296 ^ k), ← Nat.mul_assoc (4294967296 ^ i)]
  rw [e1]
  generalize vw (out.set (i + k) ((o + p * q + carry) % 4294967296)) = V' at *
  generalize vw out = V at *
  generalize 4294967296 ^ (i + k) = P at *
  obtain ⟨s, hss⟩ : ∃ s, o + p * q + carry = s := ⟨_, rfl⟩
  rw [hss] at hs ⊢
  have e2 : P * s = P * o + P * (p * q) + P * carry := by rw [← hss, Nat.mul_add, Nat.mul_add]
  have e3 : P * s = P * (s % 4294967296) + P * 4294967296 * (s / 4294967296) := by
    rw [Nat.mul_assoc, ← Nat.mul_add, Nat.mod_add_div]
  omega
theorem MulJ.end_ {N : Nat} {a b out : List Nat} {i carry : Nat} (hN : a.length + b.length ≤ N) (h : MulJ N a b out i b.length carry) (hi : i < a.length) : MulN N a b (out.set (i + b.length) carry) (i + 1) := by
  obtain ⟨h1, h2, h3, h4, h5⟩ := h
  have hs := vd_setW out (i + b.length) carry (by omega)
  have h0 := h3 (i + b.length) (Nat.le_refl _)
  refine ⟨by simp [h1], mem_set_ltW h2 h4, fun j hj => by rw [dg_set_ne _ _ _ _ (by omega)]; exact h3 j (by omega), ?_⟩
  rw [h0, Nat.mul_zero, Nat.add_zero] at hs
  rw [hs, h5, vd_take_succW a i hi, List.take_length, Nat.add_mul, Nat.mul_assoc]
theorem MulN.all {N : Nat} {a b out : List Nat} (h : MulN N a b out a.length) : vw out = vw a * vw b ∧ ∀ d ∈ out, d < 4294967296 := by
  obtain ⟨_, h2, _, h4⟩ := h
  rw [List.take_length] at h4
  exact ⟨h4, h2⟩

def mulX (a b o : List Nat) (i k c : Nat) : Nat := dg o (i + k) + dg a i * dg b k + c
def mulK (a b : List Nat) (i : Nat) (o : List Nat) : Nat → List Nat × Nat
  | 0 => (o, 0)
  | k + 1 => ((mulK a b i o k).1.set (i + k) (mulX a b (mulK a b i o k).1 i k (mulK a b i o k).2 % 4294967296), mulX a b (mulK a b i o k).1 i k (mulK a b i o k).2 / 4294967296)
def mulR (a b : List Nat) (N : Nat) : Nat → List Nat
  | 0 => List.replicate N 0
  | i + 1 => (mulK a b i (mulR a b N i) b.length).1.set (i + b.length) (mulK a b i (mulR a b N i) b.length).2
theorem mulK_ok {a b : List Nat} (ha : Wd a) (hb : Wd b) {N i : Nat} (hN : a.length + b.length ≤ N) (hi : i < a.length) {o : List Nat} (h : MulN N a b o i) : ∀ k, k ≤ b.length → MulJ N a b (mulK a b i o k).1 i k (mulK a b i o k).2
  | 0, _ => h.start
  | k + 1, hk => (mulK_ok ha hb hN hi h k (by omega)).succ hN ha hb hi (by omega)
theorem mulR_ok {a b : List Nat} (ha : Wd a) (hb : Wd b) {N : Nat} (hN : a.length + b.length ≤ N) : ∀ i, i ≤ a.length → MulN N a b (mulR a b N i) i
  | 0, _ => MulN.zero N a b
  | i + 1, hi => (mulK_ok ha hb hN (by omega) (mulR_ok ha hb hN i (by omega)) b.length (Nat.le_refl _)).end_ hN (by omega)
theorem wL_put (l : List Nat) (j x : Nat) (h : j < l.length) : (wL l).take (j * 1) ++ [u3 x] ++ (wL l).drop (j * 1 + 1) = wL (l.set j x) := by rw [Nat.mul_one]; exact wL_set l j x h
/-- digits of a longer list that are those of its front -/
theorem dg_front {a d : List Nat} (h : d = a.take d.length) {i : Nat} (hi : i < d.length) : dg a i = dg d i ∧ i < a.length := by
  have := congrArg List.length h
  rw [List.length_take] at this
  refine ⟨?_, by omega⟩
  rw [h, dg, dg, List.getD_eq_getElem?_getD, List.getD_eq_getElem?_getD, List.getElem?_take_of_lt hi]
theorem rd_front {a d : List Nat} (h : d = a.take d.length) {i : Nat} (hi : i < d.length) : rd1 false 1 (wL a) ((i : Int).toNat * 1) = some (u3 (dg d i)) := by
  obtain ⟨h1, h2⟩ := dg_front h hi
  rw [← h1]; exact rd_wL a i h2
/-- in round i behind k digits -/
def mo (d e : List Nat) (i k : Nat) : List Nat × Nat := mulK d e i (mulR d e (d.length + e.length) i) k
def mx (d e : List Nat) (i k : Nat) : Nat := mulX d e (mo d e i k).1 i k (mo d e i k).2
theorem mo_ok {d e : List Nat} (hd : Wd d) (he : Wd e) {i k : Nat} (hi : i < d.length) (hk : k ≤ e.length) : MulJ (d.length + e.length) d e (mo d e i k).1 i k (mo d e i k).2 := mulK_ok hd he (Nat.le_refl _) hi (mulR_ok hd he (Nat.le_refl _) i (by omega)) k hk
def invMulK (a b d e : List Nat) (i : Nat) (k : {k : Nat // k ≤ e.length}) : AS := ⟨[(0, wA a), (1, wA b), (6, iz (e.length : Nat)), (7, .row 19 0), (8, iz (i : Nat)), (9, uz ((mo d e i k.1).2 : Nat)), (20, iz (d.length : Nat)), (21, iz (i : Nat)), (24, iz (e.length : Nat)), (25, iz (k.1 : Nat))], [rowU 19 (d.length + e.length) 0 (wL (mo d e i k.1).1)], 71, []⟩
theorem mulk_loop {a b d e : List Nat} (hd : Wd d) (he : Wd e) (hda : d = a.take d.length) (heb : e = b.take e.length) (hl : d.length + e.length ≤ 2000000) {i : Nat} (hi : i < d.length) (k) : LoopOk Try.prog (loopBody Try.f83 8) (invMulK a b d e i k) (.exit 2) (invMulK a b d e i ⟨e.length, Nat.le_refl _⟩) := by
  refine LoopOk.of hmo (invMulK a b d e i) (fun k => e.length - k.1) (fun k => ?_) k
  obtain ⟨k, hk⟩ := k
  rcases Nat.lt_or_eq_of_le hk with hlt | rfl
  · have hm := mo_ok hd he hi hk
    obtain ⟨m1, m2, m3, m4, m5⟩ := hm
    have r1 := rd_front hda hi
    have r2 := rd_front heb hlt
    have r3 := rd_wL (mo d e i k).1 (i + k) (by omega)
    have x1 := dg_ltW d i hd
    have x2 := dg_ltW e k he
    have x3 := dg_ltW _ (i + k) m2
    have hbd := prod_bdW x1 x2 x3 m4
    have hbd2 := prod_bdW x1 x2 x3 (show 0 < 4294967296 by decide)
    have hbd3 := prod_bdW x1 x2 (show 0 < 4294967296 by decide) (show 0 < 4294967296 by decide)
    have e0 := u64s (dg d i) (by omega)
    have e1 := u64s (dg e k) (by omega)
    have e2 : IntKind.u64.wrap ((dg d i : Int) * (dg e k : Nat)) = ((dg d i * dg e k : Nat) : Int) := by rw [← Int.natCast_mul]; exact u64s _ (by omega)
    have e3 := u64s (dg (mo d e i k).1 (i + k)) (by omega)
    have e4 := u64s (dg d i * dg e k + dg (mo d e i k).1 (i + k)) (by omega)
    have e5 : IntKind.u64.wrap (((dg d i * dg e k + dg (mo d e i k).1 (i + k) : Nat) : Int) + (mo d e i k).2) = ((mx d e i k : Nat) : Int) := by
      rw [← Int.natCast_add, u64s _ (by omega)]; unfold mx mulX; omega
    have e6 := u32n (mx d e i k)
    have e7 := shr32 (mx d e i k)
    have hs := wL_put (mo d e i k).1 (i + k) (mx d e i k % 4294967296) (by omega)
    refine Round.on [(26, .val (bz true)), (31, .val (u3 (dg d i))), (32, .val (uz (dg d i : Nat))), (36, .val (u3 (dg e k))), (37, .val (uz (dg e k : Nat))), (38, .val (uz (dg d i * dg e k : Nat))), (42, .val (iz (i + k : Nat))), (44, .val (u3 (dg (mo d e i k).1 (i + k)))), (45, .val (uz (dg (mo d e i k).1 (i + k) : Nat))), (46, .val (uz (dg d i * dg e k + dg (mo d e i k).1 (i + k) : Nat))), (48, .val (uz (mx d e i k : Nat))), (52, .val (iz (i + k : Nat))), (54, .val (u3 (mx d e i k % 4294967296))), (57, .val (uz (mx d e i k / 4294967296 : Nat))), (58, .val (iz (k + 1 : Nat)))] [] ⟨k + 1, hlt⟩ [a.length = a.length ∧ wL a = wL a, b.length = b.length ∧ wL b = wL b, (↑e.length : Int) = (↑e.length : Int), (19 : Nat) = (19 : Nat) ∧ (0 : Nat) = (0 : Nat), (↑i : Int) = (↑i : Int), (↑(mx d e i k / (4294967296 : Nat)) : Int) = (↑(mo d e i (k + (1 : Nat))).snd : Int), (↑d.length : Int) = (↑d.length : Int), (↑i : Int) = (↑i : Int), (↑e.length : Int) = (↑e.length : Int), (↑(k + (1 : Nat)) : Int) = (↑(k + (1 : Nat)) : Int), d.length + e.length = d.length + e.length ∧ (0 : Nat) = (0 : Nat) ∧ List.take ((↑(i + k) : Int).toNat * (1 : Nat)) (wL (mo d e i k).fst) ++ [AV.v (Value.int IntKind.u32 (↑(mx d e i k % (4294967296 : Nat)) : Int))] ++ List.drop ((↑(i + k) : Int).toNat * (1 : Nat) + [AV.v (Value.int IntKind.u32 (↑(mx d e i k % (4294967296 : Nat)) : Int))].length) (wL (mo d e i k).fst) = wL (mo d e i (k + (1 : Nat))).fst, decide ((↑k : Int) < (↑e.length : Int)) = true, (0 : Int) ≤ (↑i : Int) ∧ (↑i : Int) < (↑a.length : Int), rd1 false (1 : Nat) (wL a) ((↑i : Int).toNat * (1 : Nat)) = some (AV.v (Value.int IntKind.u32 (↑(dg d i) : Int))), IntKind.u64.wrap (↑(dg d i) : Int) = (↑(dg d i) : Int), (0 : Int) ≤ (↑k : Int) ∧ (↑k : Int) < (↑b.length : Int), rd1 false (1 : Nat) (wL b) ((↑k : Int).toNat * (1 : Nat)) = some (AV.v (Value.int IntKind.u32 (↑(dg e k) : Int))), IntKind.u64.wrap (↑(dg e k) : Int) = (↑(dg e k) : Int), IntKind.u64.wrap ((↑(dg d i) : Int) * (↑(dg e k) : Int)) = (↑(dg d i * dg e k) : Int), IntKind.i64.wrap ((↑i : Int) + (↑k : Int)) = (↑(i + k) : Int), (0 : Int) ≤ (↑(i + k) : Int) ∧ (↑(i + k) : Int) < (↑(d.length + e.length) : Int), rd1 false (1 : Nat) (wL (mo d e i k).fst) ((↑(i + k) : Int).toNat * (1 : Nat)) = some (AV.v (Value.int IntKind.u32 (↑(dg (mo d e i k).fst (i + k)) : Int))), IntKind.u64.wrap (↑(dg (mo d e i k).fst (i + k)) : Int) = (↑(dg (mo d e i k).fst (i + k)) : Int), IntKind.u64.wrap ((↑(dg d i * dg e k) : Int) + (↑(dg (mo d e i k).fst (i + k)) : Int)) = (↑(dg d i * dg e k + dg (mo d e i k).fst (i + k)) : Int), IntKind.u64.wrap ((↑(dg d i * dg e k + dg (mo d e i k).fst (i + k)) : Int) + (↑(mo d e i k).snd : Int)) = (↑(mx d e i k) : Int), IntKind.i64.wrap ((↑i : Int) + (↑k : Int)) = (↑(i + k) : Int), IntKind.u32.wrap (↑(mx d e i k) : Int) = (↑(mx d e i k % (4294967296 : Nat)) : Int), (0 : Int) ≤ (↑(i + k) : Int) ∧ (↑(i + k) : Int) < (↑(d.length + e.length) : Int), (↑(i + k) : Int).toNat * (1 : Nat) + [AV.v (Value.int IntKind.u32 (↑(mx d e i k % (4294967296 : Nat)) : Int))].length ≤ (wL (mo d e i k).fst).length, (↑(mx d e i k) : Int).fdiv ((2 : Int) ^ (32 : Nat)) = (↑(mx d e i k / (4294967296 : Nat)) : Int), (0 : Int) ≤ (32 : Int), IntKind.i64.wrap ((↑k : Int) + (1 : Int)) = (↑(k + (1 : Nat)) : Int)] (by kernel_rfl) (by show e.length - (k + 1) < e.length - k; omega) ?_
    ((repeat' refine And.intro ?_ ?_); (iterate 8 (with_reducible rfl)); (exact tdivN _ _); (iterate 6 (with_reducible rfl)); ((show (_ : List AV) = _; assumption)); ((with_reducible refine Dt ?_; omega)); (omega); rotate_left 1; ((show rd1 _ _ _ _ = _; assumption)); (with_reducible assumption); (omega); rotate_left 1; ((show rd1 _ _ _ _ = _; assumption)); (iterate 2 (with_reducible assumption)); (exact Wi _ (by omega)); (iterate 2 (omega)); ((show rd1 _ _ _ _ = _; assumption)); (with_reducible assumption); ((rw [IntKind.wrap_u64]; omega)); (with_reducible assumption); (exact Wi _ (by omega)); (with_reducible assumption); (iterate 2 (omega)); rotate_left 1; (with_reducible assumption); (omega); (exact Wi _ (by omega)); (exact True.intro))
    all_goals first | exact r1 | exact r2 | exact r3 | exact e0 | exact e1 | exact e2 | exact e3 | exact e4 | exact e5 | exact e6 | exact e7 | exact hs | (have := (dg_front hda hi).2; omega) | (have := (dg_front heb hlt).2; omega) | (simp [wL_len]; omega) | rfl | skip
    all_goals trace_state
  · refine Round.out [(26, .val (bz false))] [] [a.length = a.length ∧ wL a = wL a, b.length = b.length ∧ wL b = wL b, (↑e.length : Int) = (↑e.length : Int), (19 : Nat) = (19 : Nat) ∧ (0 : Nat) = (0 : Nat), (↑i : Int) = (↑i : Int), (↑(mo d e i e.length).snd : Int) = (↑(mo d e i e.length).snd : Int), (↑d.length : Int) = (↑d.length : Int), (↑i : Int) = (↑i : Int), (↑e.length : Int) = (↑e.length : Int), (↑e.length : Int) = (↑e.length : Int), d.length + e.length = d.length + e.length ∧ (0 : Nat) = (0 : Nat) ∧ wL (mo d e i e.length).fst = wL (mo d e i e.length).fst, decide ((↑e.length : Int) < (↑e.length : Int)) = false] (by kernel_rfl) ?_
    ((repeat' refine And.intro ?_ ?_); (iterate 16 (with_reducible rfl)); ((with_reducible refine Df ?_; omega)); (exact True.intro))
def invMul (a b d e : List Nat) (i : {i : Nat // i ≤ d.length}) : AS := ⟨[(0, wA a), (1, wA b), (6, iz (e.length : Nat)), (7, .row 19 0), (20, iz (d.length : Nat)), (21, iz (i.1 : Nat))], [rowU 19 (d.length + e.length) 0 (wL (mulR d e (d.length + e.length) i.1))], 71, []⟩
theorem mul_loop {a b d e : List Nat} (hd : Wd d) (he : Wd e) (hda : d = a.take d.length) (heb : e = b.take e.length) (hl : d.length + e.length ≤ 2000000) (i) : LoopOk Try.prog (loopBody Try.f83 4) (invMul a b d e i) (.exit 0) (invMul a b d e ⟨d.length, Nat.le_refl _⟩) := by
  refine LoopOk.of hmo (invMul a b d e) (fun i => d.length - i.1) (fun i => ?_) i
  obtain ⟨i, hi⟩ := i
  rcases Nat.lt_or_eq_of_le hi with hlt | rfl
  · obtain ⟨m1, m2, m3, m4, m5⟩ := mo_ok hd he hlt (Nat.le_refl e.length)
    have hk := mulk_loop hd he hda heb hl hlt ⟨0, Nat.zero_le _⟩
    have hs := wL_put (mo d e i e.length).1 (i + e.length) (mo d e i e.length).2 (by omega)
    refine Round.on [(22, .val (bz true)), (62, .val (iz (i + e.length : Nat))), (64, .val (u3 (mo d e i e.length).2)), (66, .val (iz (i + 1 : Nat)))] [(8, ⟨.exit 2, invMulK a b d e i ⟨0, Nat.zero_le _⟩, invMulK a b d e i ⟨e.length, Nat.le_refl _⟩⟩)] ⟨i + 1, hlt⟩ [a.length = a.length ∧ wL a = wL a, b.length = b.length ∧ wL b = wL b, (↑e.length : Int) = (↑e.length : Int), (19 : Nat) = (19 : Nat) ∧ (0 : Nat) = (0 : Nat), (↑d.length : Int) = (↑d.length : Int), (↑(i + (1 : Nat)) : Int) = (↑(i + (1 : Nat)) : Int), d.length + e.length = d.length + e.length ∧ (0 : Nat) = (0 : Nat) ∧ List.take ((↑(i + e.length) : Int).toNat * (1 : Nat)) (wL (mo d e i e.length).fst) ++ [AV.v (Value.int IntKind.u32 (↑(mo d e i e.length).snd : Int))] ++ List.drop ((↑(i + e.length) : Int).toNat * (1 : Nat) + [AV.v (Value.int IntKind.u32 (↑(mo d e i e.length).snd : Int))].length) (wL (mo d e i e.length).fst) = wL (mulR d e (d.length + e.length) (i + (1 : Nat))), decide ((↑i : Int) < (↑d.length : Int)) = true, LoopOk Try.prog (loopBody Try.f83 (8 : Nat)) (invMulK a b d e i (Subtype.mk (0 : Nat) (Nat.zero_le e.length))) (Exit.exit (2 : Nat)) (invMulK a b d e i (Subtype.mk e.length (Nat.le_refl e.length))), a.length = a.length ∧ wL a = wL a, b.length = b.length ∧ wL b = wL b, (↑e.length : Int) = (↑e.length : Int), (19 : Nat) = (19 : Nat) ∧ (0 : Nat) = (0 : Nat), (↑i : Int) = (↑i : Int), (0 : Int) = (↑(mo d e i (0 : Nat)).snd : Int), (↑d.length : Int) = (↑d.length : Int), (↑i : Int) = (↑i : Int), (↑e.length : Int) = (↑e.length : Int), (0 : Int) = (↑(0 : Nat) : Int), d.length + e.length = d.length + e.length ∧ (0 : Nat) = (0 : Nat) ∧ wL (mulR d e (d.length + e.length) i) = wL (mo d e i (0 : Nat)).fst, IntKind.i64.wrap ((↑i : Int) + (↑e.length : Int)) = (↑(i + e.length) : Int), IntKind.u32.wrap (↑(mo d e i e.length).snd : Int) = (↑(mo d e i e.length).snd : Int), (0 : Int) ≤ (↑(i + e.length) : Int) ∧ (↑(i + e.length) : Int) < (↑(d.length + e.length) : Int), (↑(i + e.length) : Int).toNat * (1 : Nat) + [AV.v (Value.int IntKind.u32 (↑(mo d e i e.length).snd : Int))].length ≤ (wL (mo d e i e.length).fst).length, IntKind.i64.wrap ((↑i : Int) + (1 : Int)) = (↑(i + (1 : Nat)) : Int)] (by kernel_rfl) (by show d.length - (i + 1) < d.length - i; omega) ?_
    ((repeat' refine And.intro ?_ ?_); (iterate 11 (with_reducible rfl)); ((show (_ : List AV) = _; assumption)); ((with_reducible refine Dt ?_; omega)); (with_reducible assumption); (iterate 8 (with_reducible rfl)); (exact rfl); (iterate 3 (with_reducible rfl)); (omega); (iterate 2 (with_reducible rfl)); (exact rfl); (exact Wi _ (by omega)); ((rw [IntKind.wrap_u32]; omega)); (iterate 2 (omega)); rotate_left 1; (exact Wi _ (by omega)); (exact True.intro))
    all_goals first | exact hk | exact hs | (simp [wL_len]; omega) | rfl | skip
    all_goals trace_state
    all_goals sorry
  · refine Round.out [(22, .val (bz false))] [] [a.length = a.length ∧ wL a = wL a, b.length = b.length ∧ wL b = wL b, (↑e.length : Int) = (↑e.length : Int), (19 : Nat) = (19 : Nat) ∧ (0 : Nat) = (0 : Nat), (↑d.length : Int) = (↑d.length : Int), (↑d.length : Int) = (↑d.length : Int), d.length + e.length = d.length + e.length ∧ (0 : Nat) = (0 : Nat) ∧ wL (mulR d e (d.length + e.length) d.length) = wL (mulR d e (d.length + e.length) d.length), decide ((↑d.length : Int) < (↑d.length : Int)) = false] (by kernel_rfl) ?_
    ((repeat' refine And.intro ?_ ?_); (iterate 12 (with_reducible rfl)); ((with_reducible refine Df ?_; omega)); (exact True.intro))
theorem mul_ok {a b : List Nat} (ha : Wd a) (hb : Wd b) (hal : a.length ≤ 1000000) (hbl : b.length ≤ 1000000) : FnOk Try.prog 83 ⟨[wA a, wA b], [], wA (dgw (vw a * vw b)), []⟩ := by
  have h1 := size_ok a (by omega)
  have h2 := size_ok b (by omega)
  obtain ⟨d, hd⟩ : ∃ d, dgw (vw a) = d := ⟨_, rfl⟩
  have hdt : a.take (tsz a) = d := by rw [← hd]; exact take_tszW a ha
  have hta := tsz_le a
  have hdl : d.length = tsz a := by rw [← hdt, List.length_take]; omega
  have hdw : Wd d := by rw [← hd]; exact dig_ltW _
  have hdv : vw d = vw a := by rw [← hd, vd_digW]
  obtain ⟨e, he⟩ : ∃ e, dgw (vw b) = e := ⟨_, rfl⟩
  have het : b.take (tsz b) = e := by rw [← he]; exact take_tszW b hb
  have htb := tsz_le b
  have hel : e.length = tsz b := by rw [← het, List.length_take]; omega
  have hew : Wd e := by rw [← he]; exact dig_ltW _
  have hev : vw e = vw b := by rw [← he, vd_digW]
  have hl := mul_loop hdw hew (by rw [hdl, hdt]) (by rw [hel, het]) (by omega) ⟨0, Nat.zero_le _⟩
  have hr := mulR_ok hdw hew (Nat.le_refl _) d.length (Nat.le_refl _)
  have hall := hr.all
  rw [hdv, hev] at hall
  have hlo := hr.1
  have hz := size_ok (mulR d e (d.length + e.length) d.length) (by omega)
  have hts := tsz_le (mulR d e (d.length + e.length) d.length)
  have e2 := tsz_dg hall.2
  have hc := cut_dg hall.2
  rw [hall.1] at e2 hc
  rw [← hdl] at h1
  rw [← hel] at h2
  have hrep : List.replicate (d.length + e.length) (AV.v (.int .u32 0)) = wL (mulR d e (d.length + e.length) 0) := by rw [wR_nil]; unfold wR; simp [mulR]
  refine fn_go hmo Try.func83 (by kernel_rfl) [(13, .call ⟨[wA a], [], iz (d.length : Nat), []⟩), (15, .call ⟨[wA b], [], iz (e.length : Nat), []⟩), (18, .val (iz (d.length + e.length : Nat))), (69, .call ⟨[wA (mulR d e (d.length + e.length) d.length)], [], iz (tsz (mulR d e (d.length + e.length) d.length) : Nat), []⟩)] [(4, ⟨.exit 0, invMul a b d e ⟨0, Nat.zero_le _⟩, invMul a b d e ⟨d.length, Nat.le_refl _⟩⟩)] [(↑(tsz (mulR d e (d.length + e.length) d.length)) : Int).toNat = (dgw (vw a * vw b)).length ∧ List.take ((↑(tsz (mulR d e (d.length + e.length) d.length)) : Int).toNat * (1 : Nat)) (wL (mulR d e (d.length + e.length) d.length)) = wL (dgw (vw a * vw b)), (a.length = a.length ∧ wL a = wL a) ∧ True, FnOk Try.prog (143 : Nat) (Inst.mk [AV.lst a.length (wL a)] [] (AV.v (Value.int IntKind.i64 (↑d.length : Int))) []), (b.length = b.length ∧ wL b = wL b) ∧ True, FnOk Try.prog (143 : Nat) (Inst.mk [AV.lst b.length (wL b)] [] (AV.v (Value.int IntKind.i64 (↑e.length : Int))) []), IntKind.i64.wrap ((↑d.length : Int) + (↑e.length : Int)) = (↑(d.length + e.length) : Int), (↑(d.length + e.length) : Int) = (↑(d.length + e.length) : Int), (0 : Int) ≤ (↑(d.length + e.length) : Int) ∧ (↑(d.length + e.length) : Int) * (↑(4 : Nat) : Int) ≤ (140737488355328 : Int) ∧ (↑(d.length + e.length) : Int) ≤ (140737488355328 : Int), LoopOk Try.prog (loopBody Try.f83 (4 : Nat)) (invMul a b d e (Subtype.mk (0 : Nat) (Nat.zero_le d.length))) (Exit.exit (0 : Nat)) (invMul a b d e (Subtype.mk d.length (Nat.le_refl d.length))), a.length = a.length ∧ wL a = wL a, b.length = b.length ∧ wL b = wL b, (↑e.length : Int) = (↑e.length : Int), (19 : Nat) = (19 : Nat) ∧ (0 : Nat) = (0 : Nat), (↑d.length : Int) = (↑d.length : Int), (0 : Int) = (↑(0 : Nat) : Int), (↑(d.length + e.length) : Int).toNat = d.length + e.length ∧ (0 : Nat) = (0 : Nat) ∧ repA (↑(d.length + e.length) : Int).toNat [Value.int IntKind.u32 (0 : Int)] = wL (mulR d e (d.length + e.length) (0 : Nat)), (d.length + e.length = (mulR d e (d.length + e.length) d.length).length ∧ wL (mulR d e (d.length + e.length) d.length) = wL (mulR d e (d.length + e.length) d.length)) ∧ True, FnOk Try.prog (143 : Nat) (Inst.mk [AV.lst (mulR d e (d.length + e.length) d.length).length (wL (mulR d e (d.length + e.length) d.length))] [] (AV.v (Value.int IntKind.i64 (↑(tsz (mulR d e (d.length + e.length) d.length)) : Int))) []), (0 : Int) = (0 : Int) ∧ (0 : Int) ≤ (↑(tsz (mulR d e (d.length + e.length) d.length)) : Int) ∧ (↑(tsz (mulR d e (d.length + e.length) d.length)) : Int) ≤ (↑(d.length + e.length) : Int)] (by kernel_rfl) ?_
  ((repeat' refine And.intro ?_ ?_); (iterate 2 (with_reducible assumption)); (iterate 2 (with_reducible rfl)); (exact True.intro); ((show FnOk _ _ _; assumption)); (iterate 2 (with_reducible rfl)); (exact True.intro); ((show FnOk _ _ _; assumption)); (exact Wi _ (by omega)); (with_reducible rfl); (iterate 3 (omega)); (with_reducible assumption); (iterate 8 (with_reducible rfl)); (iterate 2 (omega)); (with_reducible rfl); ((show repA _ _ = _; assumption)); (omega); (with_reducible rfl); (exact True.intro); ((show FnOk _ _ _; assumption)); (with_reducible rfl); (iterate 2 (omega)); (exact True.intro))
  all_goals first | exact h1 | exact h2 | exact hz | exact e2 | exact hc | exact hl | exact hrep | skip
  all_goals trace_state
  all_goals sorry
end Go.Proofs.Ytfhmaincnlaapaa.Sy
