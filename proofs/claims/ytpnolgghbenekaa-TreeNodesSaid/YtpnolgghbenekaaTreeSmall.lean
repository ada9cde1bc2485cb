/-
  bushellaw25.entries, same; tree.Seek.
-/
import Derived.Test.YtpnolgghbenekaaRefReadNodeW
import Derived.Test.YtpnolgghbenekaaAppRule
namespace Go.Proofs.Ytpnolgghbenekaa
open Go.ChangeShapes Go.WideShapes Go.ChangeAt Go.RowKit
set_option linter.unusedVariables false

attribute [local go_sem ↓] wp_app_rule
set_option maxHeartbeats 1000000 in
theorem entries_any (A : Option Addr) (n c B : Nat) (l : List (Nat × Int)) (w : World) (h : Rd w B 2 A n (entC l)) (hn : n ≤ 1000000) (hB : B ≤ w.heap.size) :
    Calls Try.prog 11 #[.slice A n c] w fun y w' => ∃ v, y = .returned v ∧ w'.ownsRow w.heap.size 45 2 v l.length (entC l) ∧ Below w.heap.size w w' := by
  obtain rfl : n = l.length := h.ent_len
  have H := Lib.hid h; clear h
  go_enter Try.func11, Try.ntmps11
  go_wp2
  go_loopw [3, 4] (fun ov i wr => ∃ k : Nat, k ≤ l.length ∧ i = .int .i64 (k : Int) ∧ wr.ownsRow w.heap.size 45 2 ov k (entC (l.take k)) ∧ Below w.heap.size w wr) (fun _ i _ => l.length - (intOf i).toNat)
  case atStart => exact ⟨0, by omega, rfl, World.ownsRow_nil _ _ _ 2, belR _⟩
  case round =>
    obtain ⟨k, hk, rfl, ho, hb⟩ := hrel
    have hz := hb.size
    obtain ⟨A0, c0, rfl, _, _, _⟩ := own_form ho
    by_cases hlt : k < l.length
    · obtain ⟨a, rfl, hab, x0, x1⟩ := (H.out.below (hb.mono hB)).ent hlt
      have hab2 : a.block < wr.heap.size := by omega
      have hst : entC (l.take k) ++ [.int .u64 (l[k].1 : Int), .int .i64 l[k].2] = entC (l.take (k + 1)) := by
        rw [List.take_succ_eq_append_getElem hlt]; exact entC_snoc _ _ _
      have x0a := fun o => (World.cell?_alloc_lt wr o (a.add (k * 2)) (by rw [block_add]; omega)).trans x0
      have x1a := fun o => (World.cell?_alloc_lt wr o ⟨(a.add (k * 2)).block, (a.add (k * 2)).off + 1, none⟩ (by rw [block_add]; omega)).trans x1
      obtain ⟨A2, c2, w2, hok, hv, hw, ho2, hap⟩ := app_ready (P := Try.prog) (W := (wr.alloc (.cells #[.int .u64 (l[k].1 : Int), .int .i64 l[k].2] 45)).drew) [.int .u64 (l[k].1 : Int), .int .i64 l[k].2] 2 rfl (by decide) (by simp [Value.oneCell']) 24 w.heap.size 45 16 info_ent25 rfl Try.underlying24
        (ho.alloc (.cells #[.int .u64 (l[k].1 : Int), .int .i64 l[k].2] 45)) wr.heap.size ((Blk.new wr 45 #[.int .u64 (l[k].1 : Int), .int .i64 l[k].2]).drew) (by omega) (by omega) (by simp; omega)
      have q1 : (0 : Int) ≤ (k : Int) := by omega
      have q2 : (k : Int) < (l.length : Int) := by omega
      have hb2 : Below w.heap.size _ w2 := hap.below (by simp; omega) (ho.alloc _)
      have HO2 := Lib.hid ho2; have HAP := Lib.hid hap; have HST := Lib.hid hst; have HO := Lib.hid ho; have HB2 := Lib.hid hb2; clear ho2 hap hst ho hb2
      generalize l[k] = x at *
      obtain ⟨f, p⟩ := x
      simp only at x0 x1 x0a x1a hok hv hw
      go_wp2
      go_region
      go_wp2
      go_roundw
      case rel => exact ⟨k + 1, by omega, by go_num, by rw [← HST.out]; exact HO2.out, ((hb.alloc hz _).drew).trans HB2.out⟩
      case measure => simp [intOf]; omega
    · obtain rfl : k = l.length := by omega
      rw [List.take_length] at ho
      have HO := Lib.hid ho; clear ho
      go_wp2
      go_ret
      exact ⟨_, rfl, HO.out, hb⟩

/-- two lists alike -/
def sameB (l m : List (Nat × Int)) : Bool := decide (l = m)
theorem sameB_len (l m : List (Nat × Int)) (h : l.length ≠ m.length) : sameB l m = false := decide_eq_false fun e => h (by rw [e])
theorem sameB_at (l m : List (Nat × Int)) (k : Nat) (h1 : k < l.length) (h2 : k < m.length) (h : l[k] ≠ m[k]) : sameB l m = false := decide_eq_false fun e => h (by subst e; rfl)
theorem sameB_all (l m : List (Nat × Int)) (hl : l.length = m.length) (h : ∀ j (h1 : j < l.length) (h2 : j < m.length), l[j] = m[j]) : sameB l m = true := decide_eq_true (List.ext_getElem hl h)
set_option maxHeartbeats 1000000 in
theorem same_any (A A' : Option Addr) (n c n' c' B : Nat) (l m : List (Nat × Int)) (w : World) (h : Rd w B 2 A n (entC l)) (h' : Rd w B 2 A' n' (entC m)) (hn : n ≤ 1000000) (hn' : n' ≤ 1000000) :
    Calls Try.prog 17 #[.slice A n c, .slice A' n' c'] w fun y w' => y = .returned (.bool (sameB l m)) ∧ Drw w w' := by
  obtain rfl : n = l.length := h.ent_len
  obtain rfl : n' = m.length := h'.ent_len
  have H := Lib.hid h; have H' := Lib.hid h'; clear h h'
  by_cases hl : l.length = m.length
  · have t1 : ((l.length : Int) != (m.length : Int)) = false := by rw [hl]; simp
    have HL := Lib.hid hl; clear hl
    go_enter Try.func17, Try.ntmps17
    go_wp2
    go_loopw [5] (fun i wr => ∃ k : Nat, k ≤ l.length ∧ i = .int .i64 (k : Int) ∧ (∀ j (h1 : j < l.length) (h2 : j < m.length), j < k → l[j] = m[j]) ∧ Drw w wr) (fun i _ => l.length - (intOf i).toNat)
    case atStart => exact ⟨0, by omega, rfl, fun j _ _ hj => by omega, Drw.refl _⟩
    case round =>
      obtain ⟨k, hk, rfl, hall, hd⟩ := hrel
      have ALL := Lib.hid hall; clear hall
      by_cases hlt : k < l.length
      · have hltm : k < m.length := by rw [← HL.out]; exact hlt
        obtain ⟨a, rfl, hab, x0, x1⟩ := (rd_drw H.out hd).ent hlt
        obtain ⟨a', rfl, hab', y0, y1⟩ := (rd_drw H'.out hd).ent hltm
        have hno := sameB_at l m k hlt hltm
        have q1 : (0 : Int) ≤ (k : Int) := by omega
        have q2 : (k : Int) < (l.length : Int) := by omega
        have q3 : (k : Int) < (m.length : Int) := by omega
        have hall2 : l[k] = m[k] → ∀ j (h1 : j < l.length) (h2 : j < m.length), j < k + 1 → l[j] = m[j] := fun e j h1 h2 hj => by
          by_cases ej : j = k
          · subst ej; exact e
          · exact ALL.out j h1 h2 (by omega)
        generalize l[k] = x at *
        generalize m[k] = y at *
        obtain ⟨f, p⟩ := x
        obtain ⟨f', p'⟩ := y
        simp only at x0 x1 y0 y1
        by_cases h1 : f = f'
        · subst h1
          by_cases h2 : p = p'
          · subst h2
            have HA2 := Lib.hid (hall2 rfl); have HNO := Lib.hid hno; clear hall2 hno
            go_wp2
            go_quiet (fail)
            go_wp2
            go_roundw
            case rel => exact ⟨k + 1, by omega, by go_num, HA2.out, hd.drewN _⟩
            case measure => simp [intOf]; omega
          · have hf := hno (by intro e; injection e with _ e2; exact h2 e2)
            have t2 : (p == p') = false := beq_eq_false_iff_ne.2 h2
            have HF := Lib.hid hf; have H2 := Lib.hid h2; have HNO := Lib.hid hno; clear hf hall2 hno h2
            go_wp2
            go_quiet (fail)
            go_wp2
            go_ret
            exact ⟨by rw [HF.out]; rfl, hd.drewN _⟩
        · have hf := hno (by intro e; injection e with e1 _; exact h1 e1)
          have t2 : ((f : Int) == (f' : Int)) = false := beq_eq_false_iff_ne.2 (by omega)
          have HF := Lib.hid hf; have H1 := Lib.hid h1; have HNO := Lib.hid hno; clear hf hall2 hno h1
          go_wp2
          go_quiet (fail)
          go_wp2
          go_ret
          exact ⟨by rw [HF.out]; rfl, hd.drewN _⟩
      · have hy := sameB_all l m HL.out fun j h1 h2 => ALL.out j h1 h2 (by omega)
        have HY := Lib.hid hy; clear hy
        go_wp2
        go_ret
        exact ⟨by rw [HY.out]; rfl, hd⟩
  · have hf := sameB_len l m hl
    have t1 : ((l.length : Int) != (m.length : Int)) = true := by rw [bne_iff_ne]; omega
    have HL := Lib.hid hl; have HF := Lib.hid hf; clear hl hf
    go_enter Try.func17, Try.ntmps17
    go_wp2
    go_ret
    exact ⟨by rw [HF.out]; rfl, Drw.refl _⟩

/-- how many entries stand up to a key, in a rising list -/
def seekN (l : List (Nat × Int)) (key : Nat) : Nat := (l.takeWhile fun x => decide (x.1 ≤ key)).length
theorem seekN_of (l : List (Nat × Int)) (key lo : Nat) (hlo : lo ≤ l.length) (h1 : ∀ j (h : j < l.length), j < lo → l[j].1 ≤ key) (h2 : ∀ (h : lo < l.length), key < l[lo].1) : seekN l key = lo := by
  induction l generalizing lo with
  | nil => simp at hlo; subst hlo; rfl
  | cons x l ih =>
    cases lo with
    | zero =>
      have := h2 (by simp)
      simp only [List.getElem_cons_zero] at this
      unfold seekN; rw [List.takeWhile_cons, if_neg (by simp; omega)]; rfl
    | succ lo =>
      have h0 := h1 0 (by simp) (by omega)
      simp only [List.getElem_cons_zero] at h0
      have := ih lo (by simpa using hlo) (fun j h hj => by have := h1 (j + 1) (by simpa using h) (by omega); simpa using this) (fun h => by have := h2 (by simpa using h); simpa using this)
      unfold seekN at this ⊢
      rw [List.takeWhile_cons, if_pos (by simpa using h0), List.length_cons, this]
theorem rise_lt (l : List (Nat × Int)) (hr : riseB l = true) (i j : Nat) (hij : i < j) (hj : j < l.length) : l[i].1 < l[j].1 := by
  rw [riseB_iff] at hr
  induction j with
  | zero => omega
  | succ j ih =>
    have h := hr (j + 1) hj
    rw [okAt_succ l j hj] at h
    simp only [Bool.and_eq_true, decide_eq_true_eq] at h
    by_cases e : i = j
    · subst e; exact h.2
    · exact Nat.lt_trans (ih (by omega) (by omega)) h.2
set_option maxHeartbeats 1000000 in
theorem seek_any (A : Option Addr) (n c B : Nat) (l : List (Nat × Int)) (key : Nat) (w : World) (h : Rd w B 2 A n (entC l)) (hn : n ≤ 1000000) (hr : riseB l = true) (hk : key < 18446744073709551616) :
    Calls Try.prog 21 #[.slice A n c, .int .u64 (key : Int)] w fun y w' => y = .returned (.int .i64 ((seekN l key : Int) - 1)) ∧ w = w' := by
  obtain rfl : n = l.length := h.ent_len
  have H := Lib.hid h; have HRI := Lib.hid hr; clear h hr
  go_enter Try.func21, Try.ntmps21
  go_wp2
  go_loop [5, 6, 7] (fun a b v7 => ∃ lo hi : Nat, lo ≤ hi ∧ hi ≤ l.length ∧ a = .int .i64 (lo : Int) ∧ b = .int .i64 (hi : Int) ∧ (∀ j (h : j < l.length), j < lo → l[j].1 ≤ key) ∧ (∀ (h : hi < l.length), key < l[hi].1)) (fun a b _ => (intOf b - intOf a).toNat)
  case atStart => exact ⟨0, l.length, by omega, by omega, rfl, rfl, fun j _ hj => by omega, fun h => by omega⟩
  case round =>
    obtain ⟨lo, hi, h1, h2, rfl, rfl, hlo, hhi⟩ := hrel
    have HLO := Lib.hid hlo; have HHI := Lib.hid hhi; clear hlo hhi
    by_cases hlt : lo < hi
    · have hmid : (lo + hi) / 2 < l.length := by omega
      obtain ⟨a, rfl, hab, x0, _⟩ := H.out.ent hmid
      have hmm : ((lo : Int) + (hi : Int)) / 2 = (((lo + hi) / 2 : Nat) : Int) := by omega
      have hr1 : ∀ j (h : j < l.length), j < (lo + hi) / 2 → l[j].1 < (l[(lo + hi) / 2]'hmid).1 := fun j h hj => rise_lt l HRI.out j _ hj hmid
      have hx : ∃ x, (l[(lo + hi) / 2]'hmid).1 = x := ⟨_, rfl⟩
      obtain ⟨x, hx⟩ := hx
      rw [hx] at x0 hr1
      have hml : lo ≤ (lo + hi) / 2 := by omega
      have hmh : (lo + hi) / 2 < hi := by omega
      generalize hm : (lo + hi) / 2 = mid at *
      have HR1 := Lib.hid hr1; have HX := Lib.hid hx; have HM := Lib.hid hm; clear hr1 hx hm
      by_cases hle : x ≤ key
      · have hlo2 : ∀ j (h : j < l.length), j < mid + 1 → l[j].1 ≤ key := fun j h hj => by
          by_cases e : j = mid
          · subst e; rw [HX.out]; exact hle
          · exact Nat.le_trans (Nat.le_of_lt (HR1.out j h (by omega))) hle
        have HL2 := Lib.hid hlo2; clear hlo2
        go_wp2
        go_round
        case rel => exact ⟨mid + 1, hi, by omega, h2, by go_num, rfl, HL2.out, HHI.out⟩
        case measure => simp [intOf]; omega
      · have hhi2 : ∀ (h : mid < l.length), key < l[mid].1 := fun h => by rw [HX.out]; omega
        have HH2 := Lib.hid hhi2; clear hhi2
        go_wp2
        go_round
        case rel => exact ⟨lo, mid, by omega, by omega, rfl, by rw [hmm], HLO.out, HH2.out⟩
        case measure => simp [intOf]; omega
    · obtain rfl : lo = hi := by omega
      have hs := seekN_of l key lo h2 HLO.out HHI.out
      have HS := Lib.hid hs; clear hs
      go_wp2
      go_ret
      exact ⟨by rw [HS.out]; go_num, rfl⟩
end Go.Proofs.Ytpnolgghbenekaa
