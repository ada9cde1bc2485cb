/-
  bushellaw25.awake: the chapter's example holds.
  bushellaw25.entries, same; tree.Seek.
-/
import Derived.Test.YtfhmaincnlaapaaRefReadNodeW
import Derived.Test.YtfhmaincnlaapaaNodesPure
import Derived.Test.YtfhmaincnlaapaaTreeNodesW
namespace Go.Proofs.Ytfhmaincnlaapaa
open Go.ChangeShapes Go.WideShapes Go.ChangeAt Go.RowKit
set_option linter.unusedVariables false

attribute [local go_sem ↓] wp_app_rule
/-- two lists alike -/
def sameEB (l m : List (Nat × Int)) : Bool := decide (l = m)
theorem sameB_len (l m : List (Nat × Int)) (h : l.length ≠ m.length) : sameEB l m = false := decide_eq_false fun e => h (by rw [e])
theorem sameB_at (l m : List (Nat × Int)) (k : Nat) (h1 : k < l.length) (h2 : k < m.length) (h : l[k] ≠ m[k]) : sameEB l m = false := decide_eq_false fun e => h (by subst e; rfl)
theorem sameB_all (l m : List (Nat × Int)) (hl : l.length = m.length) (h : ∀ j (h1 : j < l.length) (h2 : j < m.length), l[j] = m[j]) : sameEB l m = true := decide_eq_true (List.ext_getElem hl h)
/-- how many entries stand up to a key, in a rising list -/
def seekN (l : List (Nat × Int)) (key : Nat) : Nat := (l.takeWhile fun x => decide (x.1 ≤ key)).length
theorem seekN_of (l : List (Nat × Int)) (key lo : Nat) (hlo : lo ≤ l.length) (h1 : ∀ j (h : j < l.length), j < lo → l[j].1 ≤ key) (h2 : ∀ (h : lo < l.length), key < l[lo].1) : seekN l key = lo := by
  induction l generalizing lo with
  | nil => simp at hlo; subst hlo; rfl
  | cons x l ih =>
    cases lo with
    | zero =>
      have := h2 (by simp)
      simp only [List.getElem_cons_zero] at this
      unfold seekN; rw [List.takeWhile_cons, if_neg (by simp; omega)]; rfl
    | succ lo =>
      have h0 := h1 0 (by simp) (by omega)
      simp only [List.getElem_cons_zero] at h0
      have := ih lo (by simpa using hlo) (fun j h hj => by have := h1 (j + 1) (by simpa using h) (by omega); simpa using this) (fun h => by have := h2 (by simpa using h); simpa using this)
      unfold seekN at this ⊢
      rw [List.takeWhile_cons, if_pos (by simpa using h0), List.length_cons, this]
theorem rise_lt (l : List (Nat × Int)) (hr : riseB l = true) (i j : Nat) (hij : i < j) (hj : j < l.length) : l[i].1 < l[j].1 := by
  rw [riseB_iff] at hr
  induction j with
  | zero => omega
  | succ j ih =>
    have h := hr (j + 1) hj
    rw [okAt_succ l j hj] at h
    simp only [Bool.and_eq_true, decide_eq_true_eq] at h
    by_cases e : i = j
    · subst e; exact h.2
    · exact Nat.lt_trans (ih (by omega) (by omega)) h.2
set_option maxHeartbeats 1000000 in
theorem seek_any (A : Option Addr) (n c B : Nat) (l : List (Nat × Int)) (key : Nat) (w : World) (h : Rd w B 2 A n (entC l)) (hn : n ≤ 1000000) (hr : riseB l = true) (hk : key < 18446744073709551616) :
    Calls Try.prog 54 #[.slice A n c, .int .u64 (key : Int)] w fun y w' => y = .returned (.int .i64 ((seekN l key : Int) - 1)) ∧ w = w' := by
  obtain rfl : n = l.length := h.ent_len
  have H := Lib.hid h; have HRI := Lib.hid hr; clear h hr
  go_enter Try.func54, Try.ntmps54
  go_wp2
  go_loop [5, 6, 7] (fun a b v7 => ∃ lo hi : Nat, lo ≤ hi ∧ hi ≤ l.length ∧ a = .int .i64 (lo : Int) ∧ b = .int .i64 (hi : Int) ∧ (∀ j (h : j < l.length), j < lo → l[j].1 ≤ key) ∧ (∀ (h : hi < l.length), key < l[hi].1)) (fun a b _ => (intOf b - intOf a).toNat)
  case atStart => exact ⟨0, l.length, by omega, by omega, rfl, rfl, fun j _ hj => by omega, fun h => by omega⟩
  case round =>
    obtain ⟨lo, hi, h1, h2, rfl, rfl, hlo, hhi⟩ := hrel
    have HLO := Lib.hid hlo; have HHI := Lib.hid hhi; clear hlo hhi
    by_cases hlt : lo < hi
    · have hmid : (lo + hi) / 2 < l.length := by omega
      obtain ⟨a, rfl, hab, x0, _⟩ := H.out.ent hmid
      have hmm : ((lo : Int) + (hi : Int)) / 2 = (((lo + hi) / 2 : Nat) : Int) := by omega
      have hr1 : ∀ j (h : j < l.length), j < (lo + hi) / 2 → l[j].1 < (l[(lo + hi) / 2]'hmid).1 := fun j h hj => rise_lt l HRI.out j _ hj hmid
      have hx : ∃ x, (l[(lo + hi) / 2]'hmid).1 = x := ⟨_, rfl⟩
      obtain ⟨x, hx⟩ := hx
      rw [hx] at x0 hr1
      have hml : lo ≤ (lo + hi) / 2 := by omega
      have hmh : (lo + hi) / 2 < hi := by omega
      generalize hm : (lo + hi) / 2 = mid at *
      have HR1 := Lib.hid hr1; have HX := Lib.hid hx; have HM := Lib.hid hm; clear hr1 hx hm
      by_cases hle : x ≤ key
      · have hlo2 : ∀ j (h : j < l.length), j < mid + 1 → l[j].1 ≤ key := fun j h hj => by
          by_cases e : j = mid
          · subst e; rw [HX.out]; exact hle
          · exact Nat.le_trans (Nat.le_of_lt (HR1.out j h (by omega))) hle
        have HL2 := Lib.hid hlo2; clear hlo2
        go_wp2
        go_round
        case rel => exact ⟨mid + 1, hi, by omega, h2, by go_num, rfl, HL2.out, HHI.out⟩
        case measure => simp [intOf]; omega
      · have hhi2 : ∀ (h : mid < l.length), key < l[mid].1 := fun h => by rw [HX.out]; omega
        have HH2 := Lib.hid hhi2; clear hhi2
        go_wp2
        go_round
        case rel => exact ⟨lo, mid, by omega, by omega, rfl, by rw [hmm], HLO.out, HH2.out⟩
        case measure => simp [intOf]; omega
    · obtain rfl : lo = hi := by omega
      have hs := seekN_of l key lo h2 HLO.out HHI.out
      have HS := Lib.hid hs; clear hs
      go_wp2
      go_ret
      exact ⟨by rw [HS.out]; go_num, rfl⟩
end Go.Proofs.Ytfhmaincnlaapaa
namespace Go.Proofs.Ytfhmaincnlaapaa
open Go.ChangeShapes Go.WideShapes Go.ChangeAt Go.RowKit
set_option linter.unusedVariables false

def exl : List (Nat × Int) := [(1, 3), (2, 1)]
def exd : List UInt8 := [1, 1, 1, 3, 1, 2, 1, 1]
theorem ex_rise : riseB exl = true := by decide
theorem ex_nodes : nodes 1 exl = [⟨4, 2, 1, exd⟩] := by rfl
theorem ex_read : rnode ⟨4, 2, 1, exd⟩ = (1, exl, 0) := by decide
theorem ex_seek7 : seekN exl 7 = 2 := by decide
theorem ex_seek0 : seekN exl 0 = 0 := by decide
theorem rd_lit {w : World} {T : TypeId} (l : List (Nat × Int)) (cs : Array Value) (h : cs.toList = entC l) : Rd (w.alloc (.cells cs T)) (w.heap.size + 1) 2 (some ⟨w.heap.size, 0, none⟩) l.length (entC l) := by
  refine ⟨entC_len l, fun _ => ⟨_, rfl, by simp, fun j u hj => ?_⟩⟩
  have hadd : (⟨w.heap.size, 0, none⟩ : Addr).add j = ⟨w.heap.size, j, none⟩ := by unfold Addr.add; split <;> simp_all
  rw [hadd, (Blk.new w T cs).cell j]
  rw [← h] at hj
  simpa using hj
set_option maxRecDepth 20000 in
set_option maxHeartbeats 1000000 in
theorem awake25_any (w : World) : Calls Try.prog 20 #[] w fun y w' => y = .returned (.bool true) ∧ Below w.heap.size w w' := by
  have hrd := rd_lit (w := w) (T := 94) exl #[.int .u64 1, .int .i64 3, .int .u64 2, .int .i64 1] rfl
  have hn : Calls Try.prog 45 #[.int .i64 1, .slice (some ⟨w.heap.size, 0, none⟩) 2 2] (w.alloc (.cells #[.int .u64 1, .int .i64 3, .int .u64 2, .int .i64 1] 94)) fun y w' => ∃ v xs, y = .returned (.tuple #[v, .int .i64 0]) ∧ w'.ownsRow (w.heap.size + 1) 55 4 v 1 xs ∧ ShR w' w'.heap.size [⟨4, 2, 1, exd⟩] xs ∧ Below (w.heap.size + 1) (w.alloc (.cells #[.int .u64 1, .int .i64 3, .int .u64 2, .int .i64 1] 94)) w' := by
    have := nodes_ok (w.alloc (.cells #[.int .u64 1, .int .i64 3, .int .u64 2, .int .i64 1] 94)) 1 (some ⟨w.heap.size, 0, none⟩) 2 2 (w.heap.size + 1) exl (by omega) (by omega) hrd (by omega) (by simp) ex_rise (by
      intro k hk
      have : k = 0 ∨ k = 1 := by simp [exl] at hk; omega
      rcases this with rfl | rfl <;> simp [exl])
    rw [ex_nodes] at this
    simp only [World.size_alloc] at this
    exact this
  have HN := Lib.hid hn; clear hn hrd
  go_enter Try.func20, Try.ntmps20
  go_wp2_with fail
  (with_reducible refine HN.out.mono ?_); rintro y w1 ⟨v, xs, rfl, ho, hs, hb1⟩
  obtain ⟨A, c, rfl, hc, hm, _⟩ := own_form ho
  obtain ⟨Ad, cd, e0, e1, e2, e3, hrd, hdc, hcm⟩ := hs.get 0 (by simp)
  obtain ⟨a, rfl, hab, hcell⟩ := (Rd.own ho).2 (by omega)
  have x0 := hcell _ _ e0; have x1 := hcell _ _ e1; have x2 := hcell _ _ e2; have x3 := hcell _ _ e3
  simp only [Nat.zero_mul, Nat.zero_add, add_zero', List.getElem_cons_zero] at x0 x1 x2 x3 hrd
  rw [show (1 : Nat) = 0 + 1 from rfl, add_succ] at x1
  rw [show (2 : Nat) = 1 + 1 from rfl, add_succ] at x2
  rw [show (3 : Nat) = 2 + 1 from rfl, add_succ] at x3
  have hr : Calls Try.prog 53 #[.agg #[.int .i64 4, .int .u64 2, .int .u64 1, .slice Ad exd.length cd]] w1 fun y w' =>
      ∃ v, y = .returned (.tuple #[.int .i64 1, v, .int .i64 0]) ∧ w'.ownsRow w1.heap.size 94 2 v 2 (entC exl) ∧ Below w1.heap.size w1 w' := by
    have := readNode_any w1 ⟨4, 2, 1, exd⟩ Ad cd hrd (by decide)
    rw [ex_read] at this
    exact this
  have HR := Lib.hid hr; have HB1 := Lib.hid hb1; have HO := Lib.hid ho; have HS := Lib.hid hs; have HRD := Lib.hid hrd; have HCELL := Lib.hid hcell; clear hr hb1 ho hs hrd hcell e0 e1 e2 e3
  go_wp2_with fail
  (with_reducible refine HR.out.mono ?_); rintro y w2 ⟨v2, rfl, ho2, hb2⟩
  obtain ⟨A2, c2, rfl, hc2, hm2, _⟩ := own_form ho2
  have hR2 := Rd.own ho2
  obtain ⟨a2, rfl, hab2, y0, y1⟩ := hR2.ent (k := 1) (by decide)
  have y0' : w2.cell? ⟨a2.block, a2.off + 2, none⟩ = some (.int .u64 2) := by
    rw [show 1 * 2 = 1 + 1 from rfl, add_succ] at y0; exact y0
  have y1' : w2.cell? ⟨a2.block, a2.off + 2 + 1, none⟩ = some (.int .i64 1) := by
    rw [show 1 * 2 = 1 + 1 from rfl, add_succ] at y1; exact y1
  have hs7 : Calls Try.prog 54 #[.slice (some a2) 2 c2, .int .u64 7] w2 fun y w' => y = .returned (.int .i64 1) ∧ w2 = w' := by
    have := seek_any (some a2) 2 c2 _ exl 7 w2 hR2 (by omega) ex_rise (by omega)
    rw [ex_seek7] at this; exact this
  have hs0 : Calls Try.prog 54 #[.slice (some a2) 2 c2, .int .u64 0] w2 fun y w' => y = .returned (.int .i64 (-1)) ∧ w2 = w' := by
    have := seek_any (some a2) 2 c2 _ exl 0 w2 hR2 (by omega) ex_rise (by omega)
    rw [ex_seek0] at this; exact this
  have H7 := Lib.hid hs7; have H0 := Lib.hid hs0; have HR2 := Lib.hid hR2; have HO2 := Lib.hid ho2; have HB2 := Lib.hid hb2; clear hs7 hs0 hR2 ho2 hb2 y0 y1
  go_wp2_with (first | (go_at_call 54; (with_reducible refine H7.out.mono ?_); rintro y w3 ⟨rfl, rfl⟩) | (go_at_call 54; (with_reducible refine H0.out.mono ?_); rintro y w3 ⟨rfl, rfl⟩))
  go_ret
  exact ⟨rfl, ((belA (belR w) _).trans (HB1.out.mono (Nat.le_succ _))).trans (HB2.out.mono (by have := HB1.out.size; simp at this; omega))⟩
end Go.Proofs.Ytfhmaincnlaapaa
