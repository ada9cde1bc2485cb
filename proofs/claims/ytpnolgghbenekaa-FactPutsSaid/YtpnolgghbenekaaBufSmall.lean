/-
  bushellaw08.small, awake; bushelref08.Read and bushellaw08.read of any thing.
-/
import Derived.Test.YtpnolgghbenekaaLawBufRead
import Derived.Test.YtpnolgghbenekaaBufOut
namespace Go.Proofs.Ytpnolgghbenekaa
open Go.ChangeShapes Go.WideShapes Go.ChangeAt Go.RowKit
set_option linter.unusedVariables false

abbrev asksC (l : List AskS) : List Value := l.flatMap askC
theorem asksC_len (l : List AskS) : (asksC l).length = l.length * 6 := flat_len _ 6 (fun _ => rfl) l
section
variable {w : World} {B n : Nat} {A : Option Addr} {l : List AskS}
theorem Rd.ask_len (h : Rd w B 6 A n (asksC l)) : n = l.length := by have := h.1; rw [asksC_len] at this; omega
theorem Rd.ask (h : Rd w B 6 A n (asksC l)) {k : Nat} (hk : k < l.length) : ∃ a, A = some a ∧ a.block < B ∧ w.cell? (a.add (k * 6)) = some (.int .i64 l[k].d) ∧ w.cell? ⟨(a.add (k * 6)).block, (a.add (k * 6)).off + 1, none⟩ = some (.int .u64 (l[k].u : Int)) ∧
    w.cell? ⟨(a.add (k * 6)).block, (a.add (k * 6)).off + 2, none⟩ = some (.int .i64 l[k].i) ∧ w.cell? ⟨(a.add (k * 6)).block, (a.add (k * 6)).off + 3, none⟩ = some (.float .f64 l[k].f) ∧ w.cell? ⟨(a.add (k * 6)).block, (a.add (k * 6)).off + 4, none⟩ = some (.string l[k].s) ∧
    w.cell? ⟨(a.add (k * 6)).block, (a.add (k * 6)).off + 5, none⟩ = some (.int .i64 l[k].m) := by
  obtain ⟨a, e, hb, hc⟩ := h.2 (by rw [h.ask_len]; omega)
  have key : ∀ j, j < 6 → w.cell? (a.add (k * 6 + j)) = (askC l[k])[j]? := fun j hj => by
    have := flat_get askC 6 (fun _ => rfl) l k j hk hj
    have hl : j < (askC l[k]).length := hj
    rw [List.getElem?_eq_getElem hl] at this ⊢
    exact hc _ _ this
  have k2 : ∀ j, j + 1 < 6 → w.cell? ⟨(a.add (k * 6)).block, (a.add (k * 6)).off + (j + 1), none⟩ = (askC l[k])[j + 1]? := fun j hj => by
    have := key (j + 1) hj
    rw [← add_add', add_succ] at this
    exact this
  exact ⟨a, e, hb, key 0 (by decide), k2 0 (by decide), k2 1 (by decide), k2 2 (by decide), k2 3 (by decide), k2 4 (by decide)⟩
end
def smallA (a : AskS) : Bool := decide (a.s.size ≤ 200) && decide (0 ≤ a.d) && decide (a.d ≤ 4)
def smallB (l : List AskS) : Bool := decide (l.length ≤ 40) && l.all smallA
theorem smallB_no (l : List AskS) (k : Nat) (hk : k < l.length) (h : smallA l[k] = false) : smallB l = false := by
  unfold smallB
  rw [Bool.and_eq_false_iff]
  right
  rw [List.all_eq_false]
  exact ⟨l[k], List.getElem_mem hk, by rw [h]; decide⟩
set_option maxHeartbeats 1000000 in
theorem small_any (w : World) (A : Option Addr) (n c B : Nat) (l : List AskS) (h : Rd w B 6 A n (asksC l)) (hn : n ≤ maxLen) :
    Calls Try.prog 32 #[.slice A n c] w fun e w' => e = .returned (.bool (smallB l)) ∧ w = w' := by
  obtain rfl : n = l.length := h.ask_len
  have H := Lib.hid h; clear h
  unfold maxLen at hn
  by_cases h40 : 40 < l.length
  · have hs : smallB l = false := by unfold smallB; rw [decide_eq_false (by omega)]; rfl
    have HS := Lib.hid hs; clear hs
    go_enter Try.func32, Try.ntmps32
    go_wp2
    go_ret
    exact ⟨by rw [HS.out]; rfl, rfl⟩
  · go_enter Try.func32, Try.ntmps32
    go_wp2
    go_loop [3] (fun i => ∃ k : Nat, k ≤ l.length ∧ i = .int .i64 (k : Int) ∧ Hid (∀ j (hj : j < l.length), j < k → smallA l[j] = true)) (fun i => l.length - (intOf i).toNat)
    case atStart => exact ⟨0, by omega, rfl, fun j _ hj => by omega⟩
    case round =>
      obtain ⟨k, hk, rfl, HA⟩ := hrel
      by_cases hlt : k < l.length
      · obtain ⟨a, rfl, hab, x0, _, _, _, x4, _⟩ := H.out.ask hlt
        have q1 : (0 : Int) ≤ (k : Int) := by omega
        have q2 : (k : Int) < (l.length : Int) := by omega
        have hno := smallB_no l k hlt
        have hsm : smallA l[k] = (decide (l[k].s.size ≤ 200) && decide (0 ≤ l[k].d) && decide (l[k].d ≤ 4)) := rfl
        have hst := fun (h : smallA l[k] = true) => (show ∀ j (hj : j < l.length), j < k + 1 → smallA l[j] = true from fun j hj hjk => by
          by_cases e : j = k
          · subst e; exact h
          · exact HA.out j hj (by omega))
        have HST := Lib.hid hst; have HNO := Lib.hid hno; clear hst hno
        generalize l[k] = x at *
        obtain ⟨d, u, i, f, s, m⟩ := x
        simp only at x0 x4 hsm
        by_cases h1 : 200 < s.size
        · have hf : smallA ⟨d, u, i, f, s, m⟩ = false := by rw [hsm, decide_eq_false (by omega)]; rfl
          have HF := Lib.hid (HNO.out hf); clear hsm hf
          go_wp2
          go_ret
          exact ⟨by rw [HF.out]; rfl, rfl⟩
        · by_cases h2 : d < 0
          · have hf : smallA ⟨d, u, i, f, s, m⟩ = false := by rw [hsm, decide_eq_false (show ¬ 0 ≤ d by omega)]; simp
            have HF := Lib.hid (HNO.out hf); clear hsm hf
            go_wp2
            go_ret
            exact ⟨by rw [HF.out]; rfl, rfl⟩
          · by_cases h3 : 4 < d
            · have hf : smallA ⟨d, u, i, f, s, m⟩ = false := by rw [hsm, decide_eq_false (show ¬ d ≤ 4 by omega)]; simp
              have HF := Lib.hid (HNO.out hf); clear hsm hf
              go_wp2
              go_ret
              exact ⟨by rw [HF.out]; rfl, rfl⟩
            · have hf : smallA ⟨d, u, i, f, s, m⟩ = true := by rw [hsm, decide_eq_true (show s.size ≤ 200 by omega), decide_eq_true (show 0 ≤ d by omega), decide_eq_true (show d ≤ 4 by omega)]; rfl
              have HF := Lib.hid (HST.out hf); clear hsm hf
              go_wp2
              go_round
              case rel => exact ⟨k + 1, by omega, by go_num, HF.out⟩
              case measure => simp [intOf]; omega
      · have hs : smallB l = true := by
          unfold smallB
          rw [decide_eq_true (show l.length ≤ 40 by omega), Bool.true_and, List.all_eq_true]
          intro x hx
          obtain ⟨j, hj, rfl⟩ := List.getElem_of_mem hx
          exact HA.out j hj (by omega)
        have HS := Lib.hid hs; clear hs
        go_wp2
        go_ret
        exact ⟨by rw [HS.out]; rfl, rfl⟩

theorem refReadAsk_any (w : World) (a : AskS) (A : Option Addr) (m c B : Nat) (t : List UInt8) (h0 : 0 ≤ a.d) (h4 : a.d ≤ 4) (hms : a.m ≤ 9223372036854775807) (h : Rd w B 1 A m (u8s t)) (hm : m ≤ 1000000) (hmc : m ≤ c) (hc : c ≤ maxLen) (hB : B ≤ w.heap.size) :
    Calls Try.prog 35 #[.agg (askC a).toArray, .slice A m c] w fun y w' => y = .returned (askG a t).v ∧ Below w.heap.size w w' := by
  obtain ⟨d, u, i, f, s, ms⟩ := a
  simp only at h0 h4 hms
  have hd : d = 0 ∨ d = 1 ∨ d = 2 ∨ d = 3 ∨ d = 4 := by omega
  rcases hd with rfl | rfl | rfl | rfl | rfl
  · exact refRead0 u i f s ms A m c B t w h (Nat.le_trans hmc hc) hB
  · exact refRead1 u i f s ms A m c B t w h hm hmc hc hB
  · exact refRead2 u i f s ms A m c B t w h (Nat.le_trans hmc hc) hB
  · exact refRead3 u i f s ms A m c B t w h hm hmc hc hB
  · exact refRead4 u i f s ms A m c B t w h hm hmc hc hB hms
theorem lawRead_any (w : World) (g : Nat) (t : List UInt8) (p e : Nat) (a : AskS) (G : GotS) (h : InS w g t p e) (h0 : 0 ≤ a.d) (h4 : a.d ≤ 4) (hms : a.m ≤ 9223372036854775807) (ht : t.length ≤ 1000000) (hG : G = if e = 0 then askG a (t.drop p) else got0S 0) :
    Calls Try.prog 36 #[.pointer (some ⟨g, 0, none⟩), .agg (askC a).toArray, G.v] w fun y w' => y = .returned (.bool true) ∧ InS w' g t (nextP e p G) (nextE e G) ∧ Only g w w' := by
  have hd : a.d = 0 ∨ a.d = 1 ∨ a.d = 2 ∨ a.d = 3 ∨ a.d = 4 := by omega
  unfold askG at hG
  rcases hd with hd | hd | hd | hd | hd
  · exact lawRead0 w g t p e a G h hd (by rw [hG]; simp [hd])
  · exact lawRead1 w g t p e a G h hd (by rw [hG]; simp [hd])
  · exact lawRead2 w g t p e a G h hd (by rw [hG]; simp [hd])
  · exact lawRead3 w g t p e a G h hd (by rw [hG]; simp [hd]) ht
  · exact lawRead4 w g t p e a G h hd (by rw [hG]; simp [hd]) ht hms
end Go.Proofs.Ytpnolgghbenekaa
