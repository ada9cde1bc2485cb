/-
  fact.Same, bushelref12.Same.
  fact.Same, bushelref12.Same (slices.Equal, slices.EqualFunc with flo.Same).
-/
import Derived.Test.YtpnolgghbenekaaFactFits
import Derived.Test.YtpnolgghbenekaaFloLess
import Derived.Deep.RegionHeld3
import Derived.Deep.DeepCutAuto
namespace Go.Proofs.Ytpnolgghbenekaa
open Go.ChangeShapes Go.WideShapes Go.ChangeAt Go.RowKit
set_option linter.unusedVariables false

def eqTo {α : Type} (z : α) (l m : List α) (k : Nat) : Prop := ∀ j, j < k → l.getD j z = m.getD j z
theorem eqTo.snoc {α : Type} {z : α} {l m : List α} {k : Nat} (h : eqTo z l m k) (hk : l.getD k z = m.getD k z) : eqTo z l m (k + 1) := fun j hj => by
  by_cases e : j = k
  · subst e; exact hk
  · exact h j (by omega)
theorem eqTo.all {α : Type} {z : α} {l m : List α} (hl : l.length = m.length) (h : eqTo z l m l.length) : l = m := by
  apply List.ext_getElem hl
  intro j h1 h2
  have := h j h1
  simpa [List.getD, h1, h2] using this
theorem ne_of_getD {α : Type} {z : α} {l m : List α} {k : Nat} (h : l.getD k z ≠ m.getD k z) : l ≠ m := fun e => h (by rw [e])
theorem Rd.f64 {w : World} {B : Nat} {A : Option Addr} {l : List Nat} (h : Rd w B 1 A l.length (f64s l)) {k : Nat} (hk : k < l.length) : ∃ a, A = some a ∧ a.block < B ∧ w.cell? (a.add k) = some (.float .f64 (l.getD k 0)) := by
  obtain ⟨a, u, rfl, hb, hx, hc⟩ := h.at1 hk
  refine ⟨a, rfl, hb, ?_⟩
  rw [show (f64s l)[k]? = some (.float .f64 (l.getD k 0)) from by simp [f64s, List.getD, hk]] at hx
  rw [hc]; exact hx.symm
theorem drws_drw {w w' : World} (h : Drws w w') : Drw w w' := h
/-- lists of numbers that are the same -/
def keysF (l : List Nat) : List Nat := l.map keyB
theorem keysF_getD (l : List Nat) (k : Nat) (hk : k < l.length) : (keysF l).getD k 0 = keyB (l.getD k 0) := by simp [keysF, List.getD, hk]
theorem keysF_len (l : List Nat) : (keysF l).length = l.length := by simp [keysF]
def sameB (F G : FactS) : Bool := decide (F.codes = G.codes) && decide (F.ints = G.ints) && decide (keysF F.nums = keysF G.nums)
set_option maxRecDepth 20000 in
set_option maxHeartbeats 1000000 in
theorem equalInt_any (w : World) (A A' : Option Addr) (c c' B : Nat) (l m : List Int) (h : Rd w B 1 A l.length (i64s l)) (h' : Rd w B 1 A' m.length (i64s m)) (hl : l.length ≤ maxLen) :
    Calls Try.prog 65 #[.slice A l.length c, .slice A' m.length c'] w fun y w' => y = .returned (.bool (decide (l = m))) ∧ Drw w w' := by
  unfold maxLen at hl
  have H := Lib.hid h; have H' := Lib.hid h'; clear h h'
  by_cases hlen : l.length = m.length
  · have t0 := ne_false hlen
    have hle : l.length ≤ m.length := by rw [hlen]; exact Nat.le_refl _
    have HLE := Lib.hid hle; have HLEN := Lib.hid hlen
    clear hlen
    go_enter Try.func65, Try.ntmps65
    go_wp2
    go_loopw [13] (fun i wr => ∃ k : Nat, k ≤ l.length ∧ i = .int .i64 (k : Int) ∧ Hid (eqTo 0 l m k) ∧ Hid (Drw w wr)) (fun i _ => l.length - (intOf i).toNat)
    case atStart => exact ⟨0, by omega, rfl, fun j hj => by omega, Drw.refl w⟩
    case round =>
      obtain ⟨k, hk, rfl, HA, HD⟩ := hrel
      by_cases hlt : k < l.length
      · obtain ⟨a, rfl, hab, x0⟩ := (rd_drw H.out HD.out).i64 hlt
        obtain ⟨a', rfl, hab', y0⟩ := (rd_drw H'.out HD.out).i64 (Nat.lt_of_lt_of_le hlt HLE.out)
        have q1 : (0 : Int) ≤ (k : Int) := by omega
        have q2 : (k : Int) < (l.length : Int) := by omega
        have q3 : (k : Int) < (m.length : Int) := by have := HLE.out; omega
        have hst := fun h => HA.out.snoc h
        have hno := fun h => @ne_of_getD _ 0 l m k h
        generalize l.getD k 0 = x at *
        generalize m.getD k 0 = z at *
        have HST := Lib.hid hst; have HNO := Lib.hid hno; clear hst hno
        by_cases hx : x = z
        · have t1 : (x != z) = false := by rw [hx]; exact bne_self_eq_false _
          have HY := Lib.hid (HST.out hx)
          clear hx
          go_wp2
          go_quiet (fail)
          go_wp2
          go_roundw
          case rel => exact ⟨k + 1, by omega, by go_num, HY, HD.out.drewN _⟩
          case measure => simp [intOf]; omega
        · have t1 : (x != z) = true := by rw [bne_iff_ne]; exact hx
          have HN := Lib.hid (HNO.out hx)
          clear hx
          go_wp2
          go_quiet (fail)
          go_wp2
          go_ret
          exact ⟨by rw [decide_eq_false HN.out]; rfl, HD.out.drewN _⟩
      · obtain rfl : k = l.length := by omega
        have HY := Lib.hid (eqTo.all HLEN.out HA.out)
        go_wp2
        go_ret
        exact ⟨by rw [decide_eq_true HY.out]; rfl, HD.out⟩
  · have t0 := ne_true hlen
    have HN : Hid (l ≠ m) := Lib.hid (fun e => hlen (by rw [e]))
    clear hlen
    go_enter Try.func65, Try.ntmps65
    go_wp2
    go_ret
    exact ⟨by rw [decide_eq_false HN.out]; rfl, Drw.refl w⟩
set_option maxRecDepth 20000 in
set_option maxHeartbeats 1000000 in
theorem equalI64_any (w : World) (A A' : Option Addr) (c c' B : Nat) (l m : List Int) (h : Rd w B 1 A l.length (i64s l)) (h' : Rd w B 1 A' m.length (i64s m)) (hl : l.length ≤ maxLen) :
    Calls Try.prog 66 #[.slice A l.length c, .slice A' m.length c'] w fun y w' => y = .returned (.bool (decide (l = m))) ∧ Drw w w' := by
  unfold maxLen at hl
  have H := Lib.hid h; have H' := Lib.hid h'; clear h h'
  by_cases hlen : l.length = m.length
  · have t0 := ne_false hlen
    have hle : l.length ≤ m.length := by rw [hlen]; exact Nat.le_refl _
    have HLE := Lib.hid hle; have HLEN := Lib.hid hlen
    clear hlen
    go_enter Try.func66, Try.ntmps66
    go_wp2
    go_loopw [13] (fun i wr => ∃ k : Nat, k ≤ l.length ∧ i = .int .i64 (k : Int) ∧ Hid (eqTo 0 l m k) ∧ Hid (Drw w wr)) (fun i _ => l.length - (intOf i).toNat)
    case atStart => exact ⟨0, by omega, rfl, fun j hj => by omega, Drw.refl w⟩
    case round =>
      obtain ⟨k, hk, rfl, HA, HD⟩ := hrel
      by_cases hlt : k < l.length
      · obtain ⟨a, rfl, hab, x0⟩ := (rd_drw H.out HD.out).i64 hlt
        obtain ⟨a', rfl, hab', y0⟩ := (rd_drw H'.out HD.out).i64 (Nat.lt_of_lt_of_le hlt HLE.out)
        have q1 : (0 : Int) ≤ (k : Int) := by omega
        have q2 : (k : Int) < (l.length : Int) := by omega
        have q3 : (k : Int) < (m.length : Int) := by have := HLE.out; omega
        have hst := fun h => HA.out.snoc h
        have hno := fun h => @ne_of_getD _ 0 l m k h
        generalize l.getD k 0 = x at *
        generalize m.getD k 0 = z at *
        have HST := Lib.hid hst; have HNO := Lib.hid hno; clear hst hno
        by_cases hx : x = z
        · have t1 : (x != z) = false := by rw [hx]; exact bne_self_eq_false _
          have HY := Lib.hid (HST.out hx)
          clear hx
          go_wp2
          go_quiet (fail)
          go_wp2
          go_roundw
          case rel => exact ⟨k + 1, by omega, by go_num, HY, HD.out.drewN _⟩
          case measure => simp [intOf]; omega
        · have t1 : (x != z) = true := by rw [bne_iff_ne]; exact hx
          have HN := Lib.hid (HNO.out hx)
          clear hx
          go_wp2
          go_quiet (fail)
          go_wp2
          go_ret
          exact ⟨by rw [decide_eq_false HN.out]; rfl, HD.out.drewN _⟩
      · obtain rfl : k = l.length := by omega
        have HY := Lib.hid (eqTo.all HLEN.out HA.out)
        go_wp2
        go_ret
        exact ⟨by rw [decide_eq_true HY.out]; rfl, HD.out⟩
  · have t0 := ne_true hlen
    have HN : Hid (l ≠ m) := Lib.hid (fun e => hlen (by rw [e]))
    clear hlen
    go_enter Try.func66, Try.ntmps66
    go_wp2
    go_ret
    exact ⟨by rw [decide_eq_false HN.out]; rfl, Drw.refl w⟩
theorem floSame_any (a b : Nat) (w : World) (ha : a < 18446744073709551616) (hb : b < 18446744073709551616) :
    Calls Try.prog 68 #[.float .f64 a, .float .f64 b] w fun e w' => e = .returned (.bool (decide (keyB a = keyB b))) ∧ w = w' := by
  have HA := Lib.hid (fun W => key_any a W ha); have HB := Lib.hid (fun W => key_any b W hb)
  have he : ((keyB a : Nat) : Int) = ((keyB b : Nat) : Int) ↔ keyB a = keyB b := by omega
  go_enter Try.func68, Try.ntmps68
  go_wp2_with fail
  (with_reducible refine (HA.out _).mono ?_); rintro y w1 ⟨rfl, rfl⟩
  go_wp2_with fail
  (with_reducible refine (HB.out _).mono ?_); rintro y w1 ⟨rfl, rfl⟩
  go_wp2
  go_ret
  refine ⟨?_, rfl⟩
  show Ending.returned (.bool (((keyB a : Nat) : Int) == ((keyB b : Nat) : Int))) = _
  congr 2
  rw [Bool.eq_iff_iff, beq_iff_eq, decide_eq_true_iff]; exact he
set_option maxRecDepth 20000 in
set_option maxHeartbeats 1000000 in
theorem equalF_any (w : World) (A A' : Option Addr) (c c' B : Nat) (l m : List Nat) (h : Rd w B 1 A l.length (f64s l)) (h' : Rd w B 1 A' m.length (f64s m)) (hl : l.length ≤ maxLen) (hx : ∀ x ∈ l, x < 18446744073709551616) (hy : ∀ x ∈ m, x < 18446744073709551616) :
    Calls Try.prog 67 #[.slice A l.length c, .slice A' m.length c', .func (.func 68) #[] #[]] w fun y w' => y = .returned (.bool (decide (keysF l = keysF m))) ∧ w = w' := by
  unfold maxLen at hl
  have H := Lib.hid h; have H' := Lib.hid h'; have HX := Lib.hid hx; have HY := Lib.hid hy; clear h h' hx hy
  by_cases hlen : l.length = m.length
  · have t0 := ne_false hlen
    have hle : l.length ≤ m.length := by rw [hlen]; exact Nat.le_refl _
    have HLE := Lib.hid hle; have HLEN : Hid ((keysF l).length = (keysF m).length) := Lib.hid (by rw [keysF_len, keysF_len]; exact hlen)
    clear hlen
    go_enter Try.func67, Try.ntmps67
    go_wp2
    go_loop [17] (fun i => ∃ k : Nat, k ≤ l.length ∧ i = .int .i64 (k : Int) ∧ Hid (eqTo 0 (keysF l) (keysF m) k)) (fun i => l.length - (intOf i).toNat)
    case atStart => exact ⟨0, by omega, rfl, fun j hj => by omega⟩
    case round =>
      obtain ⟨k, hk, rfl, HA⟩ := hrel
      by_cases hlt : k < l.length
      · have hlm := Nat.lt_of_lt_of_le hlt HLE.out
        obtain ⟨a, rfl, hab, x0⟩ := H.out.f64 hlt
        obtain ⟨a', rfl, hab', y0⟩ := H'.out.f64 hlm
        have q1 : (0 : Int) ≤ (k : Int) := by omega
        have q2 : (k : Int) < (l.length : Int) := by omega
        have q3 : (k : Int) < (m.length : Int) := by have := HLE.out; omega
        have hst := fun h => HA.out.snoc h
        have hno := fun h => @ne_of_getD _ 0 (keysF l) (keysF m) k h
        rw [keysF_getD l k hlt, keysF_getD m k hlm] at hst hno
        have hc := floSame_any (l.getD k 0) (m.getD k 0) w (by simp [List.getD, hlt]; exact HX.out _ (List.getElem_mem hlt)) (by simp [List.getD, hlm]; exact HY.out _ (List.getElem_mem hlm))
        generalize l.getD k 0 = x at *
        generalize m.getD k 0 = z at *
        have HST := Lib.hid hst; have HNO := Lib.hid hno; clear hst hno hlm
        by_cases hk2 : keyB x = keyB z
        · rw [decide_eq_true hk2] at hc
          have HY := Lib.hid (HST.out hk2); have HC := Lib.hid hc
          clear hk2 hc
          go_wp2_with (go_at_call 68; (with_reducible refine HC.out.mono ?_); rintro y w1 ⟨rfl, rfl⟩)
          go_round
          case rel => exact ⟨k + 1, by omega, by go_num, HY⟩
          case measure => simp [intOf]; omega
        · rw [decide_eq_false hk2] at hc
          have HN := Lib.hid (HNO.out hk2); have HC := Lib.hid hc
          clear hk2 hc
          go_wp2_with (go_at_call 68; (with_reducible refine HC.out.mono ?_); rintro y w1 ⟨rfl, rfl⟩)
          go_ret
          exact ⟨by rw [decide_eq_false HN.out]; rfl, rfl⟩
      · obtain rfl : k = l.length := by omega
        have HY := Lib.hid (eqTo.all HLEN.out (by rw [keysF_len]; exact HA.out))
        go_wp2
        go_ret
        exact ⟨by rw [decide_eq_true HY.out]; rfl, rfl⟩
  · have t0 := ne_true hlen
    have HN : Hid (keysF l ≠ keysF m) := Lib.hid (fun e => hlen (by rw [← keysF_len l, ← keysF_len m, e]))
    clear hlen
    go_enter Try.func67, Try.ntmps67
    go_wp2
    go_ret
    exact ⟨by rw [decide_eq_false HN.out]; rfl, rfl⟩
end Go.Proofs.Ytpnolgghbenekaa
namespace Go.Proofs.Ytpnolgghbenekaa
open Go.ChangeShapes Go.WideShapes Go.ChangeAt Go.RowKit
set_option linter.unusedVariables false

theorem sameB_codes {F G : FactS} (h : F.codes ≠ G.codes) : sameB F G = false := by unfold sameB; rw [decide_eq_false h]; rfl
theorem sameB_ints {F G : FactS} (h : F.ints ≠ G.ints) : sameB F G = false := by unfold sameB; rw [decide_eq_false h, Bool.and_false]; rfl
theorem sameB_nums {F G : FactS} (h : keysF F.nums ≠ keysF G.nums) : sameB F G = false := by unfold sameB; rw [decide_eq_false h, Bool.and_false]
theorem sameB_yes {F G : FactS} (h0 : F.codes = G.codes) (h1 : F.ints = G.ints) (h2 : keysF F.nums = keysF G.nums) : sameB F G = true := by
  unfold sameB; rw [decide_eq_true h0, decide_eq_true h1, decide_eq_true h2]; rfl
set_option maxRecDepth 20000 in
set_option maxHeartbeats 1000000 in
theorem factSame_any (w : World) (B : Nat) (v u : Value) (F G : FactS) (hF : FactAt w B v F) (hG : FactAt w B u G) (oF : FactOk F) (oG : FactOk G) (hB : B ≤ w.heap.size) :
    Calls Try.prog 30 #[v, u] w fun y w' => y = .returned (.bool (sameB F G)) ∧ Below w.heap.size w w' := by
  obtain ⟨_, _, _, rfl, D0, d0, D1, d1, D2, d2, rfl, rfl, rfl, s0, s1, s2, ⟨m0, m0'⟩, ⟨m1, m1'⟩, m2, m2'⟩ := hF
  obtain ⟨_, _, _, rfl, E0, e0, E1, e1, E2, e2, rfl, rfl, rfl, u0, u1, u2, ⟨n0, n0'⟩, ⟨n1, n1'⟩, n2, n2'⟩ := hG
  have hw0 := belA (belA (belR w) (.cells #[.slice D0 F.codes.length d0, .slice D1 F.ints.length d1, .slice D2 F.nums.length d2] 66)) (.cells #[.slice E0 G.codes.length e0, .slice E1 G.ints.length e1, .slice E2 G.nums.length e2] 66)
  have S0 := Lib.hid (s0.below (hw0.mono hB)); have S1 := Lib.hid (s1.below (hw0.mono hB)); have S2 := Lib.hid (s2.below (hw0.mono hB))
  have U0 := Lib.hid (u0.below (hw0.mono hB)); have U1 := Lib.hid (u1.below (hw0.mono hB)); have U2 := Lib.hid (u2.below (hw0.mono hB))
  have HW0 := Lib.hid hw0
  have l0 := Nat.le_trans m0 m0'; have l1 := Nat.le_trans m1 m1'; have l2 := Nat.le_trans m2 m2'
  clear s0 s1 s2 u0 u1 u2 hw0
  have HC0 := Lib.hid (equalInt_any ((w.alloc (.cells #[.slice D0 F.codes.length d0, .slice D1 F.ints.length d1, .slice D2 F.nums.length d2] 66)).alloc (.cells #[.slice E0 G.codes.length e0, .slice E1 G.ints.length e1, .slice E2 G.nums.length e2] 66)) D0 E0 d0 e0 B F.codes G.codes S0.out U0.out l0)
  have HC1 := Lib.hid (fun n : Nat => equalI64_any (((w.alloc (.cells #[.slice D0 F.codes.length d0, .slice D1 F.ints.length d1, .slice D2 F.nums.length d2] 66)).alloc (.cells #[.slice E0 G.codes.length e0, .slice E1 G.ints.length e1, .slice E2 G.nums.length e2] 66)).drewN n) D1 E1 d1 e1 B F.ints G.ints (S1.out.drewN n) (U1.out.drewN n) l1)
  have HC2 := Lib.hid (fun n : Nat => equalF_any (((w.alloc (.cells #[.slice D0 F.codes.length d0, .slice D1 F.ints.length d1, .slice D2 F.nums.length d2] 66)).alloc (.cells #[.slice E0 G.codes.length e0, .slice E1 G.ints.length e1, .slice E2 G.nums.length e2] 66)).drewN n) D2 E2 d2 e2 B F.nums G.nums (S2.out.drewN n) (U2.out.drewN n) l2 oF.nums oG.nums)
  by_cases h0 : F.codes = G.codes
  · have hx0 := HC0.out
    rw [decide_eq_true h0] at hx0
    have HX0 := Lib.hid hx0
    by_cases h1 : F.ints = G.ints
    · have hx1 := HC1.out
      rw [decide_eq_true h1] at hx1
      have HX1 := Lib.hid hx1
      have hfin : sameB F G = decide (keysF F.nums = keysF G.nums) := by unfold sameB; rw [decide_eq_true h0, decide_eq_true h1]; rfl
      have HFIN := Lib.hid hfin
      clear hx0 hx1 h0 h1 hfin HC0 HC1
      go_enter Try.func30, Try.ntmps30
      go_wp2_with fail
      (with_reducible refine HX0.out.mono ?_); rintro y w1 ⟨rfl, hd⟩; obtain ⟨n1, rfl⟩ := hd
      go_wp2_with fail
      (with_reducible refine (HX1.out _).mono ?_); rintro y w1 ⟨rfl, hd⟩; obtain ⟨n2, rfl⟩ := hd
      go_wp2_with fail
      (with_reducible refine (HC2.out _).mono ?_); rintro y w1 ⟨rfl, rfl⟩
      go_wp2
      go_ret
      exact ⟨by rw [HFIN.out]; rfl, belD HW0.out _⟩
    · have hx1 := HC1.out
      rw [decide_eq_false h1] at hx1
      have HX1 := Lib.hid hx1
      have HNO := Lib.hid (sameB_ints h1)
      clear hx0 hx1 h0 h1 HC0 HC1
      go_enter Try.func30, Try.ntmps30
      go_wp2_with fail
      (with_reducible refine HX0.out.mono ?_); rintro y w1 ⟨rfl, hd⟩; obtain ⟨n1, rfl⟩ := hd
      go_wp2_with fail
      (with_reducible refine (HX1.out _).mono ?_); rintro y w1 ⟨rfl, hd⟩; obtain ⟨n2, rfl⟩ := hd
      go_wp2
      go_ret
      exact ⟨by rw [HNO.out]; rfl, belD HW0.out _⟩
  · have hx0 := HC0.out
    rw [decide_eq_false h0] at hx0
    have HX0 := Lib.hid hx0
    have HNO := Lib.hid (sameB_codes h0)
    clear hx0 h0 HC0 HC1
    go_enter Try.func30, Try.ntmps30
    go_wp2_with fail
    (with_reducible refine HX0.out.mono ?_); rintro y w1 ⟨rfl, hd⟩; obtain ⟨n1, rfl⟩ := hd
    go_wp2
    go_ret
    exact ⟨by rw [HNO.out]; rfl, belD HW0.out _⟩
theorem len_ne {α : Type} {l m : List α} (h : l.length ≠ m.length) : l ≠ m := fun e => h (by rw [e])
theorem keys_len_ne {l m : List Nat} (h : l.length ≠ m.length) : keysF l ≠ keysF m := fun e => h (by rw [← keysF_len l, ← keysF_len m, e])
set_option maxRecDepth 20000 in
set_option maxHeartbeats 4000000 in
theorem refFactSame_any (w : World) (B : Nat) (v u : Value) (F G : FactS) (hF : FactAt w B v F) (hG : FactAt w B u G) (oF : FactOk F) (oG : FactOk G) (hB : B ≤ w.heap.size) :
    Calls Try.prog 31 #[v, u] w fun y w' => y = .returned (.bool (sameB F G)) ∧ Below w.heap.size w w' := by
  obtain ⟨_, _, _, rfl, D0, d0, D1, d1, D2, d2, rfl, rfl, rfl, s0, s1, s2, ⟨m0, m0'⟩, ⟨m1, m1'⟩, m2, m2'⟩ := hF
  obtain ⟨_, _, _, rfl, E0, e0, E1, e1, E2, e2, rfl, rfl, rfl, u0, u1, u2, ⟨n0, n0'⟩, ⟨n1, n1'⟩, n2, n2'⟩ := hG
  have hw0 := belA (belA (belR w) (.cells #[.slice D0 F.codes.length d0, .slice D1 F.ints.length d1, .slice D2 F.nums.length d2] 66)) (.cells #[.slice E0 G.codes.length e0, .slice E1 G.ints.length e1, .slice E2 G.nums.length e2] 66)
  have S0 := Lib.hid (s0.below (hw0.mono hB)); have S1 := Lib.hid (s1.below (hw0.mono hB)); have S2 := Lib.hid (s2.below (hw0.mono hB))
  have U0 := Lib.hid (u0.below (hw0.mono hB)); have U1 := Lib.hid (u1.below (hw0.mono hB)); have U2 := Lib.hid (u2.below (hw0.mono hB))
  have HW0 := Lib.hid hw0
  have l0 := Nat.le_trans m0 m0'; have l1 := Nat.le_trans m1 m1'; have l2 := Nat.le_trans m2 m2'
  clear s0 s1 s2 u0 u1 u2 hw0
  unfold maxLen at l0 l1 l2
  have K1 := Lib.hid (Blk.new (w.alloc (.cells #[.slice D0 F.codes.length d0, .slice D1 F.ints.length d1, .slice D2 F.nums.length d2] 66)) 66 #[.slice E0 G.codes.length e0, .slice E1 G.ints.length e1, .slice E2 G.nums.length e2])
  have K0 := Lib.hid ((Blk.new w 66 #[.slice D0 F.codes.length d0, .slice D1 F.ints.length d1, .slice D2 F.nums.length d2]).alloc (.cells #[.slice E0 G.codes.length e0, .slice E1 G.ints.length e1, .slice E2 G.nums.length e2] 66))
  by_cases a0 : F.codes.length = G.codes.length
  case neg =>
    have HNO := Lib.hid (sameB_codes (len_ne a0))
    have t0 := ne_true a0
    clear a0
    go_enter Try.func31, Try.ntmps31
    go_wp2
    go_ret
    exact ⟨by rw [HNO.out]; rfl, HW0.out⟩
  by_cases a1 : F.ints.length = G.ints.length
  case neg =>
    have HNO := Lib.hid (sameB_ints (len_ne a1))
    have t0 := ne_false a0; have t1 := ne_true a1
    clear a0 a1
    go_enter Try.func31, Try.ntmps31
    go_wp2
    go_ret
    exact ⟨by rw [HNO.out]; rfl, HW0.out⟩
  by_cases a2 : F.nums.length = G.nums.length
  case neg =>
    have HNO := Lib.hid (sameB_nums (keys_len_ne a2))
    have t0 := ne_false a0; have t1 := ne_false a1; have t2 := ne_true a2
    clear a0 a1 a2
    go_enter Try.func31, Try.ntmps31
    go_wp2
    go_ret
    exact ⟨by rw [HNO.out]; rfl, HW0.out⟩
  have t0 := ne_false a0; have t1 := ne_false a1; have t2 := ne_false a2
  have L0 := Lib.hid a0; have L1 := Lib.hid a1; have L2 := Lib.hid a2
  have hl0 : F.codes.length ≤ G.codes.length := by rw [a0]; exact Nat.le_refl _
  have hl1 : F.ints.length ≤ G.ints.length := by rw [a1]; exact Nat.le_refl _
  have hl2 : F.nums.length ≤ G.nums.length := by rw [a2]; exact Nat.le_refl _
  have HL0 := Lib.hid hl0; have HL1 := Lib.hid hl1; have HL2 := Lib.hid hl2
  clear a0 a1 a2
  rw [show (w.alloc (.cells #[.slice D0 F.codes.length d0, .slice D1 F.ints.length d1, .slice D2 F.nums.length d2] 66)).heap.size = w.heap.size + 1 from by simp] at K1
  go_enter Try.func31, Try.ntmps31
  go_wp2
  clear t0 t1 t2
  generalize hW : (w.alloc (.cells #[.slice D0 F.codes.length d0, .slice D1 F.ints.length d1, .slice D2 F.nums.length d2] 66)).alloc (.cells #[.slice E0 G.codes.length e0, .slice E1 G.ints.length e1, .slice E2 G.nums.length e2] 66) = W at *
  clear hW
  go_loopw [5] (fun i wr => ∃ k : Nat, k ≤ F.codes.length ∧ i = .int .i64 (k : Int) ∧ Hid (eqTo 0 F.codes G.codes k) ∧ Hid (Drw W wr)) (fun i _ => F.codes.length - (intOf i).toNat)
  case atStart => exact ⟨0, by omega, rfl, fun j hj => by omega, Drw.refl W⟩
  case round =>
    obtain ⟨k, hk, rfl, HA, HD⟩ := hrel
    have k0 := (K0.out.drw HD.out).cell 0; have k1 := (K1.out.drw HD.out).cell 0
    simp at k0 k1
    by_cases hlt : k < F.codes.length
    · have hlm := Nat.lt_of_lt_of_le hlt HL0.out
      obtain ⟨a, rfl, hab, x0⟩ := (rd_drw S0.out HD.out).i64 hlt
      obtain ⟨a', rfl, hab', y0⟩ := (rd_drw U0.out HD.out).i64 hlm
      have q1 : (0 : Int) ≤ (k : Int) := by omega
      have q2 : (k : Int) < (F.codes.length : Int) := by omega
      have q3 : (k : Int) < (G.codes.length : Int) := by omega
      have hst := fun h => HA.out.snoc h
      have hno := fun h => sameB_codes (@ne_of_getD _ 0 F.codes G.codes k h)
      generalize F.codes.getD k 0 = x at *
      generalize G.codes.getD k 0 = z at *
      have HST := Lib.hid hst; have HNO := Lib.hid hno; clear hst hno hlm
      by_cases hx : x = z
      · have t1 : (x != z) = false := by rw [hx]; exact bne_self_eq_false _
        have HY := Lib.hid (HST.out hx)
        clear hx
        go_wp2
        go_quiet (fail)
        go_wp2
        go_roundw
        case rel => exact ⟨k + 1, by omega, by go_num, HY, HD.out.drewN _⟩
        case measure => simp [intOf]; omega
      · have t1 : (x != z) = true := by rw [bne_iff_ne]; exact hx
        have HN := Lib.hid (HNO.out hx)
        clear hx
        go_wp2
        go_quiet (fail)
        go_wp2
        go_ret
        exact ⟨by rw [HN.out]; rfl, belD (HD.out.below HW0.out) _⟩
    · obtain rfl : k = F.codes.length := by omega
      have E0 := Lib.hid (eqTo.all L0.out HA.out)
      have HD0 := HD
      clear HD
      go_wp2
      clear k0 k1 HA
      go_loopw [6] (fun i wr => ∃ k : Nat, k ≤ F.ints.length ∧ i = .int .i64 (k : Int) ∧ Hid (eqTo 0 F.ints G.ints k) ∧ Hid (Drw W wr)) (fun i _ => F.ints.length - (intOf i).toNat)
      case atStart => exact ⟨0, by omega, rfl, fun j hj => by omega, HD0.out⟩
      case round =>
        obtain ⟨k, hk, rfl, HA, HD⟩ := hrel
        have k0 := (K0.out.drw HD.out).cell 1; have k1 := (K1.out.drw HD.out).cell 1
        simp at k0 k1
        by_cases hlt : k < F.ints.length
        · have hlm := Nat.lt_of_lt_of_le hlt HL1.out
          obtain ⟨a, rfl, hab, x0⟩ := (rd_drw S1.out HD.out).i64 hlt
          obtain ⟨a', rfl, hab', y0⟩ := (rd_drw U1.out HD.out).i64 hlm
          have q1 : (0 : Int) ≤ (k : Int) := by omega
          have q2 : (k : Int) < (F.ints.length : Int) := by omega
          have q3 : (k : Int) < (G.ints.length : Int) := by omega
          have hst := fun h => HA.out.snoc h
          have hno := fun h => sameB_ints (@ne_of_getD _ 0 F.ints G.ints k h)
          generalize F.ints.getD k 0 = x at *
          generalize G.ints.getD k 0 = z at *
          have HST := Lib.hid hst; have HNO := Lib.hid hno; clear hst hno hlm
          by_cases hx : x = z
          · have t1 : (x != z) = false := by rw [hx]; exact bne_self_eq_false _
            have HY := Lib.hid (HST.out hx)
            clear hx
            go_wp2
            go_quiet (fail)
            go_wp2
            go_roundw
            case rel => exact ⟨k + 1, by omega, by go_num, HY, HD.out.drewN _⟩
            case measure => simp [intOf]; omega
          · have t1 : (x != z) = true := by rw [bne_iff_ne]; exact hx
            have HN := Lib.hid (HNO.out hx)
            clear hx
            go_wp2
            go_quiet (fail)
            go_wp2
            go_ret
            exact ⟨by rw [HN.out]; rfl, belD (HD.out.below HW0.out) _⟩
        · obtain rfl : k = F.ints.length := by omega
          have E1 := Lib.hid (eqTo.all L1.out HA.out)
          have HD1 := HD
          clear HD
          go_wp2
          clear k0 k1 HA
          go_loopw [7] (fun i wr => ∃ k : Nat, k ≤ F.nums.length ∧ i = .int .i64 (k : Int) ∧ Hid (eqTo 0 (keysF F.nums) (keysF G.nums) k) ∧ Hid (Drw W wr)) (fun i _ => F.nums.length - (intOf i).toNat)
          case atStart => exact ⟨0, by omega, rfl, fun j hj => by omega, HD1.out⟩
          case round =>
            obtain ⟨k, hk, rfl, HA, HD⟩ := hrel
            have k0 := (K0.out.drw HD.out).cell 2; have k1 := (K1.out.drw HD.out).cell 2
            simp at k0 k1
            by_cases hlt : k < F.nums.length
            · have hlm := Nat.lt_of_lt_of_le hlt HL2.out
              obtain ⟨a, rfl, hab, x0⟩ := (rd_drw S2.out HD.out).f64 hlt
              obtain ⟨a', rfl, hab', y0⟩ := (rd_drw U2.out HD.out).f64 hlm
              have q1 : (0 : Int) ≤ (k : Int) := by omega
              have q2 : (k : Int) < (F.nums.length : Int) := by omega
              have q3 : (k : Int) < (G.nums.length : Int) := by omega
              have hst := fun h => HA.out.snoc h
              have hno := fun h => sameB_nums (@ne_of_getD _ 0 (keysF F.nums) (keysF G.nums) k h)
              rw [keysF_getD F.nums k hlt, keysF_getD G.nums k hlm] at hst hno
              have hc := fun W => refFSame_any (F.nums.getD k 0) (G.nums.getD k 0) W (by simp [List.getD, hlt]; exact oF.nums _ (List.getElem_mem hlt)) (by simp [List.getD, hlm]; exact oG.nums _ (List.getElem_mem hlm))
              generalize F.nums.getD k 0 = x at *
              generalize G.nums.getD k 0 = z at *
              have HST := Lib.hid hst; have HNO := Lib.hid hno; clear hst hno hlm
              by_cases hx : keyB x = keyB z
              · rw [show decide (keyB x = keyB z) = true from decide_eq_true hx] at hc
                have HC := Lib.hid hc; clear hc
                have HY := Lib.hid (HST.out hx)
                clear hx
                go_wp2
                go_quiet ((go_at_call 69; exact qcall (HC.out _)))
                go_wp2
                go_roundw
                case rel => exact ⟨k + 1, by omega, by go_num, HY, HD.out.drewN _⟩
                case measure => simp [intOf]; omega
              · rw [show decide (keyB x = keyB z) = false from decide_eq_false hx] at hc
                have HC := Lib.hid hc; clear hc
                have HN := Lib.hid (HNO.out hx)
                clear hx
                go_wp2
                go_quiet ((go_at_call 69; exact qcall (HC.out _)))
                go_wp2
                go_ret
                exact ⟨by rw [HN.out]; rfl, belD (HD.out.below HW0.out) _⟩
            · obtain rfl : k = F.nums.length := by omega
              have E2 := Lib.hid (eqTo.all (show (keysF F.nums).length = (keysF G.nums).length from by rw [keysF_len, keysF_len]; exact L2.out) (by rw [keysF_len]; exact HA.out))
              have HY := Lib.hid (sameB_yes E0.out E1.out E2.out)
              go_wp2
              go_ret
              exact ⟨by rw [HY.out]; rfl, HD.out.below HW0.out⟩
end Go.Proofs.Ytpnolgghbenekaa
