/-
  ENTRIES IN MEMORY; which may be those of nodes.
-/
import Derived.Test.YtpnolgghbenekaaBlk
import Derived.IntWalk
namespace Go.Proofs.Ytpnolgghbenekaa
open Go.ChangeShapes Go.WideShapes Go.ChangeAt Go.RowKit
set_option linter.unusedVariables false

/-- the cells of a list whose elements have some cells each -/
theorem flat_get {α : Type} (f : α → List Value) (s : Nat) (hs : ∀ x, (f x).length = s) (l : List α) (k j : Nat) (hk : k < l.length) (hj : j < s) : (l.flatMap f)[k * s + j]? = (f l[k])[j]? := by
  induction l generalizing k with
  | nil => simp at hk
  | cons x l ih =>
    rw [List.flatMap_cons]
    cases k with
    | zero => rw [Nat.zero_mul, Nat.zero_add, List.getElem?_append_left (by rw [hs]; exact hj)]; rfl
    | succ k =>
      rw [List.getElem?_append_right (by rw [hs, Nat.succ_mul]; omega), hs, show (k + 1) * s + j - s = k * s + j from by rw [Nat.succ_mul]; omega, ih k (by simpa using hk)]
      rfl
theorem flat_len {α : Type} (f : α → List Value) (s : Nat) (hs : ∀ x, (f x).length = s) (l : List α) : (l.flatMap f).length = l.length * s := by
  induction l with
  | nil => simp
  | cons x l ih => rw [List.flatMap_cons, List.length_append, hs, ih, List.length_cons, Nat.succ_mul]; omega

def entC (l : List (Nat × Int)) : List Value := l.flatMap fun x => [.int .u64 (x.1 : Int), .int .i64 x.2]
theorem entC_len (l : List (Nat × Int)) : (entC l).length = l.length * 2 := flat_len _ 2 (fun _ => rfl) l
theorem entC_snoc (l : List (Nat × Int)) (f : Nat) (p : Int) : entC l ++ [.int .u64 (f : Int), .int .i64 p] = entC (l ++ [(f, p)]) := by simp [entC]
section
variable {w w' : World} {B n : Nat} {A : Option Addr} {l : List (Nat × Int)}
theorem Rd.ent_len (h : Rd w B 2 A n (entC l)) : n = l.length := by have := h.1; rw [entC_len] at this; omega
theorem Rd.ent (h : Rd w B 2 A n (entC l)) {k : Nat} (hk : k < l.length) : ∃ a, A = some a ∧ a.block < B ∧ w.cell? (a.add (k * 2)) = some (.int .u64 (l[k].1 : Int)) ∧ w.cell? ⟨(a.add (k * 2)).block, (a.add (k * 2)).off + 1, none⟩ = some (.int .i64 l[k].2) := by
  obtain ⟨a, e, hb, hc⟩ := h.2 (by rw [h.ent_len]; omega)
  refine ⟨a, e, hb, hc _ _ ?_, ?_⟩
  · have := flat_get (fun x : Nat × Int => [Value.int .u64 (x.1 : Int), .int .i64 x.2]) 2 (fun _ => rfl) l k 0 hk (by omega)
    exact this
  · have := flat_get (fun x : Nat × Int => [Value.int .u64 (x.1 : Int), .int .i64 x.2]) 2 (fun _ => rfl) l k 1 hk (by omega)
    have := hc _ _ this
    rw [← add_add', add_succ] at this
    exact this
end

/-- may entry k stand where it stands? -/
def okAt (l : List (Nat × Int)) (k : Nat) : Bool :=
  match l[k]? with
  | none => true
  | some x => decide (1 ≤ x.2) && decide (x.2 ≤ 8192) && (match k with | 0 => true | j + 1 => match l[j]? with | none => true | some y => decide (y.1 < x.1))
def riseB (l : List (Nat × Int)) : Bool := (List.range l.length).all (okAt l)
theorem riseB_iff (l : List (Nat × Int)) : riseB l = true ↔ ∀ k, k < l.length → okAt l k = true := by simp [riseB]
theorem riseB_no (l : List (Nat × Int)) (k : Nat) (hk : k < l.length) (h : okAt l k = false) : riseB l = false := by
  rw [Bool.eq_false_iff]; intro h'; rw [riseB_iff] at h'; rw [h' k hk] at h; cases h
theorem okAt_zero (l : List (Nat × Int)) (h : 0 < l.length) : okAt l 0 = (decide (1 ≤ l[0].2) && decide (l[0].2 ≤ 8192)) := by
  simp [okAt, h]
theorem okAt_succ (l : List (Nat × Int)) (j : Nat) (h : j + 1 < l.length) : okAt l (j + 1) = (decide (1 ≤ l[j + 1].2) && decide (l[j + 1].2 ≤ 8192) && decide (l[j].1 < l[j + 1].1)) := by
  have h' : j < l.length := by omega
  simp [okAt, h, h']

theorem one_of {p : Nat → Prop} (h : p 0) : ∀ j, j < 1 → p j := fun j hj => by obtain rfl : j = 0 := by omega
                                                                               exact h
theorem more_of {p : Nat → Prop} {k : Nat} (h : ∀ j, j < k → p j) (hk : p k) : ∀ j, j < k + 1 → p j := fun j hj => by
  by_cases e : j = k
  · rw [e]; exact hk
  · exact h j (by omega)
theorem rd_drw {w w' : World} {B size n : Nat} {A : Option Addr} {xs : List Value} (h : Rd w B size A n xs) (k : Drw w w') : Rd w' B size A n xs := by obtain ⟨m, rfl⟩ := k; exact h
set_option maxHeartbeats 400000 in
theorem rising_any (A : Option Addr) (n c B : Nat) (l : List (Nat × Int)) (w : World) (h : Rd w B 2 A n (entC l)) (hn : n ≤ 1000000) (hB : B ≤ w.heap.size) :
    Calls Try.prog 49 #[.slice A n c] w fun e w' => e = .returned (.bool (riseB l)) ∧ Below w.heap.size w w' := by
  obtain rfl : n = l.length := h.ent_len
  have H := Lib.hid h; clear h
  go_enter Try.func49, Try.ntmps49
  go_wp2
  go_loopw [3, 4, 7] (fun i3 v4 i wr => ∃ k : Nat, k ≤ l.length ∧ i = .int .i64 (k : Int) ∧ (∀ j, j < k → okAt l j = true) ∧ Below w.heap.size w wr) (fun _ _ i _ => l.length - (intOf i).toNat)
  case atStart => exact ⟨0, by omega, rfl, fun j hj => by omega, belR _⟩
  case round =>
    obtain ⟨k, hk, rfl, hall, hb⟩ := hrel
    have hz := hb.size
    by_cases hlt : k < l.length
    · cases k with
      | zero =>
        obtain ⟨a, rfl, hab, x0, x1⟩ := (H.out.below (hb.mono hB)).ent hlt
        have hok := okAt_zero l hlt
        have hno := riseB_no l 0 hlt
        rw [Nat.zero_mul, add_zero'] at x0 x1
        rw [show ((0 : Nat) : Int) = 0 from rfl]
        generalize l[0] = x at *
        obtain ⟨f, p⟩ := x
        simp only at x0 x1 hok
        have ALL := Lib.hid hall; clear hall
        by_cases h1 : p < 1
        · have t1 : decide (p < 1) = true := decide_eq_true h1
          have hok' : okAt l 0 = false := by rw [hok]; simp; omega
          have HNO := Lib.hid (hno hok'); have HOK := Lib.hid hok; clear hno hok hok'
          go_wp2
          go_quiet (fail)
          go_wp2
          go_ret
          exact ⟨by rw [HNO.out]; rfl, belD (belA hb _) _⟩
        · have t1 : decide (p < 1) = false := decide_eq_false h1
          by_cases h2 : 8192 < p
          · have t2 : decide (8192 < p) = true := decide_eq_true h2
            have hok' : okAt l 0 = false := by rw [hok]; simp; omega
            have HNO := Lib.hid (hno hok'); have HOK := Lib.hid hok; clear hno hok hok'
            go_wp2
            go_quiet (fail)
            go_wp2
            go_ret
            exact ⟨by rw [HNO.out]; rfl, belD (belA hb _) _⟩
          · have t2 : decide (8192 < p) = false := decide_eq_false h2
            have hok' : okAt l 0 = true := by rw [hok]; simp; omega
            have HOK' := Lib.hid hok'; have HOK := Lib.hid hok; clear hno hok hok'
            go_wp2
            go_quiet (fail)
            go_wp2
            go_roundw
            case rel => exact ⟨1, by omega, rfl, one_of HOK'.out, belD (belA hb _) _⟩
            case measure => simp [intOf]; omega
      | succ j =>
        obtain ⟨a, rfl, hab, x0, x1⟩ := (H.out.below (hb.mono hB)).ent hlt
        obtain ⟨a', ea, _, y0, _⟩ := (H.out.below (hb.mono hB)).ent (k := j) (by omega)
        injection ea with ea; subst ea
        have hok := okAt_succ l j hlt
        have hno := riseB_no l (j + 1) hlt
        rw [show ((j + 1 : Nat) : Int) = (j : Int) + 1 from by omega]
        have hltz : (j : Int) + 1 < (l.length : Int) := by omega
        generalize l[j + 1] = x at *
        generalize l[j] = y at *
        obtain ⟨f, p⟩ := x
        obtain ⟨f', p'⟩ := y
        simp only at x0 x1 y0 hok
        have ALL := Lib.hid hall; clear hall
        by_cases h1 : p < 1
        · have t1 : decide (p < 1) = true := decide_eq_true h1
          have hok' : okAt l (j + 1) = false := by rw [hok]; simp; omega
          have HNO := Lib.hid (hno hok'); have HOK := Lib.hid hok; clear hno hok hok'
          go_wp2
          go_quiet (fail)
          go_wp2
          go_ret
          exact ⟨by rw [HNO.out]; rfl, belD (belA hb _) _⟩
        · have t1 : decide (p < 1) = false := decide_eq_false h1
          by_cases h2 : 8192 < p
          · have t2 : decide (8192 < p) = true := decide_eq_true h2
            have hok' : okAt l (j + 1) = false := by rw [hok]; simp; omega
            have HNO := Lib.hid (hno hok'); have HOK := Lib.hid hok; clear hno hok hok'
            go_wp2
            go_quiet (fail)
            go_wp2
            go_ret
            exact ⟨by rw [HNO.out]; rfl, belD (belA hb _) _⟩
          · have t2 : decide (8192 < p) = false := decide_eq_false h2
            have t3 : decide ((0 : Int) < (j : Int) + 1) = true := decide_eq_true (by omega)
            have w1 : IntKind.i64.wrap (j : Int) = (j : Int) := IntWalk.i64_in _ (by omega)
            have w2 : IntKind.i64.wrap ((j : Int) + 1 - 1) = (j : Int) := by rw [show (j : Int) + 1 - 1 = (j : Int) from by omega]; exact w1
            have w3 : (0 : Int) ≤ (j : Int) := by omega
            have w4 : (j : Int) < (l.length : Int) := by omega
            have y1 := fun o => (World.cell?_alloc_lt wr o (a.add (j * 2)) (by rw [block_add]; omega)).trans y0
            by_cases h3 : f' < f
            · have t4 : decide (f ≤ f') = false := decide_eq_false (by omega)
              have hok' : okAt l (j + 1) = true := by rw [hok]; simp; omega
              have HOK' := Lib.hid hok'; have HOK := Lib.hid hok; clear hno hok hok'
              go_wp2
              go_quiet (fail)
              go_wp2
              go_roundw
              case rel => exact ⟨j + 1 + 1, by omega, by go_num, more_of ALL.out HOK'.out, belD (belA hb _) _⟩
              case measure => simp [intOf]; omega
            · have t4 : decide (f ≤ f') = true := decide_eq_true (by omega)
              have hok' : okAt l (j + 1) = false := by rw [hok]; simp; omega
              have HNO := Lib.hid (hno hok'); have HOK := Lib.hid hok; clear hno hok hok'
              go_wp2
              go_quiet (fail)
              go_wp2
              go_ret
              exact ⟨by rw [HNO.out]; rfl, belD (belA hb _) _⟩
    · have hyes : riseB l = true := (riseB_iff l).2 fun j hj => hall j (by omega)
      have HY := Lib.hid hyes; have ALL := Lib.hid hall; clear hyes hall
      go_wp2
      go_ret
      exact ⟨by rw [HY.out]; rfl, hb⟩
set_option maxHeartbeats 400000 in
theorem may_any (A : Option Addr) (n c B : Nat) (l : List (Nat × Int)) (w : World) (h : Rd w B 2 A n (entC l)) (hn : n ≤ 1000000) :
    Calls Try.prog 13 #[.slice A n c] w fun e w' => e = .returned (.bool (riseB l)) ∧ Drw w w' := by
  obtain rfl : n = l.length := h.ent_len
  have H := Lib.hid h; clear h
  go_enter Try.func13, Try.ntmps13
  go_wp2
  go_loopw [3] (fun i wr => ∃ k : Nat, k ≤ l.length ∧ i = .int .i64 (k : Int) ∧ (∀ j, j < k → okAt l j = true) ∧ Drw w wr) (fun i _ => l.length - (intOf i).toNat)
  case atStart => exact ⟨0, by omega, rfl, fun j hj => by omega, Drw.refl _⟩
  case round =>
    obtain ⟨k, hk, rfl, hall, hb⟩ := hrel
    by_cases hlt : k < l.length
    · cases k with
      | zero =>
        obtain ⟨a, rfl, hab, x0, x1⟩ := (rd_drw H.out hb).ent hlt
        have hok := okAt_zero l hlt
        have hno := riseB_no l 0 hlt
        rw [Nat.zero_mul, add_zero'] at x0 x1
        rw [show ((0 : Nat) : Int) = 0 from rfl]
        generalize l[0] = x at *
        obtain ⟨f, p⟩ := x
        simp only at x0 x1 hok
        have ALL := Lib.hid hall; clear hall
        by_cases h1 : p < 1
        · have t1 : decide (p < 1) = true := decide_eq_true h1
          have hok' : okAt l 0 = false := by rw [hok]; simp; omega
          have HNO := Lib.hid (hno hok'); have HOK := Lib.hid hok; clear hno hok hok'
          go_wp2
          go_quiet (fail)
          go_wp2
          go_ret
          exact ⟨by rw [HNO.out]; rfl, hb.drewN _⟩
        · have t1 : decide (p < 1) = false := decide_eq_false h1
          by_cases h2 : 8192 < p
          · have t2 : decide (8192 < p) = true := decide_eq_true h2
            have hok' : okAt l 0 = false := by rw [hok]; simp; omega
            have HNO := Lib.hid (hno hok'); have HOK := Lib.hid hok; clear hno hok hok'
            go_wp2
            go_quiet (fail)
            go_wp2
            go_ret
            exact ⟨by rw [HNO.out]; rfl, hb.drewN _⟩
          · have t2 : decide (8192 < p) = false := decide_eq_false h2
            have hok' : okAt l 0 = true := by rw [hok]; simp; omega
            have HOK' := Lib.hid hok'; have HOK := Lib.hid hok; clear hno hok hok'
            go_wp2
            go_quiet (fail)
            go_wp2
            go_roundw
            case rel => exact ⟨1, by omega, rfl, one_of HOK'.out, hb.drewN _⟩
            case measure => simp [intOf]; omega
      | succ j =>
        obtain ⟨a, rfl, hab, x0, x1⟩ := (rd_drw H.out hb).ent hlt
        obtain ⟨a', ea, _, y0, _⟩ := (rd_drw H.out hb).ent (k := j) (by omega)
        injection ea with ea; subst ea
        have hok := okAt_succ l j hlt
        have hno := riseB_no l (j + 1) hlt
        rw [show ((j + 1 : Nat) : Int) = (j : Int) + 1 from by omega]
        have hltz : (j : Int) + 1 < (l.length : Int) := by omega
        generalize l[j + 1] = x at *
        generalize l[j] = y at *
        obtain ⟨f, p⟩ := x
        obtain ⟨f', p'⟩ := y
        simp only at x0 x1 y0 hok
        have ALL := Lib.hid hall; clear hall
        by_cases h1 : p < 1
        · have t1 : decide (p < 1) = true := decide_eq_true h1
          have hok' : okAt l (j + 1) = false := by rw [hok]; simp; omega
          have HNO := Lib.hid (hno hok'); have HOK := Lib.hid hok; clear hno hok hok'
          go_wp2
          go_quiet (fail)
          go_wp2
          go_ret
          exact ⟨by rw [HNO.out]; rfl, hb.drewN _⟩
        · have t1 : decide (p < 1) = false := decide_eq_false h1
          by_cases h2 : 8192 < p
          · have t2 : decide (8192 < p) = true := decide_eq_true h2
            have hok' : okAt l (j + 1) = false := by rw [hok]; simp; omega
            have HNO := Lib.hid (hno hok'); have HOK := Lib.hid hok; clear hno hok hok'
            go_wp2
            go_quiet (fail)
            go_wp2
            go_ret
            exact ⟨by rw [HNO.out]; rfl, hb.drewN _⟩
          · have t2 : decide (8192 < p) = false := decide_eq_false h2
            have t3 : decide ((0 : Int) < (j : Int) + 1) = true := decide_eq_true (by omega)
            have w1 : IntKind.i64.wrap (j : Int) = (j : Int) := IntWalk.i64_in _ (by omega)
            have w2 : IntKind.i64.wrap ((j : Int) + 1 - 1) = (j : Int) := by rw [show (j : Int) + 1 - 1 = (j : Int) from by omega]; exact w1
            have w3 : (0 : Int) ≤ (j : Int) := by omega
            have w4 : (j : Int) < (l.length : Int) := by omega
            by_cases h3 : f' < f
            · have t4 : decide (f ≤ f') = false := decide_eq_false (by omega)
              have hok' : okAt l (j + 1) = true := by rw [hok]; simp; omega
              have HOK' := Lib.hid hok'; have HOK := Lib.hid hok; clear hno hok hok'
              go_wp2
              go_quiet (fail)
              go_wp2
              go_roundw
              case rel => exact ⟨j + 1 + 1, by omega, by go_num, more_of ALL.out HOK'.out, hb.drewN _⟩
              case measure => simp [intOf]; omega
            · have t4 : decide (f ≤ f') = true := decide_eq_true (by omega)
              have hok' : okAt l (j + 1) = false := by rw [hok]; simp; omega
              have HNO := Lib.hid (hno hok'); have HOK := Lib.hid hok; clear hno hok hok'
              go_wp2
              go_quiet (fail)
              go_wp2
              go_ret
              exact ⟨by rw [HNO.out]; rfl, hb.drewN _⟩
    · have hyes : riseB l = true := (riseB_iff l).2 fun j hj => hall j (by omega)
      have HY := Lib.hid hyes; have ALL := Lib.hid hall; clear hyes hall
      go_wp2
      go_ret
      exact ⟨by rw [HY.out]; rfl, hb⟩
end Go.Proofs.Ytpnolgghbenekaa
