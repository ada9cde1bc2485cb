/-
  bushellaw08.read: a thing is asked for, and is what must be.
-/
import Derived.Test.YtpnolgghbenekaaBufInB
import Derived.Test.YtpnolgghbenekaaReadPure
import Derived.Deep.RegionHeld
namespace Go.Proofs.Ytpnolgghbenekaa
open Go.ChangeShapes Go.WideShapes Go.ChangeAt Go.RowKit
set_option linter.unusedVariables false

/-- a thing that is asked for -/
structure AskS where
  d : Int
  u : Nat
  i : Int
  f : Nat
  s : ByteArray
  m : Int
def askC (a : AskS) : List Value := [.int .i64 a.d, .int .u64 (a.u : Int), .int .i64 a.i, .float .f64 a.f, .string a.s, .int .i64 a.m]
structure AskOk (a : AskS) : Prop where
  u : a.u < 18446744073709551616
  i1 : -9223372036854775808 ≤ a.i
  i2 : a.i ≤ 9223372036854775807
  f : a.f < 18446744073709551616
  s : a.s.size ≤ maxLen
  m : a.m ≤ 9223372036854775807
/-- what the document says of it -/
def askG (a : AskS) (t : List UInt8) : GotS :=
  if a.d = 0 then rdU a.u t else if a.d = 1 then rdI t else if a.d = 2 then rdF t else if a.d = 3 then rdT a.m t else rdB a.m t
/-- the state behind it -/
def nextP (e p : Nat) (G : GotS) : Nat := if e = 0 then p + G.n else p
def nextE (e : Nat) (G : GotS) : Nat := if e = 0 then G.e else e
theorem Only.cell_far {g : Nat} {a b : World} (h : Only g a b) {p : Addr} (hp : p.block < a.heap.size) (hne : p.block ≠ g) : b.cell? p = a.cell? p := by
  have := h.block p.block hp (by intro e; injection e with e; exact hne e)
  unfold World.cell?
  rw [this]
theorem inU_got (t : List UInt8) (p e u : Nat) (G : GotS) (hG : G = if e = 0 then rdU u (t.drop p) else got0S 0) : inU t p e u = (G.u, nextP e p G, nextE e G) := by
  unfold nextP nextE
  by_cases he : e = 0
  · subst he
    rw [if_pos rfl] at hG
    rw [if_pos rfl, if_pos rfl]
    unfold inU
    unfold rdU at hG
    generalize getU (t.drop p) = r at *
    obtain ⟨x, n, er⟩ := r
    simp only at hG ⊢
    unfold stepE overE
    rw [if_neg (by omega)]
    by_cases h1 : er ≠ 0
    · rw [if_pos h1] at hG ⊢
      subst hG
      unfold stepV stepP
      rw [if_neg h1, if_neg h1]; rfl
    · rw [if_neg h1] at hG ⊢
      by_cases h2 : u < x
      · rw [if_pos h2] at hG ⊢
        subst hG; rfl
      · rw [if_neg h2] at hG ⊢
        subst hG; rfl
  · rw [if_neg he] at hG
    rw [if_neg he, if_neg he, inU_bad _ _ _ _ he, hG]; rfl
theorem inI_got (t : List UInt8) (p e : Nat) (G : GotS) (hG : G = if e = 0 then rdI (t.drop p) else got0S 0) :
    stepV (0 : Int) (getI (t.drop p)).1 (stepE e (getI (t.drop p)).2.2 0) = G.i ∧ stepP p (getI (t.drop p)).2.1 (stepE e (getI (t.drop p)).2.2 0) = nextP e p G ∧ stepE e (getI (t.drop p)).2.2 0 = nextE e G := by
  unfold nextP nextE
  unfold rdI at hG
  generalize getI (t.drop p) = r at *
  obtain ⟨x, n, er⟩ := r
  simp only at hG ⊢
  unfold stepE stepV stepP
  by_cases he : e = 0
  · subst he
    rw [if_pos rfl] at hG
    by_cases h1 : er = 0
    · subst h1; rw [if_neg (by omega)] at hG; subst hG; simp
    · rw [if_pos h1] at hG; subst hG; simp [h1, got0S]
  · rw [if_neg he] at hG; subst hG; simp [he, got0S]
theorem inF_got (t : List UInt8) (p e : Nat) (G : GotS) (hG : G = if e = 0 then rdF (t.drop p) else got0S 0) :
    stepP p (getF (t.drop p)).2.1 (stepE e (getF (t.drop p)).2.2 0) = nextP e p G ∧ stepE e (getF (t.drop p)).2.2 0 = nextE e G ∧
      ((G.n = 0 ∧ stepV (0 : Nat) (getF (t.drop p)).1 (stepE e (getF (t.drop p)).2.2 0) = 0) ∨ (G.n = 8 ∧ keyB (stepV (0 : Nat) (getF (t.drop p)).1 (stepE e (getF (t.drop p)).2.2 0)) = G.u ∧ stepV (0 : Nat) (getF (t.drop p)).1 (stepE e (getF (t.drop p)).2.2 0) < 18446744073709551616)) := by
  have hd := getF_doc (t.drop p)
  unfold nextP nextE
  unfold rdF at hG
  generalize getF (t.drop p) = r at *
  generalize rgetF (t.drop p) = q at *
  obtain ⟨x, n, er⟩ := r
  obtain ⟨k, er'⟩ := q
  simp only at hG hd ⊢
  obtain ⟨rfl, hd1, hd2⟩ := hd
  unfold stepE stepV stepP
  by_cases he : e = 0
  · subst he
    rw [if_pos rfl] at hG
    by_cases h1 : er = 0
    · obtain ⟨rfl, h3, h4⟩ := hd2 h1
      subst h1; rw [if_neg (by omega)] at hG; subst hG; simp [h3, h4]
    · have := hd1 h1
      rw [if_pos h1] at hG; subst hG; simp [h1, got0S]
  · rw [if_neg he] at hG; subst hG; simp [he, got0S]
theorem inT_got (t : List UInt8) (p e : Nat) (ms : Int) (G : GotS) (hG : G = if e = 0 then rdT ms (t.drop p) else got0S 0) :
    stepV (⟨#[]⟩ : ByteArray) ⟨(getT (t.drop p)).1.toArray⟩ (stepE e (getT (t.drop p)).2.2 (longE (getT (t.drop p)).1.length ms)) = ⟨G.t.toArray⟩ ∧
      stepP p (getT (t.drop p)).2.1 (stepE e (getT (t.drop p)).2.2 (longE (getT (t.drop p)).1.length ms)) = nextP e p G ∧ stepE e (getT (t.drop p)).2.2 (longE (getT (t.drop p)).1.length ms) = nextE e G := by
  unfold nextP nextE
  unfold rdT at hG
  generalize getT (t.drop p) = r at *
  obtain ⟨x, n, er⟩ := r
  simp only at hG ⊢
  unfold stepE stepV stepP longE
  by_cases he : e = 0
  · subst he
    rw [if_pos rfl] at hG
    by_cases h1 : er = 0
    · subst h1
      rw [if_neg (by omega)] at hG
      by_cases h2 : mx ms < x.length
      · rw [if_pos h2] at hG; subst hG; simp [h2, got0S]
      · rw [if_neg h2] at hG; subst hG; simp [h2]
    · rw [if_pos h1] at hG; subst hG; simp [h1, got0S]
  · rw [if_neg he] at hG; subst hG; simp [he, got0S]

set_option maxRecDepth 20000 in
set_option maxHeartbeats 2000000 in
theorem lawRead0 (w : World) (g : Nat) (t : List UInt8) (p e : Nat) (a : AskS) (G : GotS) (h : InS w g t p e) (hd : a.d = 0) (hG : G = if e = 0 then rdU a.u (t.drop p) else got0S 0) :
    Calls Try.prog 36 #[.pointer (some ⟨g, 0, none⟩), .agg (askC a).toArray, G.v] w fun y w' => y = .returned (.bool true) ∧ InS w' g t (nextP e p G) (nextE e G) ∧ Only g w w' := by
  have hu := inU_got t p e a.u G hG
  obtain ⟨d, u, i, f, s, m⟩ := a
  obtain ⟨gu, gi, gt, gn, ge⟩ := G
  simp only at hd hu
  subst hd
  have hgl := h.lt
  show Calls Try.prog 36 #[.pointer (some ⟨g, 0, none⟩), .agg #[.int .i64 0, .int .u64 (u : Int), .int .i64 i, .float .f64 f, .string s, .int .i64 m], .agg #[.int .u64 (gu : Int), .int .i64 gi, .string ⟨gt.toArray⟩, .int .i64 (gn : Int), .int .i64 (ge : Int)]] w _
  have hin : InS ((w.alloc (.cells #[.int .i64 0, .int .u64 (u : Int), .int .i64 i, .float .f64 f, .string s, .int .i64 m] 79)).alloc (.cells #[.int .u64 (gu : Int), .int .i64 gi, .string ⟨gt.toArray⟩, .int .i64 (gn : Int), .int .i64 (ge : Int)] 75)).drew g t p e := (h.below (belA (belA (belR w) _) _) hgl).drw ⟨1, rfl⟩
  have hs : ((w.alloc (.cells #[.int .i64 0, .int .u64 (u : Int), .int .i64 i, .float .f64 f, .string s, .int .i64 m] 79)).alloc (.cells #[.int .u64 (gu : Int), .int .i64 gi, .string ⟨gt.toArray⟩, .int .i64 (gn : Int), .int .i64 (ge : Int)] 75)).drew.cell? ⟨w.heap.size, 1, none⟩ = some (.int .u64 (u : Int)) ∧ ((w.alloc (.cells #[.int .i64 0, .int .u64 (u : Int), .int .i64 i, .float .f64 f, .string s, .int .i64 m] 79)).alloc (.cells #[.int .u64 (gu : Int), .int .i64 gi, .string ⟨gt.toArray⟩, .int .i64 (gn : Int), .int .i64 (ge : Int)] 75)).drew.cell? ⟨w.heap.size + 1, 0, none⟩ = some (.int .u64 (gu : Int)) := ⟨by simp [go_sem], by simp [go_sem]⟩
  have HS := Lib.hid hs; clear hs
  have hc := inU_any _ g t p e u hin
  rw [hu] at hc
  simp only at hc
  have HC := Lib.hid hc; have HU := Lib.hid hu; have HG := Lib.hid hG; clear hc hu hG
  go_enter Try.func36, Try.ntmps36
  go_wp2_with fail
  go_region_held3 (fun W => W.cell? ⟨w.heap.size, 1, none⟩ = some (.int .u64 (u : Int)) ∧ W.cell? ⟨w.heap.size + 1, 0, none⟩ = some (.int .u64 (gu : Int))) (first | (with_reducible exact HS.out) | (exact ⟨(ho1.cell_far (by first | (simp; done) | (simp; omega)) (by simp only; omega)).trans HS.out.1, (ho1.cell_far (by first | (simp; done) | (simp; omega)) (by simp only; omega)).trans HS.out.2⟩))
    (first | (go_at_call 55; (with_reducible refine HC.out.mono ?_); rintro y w1 ⟨rfl, hi1, ho1⟩))
  go_wp2
  go_ret
  exact ⟨rfl, hi1, (((Only.refl g w).alloc _).alloc _).drew.trans ho1⟩
set_option maxRecDepth 20000 in
set_option maxHeartbeats 2000000 in
theorem lawRead1 (w : World) (g : Nat) (t : List UInt8) (p e : Nat) (a : AskS) (G : GotS) (h : InS w g t p e) (hd : a.d = 1) (hG : G = if e = 0 then rdI (t.drop p) else got0S 0) :
    Calls Try.prog 36 #[.pointer (some ⟨g, 0, none⟩), .agg (askC a).toArray, G.v] w fun y w' => y = .returned (.bool true) ∧ InS w' g t (nextP e p G) (nextE e G) ∧ Only g w w' := by
  have hu := inI_got t p e G hG
  obtain ⟨d, u, i, f, s, m⟩ := a
  obtain ⟨gu, gi, gt, gn, ge⟩ := G
  simp only at hd hu
  subst hd
  have hgl := h.lt
  show Calls Try.prog 36 #[.pointer (some ⟨g, 0, none⟩), .agg #[.int .i64 1, .int .u64 (u : Int), .int .i64 i, .float .f64 f, .string s, .int .i64 m], .agg #[.int .u64 (gu : Int), .int .i64 gi, .string ⟨gt.toArray⟩, .int .i64 (gn : Int), .int .i64 (ge : Int)]] w _
  have hin : InS ((w.alloc (.cells #[.int .i64 1, .int .u64 (u : Int), .int .i64 i, .float .f64 f, .string s, .int .i64 m] 79)).alloc (.cells #[.int .u64 (gu : Int), .int .i64 gi, .string ⟨gt.toArray⟩, .int .i64 (gn : Int), .int .i64 (ge : Int)] 75)).drew g t p e := (h.below (belA (belA (belR w) _) _) hgl).drw ⟨1, rfl⟩
  have hs : ((w.alloc (.cells #[.int .i64 1, .int .u64 (u : Int), .int .i64 i, .float .f64 f, .string s, .int .i64 m] 79)).alloc (.cells #[.int .u64 (gu : Int), .int .i64 gi, .string ⟨gt.toArray⟩, .int .i64 (gn : Int), .int .i64 (ge : Int)] 75)).drew.cell? ⟨w.heap.size + 1, 1, none⟩ = some (.int .i64 gi) := by simp [go_sem]
  have HS := Lib.hid hs; clear hs
  have hc := inI_any _ g t p e hin
  rw [hu.1, hu.2.1, hu.2.2] at hc
  have HC := Lib.hid hc; have HU := Lib.hid hu; have HG := Lib.hid hG; clear hc hu hG
  go_enter Try.func36, Try.ntmps36
  go_wp2_with fail
  go_region_held3 (fun W => W.cell? ⟨w.heap.size + 1, 1, none⟩ = some (.int .i64 gi)) (first | (with_reducible exact HS.out) | (exact (ho1.cell_far (by simp) (by simp only; omega)).trans HS.out))
    (first | (go_at_call 76; (with_reducible refine HC.out.mono ?_); rintro y w1 ⟨rfl, hi1, ho1⟩))
  go_wp2
  go_ret
  exact ⟨rfl, hi1, (((Only.refl g w).alloc _).alloc _).drew.trans ho1⟩
set_option maxRecDepth 20000 in
set_option maxHeartbeats 2000000 in
theorem lawRead3 (w : World) (g : Nat) (t : List UInt8) (p e : Nat) (a : AskS) (G : GotS) (h : InS w g t p e) (hd : a.d = 3) (hG : G = if e = 0 then rdT a.m (t.drop p) else got0S 0) (ht : t.length ≤ 1000000) :
    Calls Try.prog 36 #[.pointer (some ⟨g, 0, none⟩), .agg (askC a).toArray, G.v] w fun y w' => y = .returned (.bool true) ∧ InS w' g t (nextP e p G) (nextE e G) ∧ Only g w w' := by
  have hu := inT_got t p e a.m G hG
  obtain ⟨d, u, i, f, s, m⟩ := a
  obtain ⟨gu, gi, gt, gn, ge⟩ := G
  simp only at hd hu
  subst hd
  have hgl := h.lt
  show Calls Try.prog 36 #[.pointer (some ⟨g, 0, none⟩), .agg #[.int .i64 3, .int .u64 (u : Int), .int .i64 i, .float .f64 f, .string s, .int .i64 m], .agg #[.int .u64 (gu : Int), .int .i64 gi, .string ⟨gt.toArray⟩, .int .i64 (gn : Int), .int .i64 (ge : Int)]] w _
  have hin : InS ((w.alloc (.cells #[.int .i64 3, .int .u64 (u : Int), .int .i64 i, .float .f64 f, .string s, .int .i64 m] 79)).alloc (.cells #[.int .u64 (gu : Int), .int .i64 gi, .string ⟨gt.toArray⟩, .int .i64 (gn : Int), .int .i64 (ge : Int)] 75)).drew g t p e := (h.below (belA (belA (belR w) _) _) hgl).drw ⟨1, rfl⟩
  have hs : ((w.alloc (.cells #[.int .i64 3, .int .u64 (u : Int), .int .i64 i, .float .f64 f, .string s, .int .i64 m] 79)).alloc (.cells #[.int .u64 (gu : Int), .int .i64 gi, .string ⟨gt.toArray⟩, .int .i64 (gn : Int), .int .i64 (ge : Int)] 75)).drew.cell? ⟨w.heap.size, 5, none⟩ = some (.int .i64 m) ∧ ((w.alloc (.cells #[.int .i64 3, .int .u64 (u : Int), .int .i64 i, .float .f64 f, .string s, .int .i64 m] 79)).alloc (.cells #[.int .u64 (gu : Int), .int .i64 gi, .string ⟨gt.toArray⟩, .int .i64 (gn : Int), .int .i64 (ge : Int)] 75)).drew.cell? ⟨w.heap.size + 1, 2, none⟩ = some (.string ⟨gt.toArray⟩) := ⟨by simp [go_sem], by simp [go_sem]⟩
  have HS := Lib.hid hs; clear hs
  have hc := inT_any _ g t p e m hin ht
  rw [hu.1, hu.2.1, hu.2.2] at hc
  have HC := Lib.hid hc; have HU := Lib.hid hu; have HG := Lib.hid hG; clear hc hu hG
  go_enter Try.func36, Try.ntmps36
  go_wp2_with fail
  go_region_held3 (fun W => W.cell? ⟨w.heap.size, 5, none⟩ = some (.int .i64 m) ∧ W.cell? ⟨w.heap.size + 1, 2, none⟩ = some (.string ⟨gt.toArray⟩)) (first | (with_reducible exact HS.out) | (exact ⟨(ho1.cell_far (by first | (simp; done) | (simp; omega)) (by simp only; omega)).trans HS.out.1, (ho1.cell_far (by first | (simp; done) | (simp; omega)) (by simp only; omega)).trans HS.out.2⟩))
    (first | (go_at_call 79; (with_reducible refine HC.out.mono ?_); rintro y w1 ⟨rfl, hi1, ho1⟩))
  go_wp2
  go_ret
  exact ⟨rfl, hi1, (((Only.refl g w).alloc _).alloc _).drew.trans ho1⟩
set_option maxRecDepth 20000 in
set_option maxHeartbeats 2000000 in
theorem lawRead2 (w : World) (g : Nat) (t : List UInt8) (p e : Nat) (a : AskS) (G : GotS) (h : InS w g t p e) (hd : a.d = 2) (hG : G = if e = 0 then rdF (t.drop p) else got0S 0) :
    Calls Try.prog 36 #[.pointer (some ⟨g, 0, none⟩), .agg (askC a).toArray, G.v] w fun y w' => y = .returned (.bool true) ∧ InS w' g t (nextP e p G) (nextE e G) ∧ Only g w w' := by
  have hu := inF_got t p e G hG
  obtain ⟨d, u, i, f, s, m⟩ := a
  obtain ⟨gu, gi, gt, gn, ge⟩ := G
  simp only at hd hu
  subst hd
  have hgl := h.lt
  show Calls Try.prog 36 #[.pointer (some ⟨g, 0, none⟩), .agg #[.int .i64 2, .int .u64 (u : Int), .int .i64 i, .float .f64 f, .string s, .int .i64 m], .agg #[.int .u64 (gu : Int), .int .i64 gi, .string ⟨gt.toArray⟩, .int .i64 (gn : Int), .int .i64 (ge : Int)]] w _
  have hin : InS ((w.alloc (.cells #[.int .i64 2, .int .u64 (u : Int), .int .i64 i, .float .f64 f, .string s, .int .i64 m] 79)).alloc (.cells #[.int .u64 (gu : Int), .int .i64 gi, .string ⟨gt.toArray⟩, .int .i64 (gn : Int), .int .i64 (ge : Int)] 75)) g t p e := h.below (belA (belA (belR w) _) _) hgl
  have hs : ((w.alloc (.cells #[.int .i64 2, .int .u64 (u : Int), .int .i64 i, .float .f64 f, .string s, .int .i64 m] 79)).alloc (.cells #[.int .u64 (gu : Int), .int .i64 gi, .string ⟨gt.toArray⟩, .int .i64 (gn : Int), .int .i64 (ge : Int)] 75)).cell? ⟨w.heap.size + 1, 3, none⟩ = some (.int .i64 (gn : Int)) ∧ ((w.alloc (.cells #[.int .i64 2, .int .u64 (u : Int), .int .i64 i, .float .f64 f, .string s, .int .i64 m] 79)).alloc (.cells #[.int .u64 (gu : Int), .int .i64 gi, .string ⟨gt.toArray⟩, .int .i64 (gn : Int), .int .i64 (ge : Int)] 75)).cell? ⟨w.heap.size + 1, 0, none⟩ = some (.int .u64 (gu : Int)) := ⟨by simp [go_sem], by simp [go_sem]⟩
  have HS := Lib.hid hs; clear hs
  have hc := inF_any _ g t p e hin
  obtain ⟨u1, u2, u3⟩ := hu
  rw [u1, u2] at hc
  rw [u2] at u3

  generalize hX : stepV (0 : Nat) (getF (t.drop p)).1 (nextE e ⟨gu, gi, gt, gn, ge⟩) = X at *
  have hs0 := fun W => refFSame_any 0 0 W (by decide) (by decide)
  rw [decide_eq_true (rfl : keyB 0 = keyB 0)] at hs0
  have HC := Lib.hid hc; have HX := Lib.hid hX; have HG := Lib.hid hG; have HS0 := Lib.hid hs0; clear hc u1 u2 hG hX hs0
  rcases u3 with ⟨hn, rfl⟩ | ⟨hn, hk, hX64⟩
  · have t1 : ((gn : Int) == 0) = true := by rw [hn]; rfl
    have HN := Lib.hid hn; clear hn
    go_enter Try.func36, Try.ntmps36
    go_wp2_with (go_at_call 77; (with_reducible refine HC.out.mono ?_); rintro y w1 ⟨rfl, hi1, ho1⟩; have y3 := (ho1.cell_far (by first | (simp; done) | (simp; omega)) (by simp only; omega)).trans HS.out.1; have y0 := (ho1.cell_far (by first | (simp; done) | (simp; omega)) (by simp only; omega)).trans HS.out.2)
    go_quiet ((go_at_call 69; exact qcall (HS0.out _)))
    go_wp2
    go_ret
    exact ⟨rfl, hi1.drw ⟨_, rfl⟩, ((((Only.refl g w).alloc _).alloc _).trans ho1).drewN _⟩
  · have t1 : ((gn : Int) == 0) = false := by rw [hn]; rfl
    have t2 : decide ((0 : Int) < (gn : Int)) = true := by rw [hn]; rfl
    have t2b : decide (0 < gn) = true := by rw [hn]; rfl
    have t2c : 0 < gn := by omega
    have HN := Lib.hid hn; clear hn
    have hkey := fun W => refKey_any X W hX64
    rw [hk] at hkey
    have HKEY := Lib.hid hkey; have HK := Lib.hid hk; clear hkey hk
    go_enter Try.func36, Try.ntmps36
    go_wp2_with (go_at_call 77; (with_reducible refine HC.out.mono ?_); rintro y w1 ⟨rfl, hi1, ho1⟩; have y3 := (ho1.cell_far (by first | (simp; done) | (simp; omega)) (by simp only; omega)).trans HS.out.1; have y0 := (ho1.cell_far (by first | (simp; done) | (simp; omega)) (by simp only; omega)).trans HS.out.2)
    go_quiet ((go_at_call 78; exact qcall (HKEY.out _)))
    go_wp2
    go_ret
    exact ⟨rfl, hi1.drw ⟨_, rfl⟩, ((((Only.refl g w).alloc _).alloc _).trans ho1).drewN _⟩
set_option maxRecDepth 20000 in
set_option maxHeartbeats 2000000 in
theorem lawRead4 (w : World) (g : Nat) (t : List UInt8) (p e : Nat) (a : AskS) (G : GotS) (h : InS w g t p e) (hd : a.d = 4) (hG : G = if e = 0 then rdB a.m (t.drop p) else got0S 0) (ht : t.length ≤ 1000000) (hm : a.m ≤ 9223372036854775807) :
    Calls Try.prog 36 #[.pointer (some ⟨g, 0, none⟩), .agg (askC a).toArray, G.v] w fun y w' => y = .returned (.bool true) ∧ InS w' g t (nextP e p G) (nextE e G) ∧ Only g w w' := by
  have hu := hG
  obtain ⟨d, u, i, f, s, m⟩ := a
  obtain ⟨gu, gi, gt, gn, ge⟩ := G
  simp only at hd hu hm
  subst hd
  have hgl := h.lt
  show Calls Try.prog 36 #[.pointer (some ⟨g, 0, none⟩), .agg #[.int .i64 4, .int .u64 (u : Int), .int .i64 i, .float .f64 f, .string s, .int .i64 m], .agg #[.int .u64 (gu : Int), .int .i64 gi, .string ⟨gt.toArray⟩, .int .i64 (gn : Int), .int .i64 (ge : Int)]] w _
  have hin : InS ((w.alloc (.cells #[.int .i64 4, .int .u64 (u : Int), .int .i64 i, .float .f64 f, .string s, .int .i64 m] 79)).alloc (.cells #[.int .u64 (gu : Int), .int .i64 gi, .string ⟨gt.toArray⟩, .int .i64 (gn : Int), .int .i64 (ge : Int)] 75)).drew g t p e := (h.below (belA (belA (belR w) _) _) hgl).drw ⟨1, rfl⟩
  have hs : ((w.alloc (.cells #[.int .i64 4, .int .u64 (u : Int), .int .i64 i, .float .f64 f, .string s, .int .i64 m] 79)).alloc (.cells #[.int .u64 (gu : Int), .int .i64 gi, .string ⟨gt.toArray⟩, .int .i64 (gn : Int), .int .i64 (ge : Int)] 75)).drew.cell? ⟨w.heap.size, 5, none⟩ = some (.int .i64 m) ∧ ((w.alloc (.cells #[.int .i64 4, .int .u64 (u : Int), .int .i64 i, .float .f64 f, .string s, .int .i64 m] 79)).alloc (.cells #[.int .u64 (gu : Int), .int .i64 gi, .string ⟨gt.toArray⟩, .int .i64 (gn : Int), .int .i64 (ge : Int)] 75)).drew.cell? ⟨w.heap.size + 1, 2, none⟩ = some (.string ⟨gt.toArray⟩) := ⟨by simp [go_sem], by simp [go_sem]⟩
  have HS := Lib.hid hs; clear hs
  have hc : Calls Try.prog 80 #[.pointer (some ⟨g, 0, none⟩), .int .i64 m] ((w.alloc (.cells #[.int .i64 4, .int .u64 (u : Int), .int .i64 i, .float .f64 f, .string s, .int .i64 m] 79)).alloc (.cells #[.int .u64 (gu : Int), .int .i64 gi, .string ⟨gt.toArray⟩, .int .i64 (gn : Int), .int .i64 (ge : Int)] 75)).drew fun y w' => ∃ v, y = .returned v ∧ w'.ownsRow ((w.alloc (.cells #[.int .i64 4, .int .u64 (u : Int), .int .i64 i, .float .f64 f, .string s, .int .i64 m] 79)).alloc (.cells #[.int .u64 (gu : Int), .int .i64 gi, .string ⟨gt.toArray⟩, .int .i64 (gn : Int), .int .i64 (ge : Int)] 75)).drew.heap.size 5 1 v gt.length (u8s gt) ∧
      InS w' g t (nextP e p ⟨gu, gi, gt, gn, ge⟩) (nextE e ⟨gu, gi, gt, gn, ge⟩) ∧ Only g ((w.alloc (.cells #[.int .i64 4, .int .u64 (u : Int), .int .i64 i, .float .f64 f, .string s, .int .i64 m] 79)).alloc (.cells #[.int .u64 (gu : Int), .int .i64 gi, .string ⟨gt.toArray⟩, .int .i64 (gn : Int), .int .i64 (ge : Int)] 75)).drew w' := by
    by_cases he : e = 0
    · subst he
      rw [if_pos rfl] at hu
      have := inB_ok _ g t p m hin ht hm
      rw [← hu] at this
      exact this
    · rw [if_neg he] at hu
      refine (inB_bad _ g t p e m hin he).mono ?_
      rintro y w' ⟨rfl, rfl⟩
      unfold got0S at hu
      simp only [GotS.mk.injEq] at hu
      obtain ⟨_, _, rfl, _, _⟩ := hu
      refine ⟨_, rfl, World.ownsRow_nil _ _ _ 1, ?_, Only.refl _ _⟩
      unfold nextP nextE
      rw [if_neg he, if_neg he]
      exact hin
  have HC := Lib.hid hc; have HU := Lib.hid hu; have HG := Lib.hid hG; clear hc hu hG
  go_enter Try.func36, Try.ntmps36
  go_wp2_with fail
  go_region_held (fun W => W.cell? ⟨w.heap.size, 5, none⟩ = some (.int .i64 m) ∧ W.cell? ⟨w.heap.size + 1, 2, none⟩ = some (.string ⟨gt.toArray⟩)) (first | (with_reducible exact HS.out) | (exact ⟨(ho1.cell_far (by first | (simp; done) | (simp; omega)) (by simp only; omega)).trans HS.out.1, (ho1.cell_far (by first | (simp; done) | (simp; omega)) (by simp only; omega)).trans HS.out.2⟩))
    (first | (go_at_call 80; (with_reducible refine HC.out.mono ?_); rintro y w1 ⟨v1, rfl, hv1, hi1, ho1⟩; have hcv1 := run_str_own (P := Try.prog) (src := 36) (dst := 9) hv1 Try.underlying36 Try.underlying5 Try.underlying9))
  go_wp2
  go_ret
  exact ⟨rfl, hi1, (((Only.refl g w).alloc _).alloc _).drew.trans ho1⟩
end Go.Proofs.Ytpnolgghbenekaa
