/-
  bushelref08.Read (U), bushelref11.Reader: Ask, U, End.
-/
import Derived.Test.YtpnolgghbenekaaRefGetU
import Derived.Test.YtpnolgghbenekaaBufInU
import Derived.StillTailTactics
namespace Go.Proofs.Ytpnolgghbenekaa
open Go.ChangeShapes Go.WideShapes Go.ChangeAt Go.RowKit
set_option linter.unusedVariables false

/-- THE DOCUMENT's READER AT BLOCK g: its bytes, its place, its fault -/
def RdS (w : World) (g : Nat) (t : List UInt8) (p e : Nat) : Prop :=
  ∃ A c, Blk w g 113 #[.slice A t.length c, .int .i64 (p : Int), .int .i64 (e : Int)] ∧ Rd w g 1 A t.length (u8s t) ∧ t.length ≤ c ∧ c ≤ maxLen ∧ p ≤ t.length
section
variable {w w' : World} {g p e : Nat} {t : List UInt8}
theorem RdS.lt (h : RdS w g t p e) : g < w.heap.size := by obtain ⟨A, c, hb, _⟩ := h; exact hb.lt
theorem RdS.drw (h : RdS w g t p e) (k : Drw w w') : RdS w' g t p e := by
  obtain ⟨n, rfl⟩ := k; exact h
theorem RdS.below {B : Nat} (h : RdS w g t p e) (hb : Below B w w') (hg : g < B) : RdS w' g t p e := by
  obtain ⟨A, c, h1, h2, h3⟩ := h
  exact ⟨A, c, h1.below hb hg, h2.keep fun q hq => hb.cell (by omega), h3⟩
theorem RdS.bad (h : RdS w g t p e) (e' : Nat) : RdS (w.setCell ⟨g, 2, none⟩ (.int .i64 (e' : Int))) g t p e' := by
  obtain ⟨A, c, hb, hR, r⟩ := h
  have := hb.set_ 2 (.int .i64 (e' : Int))
  exact ⟨A, c, by simpa using this, hR.keep fun q hq => World.cell?_setCell_other w _ q _ (fun e => by subst e; simp at hq), r⟩
theorem RdS.move (h : RdS w g t p e) (p' : Nat) (hp : p' ≤ t.length) : RdS (w.setCell ⟨g, 1, none⟩ (.int .i64 (p' : Int))) g t p' e := by
  obtain ⟨A, c, hb, hR, h1, h2, h3⟩ := h
  have := hb.set_ 1 (.int .i64 (p' : Int))
  exact ⟨A, c, by simpa using this, hR.keep fun q hq => World.cell?_setCell_other w _ q _ (fun e => by subst e; simp at hq), h1, h2, hp⟩
end

/-- three new blocks, and some draws -/
def Lit3 (w w' : World) : Prop := ∃ c1 t1 c2 t2 c3 t3 k, w' = (((w.alloc (.cells c1 t1)).alloc (.cells c2 t2)).alloc (.cells c3 t3)).drewN k
theorem Lit3.below {w w' : World} (h : Lit3 w w') : Below w.heap.size w w' := by
  obtain ⟨_, _, _, _, _, _, k, rfl⟩ := h; exact belD (belA (belA (belA (belR w) _) _) _) k
set_option maxHeartbeats 400000 in
theorem refReadU_any (most : Nat) (A : Option Addr) (m c B : Nat) (t : List UInt8) (w : World) (h : Rd w B 1 A m (u8s t)) (hc : m ≤ maxLen) (hB : B ≤ w.heap.size) (k : Nat) (hk : k = stepE 0 (getU t).2.2 (overE (getU t).1 most)) :
    Calls Try.prog 35 #[.agg #[.int .i64 0, .int .u64 (most : Int), .int .i64 0, .float .f64 0, .string ⟨#[]⟩, .int .i64 0], .slice A m c] w
      fun y w' => y = .returned (.agg #[.int .u64 ((stepV 0 (getU t).1 k : Nat) : Int), .int .i64 0, .string ⟨#[]⟩, .int .i64 ((stepV 0 (getU t).2.1 k : Nat) : Int), .int .i64 (k : Int)]) ∧ Lit3 w w' := by
  have hg := fun (W : World) (hb : Below w.heap.size w W) => refGetU_any A m c B t W (h.keep fun q hq => hb.cell (by omega)) hc
  generalize getU t = r at *
  obtain ⟨x, n, er⟩ := r
  simp only at hg hk ⊢
  have sd := sdN; have ad := adN
  have HG := Lib.hid hg; have H := Lib.hid h; clear hg h
  by_cases h1 : er = 0
  · subst h1
    by_cases h2 : most < x
    · obtain rfl : k = 2 := by rw [hk]; unfold stepE overE; rw [if_neg (by omega), if_neg (by omega), if_pos h2]
      have e1 : stepV 0 x 2 = 0 := rfl
      have e2 : stepV 0 n 2 = 0 := rfl
      rw [e1, e2]
      clear e1 e2 hk
      go_enter Try.func35, Try.ntmps35
      go_wp2_with (go_at_call 72; (with_reducible refine (HG.out _ ?_).mono ?_); exact belA (belA (belA (belR w) _) _) _; rintro y w1 ⟨rfl, k1, rfl⟩)
      exact bodyPost_ret (v := .agg #[.int .u64 0, .int .i64 0, .string ⟨#[]⟩, .int .i64 0, .int .i64 2]) (by simp [results, Try.results35, go_sem]) rfl ⟨rfl, ⟨_, _, _, _, _, _, _, rfl⟩⟩
    · obtain rfl : k = 0 := by rw [hk]; unfold stepE overE; rw [if_neg (by omega), if_neg (by omega), if_neg h2]
      have e1 : stepV 0 x 0 = x := rfl
      have e2 : stepV 0 n 0 = n := rfl
      rw [e1, e2]
      clear e1 e2 hk
      go_enter Try.func35, Try.ntmps35
      go_wp2_with (go_at_call 72; (with_reducible refine (HG.out _ ?_).mono ?_); exact belA (belA (belA (belR w) _) _) _; rintro y w1 ⟨rfl, k1, rfl⟩)
      exact bodyPost_ret (v := .agg #[.int .u64 (x : Int), .int .i64 0, .string ⟨#[]⟩, .int .i64 (n : Int), .int .i64 0]) (by simp [results, Try.results35, go_sem]) rfl ⟨rfl, ⟨_, _, _, _, _, _, _, rfl⟩⟩
  · obtain rfl : k = er := by rw [hk]; unfold stepE; rw [if_neg (by omega), if_pos h1]
    have e1 : stepV 0 x k = 0 := if_neg h1
    have e2 : stepV 0 n k = 0 := if_neg h1
    rw [e1, e2]
    have t1 : ((k : Int) == 0) = false := by rw [beq_eq_false_iff_ne]; omega
    have t2 : ((k : Int) != 0) = true := by rw [bne_iff_ne]; omega
    clear e1 e2 hk
    have H1 := Lib.hid h1; clear h1
    go_enter Try.func35, Try.ntmps35
    go_wp2_with (go_at_call 72; (with_reducible refine (HG.out _ ?_).mono ?_); exact belA (belA (belA (belR w) _) _) _; rintro y w1 ⟨rfl, k1, rfl⟩)
    exact bodyPost_ret (v := .agg #[.int .u64 0, .int .i64 0, .string ⟨#[]⟩, .int .i64 0, .int .i64 (k : Int)]) (by simp [results, Try.results35, go_sem]) rfl ⟨rfl, ⟨_, _, _, _, _, _, _, rfl⟩⟩

theorem ask_keep {W W' : World} {g s mu f : Nat} {d ai ms : Int} {at_ : ByteArray} {v0 v1 : Value} {n : Nat} (hg : g < s) (hb : Below n W W') (hn : s + 2 ≤ n) (h : W.cell? ⟨s, 0, none⟩ = some (.int .i64 d) ∧ W.cell? ⟨s, 1, none⟩ = some (.int .u64 (mu : Int)) ∧ W.cell? ⟨s, 2, none⟩ = some (.int .i64 ai) ∧ W.cell? ⟨s, 3, none⟩ = some (.float .f64 f) ∧ W.cell? ⟨s, 4, none⟩ = some (.string at_) ∧ W.cell? ⟨s, 5, none⟩ = some (.int .i64 ms) ∧ W.cell? ⟨g, 0, none⟩ = some v0 ∧ W.cell? ⟨g, 1, none⟩ = some v1 ∧ s + 2 ≤ W.heap.size) :
    W'.cell? ⟨s, 0, none⟩ = some (.int .i64 d) ∧ W'.cell? ⟨s, 1, none⟩ = some (.int .u64 (mu : Int)) ∧ W'.cell? ⟨s, 2, none⟩ = some (.int .i64 ai) ∧ W'.cell? ⟨s, 3, none⟩ = some (.float .f64 f) ∧ W'.cell? ⟨s, 4, none⟩ = some (.string at_) ∧ W'.cell? ⟨s, 5, none⟩ = some (.int .i64 ms) ∧ W'.cell? ⟨g, 0, none⟩ = some v0 ∧ W'.cell? ⟨g, 1, none⟩ = some v1 ∧ s + 2 ≤ W'.heap.size := by
  obtain ⟨h0, h1, h2, h3, h4, h5, h6, h7, hz⟩ := h
  have k := hb.size
  exact ⟨(hb.cell (by simp only; omega)).trans h0, (hb.cell (by simp only; omega)).trans h1, (hb.cell (by simp only; omega)).trans h2, (hb.cell (by simp only; omega)).trans h3, (hb.cell (by simp only; omega)).trans h4, (hb.cell (by simp only; omega)).trans h5, (hb.cell (by simp only; omega)).trans h6, (hb.cell (by simp only; omega)).trans h7, by omega⟩
theorem ask_keepS {W : World} {g s mu f : Nat} {d ai ms : Int} {at_ : ByteArray} {v0 v1 : Value} {p : Addr} {u : Value} (hg : g < s) (hp : s + 2 ≤ p.block) (h : W.cell? ⟨s, 0, none⟩ = some (.int .i64 d) ∧ W.cell? ⟨s, 1, none⟩ = some (.int .u64 (mu : Int)) ∧ W.cell? ⟨s, 2, none⟩ = some (.int .i64 ai) ∧ W.cell? ⟨s, 3, none⟩ = some (.float .f64 f) ∧ W.cell? ⟨s, 4, none⟩ = some (.string at_) ∧ W.cell? ⟨s, 5, none⟩ = some (.int .i64 ms) ∧ W.cell? ⟨g, 0, none⟩ = some v0 ∧ W.cell? ⟨g, 1, none⟩ = some v1 ∧ s + 2 ≤ W.heap.size) :
    (W.setCell p u).cell? ⟨s, 0, none⟩ = some (.int .i64 d) ∧ (W.setCell p u).cell? ⟨s, 1, none⟩ = some (.int .u64 (mu : Int)) ∧ (W.setCell p u).cell? ⟨s, 2, none⟩ = some (.int .i64 ai) ∧ (W.setCell p u).cell? ⟨s, 3, none⟩ = some (.float .f64 f) ∧ (W.setCell p u).cell? ⟨s, 4, none⟩ = some (.string at_) ∧ (W.setCell p u).cell? ⟨s, 5, none⟩ = some (.int .i64 ms) ∧ (W.setCell p u).cell? ⟨g, 0, none⟩ = some v0 ∧ (W.setCell p u).cell? ⟨g, 1, none⟩ = some v1 ∧ s + 2 ≤ (W.setCell p u).heap.size :=
  ask_keep hg ((Below.refl (s + 2) W).setCell hp u) (Nat.le_refl _) h
theorem bel_lit3 (W : World) (a b c : Obj) (k : Nat) : Below W.heap.size W ((((W.alloc a).alloc b).alloc c).drewN k) := belD (belA (belA (belA (belR _) _) _) _) _
theorem bel_lit4 (W : World) (a b c d : Obj) (k : Nat) : Below W.heap.size W (((((W.alloc a).alloc b).alloc c).alloc d).drewN k) := belD (belA (belA (belA (belA (belR _) _) _) _) _) _
theorem ask_end {w w2 : World} {g p e : Nat} {t : List UInt8} (h : RdS w2 g t p e) (ho : Only g w w2) (a b c d x y : Obj) (k : Nat) :
    RdS ((((((((w2.alloc a).alloc b).alloc c).alloc d).alloc x).alloc y).drewN k)) g t p e ∧ Only g w ((((((((w2.alloc a).alloc b).alloc c).alloc d).alloc x).alloc y).drewN k)) := by
  have hb := belD (belA (belA (belA (belA (belA (belA (belR w2) a) b) c) d) x) y) k
  exact ⟨h.below hb h.lt, ho.belowT hb⟩
theorem ask_start {w : World} {g mu f : Nat} {d ai ms : Int} {at_ : ByteArray} {v0 v1 : Value} {T : TypeId} {o : Obj} (hg : g < w.heap.size) (h0 : w.cell? ⟨g, 0, none⟩ = some v0) (h1 : w.cell? ⟨g, 1, none⟩ = some v1) :
    ((w.alloc (.cells #[.int .i64 d, .int .u64 (mu : Int), .int .i64 ai, .float .f64 f, .string at_, .int .i64 ms] T)).alloc o).drew.cell? ⟨w.heap.size, 0, none⟩ = some (.int .i64 d) ∧ ((w.alloc (.cells #[.int .i64 d, .int .u64 (mu : Int), .int .i64 ai, .float .f64 f, .string at_, .int .i64 ms] T)).alloc o).drew.cell? ⟨w.heap.size, 1, none⟩ = some (.int .u64 (mu : Int)) ∧ ((w.alloc (.cells #[.int .i64 d, .int .u64 (mu : Int), .int .i64 ai, .float .f64 f, .string at_, .int .i64 ms] T)).alloc o).drew.cell? ⟨w.heap.size, 2, none⟩ = some (.int .i64 ai) ∧ ((w.alloc (.cells #[.int .i64 d, .int .u64 (mu : Int), .int .i64 ai, .float .f64 f, .string at_, .int .i64 ms] T)).alloc o).drew.cell? ⟨w.heap.size, 3, none⟩ = some (.float .f64 f) ∧ ((w.alloc (.cells #[.int .i64 d, .int .u64 (mu : Int), .int .i64 ai, .float .f64 f, .string at_, .int .i64 ms] T)).alloc o).drew.cell? ⟨w.heap.size, 4, none⟩ = some (.string at_) ∧ ((w.alloc (.cells #[.int .i64 d, .int .u64 (mu : Int), .int .i64 ai, .float .f64 f, .string at_, .int .i64 ms] T)).alloc o).drew.cell? ⟨w.heap.size, 5, none⟩ = some (.int .i64 ms) ∧ ((w.alloc (.cells #[.int .i64 d, .int .u64 (mu : Int), .int .i64 ai, .float .f64 f, .string at_, .int .i64 ms] T)).alloc o).drew.cell? ⟨g, 0, none⟩ = some v0 ∧ ((w.alloc (.cells #[.int .i64 d, .int .u64 (mu : Int), .int .i64 ai, .float .f64 f, .string at_, .int .i64 ms] T)).alloc o).drew.cell? ⟨g, 1, none⟩ = some v1 ∧ w.heap.size + 2 ≤ ((w.alloc (.cells #[.int .i64 d, .int .u64 (mu : Int), .int .i64 ai, .float .f64 f, .string at_, .int .i64 ms] T)).alloc o).drew.heap.size := by
  have hb := belA (belA (belR w) (.cells #[.int .i64 d, .int .u64 (mu : Int), .int .i64 ai, .float .f64 f, .string at_, .int .i64 ms] T)) o
  have B := (Blk.new w T #[.int .i64 d, .int .u64 (mu : Int), .int .i64 ai, .float .f64 f, .string at_, .int .i64 ms]).alloc o
  exact ⟨(B.cell 0).trans rfl, (B.cell 1).trans rfl, (B.cell 2).trans rfl, (B.cell 3).trans rfl, (B.cell 4).trans rfl, (B.cell 5).trans rfl, (hb.cell (by simp only; omega)).trans h0, (hb.cell (by simp only; omega)).trans h1, by simp⟩
set_option maxHeartbeats 400000 in
set_option maxRecDepth 20000 in
/-- an ask of a reader without a fault (the contract of Read as a hypothesis) -/
theorem ask_go (w : World) (g : Nat) (t : List UInt8) (p : Nat) (d : Int) (mu : Nat) (ai : Int) (f : Nat) (at_ : ByteArray) (ms : Int) (u : Nat) (i : Int) (s : ByteArray) (n k : Nat) (h : RdS w g t p 0)
    (hr : ∀ (W : World) A c, g ≤ W.heap.size → Rd W g 1 A (t.length - p) (u8s (t.drop p)) → t.length - p ≤ c → c ≤ maxLen →
      Calls Try.prog 35 #[.agg #[.int .i64 d, .int .u64 (mu : Int), .int .i64 ai, .float .f64 f, .string at_, .int .i64 ms], .slice A (t.length - p) c] W fun y w' => y = .returned (.agg #[.int .u64 (u : Int), .int .i64 i, .string s, .int .i64 (n : Int), .int .i64 (k : Int)]) ∧ Lit3 W w')
    (hfit : n ≤ t.length - p) :
    Calls Try.prog 95 #[.pointer (some ⟨g, 0, none⟩), .agg #[.int .i64 d, .int .u64 (mu : Int), .int .i64 ai, .float .f64 f, .string at_, .int .i64 ms]] w
      fun y w' => y = .returned (.agg #[.int .u64 (u : Int), .int .i64 i, .string s, .int .i64 (n : Int), .int .i64 (k : Int)]) ∧ RdS w' g t (p + n) k ∧ Only g w w' := by
  have sd := sdN; have ad := adN
  have hh := h
  have HH := Lib.hid hh; clear hh
  have hgl := h.lt
  have g1 : g < w.heap.size + 1 := by omega
  have g2 : g < w.heap.size + 1 + 1 := by omega
  have g3 : g < w.heap.size + 1 + 1 + 1 := by omega
  have g4 : g < w.heap.size + 1 + 1 + 1 + 1 := by omega
  have g5 : g < w.heap.size + 1 + 1 + 1 + 1 + 1 := by omega
  have g6 : g < w.heap.size + 1 + 1 + 1 + 1 + 1 + 1 := by omega
  obtain ⟨A, c, hb, hR, h1, h2, h3⟩ := h
  have b0 := hb.cell 0; have b1 := hb.cell 1; have b2 := hb.cell 2
  have f1 := hb.frozen 1; have f2 := hb.frozen 2
  simp at b0 b1 b2
  have h2' := h2; unfold maxLen at h2'
  obtain ⟨A', hsl, hR'⟩ := slice_from Try.underlying36 elu8 szu8 hR h3 h1
  have hst := ask_start (d := d) (mu := mu) (ai := ai) (f := f) (at_ := at_) (ms := ms) (T := 79) (o := .cells #[.int .u64 0, .int .i64 0, .string ⟨#[]⟩, .int .i64 0, .int .i64 0] 75) hgl b0 b1
  have hbel : Below w.heap.size w ((w.alloc (.cells #[.int .i64 d, .int .u64 (mu : Int), .int .i64 ai, .float .f64 f, .string at_, .int .i64 ms] 79)).alloc (.cells #[.int .u64 0, .int .i64 0, .string ⟨#[]⟩, .int .i64 0, .int .i64 0] 75)).drew := (belA (belA (belR w) _) _).drew
  have hbel2 : Below w.heap.size w (((w.alloc (.cells #[.int .i64 d, .int .u64 (mu : Int), .int .i64 ai, .float .f64 f, .string at_, .int .i64 ms] 79)).alloc (.cells #[.int .u64 0, .int .i64 0, .string ⟨#[]⟩, .int .i64 0, .int .i64 0] 75)).alloc (.cells #[.int .u64 0, .int .i64 0, .string ⟨#[]⟩, .int .i64 0, .int .i64 0] 75)).drew := (belA (belA (belA (belR w) _) _) _).drew
  have hblk2 : Blk (((w.alloc (.cells #[.int .i64 d, .int .u64 (mu : Int), .int .i64 ai, .float .f64 f, .string at_, .int .i64 ms] 79)).alloc (.cells #[.int .u64 0, .int .i64 0, .string ⟨#[]⟩, .int .i64 0, .int .i64 0] 75)).alloc (.cells #[.int .u64 0, .int .i64 0, .string ⟨#[]⟩, .int .i64 0, .int .i64 0] 75)).drew (w.heap.size + 1 + 1) 75 #[.int .u64 0, .int .i64 0, .string ⟨#[]⟩, .int .i64 0, .int .i64 0] := by
    have := (Blk.new ((w.alloc (.cells #[.int .i64 d, .int .u64 (mu : Int), .int .i64 ai, .float .f64 f, .string at_, .int .i64 ms] 79)).alloc (.cells #[.int .u64 0, .int .i64 0, .string ⟨#[]⟩, .int .i64 0, .int .i64 0] 75)) 75 #[.int .u64 0, .int .i64 0, .string ⟨#[]⟩, .int .i64 0, .int .i64 0]).drew
    simp only [World.size_alloc] at this
    exact this
  have hst0 : ((w.alloc (.cells #[.int .i64 d, .int .u64 (mu : Int), .int .i64 ai, .float .f64 f, .string at_, .int .i64 ms] 79)).alloc (.cells #[.int .u64 0, .int .i64 0, .string ⟨#[]⟩, .int .i64 0, .int .i64 0] 75)).cell? ⟨w.heap.size, 0, none⟩ = some (.int .i64 d) ∧ ((w.alloc (.cells #[.int .i64 d, .int .u64 (mu : Int), .int .i64 ai, .float .f64 f, .string at_, .int .i64 ms] 79)).alloc (.cells #[.int .u64 0, .int .i64 0, .string ⟨#[]⟩, .int .i64 0, .int .i64 0] 75)).cell? ⟨w.heap.size, 1, none⟩ = some (.int .u64 (mu : Int)) ∧ ((w.alloc (.cells #[.int .i64 d, .int .u64 (mu : Int), .int .i64 ai, .float .f64 f, .string at_, .int .i64 ms] 79)).alloc (.cells #[.int .u64 0, .int .i64 0, .string ⟨#[]⟩, .int .i64 0, .int .i64 0] 75)).cell? ⟨w.heap.size, 2, none⟩ = some (.int .i64 ai) ∧ ((w.alloc (.cells #[.int .i64 d, .int .u64 (mu : Int), .int .i64 ai, .float .f64 f, .string at_, .int .i64 ms] 79)).alloc (.cells #[.int .u64 0, .int .i64 0, .string ⟨#[]⟩, .int .i64 0, .int .i64 0] 75)).cell? ⟨w.heap.size, 3, none⟩ = some (.float .f64 f) ∧ ((w.alloc (.cells #[.int .i64 d, .int .u64 (mu : Int), .int .i64 ai, .float .f64 f, .string at_, .int .i64 ms] 79)).alloc (.cells #[.int .u64 0, .int .i64 0, .string ⟨#[]⟩, .int .i64 0, .int .i64 0] 75)).cell? ⟨w.heap.size, 4, none⟩ = some (.string at_) ∧ ((w.alloc (.cells #[.int .i64 d, .int .u64 (mu : Int), .int .i64 ai, .float .f64 f, .string at_, .int .i64 ms] 79)).alloc (.cells #[.int .u64 0, .int .i64 0, .string ⟨#[]⟩, .int .i64 0, .int .i64 0] 75)).cell? ⟨w.heap.size, 5, none⟩ = some (.int .i64 ms) ∧ ((w.alloc (.cells #[.int .i64 d, .int .u64 (mu : Int), .int .i64 ai, .float .f64 f, .string at_, .int .i64 ms] 79)).alloc (.cells #[.int .u64 0, .int .i64 0, .string ⟨#[]⟩, .int .i64 0, .int .i64 0] 75)).cell? ⟨g, 0, none⟩ = some (.slice A t.length c) ∧ ((w.alloc (.cells #[.int .i64 d, .int .u64 (mu : Int), .int .i64 ai, .float .f64 f, .string at_, .int .i64 ms] 79)).alloc (.cells #[.int .u64 0, .int .i64 0, .string ⟨#[]⟩, .int .i64 0, .int .i64 0] 75)).cell? ⟨g, 1, none⟩ = some (.int .i64 (p : Int)) ∧ w.heap.size + 2 ≤ ((w.alloc (.cells #[.int .i64 d, .int .u64 (mu : Int), .int .i64 ai, .float .f64 f, .string at_, .int .i64 ms] 79)).alloc (.cells #[.int .u64 0, .int .i64 0, .string ⟨#[]⟩, .int .i64 0, .int .i64 0] 75)).heap.size := hst
  have hst2 := ask_keep hgl ((keep_lit ((w.alloc (.cells #[.int .i64 d, .int .u64 (mu : Int), .int .i64 ai, .float .f64 f, .string at_, .int .i64 ms] 79)).alloc (.cells #[.int .u64 0, .int .i64 0, .string ⟨#[]⟩, .int .i64 0, .int .i64 0] 75)) (.cells #[.int .u64 0, .int .i64 0, .string ⟨#[]⟩, .int .i64 0, .int .i64 0] 75)).drew) (by simp) hst
  have hc := fun (W : World) (hW : Below w.heap.size w W) => hr W A' (c - p) (by have := hW.size; omega) (hR'.keep fun q hq => hW.cell (by omega)) (by omega) (by omega)
  have HR := Lib.hid hR; have HR' := Lib.hid hR'; have HB := Lib.hid hb; have HC := Lib.hid hc; have HST := Lib.hid hst; have HBEL := Lib.hid hbel; have HBEL2 := Lib.hid hbel2; have HBLK2 := Lib.hid hblk2; have HST2 := Lib.hid hst2; have HST0 := Lib.hid hst0; clear hst0 hst2 hb hR hr hR' hc hst hbel hbel2 hblk2
  go_enter Try.func95, Try.ntmps95
  go_wp2_with fail
  go_region_held3 (fun W => W.cell? ⟨w.heap.size, 0, none⟩ = some (.int .i64 d) ∧ W.cell? ⟨w.heap.size, 1, none⟩ = some (.int .u64 (mu : Int)) ∧ W.cell? ⟨w.heap.size, 2, none⟩ = some (.int .i64 ai) ∧ W.cell? ⟨w.heap.size, 3, none⟩ = some (.float .f64 f) ∧ W.cell? ⟨w.heap.size, 4, none⟩ = some (.string at_) ∧ W.cell? ⟨w.heap.size, 5, none⟩ = some (.int .i64 ms) ∧ W.cell? ⟨g, 0, none⟩ = some (.slice A t.length c) ∧ W.cell? ⟨g, 1, none⟩ = some (.int .i64 (p : Int)) ∧ w.heap.size + 2 ≤ W.heap.size)
    (first | (with_reducible exact HST.out) | (with_reducible exact HST2.out) | (with_reducible assumption) | (with_reducible refine ask_keep hgl (bel_lit3 _ _ _ _ _) ?_ HST0.out; (first | (simp; done) | (simp; omega))) | (with_reducible refine ask_keep hgl (bel_lit4 _ _ _ _ _ _) ?_ HST0.out; (first | (simp; done) | (simp; omega))))
    (first
      | (go_at_call 35; (with_reducible refine (HC.out _ ?_).mono ?_); (first | (with_reducible exact HBEL.out) | (with_reducible exact HBEL2.out)); rintro y w1 ⟨rfl, c1, t1, c2, t2, c3, t3, k1, rfl⟩))
  all_goals
    go_wp2
    go_region
    go_wp2
    refine bodyPost_ret (v := .agg #[.int .u64 (u : Int), .int .i64 i, .string s, .int .i64 (n : Int), .int .i64 (k : Int)]) (by simp [results, Try.results95, go_sem]) rfl ⟨rfl, ?_⟩
    have hm := (HH.out.bad k).move (p + n) (by omega)
    rw [show ((p + n : Nat) : Int) = (p : Int) + (n : Int) from by omega] at hm
    have ho := ((Only.refl g w).set_ (p := ⟨g, 2, none⟩) (.inl rfl) (.int .i64 (k : Int))).set_ (p := ⟨g, 1, none⟩) (.inl rfl) (.int .i64 ((p : Int) + (n : Int)))
    exact ask_end hm ho _ _ _ _ _ _ _
/-- an ask behind a fault -/
theorem ask_no (w : World) (g : Nat) (t : List UInt8) (p e : Nat) (d : Int) (mu : Nat) (ai : Int) (f : Nat) (at_ : ByteArray) (ms : Int) (h : RdS w g t p e) (he : e ≠ 0) :
    Calls Try.prog 95 #[.pointer (some ⟨g, 0, none⟩), .agg #[.int .i64 d, .int .u64 (mu : Int), .int .i64 ai, .float .f64 f, .string at_, .int .i64 ms]] w
      fun y w' => y = .returned (.agg #[.int .u64 0, .int .i64 0, .string ⟨#[]⟩, .int .i64 0, .int .i64 0]) ∧ RdS w' g t p e ∧ Below w.heap.size w w' := by
  have hgl := h.lt
  have H := Lib.hid h
  obtain ⟨A, c, hb, hR, h1, h2, h3⟩ := h
  have b2 := hb.cell 2
  simp at b2
  have t1 : ((e : Int) != 0) = true := by rw [bne_iff_ne]; omega
  have HB := Lib.hid hb; have HR := Lib.hid hR; have HE := Lib.hid he; clear hb hR he
  go_enter Try.func95, Try.ntmps95
  go_wp2
  exact bodyPost_ret (v := .agg #[.int .u64 0, .int .i64 0, .string ⟨#[]⟩, .int .i64 0, .int .i64 0]) (by simp [results, Try.results95, go_sem]) rfl ⟨rfl, H.out.below (belA (belA (belR w) _) _) hgl, belA (belA (belR w) _) _⟩
end Go.Proofs.Ytpnolgghbenekaa
