/-
  bushellaw39.SpacePages answers true for any schema, any list of cells and any tables, and leaves them as they were.
  Conditions: none beyond the statement's own.
-/
import Derived.Laws.BitsAllLaws
import Derived.Deep.LoopGhost
import Derived.Deep.DeepCutAuto
import Derived.Deep.RegionLawGrows
import Derived.IntWalk
import Derived.Test.YtfhmaincnlaapaaSpBufInU
import Derived.Test.YtfhmaincnlaapaaSpRefRead
import Derived.Test.YtfhmaincnlaapaaSpBufSmall
import Derived.Test.YtfhmaincnlaapaaSpRefLight
import Derived.Test.YtfhmaincnlaapaaSpExactHead
import Derived.Test.YtfhmaincnlaapaaSpRefKeys
import Derived.Test.YtfhmaincnlaapaaSpPagesW
import Derived.Test.YtfhmaincnlaapaaSpSpaceAll
namespace Go.Proofs.Ytfhmaincnlaapaa
open Go.ChangeShapes Go.WideShapes Go.ChangeAt Go.RowKit
set_option linter.unusedVariables false

/-- a block that is known whole, read as elements -/
theorem rd_blk {w : World} {g B size n : Nat} {t : TypeId} {xs : List Value} (h : Blk w g t xs.toArray) (hg : g < B) (hn : xs.length = n * size) : Rd w B size (some ⟨g, 0, none⟩) n xs :=
  ⟨hn, fun _ => ⟨_, rfl, hg, fun j u hu => by
    have hadd : (⟨g, 0, none⟩ : Addr).add j = ⟨g, j, none⟩ := by unfold Addr.add; split <;> simp_all
    rw [hadd, h.cell j]
    simpa using hu⟩⟩
theorem blk_at (w : World) (n : Nat) (t : TypeId) (cs : Array Value) (h : w.heap.size = n) : Blk (w.alloc (.cells cs t)) n t cs := h ▸ Blk.new w t cs
end Go.Proofs.Ytfhmaincnlaapaa
namespace Go.Proofs.Ytfhmaincnlaapaa
open Go.ChangeShapes Go.WideShapes Go.ChangeAt Go.RowKit
set_option linter.unusedVariables false

def lightF (F : FactS) : Bool := decide (F.codes.length ≤ 20) && decide (F.ints.length ≤ 20) && decide (F.nums.length ≤ 20)
def lightFs (l : List FactS) : Bool := l.all lightF
def lightTo (l : List FactS) (k : Nat) : Prop := ∀ j (hj : j < l.length), j < k → lightF l[j] = true
theorem lightTo.snoc {l : List FactS} {k : Nat} (h : lightTo l k) (hk : k < l.length) (hx : lightF l[k] = true) : lightTo l (k + 1) := fun j hj hjk => by
  by_cases e : j = k
  · subst e; exact hx
  · exact h j hj (by omega)
theorem lightTo.all {l : List FactS} (h : lightTo l l.length) : lightFs l = true := by
  unfold lightFs; rw [List.all_eq_true]
  intro x hx
  obtain ⟨j, hj, rfl⟩ := List.getElem_of_mem hx
  exact h j hj hj
end Go.Proofs.Ytfhmaincnlaapaa
namespace Go.Proofs.Ytfhmaincnlaapaa
open Go.ChangeShapes Go.WideShapes Go.ChangeAt Go.RowKit
set_option linter.unusedVariables false

end Go.Proofs.Ytfhmaincnlaapaa
namespace Go.Proofs.Ytfhmaincnlaapaa
open Go.ChangeShapes Go.WideShapes Go.ChangeAt Go.RowKit
set_option linter.unusedVariables false

/-- a fact that is being read -/
structure OneRel (w wr : World) (g : Nat) (t : List UInt8) (SV : Array Value) (v0 v1 v2 : Value) (a b : List Int) (c : List Nat) (p e : Nat) : Prop where
  s : Blk wr w.heap.size 26 SV
  r : Blk wr (w.heap.size + 1) 79 #[.slice none 0 0, .slice none 0 0, .slice none 0 0]
  f : Blk wr (w.heap.size + 1 + 1) 79 #[v0, v1, v2]
  o0 : wr.ownsRow (w.heap.size + 1 + 1 + 1) 3 1 v0 a.length (i64s a)
  o1 : wr.ownsRow (w.heap.size + 1 + 1 + 1) 2 1 v1 b.length (i64s b)
  o2 : wr.ownsRow (w.heap.size + 1 + 1 + 1) 115 1 v2 c.length (f64s c)
  i : InS wr g t p e
  n : Only g w wr
section
variable {w wr w2 w3 : World} {g : Nat} {t : List UInt8} {SV : Array Value} {v0 v1 v2 v' : Value} {a b : List Int} {c : List Nat} {p e p' e' : Nat}
theorem OneRel.lt (h : OneRel w wr g t SV v0 v1 v2 a b c p e) : w.heap.size + 1 + 1 + 1 ≤ wr.heap.size := h.f.lt
theorem OneRel.drew (h : OneRel w wr g t SV v0 v1 v2 a b c p e) : OneRel w wr.drew g t SV v0 v1 v2 a b c p e :=
  ⟨h.s, h.r, h.f, own_drewN h.o0 1, own_drewN h.o1 1, own_drewN h.o2 1, h.i, h.n.drew⟩
theorem OneRel.alloc (h : OneRel w wr g t SV v0 v1 v2 a b c p e) (o : Obj) : OneRel w (wr.alloc o) g t SV v0 v1 v2 a b c p e :=
  ⟨h.s.alloc o, h.r.alloc o, h.f.alloc o, h.o0.alloc o, h.o1.alloc o, h.o2.alloc o, h.i.below (belA (belR wr) o) h.i.lt, h.n.alloc o⟩
theorem own_far {w : World} {base n g : Nat} {e : TypeId} {size : Nat} {v : Value} {xs : List Value} (h : w.ownsRow base e size v n xs) (hg : g < base) : v.ownBlock ≠ some g := fun he => by have := (h.lt g he).1; omega
theorem OneRel.only (h : OneRel w wr g t SV v0 v1 v2 a b c p e) (hg : g < w.heap.size) (k : Only g wr w2) (hi : InS w2 g t p' e') : OneRel w w2 g t SV v0 v1 v2 a b c p' e' :=
  ⟨k.blk h.s (by omega), k.blk h.r (by omega), k.blk h.f (by omega), k.own h.o0 (own_far h.o0 (by omega)), k.own h.o1 (own_far h.o1 (by omega)), k.own h.o2 (own_far h.o2 (by omega)), hi, h.n.trans k⟩
end
end Go.Proofs.Ytfhmaincnlaapaa
namespace Go.Proofs.Ytfhmaincnlaapaa
open Go.ChangeShapes Go.WideShapes Go.ChangeAt Go.RowKit
set_option linter.unusedVariables false

def secN (x : Int) : Int := if x < 1 then 0 else (x - 1) / 991 + 1
def mostOk (x : Int) : Bool := decide (0 ≤ x) && decide (x ≤ 2147483647)
theorem sectors_any (w : World) (x : Int) (h1 : -9223372036854775808 ≤ x) (h2 : x ≤ 9223372036854775807) : Calls Try.prog 27 #[.int .i64 x] w fun y w' => y = .returned (.int .i64 (secN x)) ∧ w = w' := by
  by_cases h : x < 1
  · have e : secN x = 0 := if_pos h
    rw [e]
    go_enter Try.func27, Try.ntmps27
    go_wp2
    go_ret
    exact ⟨rfl, rfl⟩
  · have e : secN x = (x - 1) / 991 + 1 := if_neg h
    have e1 : IntKind.i64.wrap (x - 1) = x - 1 := IntWalk.i64_in _ (by omega)
    have e2 : (x - 1).tdiv 991 = (x - 1) / 991 := Int.tdiv_eq_ediv_of_nonneg (by omega)
    have e3 : IntKind.i64.wrap ((x - 1) / 991) = (x - 1) / 991 := IntWalk.i64_in _ (by omega)
    have e4 : IntKind.i64.wrap ((x - 1) / 991 + 1) = (x - 1) / 991 + 1 := IntWalk.i64_in _ (by omega)
    rw [e]
    clear e
    go_enter Try.func27, Try.ntmps27
    go_wp2
    go_ret
    exact ⟨rfl, rfl⟩
theorem most_any (w : World) (x : Int) (h1 : -9223372036854775808 ≤ x) (h2 : x ≤ 9223372036854775807) :
    Calls Try.prog 18 #[.int .i64 x] w fun y w' => y = .returned (.tuple #[.int .i64 (if mostOk x then 3 * x else 0), .int .i64 (if mostOk x then 0 else 2)]) ∧ w = w' := by
  by_cases h : x < 0
  · have e : mostOk x = false := by unfold mostOk; rw [decide_eq_false (by omega)]; rfl
    rw [e]
    go_enter Try.func18, Try.ntmps18
    go_wp2
    go_ret2
    exact ⟨rfl, rfl⟩
  · by_cases h' : 2147483647 < x
    · have e : mostOk x = false := by unfold mostOk; rw [decide_eq_false (show ¬ x ≤ 2147483647 by omega), Bool.and_false]
      rw [e]
      go_enter Try.func18, Try.ntmps18
      go_wp2
      go_ret2
      exact ⟨rfl, rfl⟩
    · have e : mostOk x = true := by unfold mostOk; rw [decide_eq_true (show 0 ≤ x by omega), decide_eq_true (show x ≤ 2147483647 by omega)]; rfl
      have e4 : IntKind.i64.wrap (3 * x) = 3 * x := IntWalk.i64_in _ (by omega)
      rw [e]
      go_enter Try.func18, Try.ntmps18
      go_wp2
      go_ret2
      exact ⟨rfl, rfl⟩
def mostTo (cs : List Int) (k : Nat) : Prop := ∀ j, j < k → mostOk (cs.getD j 0) = true
theorem mostTo.snoc {cs : List Int} {k : Nat} (h : mostTo cs k) (hk : mostOk (cs.getD k 0) = true) : mostTo cs (k + 1) := fun j hj => by
  by_cases e : j = k
  · subst e; exact hk
  · exact h j (by omega)
end Go.Proofs.Ytfhmaincnlaapaa
namespace Go.Proofs.Ytfhmaincnlaapaa
open Go.ChangeShapes Go.WideShapes Go.ChangeAt Go.RowKit
set_option linter.unusedVariables false

end Go.Proofs.Ytfhmaincnlaapaa
namespace Go.Proofs.Ytfhmaincnlaapaa
open Go.ChangeShapes Go.WideShapes Go.ChangeAt Go.RowKit
set_option linter.unusedVariables false

def sp39S : Sch := ⟨[(⟨#[97]⟩, 4)], [], [], []⟩
def sp39C : CellS := ⟨3, 1, [], []⟩
def sp39L : List CellS := [sp39C]
theorem sp39O : SchOk sp39S := by
  refine ⟨fun x hx => ?_, (fun x hx => by cases hx), (fun x hx => by cases hx), (fun x hx => by cases hx)⟩
  obtain rfl := List.mem_singleton.1 hx; exact ⟨by decide +kernel, by decide, by decide⟩
theorem sp39R : rightL sp39S 1 sp39L = true := by decide +kernel
theorem sp39N : pagesN 1 sp39L = 1 := by
  have h1 : (leaves 1 sp39L).length = 1 := by decide +kernel
  unfold pagesN
  rw [levs_one (by rw [firsts_len, h1]; exact Nat.le_refl _), h1]
def sp39W (w : World) : World := (w.alloc (.cells #[.string ⟨#[97]⟩, .int .i64 4] 89)).alloc (.cells #[.int .u64 3, .int .i64 1, .slice none 0 0, .slice none 0 0] 52)
theorem sp39_pages (w : World) : Calls Try.prog 14 #[.agg #[.slice (some ⟨w.heap.size, 0, none⟩) 1 1, .slice none 0 0, .slice none 0 0, .slice none 0 0], .int .u32 1, .slice (some ⟨w.heap.size + 1, 0, none⟩) 1 1] (sp39W w)
    fun y w' => y = .returned (.tuple #[.int .i64 1, .int .i64 0]) ∧ Below w.heap.size w w' := by
  have m1 : (1 : Nat) ≤ maxLen := by simp [maxLen]
  have m0 : (0 : Nat) ≤ maxLen := by simp [maxLen]
  have hz : (sp39W w).heap.size = w.heap.size + 2 := by simp [sp39W]
  have k0 : Blk (sp39W w) w.heap.size 89 #[.string ⟨#[97]⟩, .int .i64 4] := (Blk.new w _ _).alloc _
  have k1 : Blk (sp39W w) (w.heap.size + 1) 52 #[.int .u64 3, .int .i64 1, .slice none 0 0, .slice none 0 0] := blk_at _ _ _ _ (by simp)
  have hbel : Below w.heap.size w (sp39W w) := belA (belA (belR w) _) _
  have hS : SchAt (sp39W w) (sp39W w).heap.size (.agg #[.slice (some ⟨w.heap.size, 0, none⟩) 1 1, .slice none 0 0, .slice none 0 0, .slice none 0 0]) sp39S :=
    ⟨_, _, _, _, _, _, _, _, rfl, rd_blk (xs := [.string ⟨#[97]⟩, .int .i64 4]) k0 (by omega) rfl, Rd.nil, Rd.nil, Rd.nil, ⟨by decide, m1⟩, ⟨by decide, m0⟩, ⟨by decide, m0⟩, by decide, m0⟩
  have hV : CellV (sp39W w) (sp39W w).heap.size sp39C none 0 none 0 :=
    ⟨by decide, ⟨by decide, by decide⟩, ⟨Nat.le_refl _, m0, [], Rd.nil, rfl⟩, ⟨Nat.le_refl _, m0, [], Rd.nil, rfl⟩⟩
  have hL : SlR cellR (sp39W w) (sp39W w).heap.size sp39L (some ⟨w.heap.size + 1, 0, none⟩) 1 :=
    ⟨by decide, m1, _, rd_blk (xs := [.int .u64 3, .int .i64 1, .slice none 0 0, .slice none 0 0]) k1 (by omega) rfl, _, [], (List.append_nil _).symm, cellR_mk hV, rfl⟩
  have := pages_ok (sp39W w) _ _ sp39S _ 1 sp39L 1 hS sp39O hL (Nat.le_refl _) (by decide) sp39R (fun C hC => by obtain rfl := List.mem_singleton.1 hC; decide +kernel) (by decide)
  rw [sp39N] at this
  exact this.mono fun y w' ⟨h1, h2⟩ => ⟨h1, belT hbel h2⟩
theorem sec991 (w : World) : Calls Try.prog 27 #[.int .i64 991] w fun y w' => y = .returned (.int .i64 1) ∧ w = w' := sectors_any w 991 (by decide) (by decide)
theorem sec992 (w : World) : Calls Try.prog 27 #[.int .i64 992] w fun y w' => y = .returned (.int .i64 2) ∧ w = w' := sectors_any w 992 (by decide) (by decide)
set_option maxRecDepth 20000 in
theorem awake39_any (w : World) : Calls Try.prog 12 #[] w fun y w' => y = .returned (.bool true) ∧ Below w.heap.size w w' := by
  have HP := Lib.hid (sp39_pages w)
  go_enter Try.func12, Try.ntmps12
  go_wp2_with fail
  refine HP.out.mono ?_
  rintro y w1 ⟨rfl, hb1⟩
  have HB1 := Lib.hid hb1
  clear hb1
  go_wp2_with (first | (go_at_call 27; (with_reducible refine (sec991 _).mono ?_); rintro y w2 ⟨rfl, rfl⟩) | (go_at_call 27; (with_reducible refine (sec992 _).mono ?_); rintro y w2 ⟨rfl, rfl⟩))
  go_ret
  exact ⟨rfl, HB1.out⟩
end Go.Proofs.Ytfhmaincnlaapaa
namespace Go.Proofs.Ytfhmaincnlaapaa
open Go.ChangeShapes Go.WideShapes Go.ChangeAt Go.RowKit
set_option linter.unusedVariables false

set_option maxRecDepth 20000 in
theorem two32_any (w : World) (n : Nat) (hn : n ≤ 1000000) : Calls Try.prog 44 #[.int .i64 (n : Int)] w fun y w' => y = .returned (.int .u32 ((p2 n % 4294967296 : Nat) : Int)) ∧ w = w' := by
  go_enter Try.func44, Try.ntmps44
  go_wp2
  go_loop [3, 4] (fun v3 v4 => ∃ k p : Nat, k ≤ n ∧ v4 = .int .i64 (k : Int) ∧ v3 = .int .u32 (p : Int) ∧ Hid (p = p2 k % 4294967296)) (fun _ v4 => n - (intOf v4).toNat)
  case atStart => exact ⟨0, 1, by omega, rfl, rfl, rfl⟩
  case round =>
    obtain ⟨k, p, hk, rfl, rfl, HP⟩ := hrel
    by_cases hlt : k < n
    · have hs := p2_succ k
      have hp := HP.out
      obtain ⟨p', hp'⟩ : ∃ p', 2 * p % 4294967296 = p' := ⟨_, rfl⟩
      have HS : Hid (p' = p2 (k + 1) % 4294967296) := Lib.hid (by omega)
      have hwr : IntKind.u32.wrap (2 * (p : Int)) = (p' : Int) := by rw [IntKind.wrap_u32]; omega
      have q2 : (k : Int) < (n : Int) := by omega
      clear hs hp hp'
      go_wp2
      go_round
      case rel => exact ⟨k + 1, p', by omega, by go_num, by congr 1, HS⟩
      case measure => simp [intOf]; omega
    · obtain rfl : k = n := by omega
      go_wp2
      go_ret
      exact ⟨by have := HP.out; show Ending.returned (Value.int IntKind.u32 (p : Int)) = _; congr 2; omega, rfl⟩
/-- the set of all dimensions, as 32 bits tell it -/
def fullW (S : Sch) : Nat := (p2 S.dims.length % 4294967296 + 4294967295) % 4294967296
theorem fullW_lt (S : Sch) : fullW S < 4294967296 := Nat.mod_lt _ (by decide)
set_option maxRecDepth 20000 in
theorem refFullW_any (w : World) (B : Nat) (v : Value) (S : Sch) (h : SchAt w B v S) (hB : B ≤ w.heap.size) (h6 : S.dims.length ≤ 1000000) :
    Calls Try.prog 13 #[v] w fun y w' => y = .returned (.int .u32 (fullW S : Int)) ∧ Below w.heap.size w w' := by
  have hh := h
  obtain ⟨A0, c0, A1, c1, A2, c2, A3, c3, rfl, r0, r1, r2, r3, b0, b1, b2, b3⟩ := hh
  clear r0 r1 r2 r3 h
  have hw0 := belA (belR w) (.cells #[.slice A0 S.dims.length c0, .slice A1 S.ints.length c1, .slice A2 S.nums.length c2, .slice A3 S.views.length c3] 26)
  have HW0 := Lib.hid hw0
  have HT := Lib.hid (fun W => two32_any W S.dims.length (by omega))
  have hp2 : fullW S = (p2 S.dims.length % 4294967296 + 4294967295) % 4294967296 := rfl
  generalize fullW S = f at *
  obtain ⟨q, hq⟩ : ∃ q, p2 S.dims.length % 4294967296 = q := ⟨_, rfl⟩
  rw [hq] at hp2 HT
  have hq4 : q < 4294967296 := by rw [← hq]; exact Nat.mod_lt _ (by decide)
  have e : IntKind.u32.wrap ((q : Int) - 1) = (f : Int) := by rw [IntKind.wrap_u32]; omega
  have HE := Lib.hid e
  clear hw0 hp2 hq
  go_enter Try.func13, Try.ntmps13
  go_wp2_with (go_at_call 44; (with_reducible refine (HT.out _).mono ?_); rintro y w1 ⟨rfl, rfl⟩)
  go_ret
  first
  | exact ⟨rfl, HW0.out⟩
  | exact ⟨by rw [← HE.out], HW0.out⟩
set_option maxRecDepth 20000 in
set_option maxHeartbeats 4000000 in
theorem lawSpacePages_any (w : World) (B : Nat) (v : Value) (S : Sch) (A : Option Addr) (c : Nat) (l : List CellS) (A' : Option Addr) (c' : Nat) (T : List (List CellS)) (h : SchAt w B v S) (ho : SchOk S) (g : SlR cellR w B l A c) (g' : SlR cellR.sl w B T A' c') (hB : B ≤ w.heap.size) :
    Calls Try.prog 3 #[v, .slice A l.length c, .slice A' T.length c'] w fun y w' => y = .returned (.bool true) ∧ Below w.heap.size w w' := by
  have hh := h
  obtain ⟨A0, c0, A1, c1, A2, c2, A3, c3, rfl, r0, r1, r2, r3, b0, b1, b2, b3⟩ := hh
  clear r0 r1 r2 r3 b0 b1 b2 b3
  obtain ⟨W0, hW0⟩ : ∃ W0, W0 = w.alloc (.cells #[.slice A0 S.dims.length c0, .slice A1 S.ints.length c1, .slice A2 S.nums.length c2, .slice A3 S.views.length c3] 26) := ⟨_, rfl⟩
  have hw : Below w.heap.size w W0 := by rw [hW0]; exact belA (belR w) _
  have kk : Blk W0 w.heap.size 26 #[.slice A0 S.dims.length c0, .slice A1 S.ints.length c1, .slice A2 S.nums.length c2, .slice A3 S.views.length c3] := by rw [hW0]; exact Blk.new w _ _
  have HSC : Hid (∀ W', Below w.heap.size w W' → SchAt W' B (.agg #[.slice A0 S.dims.length c0, .slice A1 S.ints.length c1, .slice A2 S.nums.length c2, .slice A3 S.views.length c3]) S) := Lib.hid fun W' hb => h.keep (hb.mono hB) (Nat.le_refl _)
  have HG : Hid (∀ W', Below w.heap.size w W' → SlR cellR W' B l A c) := Lib.hid fun W' hb => g.keep (hb.mono hB) (Nat.le_refl _)
  have HT : Hid (∀ W', Below w.heap.size w W' → SlR cellR.sl W' B T A' c') := Lib.hid fun W' hb => g'.keep (hb.mono hB) (Nat.le_refl _)
  have HLI := Lib.hid (light_any W0 B _ S (HSC.out _ hw) (Nat.le_trans hB hw.size))
  have HAW := Lib.hid (fun W => awake39_any W)
  have HW := Lib.hid hw; have HW0 := Lib.hid hW0
  have HKS : Hid (∀ W', Below W0.heap.size W0 W' → Blk W' w.heap.size 26 #[.slice A0 S.dims.length c0, .slice A1 S.ints.length c1, .slice A2 S.nums.length c2, .slice A3 S.views.length c3]) := Lib.hid fun W' hb => kk.below hb kk.lt
  have HBV : Hid (∀ W', Below W0.heap.size W0 W' → Below w.heap.size w W') := Lib.hid fun W' hb => hw.trans (hb.mono hw.size)
  clear h g g' hw kk hW0
  go_enter Try.func3, Try.ntmps3
  go_wp2_with fail
  rw [← HW0.out]
  (with_reducible refine HLI.out.mono ?_); rintro y w1 ⟨rfl, hb1⟩
  have HB1 := Lib.hid hb1
  clear hb1 HLI
  cases h0 : lightB S with
  | false =>
    clear h0
    go_wp2_with fail
    (with_reducible refine (HAW.out _).mono ?_); rintro y w9 ⟨rfl, hb9⟩
    go_wp2
    go_ret
    exact ⟨rfl, belT (HBV.out _ HB1.out) hb9⟩
  | true =>
  have hdims : S.dims.length ≤ 1000000 := by
    rcases Nat.lt_or_ge 1000000 S.dims.length with hd | hd
    · rw [lightB_no S (by omega)] at h0; cases h0
    · exact hd
  have HLL := Lib.hid (lightL_any w1 B A c l (HG.out _ (HBV.out _ HB1.out)) (Nat.le_trans hB (HBV.out _ HB1.out).size))
  clear h0
  go_wp2_with fail
  (with_reducible refine HLL.out.mono ?_); rintro y w2 ⟨rfl, hb2⟩
  have HB2 := Lib.hid (belT HB1.out hb2)
  clear hb2 HLL
  cases h0 : lightL l with
  | false =>
    clear h0
    go_wp2_with fail
    (with_reducible refine (HAW.out _).mono ?_); rintro y w9 ⟨rfl, hb9⟩
    go_wp2
    go_ret
    exact ⟨rfl, belT (HBV.out _ HB2.out) hb9⟩
  | true =>
  have hl60 : l.length ≤ 60 ∧ ∀ C ∈ l, lightC C = true := by
    unfold lightL at h0
    simp only [Bool.and_eq_true, decide_eq_true_iff, List.all_eq_true] at h0
    exact h0
  have HL60 := Lib.hid hl60
  have hl6 := hl60.1
  have HLT := Lib.hid (lightT_any w2 B A' c' T (HT.out _ (HBV.out _ HB2.out)) (Nat.le_trans hB (HBV.out _ HB2.out).size))
  clear h0 hl60
  go_wp2_with fail
  (with_reducible refine HLT.out.mono ?_); rintro y w3 ⟨rfl, hb3⟩
  have HB3 := Lib.hid (belT HB2.out hb3)
  clear hb3 HLT
  cases h0 : lightT T with
  | false =>
    clear h0
    go_wp2_with fail
    (with_reducible refine (HAW.out _).mono ?_); rintro y w9 ⟨rfl, hb9⟩
    go_wp2
    go_ret
    exact ⟨rfl, belT (HBV.out _ HB3.out) hb9⟩
  | true =>
  have HTL := Lib.hid h0
  clear h0
  have HFU := Lib.hid (refFullW_any w3 B _ S (HSC.out _ (HBV.out _ HB3.out)) (Nat.le_trans hB (HBV.out _ HB3.out).size) hdims)
  have hm := fullW_lt S
  have k3 := HKS.out _ HB3.out
  have x0 := k3.cell 0; have x1 := k3.cell 1; have x2 := k3.cell 2; have x3 := k3.cell 3
  simp at x0 x1 x2 x3
  clear k3
  go_wp2_with fail
  (with_reducible refine HFU.out.mono ?_); rintro y w4 ⟨rfl, hb4⟩
  have HB4 := Lib.hid (belT HB3.out hb4)
  clear hb4 HFU x0 x1 x2 x3
  have HPG : Hid (Calls Try.prog 14 #[.agg #[.slice A0 S.dims.length c0, .slice A1 S.ints.length c1, .slice A2 S.nums.length c2, .slice A3 S.views.length c3], .int .u32 (fullW S : Int), .slice A l.length c] w4 fun y w' => y = .returned (.tuple #[.int .i64 ((if rightL S (fullW S) l then pagesN (fullW S) l else 0 : Nat) : Int), .int .i64 ((if rightL S (fullW S) l then 0 else 1 : Nat) : Int)]) ∧ Below w4.heap.size w4 w') := Lib.hid (by
    cases hr : rightL S (fullW S) l with
    | false => exact pages_arg w4 B _ S A c l (fullW S) (HSC.out _ (HBV.out _ HB4.out)) ho (HG.out _ (HBV.out _ HB4.out)) (Nat.le_trans hB (HBV.out _ HB4.out).size) hm hr
    | true => exact pages_ok w4 B _ S A c l (fullW S) (HSC.out _ (HBV.out _ HB4.out)) ho (HG.out _ (HBV.out _ HB4.out)) (Nat.le_trans hB (HBV.out _ HB4.out).size) hm hr HL60.out.2 HL60.out.1)
  have HRT := Lib.hid (fun W (hb : Below W0.heap.size W0 W) => ref15Right_any W B _ S A c l (fullW S) (HSC.out _ (HBV.out _ hb)) ho (HG.out _ (HBV.out _ hb)) (Nat.le_trans hB (HBV.out _ hb).size) hm)
  have HRP := Lib.hid (fun W (hb : Below W0.heap.size W0 W) (hr : rightL S (fullW S) l = true) => ref39Pages_any W B A c l (fullW S) (HG.out _ (HBV.out _ hb)) (Nat.le_trans hB (HBV.out _ hb).size) hm (right_rising hr) HL60.out.2 HL60.out.1)
  have HA1 := Lib.hid (fun W (hb : Below W0.heap.size W0 W) => spaceAll_any W B _ S A' c' T (HSC.out _ (HBV.out _ hb)) ho (HT.out _ (HBV.out _ hb)) (Nat.le_trans hB (HBV.out _ hb).size) HTL.out)
  have HA2 := Lib.hid (fun W (hb : Below W0.heap.size W0 W) => ref39All_any W B _ S A' c' T (HSC.out _ (HBV.out _ hb)) ho (HT.out _ (HBV.out _ hb)) (Nat.le_trans hB (HBV.out _ hb).size) HTL.out)
  have hple := pagesN_le (fullW S) l
  generalize pagesN (fullW S) l = pn at *
  generalize fullW S = m at *
  generalize (allR S T).1 = r1 at *
  generalize (allR S T).2 = r2 at *
  have k4 := HKS.out _ HB4.out
  have x0 := k4.cell 0; have x1 := k4.cell 1; have x2 := k4.cell 2; have x3 := k4.cell 3
  simp at x0 x1 x2 x3
  clear k4
  have HMO := Lib.hid (fun W => most_any W (l.length : Int) (by omega) (by omega))
  have hmok : mostOk (l.length : Int) = true := by unfold mostOk; rw [decide_eq_true (by omega), decide_eq_true (by omega)]; rfl
  rw [hmok] at HMO
  clear hmok
  cases hr : rightL S m l with
  | false =>
    rw [hr] at HPG HRT
    have HP' := Lib.hid (show Calls Try.prog 14 _ w4 fun y w' => y = .returned (.tuple #[.int .i64 0, .int .i64 1]) ∧ Below w4.heap.size w4 w' from HPG.out)
    clear hr HPG
    go_wp2_with fail
    (with_reducible refine HP'.out.mono ?_); rintro y w5 ⟨rfl, hb5⟩
    have HB5 := Lib.hid (belT HB4.out hb5)
    clear hb5 x0 x1 x2 x3 HP'
    have k5 := HKS.out _ HB5.out
    have x0 := k5.cell 0; have x1 := k5.cell 1; have x2 := k5.cell 2; have x3 := k5.cell 3
    simp at x0 x1 x2 x3
    clear k5
    go_wp2_with fail
    (with_reducible refine (HA1.out _ HB5.out).mono ?_); rintro y w6 ⟨rfl, hb6⟩
    have HB6 := Lib.hid (belT HB5.out hb6)
    clear hb6 x0 x1 x2 x3
    have k6 := HKS.out _ HB6.out
    have x0 := k6.cell 0; have x1 := k6.cell 1; have x2 := k6.cell 2; have x3 := k6.cell 3
    simp at x0 x1 x2 x3
    clear k6
    go_wp2_with fail
    (with_reducible refine (HA2.out _ HB6.out).mono ?_); rintro y w7 ⟨rfl, hb7⟩
    have HB7 := Lib.hid (belT HB6.out hb7)
    clear hb7 x0 x1 x2 x3
    have k7 := HKS.out _ HB7.out
    have x0 := k7.cell 0; have x1 := k7.cell 1; have x2 := k7.cell 2; have x3 := k7.cell 3
    simp at x0 x1 x2 x3
    clear k7
    go_wp2_with fail
    (with_reducible refine (HRT.out _ HB7.out).mono ?_); rintro y w8 ⟨rfl, hb8⟩
    have HB8 := Lib.hid (belT HB7.out hb8)
    clear hb8 x0 x1 x2 x3
    go_wp2_with fail
    (with_reducible refine (HAW.out _).mono ?_); rintro y w9 ⟨rfl, hb9⟩
    go_wp2
    go_ret
    exact ⟨rfl, belT (HBV.out _ HB8.out) hb9⟩
  | true =>
    have HRR := Lib.hid hr
    rw [hr] at HPG HRT
    have HP' := Lib.hid (show Calls Try.prog 14 _ w4 fun y w' => y = .returned (.tuple #[.int .i64 (pn : Int), .int .i64 0]) ∧ Below w4.heap.size w4 w' from HPG.out)
    clear hr HPG
    go_wp2_with fail
    (with_reducible refine HP'.out.mono ?_); rintro y w5 ⟨rfl, hb5⟩
    have HB5 := Lib.hid (belT HB4.out hb5)
    clear hb5 x0 x1 x2 x3 HP'
    have k5 := HKS.out _ HB5.out
    have x0 := k5.cell 0; have x1 := k5.cell 1; have x2 := k5.cell 2; have x3 := k5.cell 3
    simp at x0 x1 x2 x3
    clear k5
    go_wp2_with fail
    (with_reducible refine (HA1.out _ HB5.out).mono ?_); rintro y w6 ⟨rfl, hb6⟩
    have HB6 := Lib.hid (belT HB5.out hb6)
    clear hb6 x0 x1 x2 x3
    have k6 := HKS.out _ HB6.out
    have x0 := k6.cell 0; have x1 := k6.cell 1; have x2 := k6.cell 2; have x3 := k6.cell 3
    simp at x0 x1 x2 x3
    clear k6
    go_wp2_with fail
    (with_reducible refine (HA2.out _ HB6.out).mono ?_); rintro y w7 ⟨rfl, hb7⟩
    have HB7 := Lib.hid (belT HB6.out hb7)
    clear hb7 x0 x1 x2 x3
    have k7 := HKS.out _ HB7.out
    have x0 := k7.cell 0; have x1 := k7.cell 1; have x2 := k7.cell 2; have x3 := k7.cell 3
    simp at x0 x1 x2 x3
    clear k7
    go_wp2_with fail
    (with_reducible refine (HRT.out _ HB7.out).mono ?_); rintro y w8 ⟨rfl, hb8⟩
    have HB8 := Lib.hid (belT HB7.out hb8)
    clear hb8 x0 x1 x2 x3
    go_wp2_with fail
    (with_reducible refine (HMO.out _).mono ?_); rintro y w9 ⟨rfl, rfl⟩
    simp only [if_true]
    have HRP2 := Lib.hid (HRP.out _ HB8.out HRR.out)
    go_wp2_with fail
    (with_reducible refine HRP2.out.mono ?_); rintro y w10 ⟨rfl, hb10⟩
    have HB10 := Lib.hid (belT HB8.out hb10)
    have t9 : decide ((pn : Int) ≤ 3 * (l.length : Int)) = true := decide_eq_true (by omega)
    clear hb10
    go_wp2_with fail
    (with_reducible refine (HAW.out _).mono ?_); rintro y w11 ⟨rfl, hb11⟩
    go_wp2
    go_ret
    exact ⟨rfl, belT (HBV.out _ HB10.out) hb11⟩
theorem opens_tables : Opens Try.prog 27 cellR.sl := opens_slice Try.underlying27 (by kernel_rfl) (by decide) opens_cell
end Go.Proofs.Ytfhmaincnlaapaa
namespace Go.Proofs.Ytfhmaincnlaapaa.spacePages
open Go.ChangeShapes Go.WideShapes Go.ChangeAt Go.RowKit Go.Joins Go.Deep
open Go.ChangeMaps (open_string shut_string)
set_option linter.unusedVariables false

set_option maxRecDepth 100000 in
theorem lifted (os : Os) (started : os.Started) (H : Type) (enc : TypeId × Value → H) :
    ReturnsInHanded {} Try.checked os 3 .any (Rows.spacePagesSpec.pre6 enc Try.prog Try.f3 Rows.spacePagesRow.domain false) (Rows.spacePagesSpec.post enc Try.prog Try.f3 false true false false) := by
  refine returnsInHanded_of_change (C := Try.checked) own started (by kernel_rfl) Try.func3
    (ChangeSpec.witness6 (enc := enc) (C := Try.checked) false ⟨#[], #[.agg #[.slice none 0 0, .slice none 0 0, .slice none 0 0, .slice none 0 0], .slice none 0 0, .slice none 0 0], []⟩ 8 (by kernel_rfl) (by kernel_rfl) (by kernel_rfl) (by kernel_rfl)) ?_
  intro W base args ds gs before hval0 hW hcnd _
  have hval : ∀ (j : Nat) t v, Try.f3.params[j]? = some t → args[j]? = some v → Value.okWide Try.prog W .any base t v := hval0
  have hW' := hW
  obtain ⟨p, q, hA0, hV, rfl, hfz, hnd⟩ := hW
  have hA : DataW.TrodAll enc Try.prog W 0 (fun _ => true) true Try.f3.params.toList args.toList ds p := hA0
  rw [Try.params3] at hA hval
  obtain ⟨v0, vs0, d0, ds0, p0, q0, hargs, rfl, rfl, h0, r0⟩ := trodAll_cons hA
  obtain ⟨v1, vs1, d1, ds1, p1, q1, rfl, rfl, rfl, h1, r1⟩ := trodAll_cons r0
  obtain ⟨v2, vs2, d2, ds2, p2, q2, rfl, rfl, rfl, h2, r2⟩ := trodAll_cons r1
  obtain ⟨rfl, rfl, rfl⟩ := trodAll_nil r2
  obtain rfl : args = #[v0, v1, v2] := by cases args; simp_all
  obtain ⟨rfl, rfl⟩ := trodVars_none hV
  have k0 := h0
  have lt0 : ∀ x ∈ p0, x.block < W.heap.size := by obtain ⟨m, hm⟩ := k0; exact DataW.trod_lt m _ _ _ hm
  have k1 := h1
  have lt1 : ∀ x ∈ p1, x.block < W.heap.size := by obtain ⟨m, hm⟩ := k1; exact DataW.trod_lt m _ _ _ hm
  have k2 := h2
  have lt2 : ∀ x ∈ p2, x.block < W.heap.size := by obtain ⟨m, hm⟩ := k2; exact DataW.trod_lt m _ _ _ hm
  obtain ⟨S0, hS0, oS0⟩ := open_schema (hval 0 26 v0 rfl rfl) h0
  obtain ⟨l1, A1, c1, rfl, R1⟩ := open_arg_sl Try.underlying27 (by kernel_rfl) (by decide) opens_cell (hval 1 27 v1 rfl rfl) h1
  obtain ⟨l2, A2, c2, rfl, R2⟩ := open_arg_sl Try.underlying28 (by kernel_rfl) (by decide) opens_tables (hval 2 28 v2 rfl rfl) h2
  clear hA0 hval0
  refine ((lawSpacePages_any W _ v0 S0 A1 c1 l1 A2 c2 l2 hS0 oS0 R1 R2 (Nat.le_refl _))).mono fun e W' ⟨he, bel⟩ => ?_
  subst he
  exact ⟨_, rfl, _, _, _, [], _, [], hW', trodAll_mk1 (shut_bool Try.underlying4 _), (trodAll_cons_mk (Below.trod laidOut (by kernel_rfl) (of_decide_eq_true (by kernel_rfl)) k0 bel lt0) (trodAll_cons_mk (Below.trod laidOut (by kernel_rfl) (of_decide_eq_true (by kernel_rfl)) k1 bel lt1) (trodAll_cons_mk (Below.trod laidOut (by kernel_rfl) (of_decide_eq_true (by kernel_rfl)) k2 bel lt2) trodAll_mk0))), rfl, bel.frame _, fun h => by cases h⟩

theorem over : Rows.spacePagesRow.holds Try.pinned (OpenSpec.ofChange Rows.spacePagesSpec) :=
  OpenClaim.holds_of_wide 3 Try.f3 rfl rfl rfl rfl rfl rfl rfl ⟨rfl, rfl, rfl, rfl, rfl⟩ rfl rfl rfl rfl rfl (by kernel_rfl) Try.func3 (by kernel_rfl)
    (of_decide_eq_true (by kernel_rfl)) (by unfold Func.isWrapper; first | (rw [if_pos (by decide +kernel)]; kernel_rfl) | (rw [if_neg (by decide +kernel)]; exact ⟨rfl, rfl⟩))
    (fun os started H enc _ => lifted os started H enc)

theorem proved : Rows.SpacePagesSaid := over
#print axioms proved
end Go.Proofs.Ytfhmaincnlaapaa.spacePages
