/-
  bushelref12.Light.
  bushellaw12.awake.
-/
import Derived.Test.YtfhmaincnlaapaaFactPut
namespace Go.Proofs.Ytfhmaincnlaapaa
open Go.ChangeShapes Go.WideShapes Go.ChangeAt Go.RowKit
set_option linter.unusedVariables false

/-- a block that is known whole, read as elements -/
theorem rd_blk {w : World} {g B size n : Nat} {t : TypeId} {xs : List Value} (h : Blk w g t xs.toArray) (hg : g < B) (hn : xs.length = n * size) : Rd w B size (some ⟨g, 0, none⟩) n xs :=
  ⟨hn, fun _ => ⟨_, rfl, hg, fun j u hu => by
    have hadd : (⟨g, 0, none⟩ : Addr).add j = ⟨g, j, none⟩ := by unfold Addr.add; split <;> simp_all
    rw [hadd, h.cell j]
    simpa using hu⟩⟩
theorem blk_at (w : World) (n : Nat) (t : TypeId) (cs : Array Value) (h : w.heap.size = n) : Blk (w.alloc (.cells cs t)) n t cs := h ▸ Blk.new w t cs
theorem factR_mk {w : World} {B : Nat} {F : FactS} {v0 v1 v2 : Value} (h : FactV w B F v0 v1 v2) (ho : FactOk F) : factR.rep w B F [v0, v1, v2] := by
  obtain ⟨A0, c0, A1, c1, A2, c2, rfl, rfl, rfl, r0, r1, r2, ⟨b0, b0'⟩, ⟨b1, b1'⟩, b2, b2'⟩ := h
  refine ⟨[_], [_, _], rfl, ⟨A0, c0, _, rfl, b0, b0', r0, chunk_val.2 ⟨rfl, fun x hx => ?_⟩⟩, [_], [_], rfl, ⟨A1, c1, _, rfl, b1, b1', r1, chunk_val.2 ⟨rfl, fun x hx => ?_⟩⟩, A2, c2, _, rfl, b2, b2', r2, chunk_val.2 ⟨rfl, ho.nums⟩⟩
  · exact WalkArith.wf_i64 (ho.codes x hx)
  · exact WalkArith.wf_i64 (ho.ints x hx)
def awS : Sch := ⟨[(⟨#[97]⟩, 2)], [⟨#[109]⟩], [], []⟩
def awL : List FactS := [⟨[1], [-3], []⟩]
theorem awB : batchN awS awL = (0, 0) := by decide +kernel
theorem awE : encBatch awL = [1, 1, 1, 1, 7, 253] := by decide +kernel
theorem awO : SchOk awS := by
  refine ⟨fun x hx => ?_, fun x hx => ?_, (fun x hx => by cases hx), (fun x hx => by cases hx)⟩
  · obtain rfl := List.mem_singleton.1 hx; exact ⟨by decide +kernel, by decide, by decide⟩
  · obtain rfl := List.mem_singleton.1 hx; decide +kernel
theorem awF : FactOk ⟨[1], [-3], []⟩ := by
  refine ⟨fun x hx => ?_, fun x hx => ?_, fun x hx => by cases hx⟩
  · obtain rfl := List.mem_singleton.1 hx; exact ⟨by decide, by decide⟩
  · obtain rfl := List.mem_singleton.1 hx; exact ⟨by decide, by decide⟩
def awW (w : World) : World := (((((w.alloc (.cells #[.string ⟨#[97]⟩, .int .i64 2] 89)).alloc (.cells #[.string ⟨#[109]⟩] 9)).alloc (.cells #[.slice (some ⟨w.heap.size, 0, none⟩) 1 1, .slice (some ⟨w.heap.size + 1, 0, none⟩) 1 1, .slice none 0 0, .slice none 0 0] 26)).alloc (.cells #[.int .i64 1] 3)).alloc (.cells #[.int .i64 (-3)] 2)).alloc (.cells #[.slice (some ⟨w.heap.size + 1 + 1 + 1, 0, none⟩) 1 1, .slice (some ⟨w.heap.size + 1 + 1 + 1 + 1, 0, none⟩) 1 1, .slice none 0 0] 79)
theorem aw_put (w : World) : Calls Try.prog 61 #[.agg #[.slice (some ⟨w.heap.size, 0, none⟩) 1 1, .slice (some ⟨w.heap.size + 1, 0, none⟩) 1 1, .slice none 0 0, .slice none 0 0], .slice (some ⟨w.heap.size + 1 + 1 + 1 + 1 + 1, 0, none⟩) 1 1] (awW w)
    fun y w' => ∃ v', y = .returned (.tuple #[v', .int .i64 0]) ∧ w'.ownsRow (awW w).heap.size 5 1 v' 6 (u8s [1, 1, 1, 1, 7, 253]) ∧ Below w.heap.size w w' := by
  have m1 : (1 : Nat) ≤ maxLen := by simp [maxLen]
  have m0 : (0 : Nat) ≤ maxLen := by simp [maxLen]
  have hz : (awW w).heap.size = w.heap.size + 6 := by simp [awW]
  have k0 : Blk (awW w) w.heap.size 89 #[.string ⟨#[97]⟩, .int .i64 2] := (((((Blk.new w _ _).alloc _).alloc _).alloc _).alloc _).alloc _
  have k1 : Blk (awW w) (w.heap.size + 1) 9 #[.string ⟨#[109]⟩] := ((((blk_at _ _ _ _ (by simp)).alloc _).alloc _).alloc _).alloc _
  have k3 : Blk (awW w) (w.heap.size + 1 + 1 + 1) 3 #[.int .i64 1] := ((blk_at _ _ _ _ (by simp)).alloc _).alloc _
  have k4 : Blk (awW w) (w.heap.size + 1 + 1 + 1 + 1) 2 #[.int .i64 (-3)] := (blk_at _ _ _ _ (by simp)).alloc _
  have k5 : Blk (awW w) (w.heap.size + 1 + 1 + 1 + 1 + 1) 79 #[.slice (some ⟨w.heap.size + 1 + 1 + 1, 0, none⟩) 1 1, .slice (some ⟨w.heap.size + 1 + 1 + 1 + 1, 0, none⟩) 1 1, .slice none 0 0] := blk_at _ _ _ _ (by simp)
  have hbel : Below w.heap.size w (awW w) := belA (belA (belA (belA (belA (belA (belR w) _) _) _) _) _) _
  have hS : SchAt (awW w) (awW w).heap.size (.agg #[.slice (some ⟨w.heap.size, 0, none⟩) 1 1, .slice (some ⟨w.heap.size + 1, 0, none⟩) 1 1, .slice none 0 0, .slice none 0 0]) awS :=
    ⟨_, _, _, _, _, _, _, _, rfl, rd_blk (xs := [.string ⟨#[97]⟩, .int .i64 2]) k0 (by omega) rfl, rd_blk (xs := [.string ⟨#[109]⟩]) k1 (by omega) rfl, Rd.nil, Rd.nil, ⟨by decide, m1⟩, ⟨by decide, m1⟩, ⟨by decide, m0⟩, by decide, m0⟩
  have hV : FactV (awW w) (awW w).heap.size ⟨[1], [-3], []⟩ (.slice (some ⟨w.heap.size + 1 + 1 + 1, 0, none⟩) 1 1) (.slice (some ⟨w.heap.size + 1 + 1 + 1 + 1, 0, none⟩) 1 1) (.slice none 0 0) :=
    ⟨_, _, _, _, _, _, rfl, rfl, rfl, rd_blk (xs := [.int .i64 1]) k3 (by omega) rfl, rd_blk (xs := [.int .i64 (-3)]) k4 (by omega) rfl, Rd.nil, ⟨by decide, m1⟩, ⟨by decide, m1⟩, by decide, m0⟩
  have hL : SlR factR (awW w) (awW w).heap.size awL (some ⟨w.heap.size + 1 + 1 + 1 + 1 + 1, 0, none⟩) 1 :=
    ⟨by decide, m1, _, rd_blk (xs := [.slice (some ⟨w.heap.size + 1 + 1 + 1, 0, none⟩) 1 1, .slice (some ⟨w.heap.size + 1 + 1 + 1 + 1, 0, none⟩) 1 1, .slice none 0 0]) k5 (by omega) rfl, _, [], (List.append_nil _).symm, factR_mk hV awF, rfl⟩
  refine (put_any (awW w) _ _ awS _ 1 awL hS awO hL (Nat.le_refl _) (by rw [awB])).mono fun y w' ⟨v', h1, h2, h3⟩ => ⟨v', h1, ?_, belT hbel h3⟩
  rw [awE] at h2
  exact h2
end Go.Proofs.Ytfhmaincnlaapaa
namespace Go.Proofs.Ytfhmaincnlaapaa
open Go.ChangeShapes Go.WideShapes Go.ChangeAt Go.RowKit
set_option linter.unusedVariables false

def lightF (F : FactS) : Bool := decide (F.codes.length ≤ 20) && decide (F.ints.length ≤ 20) && decide (F.nums.length ≤ 20)
def lightFs (l : List FactS) : Bool := l.all lightF
theorem lightFs_no {l : List FactS} (k : Nat) (hk : k < l.length) (h : lightF l[k] = false) : lightFs l = false := by
  unfold lightFs; rw [List.all_eq_false]; exact ⟨_, List.getElem_mem hk, by rw [h]; decide⟩
def lightTo (l : List FactS) (k : Nat) : Prop := ∀ j (hj : j < l.length), j < k → lightF l[j] = true
theorem lightTo.snoc {l : List FactS} {k : Nat} (h : lightTo l k) (hk : k < l.length) (hx : lightF l[k] = true) : lightTo l (k + 1) := fun j hj hjk => by
  by_cases e : j = k
  · subst e; exact hx
  · exact h j hj (by omega)
theorem lightTo.all {l : List FactS} (h : lightTo l l.length) : lightFs l = true := by
  unfold lightFs; rw [List.all_eq_true]
  intro x hx
  obtain ⟨j, hj, rfl⟩ := List.getElem_of_mem hx
  exact h j hj hj
set_option maxRecDepth 20000 in
set_option maxHeartbeats 1000000 in
theorem lightFs_any (w : World) (B : Nat) (A : Option Addr) (c : Nat) (l : List FactS) (g : SlR factR w B l A c) :
    Calls Try.prog 24 #[.slice A l.length c] w fun y w' => y = .returned (.bool (lightFs l)) ∧ w = w' := by
  have hml : l.length ≤ 9223372036854775807 := by have h1 := g.1; have h2 := g.2.1; unfold maxLen at h2; omega
  have G := Lib.hid g
  clear g
  go_enter Try.func24, Try.ntmps24
  go_wp2
  go_loop [3] (fun i => ∃ k : Nat, k ≤ l.length ∧ i = .int .i64 (k : Int) ∧ Hid (lightTo l k)) (fun i => l.length - (intOf i).toNat)
  case atStart => exact ⟨0, by omega, rfl, fun j _ hj => by omega⟩
  case round =>
    obtain ⟨k, hk, rfl, HA⟩ := hrel
    by_cases hlt : k < l.length
    · obtain ⟨a, D0, d0, D1, d1, D2, d2, rfl, hab, x0, x1, x2, _, _⟩ := G.out.fact3 hlt
      have q1 : (0 : Int) ≤ (k : Int) := by omega
      have q2 : (k : Int) < (l.length : Int) := by omega
      have hst := fun h => HA.out.snoc hlt h
      have hno := fun h => lightFs_no k hlt h
      generalize l[k] = F at *
      have HST := Lib.hid hst; have HNO := Lib.hid hno; clear hst hno
      by_cases h0 : F.codes.length ≤ 20
      case neg =>
        have HN := Lib.hid (HNO.out (by unfold lightF; rw [decide_eq_false h0]; rfl))
        go_wp2
        go_ret
        exact ⟨by rw [HN.out]; rfl, rfl⟩
      by_cases h1 : F.ints.length ≤ 20
      case neg =>
        have HN := Lib.hid (HNO.out (by unfold lightF; rw [decide_eq_false h1, Bool.and_false]; rfl))
        go_wp2
        go_ret
        exact ⟨by rw [HN.out]; rfl, rfl⟩
      by_cases h2 : F.nums.length ≤ 20
      case neg =>
        have HN := Lib.hid (HNO.out (by unfold lightF; rw [decide_eq_false h2, Bool.and_false]))
        go_wp2
        go_ret
        exact ⟨by rw [HN.out]; rfl, rfl⟩
      have HY := Lib.hid (HST.out (by unfold lightF; rw [decide_eq_true h0, decide_eq_true h1, decide_eq_true h2]; rfl))
      go_wp2
      go_round
      case rel => exact ⟨k + 1, by omega, by go_num, HY⟩
      case measure => simp [intOf]; omega
    · obtain rfl : k = l.length := by omega
      have HY := Lib.hid (HA.out.all)
      go_wp2
      go_ret
      exact ⟨by rw [HY.out]; rfl, rfl⟩
end Go.Proofs.Ytfhmaincnlaapaa
