/-
  WHAT A NODE READS AS, as a plain function.
-/
import Derived.Test.YtpnolgghbenekaaSheets
import Derived.Test.YtpnolgghbenekaaBufInU
namespace Go.Proofs.Ytpnolgghbenekaa
open Go.ChangeShapes Go.WideShapes Go.ChangeAt Go.RowKit
set_option linter.unusedVariables false

/-- the reading so far: the place, the fault, the entries -/
abbrev Rst := Nat × Nat × List (Nat × Int)
def umax : Nat := 18446744073709551615
def rx (t : List UInt8) (st : Rst) : Nat × Nat × Nat := inU t st.1 st.2.1 umax
def ry (t : List UInt8) (st : Rst) : Nat × Nat × Nat := inU t (rx t st).2.1 (rx t st).2.2 8192
def rstep (t : List UInt8) (st : Rst) : Rst := ((ry t st).2.1, (ry t st).2.2, st.2.2 ++ [((rx t st).1, ((ry t st).1 : Int))])
def rst (t : List UInt8) : Nat → Rst
  | 0 => (0, 0, [])
  | k + 1 => rstep t (rst t k)
theorem inU_bad (t : List UInt8) (p e most : Nat) (h : e ≠ 0) : inU t p e most = (0, p, e) := by
  have hk : stepE e (getU (t.drop p)).2.2 (overE (getU (t.drop p)).1 most) = e := by unfold stepE; rw [if_pos h]
  unfold inU; rw [hk]; unfold stepV stepP; rw [if_neg h, if_neg h]
theorem rstep_bad (t : List UInt8) (st : Rst) (h : st.2.1 ≠ 0) : (rstep t st).2.1 = st.2.1 := by
  have e1 : rx t st = (0, st.1, st.2.1) := inU_bad _ _ _ _ h
  unfold rstep ry
  simp only [e1]
  rw [inU_bad _ _ _ _ h]
theorem rst_bad (t : List UInt8) (k j : Nat) (h : (rst t k).2.1 ≠ 0) : (rst t (k + j)).2.1 = (rst t k).2.1 := by
  induction j with
  | zero => rfl
  | succ j ih => rw [← Nat.add_assoc]; show (rstep t (rst t (k + j))).2.1 = _; rw [rstep_bad _ _ (by rw [ih]; exact h), ih]
theorem rst_len (t : List UInt8) (k : Nat) : (rst t k).2.2.length = k := by
  induction k with
  | zero => rfl
  | succ k ih => show (rstep t (rst t k)).2.2.length = _; unfold rstep; simp [ih]
theorem inU_lt (t : List UInt8) (p e most : Nat) : (inU t p e most).1 ≤ most := by
  unfold inU
  simp only
  unfold stepV
  split
  · rename_i h
    unfold stepE at h
    split at h
    · omega
    · split at h
      · omega
      · unfold overE at h
        split at h
        · omega
        · omega
  · omega
/-- may a sheet be a node's, by its head? -/
def headB (k : Int) (a b : Nat) : Bool := decide (k = 4) && decide (1 ≤ a) && decide (a ≤ 1001) && decide (1 ≤ b) && decide (b ≤ 60)
def rnode (s : Sht) : Int × List (Nat × Int) × Nat :=
  if headB s.k s.a s.b = false then (0, [], 6)
  else if endE s.d (rst s.d s.a).1 (rst s.d s.a).2.1 ≠ 0 then (0, [], endE s.d (rst s.d s.a).1 (rst s.d s.a).2.1)
  else if riseB (rst s.d s.a).2.2 = false then (0, [], 6) else ((s.b : Int), (rst s.d s.a).2.2, 0)
theorem endE_bad (t : List UInt8) (p e : Nat) (h : e ≠ 0) : endE t p e = e := by unfold endE; rw [if_neg h]
theorem rnode_early (s : Sht) (k : Nat) (hh : headB s.k s.a s.b = true) (hk : k ≤ s.a) (he : (rst s.d k).2.1 ≠ 0) : rnode s = (0, [], (rst s.d k).2.1) := by
  obtain ⟨j, hj⟩ : ∃ j, s.a = k + j := ⟨s.a - k, by omega⟩
  have := rst_bad s.d k j he
  rw [← hj] at this
  have h2 : endE s.d (rst s.d s.a).1 (rst s.d s.a).2.1 = (rst s.d k).2.1 := by rw [endE_bad _ _ _ (by rw [this]; exact he), this]
  unfold rnode
  rw [if_neg (by rw [hh]; simp), if_pos (by rw [h2]; exact he), h2]
end Go.Proofs.Ytpnolgghbenekaa
