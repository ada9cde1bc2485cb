/-
  THE NODES OF ENTRIES, as a plain function; what the pack comes to.
-/
import Derived.Test.YtpnolgghbenekaaTreePack
import Derived.Test.YtpnolgghbenekaaGetPure
namespace Go.Proofs.Ytpnolgghbenekaa
open Go.ChangeShapes Go.WideShapes Go.ChangeAt Go.RowKit
set_option linter.unusedVariables false

/-- the pack's state: sheets done, how many things, their bytes -/
abbrev Pst := List Sht × Nat × List UInt8
def pput (kd : Int) (b : Nat) (st : Pst) (k : List UInt8) (brk : Bool) : Pst :=
  if brk = true ∨ 1001 < st.2.2.length + k.length then (if 0 < st.2.1 then st.1 ++ [⟨kd, st.2.1, b, st.2.2⟩] else st.1, 1, k) else (st.1, st.2.1 + 1, st.2.2 ++ k)
def pend (kd : Int) (b : Nat) (st : Pst) : List Sht := if 0 < st.2.1 then st.1 ++ [⟨kd, st.2.1, b, st.2.2⟩] else st.1

theorem packPut_any (w : World) (base g b : Nat) (kd : Int) (st : Pst) (k : List UInt8) (brk : Bool) (B0 : Nat) (A : Option Addr) (c : Nat) (h : PkS w base g kd b st.1 st.2.1 st.2.2) (hs : w.ownsRow B0 5 1 (.slice A k.length c) k.length (u8s k))
    (hn : st.2.1 ≤ 1000000) (hd : st.2.2.length ≤ 1000000) (hk : k.length ≤ 1000000) (hss : st.1.length ≤ 1000000) :
    Calls Try.prog 50 #[.pointer (some ⟨g, 0, none⟩), .slice A k.length c, .bool brk] w fun y w' => y = .returned (.tuple #[]) ∧ PkS w' base g kd b (pput kd b st k brk).1 (pput kd b st k brk).2.1 (pput kd b st k brk).2.2 ∧ Below base w w' := by
  obtain ⟨ss, n, d⟩ := st
  by_cases hc : brk = true ∨ 1001 < d.length + k.length
  · have e : pput kd b (ss, n, d) k brk = (if 0 < n then ss ++ [⟨kd, n, b, d⟩] else ss, 1, k) := if_pos hc
    rw [e]
    exact packPut_cut w base g b n kd ss d k brk B0 A c h hs hn hd hk hss hc
  · have e : pput kd b (ss, n, d) k brk = (ss, n + 1, d ++ k) := if_neg hc
    rw [e]
    obtain rfl : brk = false := by cases brk; rfl; exact absurd (.inl rfl) hc
    exact packPut_app w base g b n kd ss d k B0 A c h hs hn hd hk (by simp at hc; omega)
theorem packEnd_any (w : World) (base g b : Nat) (kd : Int) (st : Pst) (h : PkS w base g kd b st.1 st.2.1 st.2.2) (hss : st.1.length ≤ 1000000) (hd : st.2.2.length ≤ 1000000) :
    Calls Try.prog 52 #[.pointer (some ⟨g, 0, none⟩)] w fun y w' => y = .returned (.tuple #[]) ∧ PkS w' base g kd b (pend kd b st) 0 [] ∧ Below base w w' := by
  obtain ⟨ss, n, d⟩ := st
  by_cases h0 : 0 < n
  · have e : pend kd b (ss, n, d) = ss ++ [⟨kd, n, b, d⟩] := if_pos h0
    rw [e]; exact (packEnd_yes w base g b n kd ss d h h0 hss hd).mono fun y w' ⟨e, p, q, r⟩ => ⟨e, p, q⟩
  · have e : pend kd b (ss, n, d) = ss := if_neg h0
    obtain rfl : n = 0 := by omega
    rw [e]; exact (packEnd_no w base g b kd ss d h).mono fun y w' ⟨e, p, q, r⟩ => ⟨e, p, q⟩

/-- one entry more -/
def nstep (lv : Nat) (st : Pst) (x : Nat × Int) : Pst := pput 4 lv st (encE x) (decide (2 ≤ st.2.1) && brkB x.1 lv)
def nst (lv : Nat) (l : List (Nat × Int)) : Pst := l.foldl (nstep lv) ([], 0, [])
def nodes (lv : Nat) (l : List (Nat × Int)) : List Sht := pend 4 lv (nst lv l)
theorem nst_snoc (lv : Nat) (l : List (Nat × Int)) (x : Nat × Int) : nst lv (l ++ [x]) = nstep lv (nst lv l) x := by simp [nst]
theorem nst_take (lv : Nat) (l : List (Nat × Int)) (k : Nat) (h : k < l.length) : nst lv (l.take (k + 1)) = nstep lv (nst lv (l.take k)) l[k] := by
  rw [List.take_succ_eq_append_getElem h, nst_snoc]
theorem nst_bd (lv : Nat) (l : List (Nat × Int)) : (nst lv l).1.length ≤ l.length ∧ (nst lv l).2.1 ≤ l.length ∧ (nst lv l).2.2.length ≤ 1001 := by
  refine snoc_ind (p := fun l => (nst lv l).1.length ≤ l.length ∧ (nst lv l).2.1 ≤ l.length ∧ (nst lv l).2.2.length ≤ 1001) (by simp [nst]) (fun l x ih => ?_) l
  rw [nst_snoc, List.length_append, List.length_singleton]
  have he := encE_len x
  unfold nstep pput
  split
  · refine ⟨?_, by simp only; omega, by simp only; omega⟩
    simp only
    split
    · rw [List.length_append, List.length_singleton]; omega
    · omega
  · rename_i hc
    simp only [not_or, Nat.not_lt] at hc
    refine ⟨by simp only; omega, by simp only; omega, ?_⟩
    simp only [List.length_append]; omega
end Go.Proofs.Ytpnolgghbenekaa
