/-
  PLAIN LEAN: numbers and texts as bytes (layer 7's codes), with no program in sight.
-/
import Derived.Test.YtpnolgghbenekaaBlk
namespace Go.Proofs.Ytpnolgghbenekaa
set_option linter.unusedVariables false

/-- how many bytes a number below 2^64 has (none: 0) -/
def wdF : Nat → Nat → Nat
  | 0, _ => 0
  | f + 1, x => if x = 0 then 0 else wdF f (x / 256) + 1
def wd (x : Nat) : Nat := wdF 8 x
/-- the lowest k bytes of a number, the highest first -/
def be : Nat → Nat → List UInt8
  | 0, _ => []
  | k + 1, x => UInt8.ofNat (x / 256 ^ k) :: be k x
theorem be_length (k x : Nat) : (be k x).length = k := by
  induction k with
  | zero => rfl
  | succ k ih => simp [be, ih]
theorem be_get (k x j : Nat) (h : j < k) : (be k x)[j]? = some (UInt8.ofNat (x / 256 ^ (k - 1 - j))) := by
  induction k generalizing j with
  | zero => omega
  | succ k ih =>
    cases j with
    | zero => simp [be]
    | succ j => simp only [be, List.getElem?_cons_succ]; rw [ih j (by omega)]; congr 4; omega
theorem be_take (k x j : Nat) (h : j < k) : (be k x).take (j + 1) = (be k x).take j ++ [UInt8.ofNat (x / 256 ^ (k - 1 - j))] := by
  rw [List.take_add_one, be_get k x j h]; rfl
theorem be_snoc (k x : Nat) : be (k + 1) x = be k (x / 256) ++ [UInt8.ofNat x] := by
  induction k with
  | zero => simp [be]
  | succ k ih =>
    rw [be, ih]
    conv => rhs; rw [be]
    simp only [List.cons_append]
    congr 2
    rw [Nat.div_div_eq_div_mul, Nat.pow_succ, Nat.mul_comm]
theorem wdF_le (f x : Nat) : wdF f x ≤ f := by
  induction f generalizing x with
  | zero => simp [wdF]
  | succ f ih => simp only [wdF]; split; omega; have := ih (x / 256); omega
theorem wd_le (x : Nat) : wd x ≤ 8 := wdF_le 8 x
theorem wdF_lt (f x : Nat) (h : x < 256 ^ f) : x < 256 ^ wdF f x := by
  induction f generalizing x with
  | zero => simpa [wdF] using h
  | succ f ih =>
    simp only [wdF]
    split
    · omega
    · have := ih (x / 256) (by rw [Nat.pow_succ] at h; omega)
      rw [Nat.pow_succ]; omega
theorem wdF_ge (f x : Nat) (h0 : 0 < x) (h : x < 256 ^ f) : 256 ^ (wdF f x - 1) ≤ x := by
  induction f generalizing x with
  | zero => simp at h; omega
  | succ f ih =>
    simp only [wdF]
    rw [if_neg (by omega)]
    by_cases hx : x / 256 = 0
    · have : wdF f (x / 256) = 0 := by rw [hx]; cases f <;> simp [wdF]
      rw [this]; simp; omega
    · have := ih (x / 256) (by omega) (by rw [Nat.pow_succ] at h; omega)
      have hw : 1 ≤ wdF f (x / 256) := by
        cases f with
        | zero => simp at h; omega
        | succ f => simp only [wdF]; rw [if_neg hx]; omega
      have e : wdF f (x / 256) + 1 - 1 = (wdF f (x / 256) - 1) + 1 := by omega
      rw [e, Nat.pow_succ]; omega
/-- a number's fuel does not matter once it is enough -/
theorem wdF_more (f x : Nat) (h : x < 256 ^ f) : wdF (f + 1) x = wdF f x := by
  induction f generalizing x with
  | zero => simp at h; simp [wdF, h]
  | succ f ih =>
    rw [wdF]
    split
    · rename_i h0; simp [wdF, h0]
    · rename_i h0
      rw [ih (x / 256) (by rw [Nat.pow_succ] at h; omega)]
      conv => rhs; rw [wdF]
      rw [if_neg h0]
theorem wd_step (x : Nat) (h : x < 18446744073709551616) (h0 : 0 < x) : wd x = wd (x / 256) + 1 := by
  unfold wd
  rw [show wdF 8 x = (if x = 0 then 0 else wdF 7 (x / 256) + 1) from rfl, if_neg (by omega), wdF_more 7 (x / 256) (by simp; omega)]
theorem wd_zero : wd 0 = 0 := rfl
theorem wd_lt (x : Nat) (h : x < 18446744073709551616) : x < 256 ^ wd x := wdF_lt 8 x (by simpa using h)
theorem wd_ge (x : Nat) (h0 : 0 < x) (h : x < 18446744073709551616) : 256 ^ (wd x - 1) ≤ x := wdF_ge 8 x h0 (by simpa using h)

theorem be_cell (x j m k : Nat) (h : j + 1 + m = k) : Value.int IntKind.u8 ((x : Int) / 2 ^ (8 * j) % 256) = .int .u8 ((UInt8.ofNat (x / 256 ^ (k - 1 - m))).toNat : Int) := by
  have e : k - 1 - m = j := by omega
  rw [e, UInt8.toNat_ofNat', show (256 : Nat) = 2 ^ 8 from rfl, ← Nat.pow_mul]
  simp

theorem nat_not64 (y : Nat) (h : y < 18446744073709551616) : 18446744073709551615 ^^^ y = 18446744073709551615 - y := by
  have e : (BitVec.allOnes 64 ^^^ BitVec.ofNat 64 y).toNat = 18446744073709551615 - y := by
    rw [BitVec.allOnes_xor, BitVec.toNat_not, BitVec.toNat_ofNat, Nat.mod_eq_of_lt (by omega)]
  rw [BitVec.toNat_xor, BitVec.toNat_ofNat, Nat.mod_eq_of_lt (by omega)] at e
  simpa using e
theorem bits_not64 (y : Nat) (h : y < 18446744073709551616) : bits .xor .u64 IntKind.u64.max (y : Int) = ((18446744073709551615 - y : Nat) : Int) := by
  have e : IntKind.u64.max = ((18446744073709551615 : Nat) : Int) := by decide
  rw [e, u64_xor_nat _ _ (by omega) h, nat_not64 y h]

/-- the codes -/
def encU (x : Nat) : List UInt8 := UInt8.ofNat (wd x) :: be (wd x) x
def encI (z : Int) : List UInt8 :=
  if 0 ≤ z then UInt8.ofNat (9 + wd z.toNat) :: be (wd z.toNat) z.toNat
  else UInt8.ofNat (8 - wd (-(z + 1)).toNat) :: be (wd (-(z + 1)).toNat) (18446744073709551615 - (-(z + 1)).toNat)
def encT : List UInt8 → List UInt8
  | [] => [0, 0]
  | b :: l => if b = 0 then 0 :: 1 :: encT l else b :: encT l
/-- a text's code without its end -/
def encT0 : List UInt8 → List UInt8
  | [] => []
  | b :: l => if b = 0 then 0 :: 1 :: encT0 l else b :: encT0 l
theorem encT_eq (l : List UInt8) : encT l = encT0 l ++ [0, 0] := by
  induction l with
  | nil => rfl
  | cons b l ih => simp only [encT, encT0]; split <;> simp [ih]
theorem encT0_snoc (l : List UInt8) (b : UInt8) : encT0 (l ++ [b]) = encT0 l ++ (if b = 0 then [0, 1] else [b]) := by
  induction l with
  | nil => simp [encT0]
  | cons a l ih => simp only [List.cons_append, encT0, ih]; split <;> simp
theorem encT0_length (l : List UInt8) : (encT0 l).length ≤ 2 * l.length := by
  induction l with
  | nil => simp [encT0]
  | cons a l ih => simp only [encT0]; split <;> simp <;> omega
theorem encU_length (x : Nat) : (encU x).length = wd x + 1 := by simp [encU, be_length]
theorem be_flip (k y : Nat) (hk : k ≤ 8) (hy : y < 18446744073709551616) : be k (18446744073709551615 - y) = (be k y).map (255 - ·) := by
  apply List.ext_getElem?
  intro j
  by_cases hj : j < k
  · rw [List.getElem?_map, be_get _ _ _ hj, be_get _ _ _ hj]
    simp only [Option.map_some]
    congr 1
    apply UInt8.toNat_inj.1
    rw [UInt8.toNat_sub_of_le _ _ (by rw [UInt8.le_iff_toNat_le]; have := (UInt8.ofNat (y / 256 ^ (k - 1 - j))).toNat_lt; simp; omega)]
    simp only [UInt8.toNat_ofNat']
    have hm : k - 1 - j ≤ 7 := by omega
    generalize k - 1 - j = m at hm
    have : m = 0 ∨ m = 1 ∨ m = 2 ∨ m = 3 ∨ m = 4 ∨ m = 5 ∨ m = 6 ∨ m = 7 := by omega
    rcases this with rfl | rfl | rfl | rfl | rfl | rfl | rfl | rfl <;> simp <;> omega
  · rw [List.getElem?_eq_none (by rw [be_length]; omega), List.getElem?_eq_none (by rw [List.length_map, be_length]; omega)]
end Go.Proofs.Ytpnolgghbenekaa
