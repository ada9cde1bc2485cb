/-
  code.number, GetU, GetI, GetT: what they read of any bytes.
  PLAIN LEAN: what is read of bytes (layer 7): numbers, numbers with a sign, texts; what was put is got.
  WHAT code.wide, bytes, U, I, T GIVE: the codes of layer 7, in a slice of the call's own.
  PLAIN LEAN: numbers and texts as bytes (layer 7's codes), with no program in sight.
-/
import Derived.Test.YtfhmaincnlaapaaGreatApSy2
namespace Go.Proofs.YtfhmaincnlaapaaGreat
set_option linter.unusedVariables false

/-- how many bytes a number below 2^64 has (none: 0) -/
def wdF : Nat → Nat → Nat
  | 0, _ => 0
  | f + 1, x => if x = 0 then 0 else wdF f (x / 256) + 1
def wd (x : Nat) : Nat := wdF 8 x
/-- the lowest k bytes of a number, the highest first -/
def be : Nat → Nat → List UInt8
  | 0, _ => []
  | k + 1, x => UInt8.ofNat (x / 256 ^ k) :: be k x
theorem be_length (k x : Nat) : (be k x).length = k := by
  induction k with
  | zero => rfl
  | succ k ih => simp [be, ih]
theorem be_get (k x j : Nat) (h : j < k) : (be k x)[j]? = some (UInt8.ofNat (x / 256 ^ (k - 1 - j))) := by
  induction k generalizing j with
  | zero => omega
  | succ k ih =>
    cases j with
    | zero => simp [be]
    | succ j => simp only [be, List.getElem?_cons_succ]; rw [ih j (by omega)]; congr 4; omega
theorem be_take (k x j : Nat) (h : j < k) : (be k x).take (j + 1) = (be k x).take j ++ [UInt8.ofNat (x / 256 ^ (k - 1 - j))] := by
  rw [List.take_add_one, be_get k x j h]; rfl
theorem be_snoc (k x : Nat) : be (k + 1) x = be k (x / 256) ++ [UInt8.ofNat x] := by
  induction k with
  | zero => simp [be]
  | succ k ih =>
    rw [be, ih]
    conv => rhs; rw [be]
    simp only [List.cons_append]
    congr 2
    rw [Nat.div_div_eq_div_mul, Nat.pow_succ, Nat.mul_comm]
theorem wdF_le (f x : Nat) : wdF f x ≤ f := by
  induction f generalizing x with
  | zero => simp [wdF]
  | succ f ih => simp only [wdF]; split; omega; have := ih (x / 256); omega
theorem wd_le (x : Nat) : wd x ≤ 8 := wdF_le 8 x
theorem wdF_lt (f x : Nat) (h : x < 256 ^ f) : x < 256 ^ wdF f x := by
  induction f generalizing x with
  | zero => simpa [wdF] using h
  | succ f ih =>
    simp only [wdF]
    split
    · omega
    · have := ih (x / 256) (by rw [Nat.pow_succ] at h; omega)
      rw [Nat.pow_succ]; omega
theorem wdF_ge (f x : Nat) (h0 : 0 < x) (h : x < 256 ^ f) : 256 ^ (wdF f x - 1) ≤ x := by
  induction f generalizing x with
  | zero => simp at h; omega
  | succ f ih =>
    simp only [wdF]
    rw [if_neg (by omega)]
    by_cases hx : x / 256 = 0
    · have : wdF f (x / 256) = 0 := by rw [hx]; cases f <;> simp [wdF]
      rw [this]; simp; omega
    · have := ih (x / 256) (by omega) (by rw [Nat.pow_succ] at h; omega)
      have hw : 1 ≤ wdF f (x / 256) := by
        cases f with
        | zero => simp at h; omega
        | succ f => simp only [wdF]; rw [if_neg hx]; omega
      have e : wdF f (x / 256) + 1 - 1 = (wdF f (x / 256) - 1) + 1 := by omega
      rw [e, Nat.pow_succ]; omega
/-- a number's fuel does not matter once it is enough -/
theorem wdF_more (f x : Nat) (h : x < 256 ^ f) : wdF (f + 1) x = wdF f x := by
  induction f generalizing x with
  | zero => simp at h; simp [wdF, h]
  | succ f ih =>
    rw [wdF]
    split
    · rename_i h0; simp [wdF, h0]
    · rename_i h0
      rw [ih (x / 256) (by rw [Nat.pow_succ] at h; omega)]
      conv => rhs; rw [wdF]
      rw [if_neg h0]
theorem wd_step (x : Nat) (h : x < 18446744073709551616) (h0 : 0 < x) : wd x = wd (x / 256) + 1 := by
  unfold wd
  rw [show wdF 8 x = (if x = 0 then 0 else wdF 7 (x / 256) + 1) from rfl, if_neg (by omega), wdF_more 7 (x / 256) (by simp; omega)]
theorem wd_zero : wd 0 = 0 := rfl
theorem wd_lt (x : Nat) (h : x < 18446744073709551616) : x < 256 ^ wd x := wdF_lt 8 x (by simpa using h)
theorem wd_ge (x : Nat) (h0 : 0 < x) (h : x < 18446744073709551616) : 256 ^ (wd x - 1) ≤ x := wdF_ge 8 x h0 (by simpa using h)

theorem be_cell (x j m k : Nat) (h : j + 1 + m = k) : Value.int IntKind.u8 ((x : Int) / 2 ^ (8 * j) % 256) = .int .u8 ((UInt8.ofNat (x / 256 ^ (k - 1 - m))).toNat : Int) := by
  have e : k - 1 - m = j := by omega
  rw [e, UInt8.toNat_ofNat', show (256 : Nat) = 2 ^ 8 from rfl, ← Nat.pow_mul]
  simp

theorem nat_not64 (y : Nat) (h : y < 18446744073709551616) : 18446744073709551615 ^^^ y = 18446744073709551615 - y := by
  have e : (BitVec.allOnes 64 ^^^ BitVec.ofNat 64 y).toNat = 18446744073709551615 - y := by
    rw [BitVec.allOnes_xor, BitVec.toNat_not, BitVec.toNat_ofNat, Nat.mod_eq_of_lt (by omega)]
  rw [BitVec.toNat_xor, BitVec.toNat_ofNat, Nat.mod_eq_of_lt (by omega)] at e
  simpa using e
theorem bits_not64 (y : Nat) (h : y < 18446744073709551616) : bits .xor .u64 IntKind.u64.max (y : Int) = ((18446744073709551615 - y : Nat) : Int) := by
  have e : IntKind.u64.max = ((18446744073709551615 : Nat) : Int) := by decide
  rw [e, u64_xor_nat _ _ (by omega) h, nat_not64 y h]

/-- the codes -/
def encU (x : Nat) : List UInt8 := UInt8.ofNat (wd x) :: be (wd x) x
def encI (z : Int) : List UInt8 :=
  if 0 ≤ z then UInt8.ofNat (9 + wd z.toNat) :: be (wd z.toNat) z.toNat
  else UInt8.ofNat (8 - wd (-(z + 1)).toNat) :: be (wd (-(z + 1)).toNat) (18446744073709551615 - (-(z + 1)).toNat)
theorem encU_length (x : Nat) : (encU x).length = wd x + 1 := by simp [encU, be_length]
theorem be_flip (k y : Nat) (hk : k ≤ 8) (hy : y < 18446744073709551616) : be k (18446744073709551615 - y) = (be k y).map (255 - ·) := by
  apply List.ext_getElem?
  intro j
  by_cases hj : j < k
  · rw [List.getElem?_map, be_get _ _ _ hj, be_get _ _ _ hj]
    simp only [Option.map_some]
    congr 1
    apply UInt8.toNat_inj.1
    rw [UInt8.toNat_sub_of_le _ _ (by rw [UInt8.le_iff_toNat_le]; have := (UInt8.ofNat (y / 256 ^ (k - 1 - j))).toNat_lt; simp; omega)]
    simp only [UInt8.toNat_ofNat']
    have hm : k - 1 - j ≤ 7 := by omega
    generalize k - 1 - j = m at hm
    have : m = 0 ∨ m = 1 ∨ m = 2 ∨ m = 3 ∨ m = 4 ∨ m = 5 ∨ m = 6 ∨ m = 7 := by omega
    rcases this with rfl | rfl | rfl | rfl | rfl | rfl | rfl | rfl <;> simp <;> omega
  · rw [List.getElem?_eq_none (by rw [be_length]; omega), List.getElem?_eq_none (by rw [List.length_map, be_length]; omega)]
end Go.Proofs.YtfhmaincnlaapaaGreat
namespace Go.Proofs.YtfhmaincnlaapaaGreat
open Go.ChangeShapes Go.WideShapes Go.ChangeAt Go.RowKit
set_option linter.unusedVariables false

theorem wide_any (x : Nat) (w : World) (hx : x < 18446744073709551616) :
    Calls Tryz.prog 191 #[.int .u64 (x : Int)] w fun e w' => e = .returned (.int .i64 (wd x : Nat)) ∧ w = w' := by
  go_enter Tryz.func191, Tryz.ntmps191
  go_wp2
  go_loop [0, 3] (fun v n => ∃ (y k : Nat), y < 18446744073709551616 ∧ v = .int .u64 (y : Int) ∧ n = .int .i64 (k : Int) ∧ k + wd y = wd x) (fun v _ => (intOf v).toNat)
  case atStart => exact ⟨x, 0, hx, rfl, rfl, by omega⟩
  case round =>
    obtain ⟨y, k, hy, rfl, rfl, hk⟩ := hrel
    have hw := wd_le x
    have hk2 : k ≤ 8 := by omega
    have K := Lib.hid hk; clear hk
    by_cases h0 : 0 < y
    · go_wp2
      go_round
      case rel => exact ⟨y / 256, k + 1, by omega, by go_num, by go_num, by have := K.out; have := wd_step y hy h0; omega⟩
      case measure => simp [intOf]; omega
    · obtain rfl : y = 0 := by omega
      go_wp2
      go_ret
      exact ⟨by have := K.out; rw [wd_zero] at this; simp at this; rw [← this]; rfl, rfl⟩

theorem info_u8 : (Tryz.prog.info? 5).map (fun i => (i.zero, i.size, i.bytes)) = some (some (.int .u8 0), 1, 1) := by kernel_rfl

set_option maxRecDepth 20000 in
theorem bytes_any (base n x k : Nat) (v : Value) (xs : List UInt8) (w : World) (hown : w.ownsRow base 5 1 v n (u8s xs)) (hbase : base ≤ w.heap.size) (hx : x < 18446744073709551616) (hk : k ≤ 8) (hn : n ≤ 1000000) :
    Calls Tryz.prog 192 #[v, .int .u64 (x : Int), .int .i64 (k : Int)] w fun e w' => ∃ v', e = .returned v' ∧ w'.ownsRow base 5 1 v' (n + k) (u8s (xs ++ be k x)) ∧ Appd w w' v v' := by
  go_enter Tryz.func192, Tryz.ntmps192
  go_wp2
  go_loopw [0, 7] (fun v1 i wr => ∃ j m : Nat, j + m = k ∧ i = .int .i64 ((j : Int) - 1) ∧ wr.ownsRow base 5 1 v1 (n + m) (u8s (xs ++ (be k x).take m)) ∧ Appd w wr v v1) (fun _ i _ => (intOf i + 1).toNat)
  case atStart => exact ⟨k, 0, by omega, rfl, by simpa using hown, Appd.refl _ _⟩
  case round =>
    obtain ⟨j, m, hj, rfl, ho, hb⟩ := hrel
    have hbz : base ≤ wr.heap.size := Nat.le_trans hbase hb.1.size
    have J := Lib.hid hj; clear hj
    cases j with
    | succ j =>
      rw [show ((j + 1 : Nat) : Int) - 1 = (j : Int) from by omega]
      have hm : 8 * (j : Int) ≤ 56 := by have := J.out; omega
      have hm2 : m ≤ 7 := by have := J.out; omega
      go_wp2_with (at_builtin; go_loud (refine wpList_app1 _ _ rfl rfl _ _ 27 rfl base 5 _ 1 info_u8 rfl Tryz.underlying27 _ _ _ ho rfl rfl ?_ ?_ ?_ ?_); omega; omega; exact hbz; intro v2 w2 ho2 hb2)
      go_roundw
      case rel => exact ⟨j, m + 1, by have := J.out; omega, rfl, by rw [be_take _ _ _ (by have := J.out; omega), ← List.append_assoc, ← u8s_snoc _ _ _ (be_cell x j m k J.out)]; exact ho2, hb.trans hb2⟩
      case measure => simp [intOf]
    | zero =>
      obtain rfl : m = k := by have := J.out; omega
      go_wp2
      go_ret
      exact ⟨_, rfl, by rw [List.take_of_length_le (by rw [be_length]; omega)] at ho; exact ho, hb⟩

/-- a slice of one byte that the call has just laid -/
theorem own_lit1 (w : World) (u : Value) (base : Nat) (hb : base ≤ w.heap.size) (e : TypeId) : (w.alloc (.cells #[u] e)).ownsRow base e 1 (.slice (some ⟨w.heap.size, 0, none⟩) 1 1) 1 [u] :=
  World.ownsRow_lit w #[u] 1 hb (by simp [maxLen]) (by simp)
theorem appd_lit1 {w w' : World} {u v' : Value} {e : TypeId} (h : Appd (w.alloc (.cells #[u] e)) w' (.slice (some ⟨w.heap.size, 0, none⟩) 1 1) v') : Below w.heap.size w w' ∧ ∀ k, v'.ownBlock = some k → w.heap.size ≤ k := by
  have hsz : (w.alloc (.cells #[u] e)).heap.size = w.heap.size + 1 := by simp
  refine ⟨((Below.refl _ w).alloc (Nat.le_refl _) _).grown h.1 (by omega) (fun k hk => by cases hk; exact Nat.le_refl _), fun k hk => ?_⟩
  rcases h.2 with e | ⟨i, e, hi⟩
  · rw [e] at hk; cases hk; exact Nat.le_refl _
  · rw [e] at hk; cases hk; omega

theorem own_lit1b (w : World) (z : Int) (b : Nat) (hz : z = (b : Int)) (hb : b < 256) : (w.alloc (.cells #[.int .u8 z] 5)).ownsRow w.heap.size 5 1 (.slice (some ⟨w.heap.size, 0, none⟩) 1 1) 1 (u8s [UInt8.ofNat b]) := by
  have := own_lit1 w (.int .u8 z) w.heap.size (Nat.le_refl _) 5
  have e : u8s [UInt8.ofNat b] = [.int .u8 z] := by
    simp only [u8s, List.map_cons, List.map_nil, UInt8.toNat_ofNat', hz]
    rw [Nat.mod_eq_of_lt (by omega)]
  rw [e]; exact this

theorem codeU_any (x : Nat) (w : World) (hx : x < 18446744073709551616) :
    Calls Tryz.prog 154 #[.int .u64 (x : Int)] w fun e w' => ∃ v', e = .returned v' ∧ w'.ownsRow w.heap.size 5 1 v' (wd x + 1) (u8s (encU x)) ∧ Below w.heap.size w w' := by
  have hw := wd_le x
  have hc := bytes_any w.heap.size 1 x (wd x) _ [UInt8.ofNat (wd x)] _ (own_lit1b w (wd x : Int) (wd x) rfl (by omega)) (by simp) hx hw (by omega)
  go_enter Tryz.func154, Tryz.ntmps154
  go_wp2_with (first | (go_at_call 191; (with_reducible refine (wide_any x _ hx).mono ?_); rintro e w' ⟨rfl, rfl⟩) | (go_at_call 192; (with_reducible refine hc.mono ?_); rintro e w' ⟨v', rfl, ho, hb⟩))
  go_ret
  exact ⟨_, rfl, by rw [Nat.add_comm]; exact ho, (appd_lit1 hb).1⟩

theorem codeI_any (z : Int) (w : World) (h1 : -9223372036854775808 ≤ z) (h2 : z ≤ 9223372036854775807) :
    Calls Tryz.prog 155 #[.int .i64 z] w fun e w' => ∃ v', e = .returned v' ∧ w'.ownsRow w.heap.size 5 1 v' (encI z).length (u8s (encI z)) ∧ Below w.heap.size w w' := by
  by_cases hz : 0 ≤ z
  · obtain ⟨x, rfl⟩ := Int.eq_ofNat_of_zero_le hz
    have hx : x < 18446744073709551616 := by omega
    have hw := wd_le x
    have he : encI (x : Int) = UInt8.ofNat (9 + wd x) :: be (wd x) x := by unfold encI; rw [if_pos hz]; simp
    have hc := bytes_any w.heap.size 1 x (wd x) _ [UInt8.ofNat (9 + wd x)] _ (own_lit1b w (9 + (wd x : Int)) (9 + wd x) (by omega) (by omega)) (by simp) hx hw (by omega)
    have hl : (encI (x : Int)).length = 1 + wd x := by rw [he]; simp [be_length]; omega
    have HE := Lib.hid he; clear he
    have HL := Lib.hid hl; clear hl
    go_enter Tryz.func155, Tryz.ntmps155
    go_wp2_with (first | (go_at_call 191; (with_reducible refine (wide_any x _ hx).mono ?_); rintro e w' ⟨rfl, rfl⟩) | (go_at_call 192; (with_reducible refine hc.mono ?_); rintro e w' ⟨v', rfl, ho, hb⟩))
    go_ret
    exact ⟨_, rfl, by rw [HL.out, HE.out]; exact ho, (appd_lit1 hb).1⟩
  · obtain ⟨y, hy⟩ := Int.eq_ofNat_of_zero_le (show 0 ≤ -(z + 1) by omega)
    have hx : y < 18446744073709551616 := by omega
    have hx2 : 18446744073709551615 - y < 18446744073709551616 := by omega
    have hw := wd_le y
    have he : encI z = UInt8.ofNat (8 - wd y) :: be (wd y) (18446744073709551615 - y) := by unfold encI; rw [if_neg hz, hy]; simp
    have hl : (encI z).length = 1 + wd y := by rw [he]; simp [be_length]; omega
    have hc := bytes_any w.heap.size 1 (18446744073709551615 - y) (wd y) _ [UInt8.ofNat (8 - wd y)] _ (own_lit1b w (8 - (wd y : Int)) (8 - wd y) (by omega) (by omega)) (by simp) hx2 hw (by omega)
    have hz0 : z < 0 := by omega
    have hyz : z = -1 - (y : Int) := by omega
    have HE := Lib.hid he; clear he
    have HL := Lib.hid hl; clear hl
    have HY := Lib.hid hy; clear hy
    subst hyz
    clear hz
    go_enter Tryz.func155, Tryz.ntmps155
    go_wp2_with fail
    rw [show -(-1 - (y : Int) + 1) = (y : Int) from by omega]
    (with_reducible refine (wide_any y _ hx).mono ?_); rintro e w' ⟨rfl, rfl⟩
    go_wp2_with fail
    rw [bits_not64 y hx]
    (with_reducible refine hc.mono ?_); rintro e w' ⟨v', rfl, ho, hb⟩
    go_wp2
    go_ret
    exact ⟨_, rfl, by rw [HL.out, HE.out]; exact ho, (appd_lit1 hb).1⟩

end Go.Proofs.YtfhmaincnlaapaaGreat
namespace Go.Proofs.YtfhmaincnlaapaaGreat
set_option linter.unusedVariables false

theorem snoc_ind {α : Type} {p : List α → Prop} (h0 : p []) (h1 : ∀ l b, p l → p (l ++ [b])) (l : List α) : p l := by
  have h : ∀ r : List α, p r.reverse := by
    intro r
    induction r with
    | nil => exact h0
    | cons b r ih => rw [List.reverse_cons]; exact h1 _ _ ih
  have := h l.reverse
  rwa [List.reverse_reverse] at this
/-- the number that bytes are, the highest first -/
def bv (l : List UInt8) : Nat := l.foldl (fun x b => x * 256 + b.toNat) 0
theorem bv_snoc (l : List UInt8) (b : UInt8) : bv (l ++ [b]) = bv l * 256 + b.toNat := by simp [bv]
theorem bv_lt (l : List UInt8) : bv l < 256 ^ l.length := by
  refine snoc_ind (p := fun l => bv l < 256 ^ l.length) (by simp [bv]) (fun l b ih => ?_) l
  rw [bv_snoc, List.length_append, List.length_singleton, Nat.pow_succ]
  have := b.toNat_lt
  omega
theorem bv_take (l : List UInt8) (i : Nat) (h : i < l.length) : bv (l.take (i + 1)) = bv (l.take i) * 256 + l[i].toNat := by
  rw [List.take_succ_eq_append_getElem h, bv_snoc]
theorem bv_be (k x : Nat) : bv (be k x) = x % 256 ^ k := by
  induction k generalizing x with
  | zero => simp [be, bv, Nat.mod_one]
  | succ k ih =>
    have e : x % 256 ^ (k + 1) = x % 256 + 256 * (x / 256 % 256 ^ k) := by
      rw [Nat.pow_succ, Nat.mul_comm (256 ^ k) 256, Nat.mod_mul]
    rw [be_snoc, bv_snoc, ih, e, UInt8.toNat_ofNat']
    have : x % 2 ^ 8 = x % 256 := rfl
    omega
theorem be_bv (l : List UInt8) : be l.length (bv l) = l := by
  refine snoc_ind (p := fun l => be l.length (bv l) = l) rfl (fun l b ih => ?_) l
  have hb := b.toNat_lt
  rw [List.length_append, List.length_singleton, be_snoc, bv_snoc]
  have e1 : (bv l * 256 + b.toNat) / 256 = bv l := by omega
  rw [e1, ih]
  congr 2
  apply UInt8.toNat_inj.1
  rw [UInt8.toNat_ofNat']
  omega

/-- n bytes that have no nought ahead: the number, and the error -/
def numB (t : List UInt8) (n : Nat) : Nat × Nat :=
  if n = 0 then (0, 0) else
  match t with
  | [] => (0, 5)
  | c :: _ => if c = 0 then (0, 6) else if t.length < n then (0, 5) else (bv (t.take n), 0)
theorem numB_ok (t : List UInt8) (n : Nat) (h : n ≤ t.length) (hz : 0 < n → t.headD 0 ≠ 0) : numB t n = (bv (t.take n), 0) := by
  unfold numB
  by_cases h0 : n = 0
  · subst h0; rfl
  · rw [if_neg h0]
    cases t with
    | nil => simp at h; omega
    | cons c t =>
      have hc : c ≠ 0 := hz (by omega)
      have hl : ¬ (c :: t).length < n := by omega
      simp only [if_neg hc, if_neg hl]
theorem numB_short (t : List UInt8) (n : Nat) (h : t.length < n) (hz : 0 < t.length → t.headD 0 ≠ 0) : numB t n = (0, 5) := by
  unfold numB
  rw [if_neg (by omega)]
  cases t with
  | nil => rfl
  | cons c t =>
    have hc : c ≠ 0 := hz (by simp)
    simp only [if_neg hc, if_pos h]
theorem numB_form (t : List UInt8) (n : Nat) (h0 : 0 < n) (h : 0 < t.length) (hz : t[0] = 0) : numB t n = (0, 6) := by
  unfold numB
  rw [if_neg (by omega)]
  cases t with
  | nil => simp at h
  | cons c t =>
    have hc : c = 0 := hz
    simp only [if_pos hc]
theorem headD_get (t : List UInt8) (h : 0 < t.length) : t.headD 0 = t[0] := by
  cases t with
  | nil => simp at h
  | cons c t => rfl
theorem or_byte (X b : Nat) (hX : X < 72057594037927936) (hb : b < 256) : bits .or .u64 ((X : Int) * 256) (b : Int) = ((X * 256 + b : Nat) : Int) := by
  have e : ((X : Int) * 256) = ((X * 256 : Nat) : Int) := by omega
  rw [e, u64_or_nat _ _ (by omega) (by omega)]
  congr 1
  have := Nat.shiftLeft_add_eq_or_of_lt (show b < 2 ^ 8 from hb) X
  rw [Nat.shiftLeft_eq] at this
  exact this.symm
theorem or_byte0 (b : Nat) (hb : b < 256) : bits .or .u64 0 (b : Int) = (b : Int) := by
  have := or_byte 0 b (by omega) hb
  simpa using this
def getU (l : List UInt8) : Nat × Nat × Nat :=
  match l with
  | [] => (0, 0, 5)
  | c :: t => if 8 < c.toNat then (0, 0, 6) else
    if (numB t c.toNat).2 = 0 then ((numB t c.toNat).1, c.toNat + 1, 0) else (0, 0, (numB t c.toNat).2)
/-- the number of bytes that a first byte asks for, and whether it is below 0 -/
def sgn (c : UInt8) : Nat × Bool := if c.toNat < 9 then (8 - c.toNat, true) else (c.toNat - 9, false)
def prt (c : UInt8) (t : List UInt8) : List UInt8 := if (sgn c).2 then (t.take (sgn c).1).map (255 - ·) else t.take (sgn c).1
def getI (l : List UInt8) : Int × Nat × Nat :=
  match l with
  | [] => (0, 0, 5)
  | c :: t => if 8 < (sgn c).1 then (0, 0, 6) else
    if (sgn c).1 = 8 ∧ 127 < ((prt c t).headD 0).toNat then (0, 0, 6) else
    if (numB (prt c t) (sgn c).1).2 = 0 then (if (sgn c).2 then -((numB (prt c t) (sgn c).1).1 : Int) - 1 else (numB (prt c t) (sgn c).1).1, (sgn c).1 + 1, 0)
    else (0, 0, (numB (prt c t) (sgn c).1).2)
theorem numB_lt (t : List UInt8) (n : Nat) (hn : n ≤ 8) : (numB t n).1 < 18446744073709551616 := by
  have h1 := bv_lt (t.take n)
  have h2 : 256 ^ (t.take n).length ≤ 256 ^ 8 := Nat.pow_le_pow_right (by decide) (by rw [List.length_take]; omega)
  have h3 : (256 : Nat) ^ 8 = 18446744073709551616 := by decide
  unfold numB
  split
  · simp
  · split
    · simp
    · split
      · simp
      · split
        · simp
        · simp only; omega
/-- what is put is got -/
theorem numB_be (x : Nat) (hx : x < 18446744073709551616) (m : List UInt8) : numB (be (wd x) x ++ m) (wd x) = (x, 0) := by
  unfold numB
  by_cases h0 : x = 0
  · subst h0; simp [wd_zero]
  · have hp : 0 < x := by omega
    have hw := wd_step x hx hp
    rw [if_neg (by omega)]
    have hl := wd_lt x hx
    have hg := wd_ge x hp hx
    have e : be (wd x) x = UInt8.ofNat (x / 256 ^ (wd x - 1)) :: be (wd x - 1) x := by
      conv => lhs; rw [show wd x = (wd x - 1) + 1 by omega, be]
    have hd : x / 256 ^ (wd x - 1) < 256 := by
      rw [Nat.div_lt_iff_lt_mul (Nat.pow_pos (by decide))]
      have : (256 : Nat) ^ wd x = 256 ^ (wd x - 1) * 256 := by rw [← Nat.pow_succ]; congr 1; omega
      rw [Nat.mul_comm]; omega
    have h1 : 1 ≤ x / 256 ^ (wd x - 1) := by rw [Nat.le_div_iff_mul_le (Nat.pow_pos (by decide))]; omega
    have hne : UInt8.ofNat (x / 256 ^ (wd x - 1)) ≠ 0 := by
      intro h
      have := congrArg UInt8.toNat h
      rw [UInt8.toNat_ofNat'] at this
      simp at this
      omega
    have hlen : ¬ (be (wd x) x ++ m).length < wd x := by rw [List.length_append, be_length]; omega
    have ht : (be (wd x) x ++ m).take (wd x) = be (wd x) x := by
      have := List.take_left (l₁ := be (wd x) x) (l₂ := m)
      rwa [be_length] at this
    have hm : x % 256 ^ wd x = x := Nat.mod_eq_of_lt hl
    generalize hz : be (wd x) x ++ m = z at *
    cases z with
    | nil => rw [e] at hz; simp at hz
    | cons c z =>
      have hc : c ≠ 0 := by
        rw [e] at hz
        simp only [List.cons_append, List.cons.injEq] at hz
        rw [← hz.1]; exact hne
      simp only [if_neg hc, if_neg hlen]
      rw [ht, bv_be, hm]
theorem getU_enc (x : Nat) (hx : x < 18446744073709551616) (m : List UInt8) : getU (encU x ++ m) = (x, wd x + 1, 0) := by
  have hw := wd_le x
  unfold encU getU
  simp only [List.cons_append]
  have e : (UInt8.ofNat (wd x)).toNat = wd x := by rw [UInt8.toNat_ofNat']; omega
  rw [e, if_neg (by omega), numB_be x hx m]
  simp
theorem getI_enc (z : Int) (h1 : -9223372036854775808 ≤ z) (h2 : z ≤ 9223372036854775807) (m : List UInt8) : getI (encI z ++ m) = (z, (encI z).length, 0) := by
  have top : ∀ y, y < 9223372036854775808 → wd y = 8 → ((be 8 y).headD 0).toNat ≤ 127 := by
    intro y hy h8
    simp only [be, List.headD_cons, UInt8.toNat_ofNat']
    omega
  unfold encI
  by_cases hz : 0 ≤ z
  · rw [if_pos hz]
    generalize hx : z.toNat = x
    have hw := wd_le x
    have e : (UInt8.ofNat (9 + wd x)).toNat = 9 + wd x := by rw [UInt8.toNat_ofNat']; omega
    have es : sgn (UInt8.ofNat (9 + wd x)) = (wd x, false) := by unfold sgn; rw [e, if_neg (by omega)]; simp
    have ht : (be (wd x) x ++ m).take (wd x) = be (wd x) x := by
      have := List.take_left (l₁ := be (wd x) x) (l₂ := m)
      rwa [be_length] at this
    have ep : prt (UInt8.ofNat (9 + wd x)) (be (wd x) x ++ m) = be (wd x) x := by unfold prt; rw [es]; simpa using ht
    unfold getI
    simp only [List.cons_append, es, ep]
    rw [if_neg (by omega), if_neg (by
      rintro ⟨h8, hh⟩
      have := top x (by omega) h8
      rw [h8] at hh; omega)]
    have hn := numB_be x (by omega) []
    rw [List.append_nil] at hn
    rw [hn]
    simp [be_length]
    omega
  · rw [if_neg hz]
    generalize hx : (-(z + 1)).toNat = x
    have hw := wd_le x
    have e : (UInt8.ofNat (8 - wd x)).toNat = 8 - wd x := by rw [UInt8.toNat_ofNat']; omega
    have es : sgn (UInt8.ofNat (8 - wd x)) = (wd x, true) := by unfold sgn; rw [e, if_pos (by omega)]; simp; omega
    have hl : (be (wd x) (18446744073709551615 - x)).length = wd x := be_length _ _
    have ht : (be (wd x) (18446744073709551615 - x) ++ m).take (wd x) = be (wd x) (18446744073709551615 - x) := by
      have := List.take_left (l₁ := be (wd x) (18446744073709551615 - x)) (l₂ := m)
      rwa [be_length] at this
    have hf : (be (wd x) (18446744073709551615 - x)).map (255 - ·) = be (wd x) x := by
      rw [← be_flip _ _ hw (by omega)]; congr 1; omega
    have ep : prt (UInt8.ofNat (8 - wd x)) (be (wd x) (18446744073709551615 - x) ++ m) = be (wd x) x := by unfold prt; rw [es]; simp only [if_true]; rw [ht, hf]
    unfold getI
    simp only [List.cons_append, es, ep]
    rw [if_neg (by omega), if_neg (by
      rintro ⟨h8, hh⟩
      have := top x (by omega) h8
      rw [h8] at hh; omega)]
    have hn := numB_be x (by omega) []
    rw [List.append_nil] at hn
    rw [hn]
    simp [be_length]
    omega
theorem numB_lt63 (t : List UInt8) (n : Nat) (hn : n ≤ 8) (h : n = 8 → (t.headD 0).toNat ≤ 127) : (numB t n).1 < 9223372036854775808 := by
  unfold numB
  split
  · simp
  · split
    · simp
    · rename_i c u
      split
      · simp
      · split
        · simp
        · rename_i hl
          simp only
          have h1 := bv_lt ((c :: u).take n)
          have h3 : ((c :: u).take n).length = n := by rw [List.length_take]; omega
          rw [h3] at h1
          by_cases h8 : n = 8
          · subst h8
            have hc : c.toNat ≤ 127 := h rfl
            have e : (c :: u).take 8 = c :: u.take 7 := rfl
            have hb : bv (c :: u.take 7) = c.toNat * 256 ^ (u.take 7).length + bv (u.take 7) := by
              have := be_bv (c :: u.take 7)
              have hlen : (u.take 7).length = 7 := by rw [List.length_take]; simp at hl; omega
              have key : ∀ (l : List UInt8) (x : Nat), l.foldl (fun x b => x * 256 + b.toNat) x = x * 256 ^ l.length + bv l := by
                intro l
                induction l with
                | nil => intro x; simp [bv]
                | cons d l ih =>
                  intro x
                  rw [List.foldl_cons, ih]
                  have := ih (0 * 256 + d.toNat)
                  rw [show bv (d :: l) = l.foldl (fun x b => x * 256 + b.toNat) (0 * 256 + d.toNat) from rfl, this]
                  rw [List.length_cons, Nat.pow_succ, Nat.zero_mul, Nat.zero_add, Nat.add_mul, Nat.mul_assoc, Nat.mul_comm 256, Nat.add_assoc]
              show (u.take 7).foldl (fun x b => x * 256 + b.toNat) (0 * 256 + c.toNat) = _
              rw [key, Nat.zero_mul, Nat.zero_add]
            rw [e, hb]
            have hlen : (u.take 7).length = 7 := by rw [List.length_take]; simp at hl; omega
            have h4 := bv_lt (u.take 7)
            rw [hlen] at h4 ⊢
            have : (256 : Nat) ^ 7 = 72057594037927936 := by decide
            omega
          · have h5 : 256 ^ n ≤ 256 ^ 7 := Nat.pow_le_pow_right (by decide) (by omega)
            have : (256 : Nat) ^ 7 = 72057594037927936 := by decide
            omega
end Go.Proofs.YtfhmaincnlaapaaGreat
namespace Go.Proofs.YtfhmaincnlaapaaGreat
open Go.ChangeShapes Go.WideShapes Go.ChangeAt Go.RowKit
set_option linter.unusedVariables false

/-- no draws, or some: a function that only reads -/
theorem number_any (A : Option Addr) (m c n B : Nat) (t : List UInt8) (w : World) (h : Rd w B 1 A m (u8s t)) (hn : n ≤ 8) (hm : m ≤ maxLen) :
    Calls Tryz.prog 159 #[.slice A m c, .int .i64 (n : Int)] w fun e w' => e = .returned (.tuple #[.int .u64 ((numB t n).1 : Nat), .int .i64 ((numB t n).2 : Nat)]) ∧ ∃ k, w' = w.drewN k := by
  obtain rfl : m = t.length := h.u8.symm
  unfold maxLen at hm
  have H := Lib.hid h; clear h
  go_enter Tryz.func159, Tryz.ntmps159
  go_wp2
  go_loopw [6, 9] (fun x i wr => ∃ k : Nat, k ≤ n ∧ k ≤ t.length ∧ i = .int .i64 (k : Int) ∧ x = .int .u64 (bv (t.take k) : Nat) ∧ (0 < k → t.headD 0 ≠ 0) ∧ ∃ q, wr = w.drewN q) (fun _ i _ => n - (intOf i).toNat)
  case atStart => exact ⟨0, by omega, by omega, rfl, rfl, fun h => absurd h (by omega), 0, rfl⟩
  case round =>
    obtain ⟨k, hk, hk', rfl, rfl, hnz, q, rfl⟩ := hrel
    have NZ := Lib.hid hnz; clear hnz
    by_cases h1 : k < n
    · by_cases h2 : k < t.length
      · obtain ⟨a, rfl, hb, hc⟩ := H.out.byte h2
        have hbt := bv_take t k h2
        have hlt := bv_lt (t.take k)
        have hlt2 : 256 ^ (t.take k).length ≤ 256 ^ 7 := Nat.pow_le_pow_right (by decide) (by rw [List.length_take]; omega)
        have hbb : bv (t.take k) < 72057594037927936 := by simpa using Nat.lt_of_lt_of_le hlt hlt2
        have hc8 := t[k].toNat_lt
        clear hlt hlt2
        by_cases h3 : k = 0
        · subst h3
          have e0 : a.add 0 = a := by simp [Addr.add]
          rw [e0] at hc
          have hne : t ≠ [] := by intro h; rw [h] at h2; simp at h2
          have hbb0 : bv (List.take 0 t) = 0 := rfl
          have hor := or_byte0 t[0].toNat hc8
          have hhd := headD_get t h2
          rw [show ((0 : Nat) : Int) = 0 from rfl, hbb0]
          rw [hbb0] at hbt
          simp only [Nat.zero_mul, Nat.zero_add] at hbt
          have E0 := Lib.hid e0; have HB := Lib.hid hbb0; have HT := Lib.hid hbt; have HH := Lib.hid hhd; clear e0 hbb0 hbt hhd
          by_cases h4 : t[0] = 0
          · have t1 : ((t[0].toNat : Int) == 0) = true := by rw [h4]; rfl
            have hfin := numB_form t n h1 h2 h4
            have H4 := Lib.hid h4; have HF := Lib.hid hfin; clear h4 hfin
            go_wp2
            go_ret2
            exact ⟨by rw [HF.out]; rfl, _, rfl⟩
          · have t1 : ((t[0].toNat : Int) == 0) = false := by rw [beq_eq_false_iff_ne]; intro h; exact h4 (UInt8.toNat_inj.1 (by simp; omega))
            have H4 := Lib.hid h4; clear h4
            go_wp2
            go_roundw
            case rel => exact ⟨1, by omega, by omega, rfl, by rw [HT.out], fun _ => by rw [HH.out]; exact H4.out, _, rfl⟩
            case measure => simp [intOf]; omega
        · have t0 : ((k : Int) == 0) = false := by rw [beq_eq_false_iff_ne]; omega
          have hor := or_byte (bv (t.take k)) t[k].toNat hbb hc8
          have HT := Lib.hid hbt; clear hbt
          go_wp2
          go_roundw
          case rel => exact ⟨k + 1, by omega, by omega, by go_num, by rw [HT.out]; go_num, fun _ => NZ.out (by omega), _, rfl⟩
          case measure => simp [intOf]; omega
      · obtain rfl : k = t.length := by omega
        have hfin := numB_short t n h1 NZ.out
        have HF := Lib.hid hfin; clear hfin
        go_wp2
        go_ret2
        exact ⟨by rw [HF.out]; rfl, _, rfl⟩
    · obtain rfl : k = n := by omega
      have hfin := numB_ok t k hk' NZ.out
      have HF := Lib.hid hfin; clear hfin
      go_wp2
      go_ret2
      exact ⟨by rw [HF.out]; rfl, _, rfl⟩

theorem getU_any (A : Option Addr) (m c B : Nat) (t : List UInt8) (w : World) (h : Rd w B 1 A m (u8s t)) (hmc : m ≤ c) (hc : c ≤ maxLen) :
    Calls Tryz.prog 106 #[.slice A m c] w fun e w' => e = .returned (.tuple #[.int .u64 ((getU t).1 : Nat), .int .i64 ((getU t).2.1 : Nat), .int .i64 ((getU t).2.2 : Nat)]) ∧ ∃ k, w' = w.drewN k := by
  obtain rfl : m = t.length := h.u8.symm
  have hcc := hc
  unfold maxLen at hcc
  cases t with
  | nil =>
    go_enter Tryz.func106, Tryz.ntmps106
    go_wp2
    go_ret3
    exact ⟨rfl, 0, rfl⟩
  | cons x t =>
    have hl : (x :: t).length = t.length + 1 := rfl
    rw [hl] at h hmc ⊢
    obtain ⟨a, rfl, hb, hx⟩ := h.byte (k := 0) (by simp)
    have e0 : a.add 0 = a := by simp [Addr.add]
    rw [e0] at hx
    simp only [List.getElem_cons_zero] at hx
    have hx8 := x.toNat_lt
    have h1 := h.rest
    have h10 := fun h0 => h.rest0 (n := t.length) h0
    have hmt : t.length ≤ maxLen := by unfold maxLen; omega
    have H1 := Lib.hid h1; have H10 := Lib.hid h10; have E0 := Lib.hid e0; clear h1 h10 e0 hl
    by_cases h8 : 8 < x.toNat
    · have hfin : getU (x :: t) = (0, 0, 6) := by simp [getU, h8]
      have HF := Lib.hid hfin; clear hfin
      go_enter Tryz.func106, Tryz.ntmps106
      go_wp2
      go_ret3
      exact ⟨by rw [HF.out]; rfl, 0, rfl⟩
    · have hfin : getU (x :: t) = if (numB t x.toNat).2 = 0 then ((numB t x.toNat).1, x.toNat + 1, 0) else (0, 0, (numB t x.toNat).2) := by simp [getU, h8]
      have hnum := fun A' c' (hR : Rd w B 1 A' t.length (u8s t)) => number_any A' t.length c' x.toNat B t w hR (by omega) hmt
      generalize hN : numB t x.toNat = N at *
      have HN := Lib.hid hN
      have HNUM := Lib.hid hnum; clear hnum hN
      by_cases he : N.2 = 0
      · have t1 : ((N.2 : Int) != 0) = false := by rw [he]; rfl
        rw [if_pos he] at hfin
        have HF := Lib.hid hfin; have HE := Lib.hid he; clear hfin he
        by_cases hc1 : c = 1
        · obtain rfl : t = [] := List.eq_nil_of_length_eq_zero (by omega)
          subst hc1
          clear hmc hmt hcc
          go_enter Tryz.func106, Tryz.ntmps106
          go_wp2_with (go_at_call 159; (refine (HNUM.out (some a) 0 (H10.out rfl)).mono ?_); rintro e w' ⟨rfl, k1, rfl⟩)
          go_ret3
          exact ⟨by rw [HF.out]; go_num, _, rfl⟩
        · go_enter Tryz.func106, Tryz.ntmps106
          go_wp2_with (go_at_call 159; (with_reducible refine (HNUM.out (some ⟨a.block, a.off + 1, none⟩) _ H1.out).mono ?_); rintro e w' ⟨rfl, k1, rfl⟩)
          go_ret3
          exact ⟨by rw [HF.out]; go_num, _, rfl⟩
      · have t1 : ((N.2 : Int) != 0) = true := by rw [bne_iff_ne]; omega
        rw [if_neg he] at hfin
        have HF := Lib.hid hfin; have HE := Lib.hid he; clear hfin he
        by_cases hc1 : c = 1
        · obtain rfl : t = [] := List.eq_nil_of_length_eq_zero (by omega)
          subst hc1
          clear hmc hmt hcc
          go_enter Tryz.func106, Tryz.ntmps106
          go_wp2_with (go_at_call 159; (refine (HNUM.out (some a) 0 (H10.out rfl)).mono ?_); rintro e w' ⟨rfl, k1, rfl⟩)
          go_ret3
          exact ⟨by rw [HF.out]; rfl, _, rfl⟩
        · go_enter Tryz.func106, Tryz.ntmps106
          go_wp2_with (go_at_call 159; (with_reducible refine (HNUM.out (some ⟨a.block, a.off + 1, none⟩) _ H1.out).mono ?_); rintro e w' ⟨rfl, k1, rfl⟩)
          go_ret3
          exact ⟨by rw [HF.out]; rfl, _, rfl⟩

end Go.Proofs.YtfhmaincnlaapaaGreat
