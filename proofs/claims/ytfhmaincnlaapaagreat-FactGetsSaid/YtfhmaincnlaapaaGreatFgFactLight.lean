/-
  bushelref12.Light.
  bushellaw12.awake.
  fact.each, fact.Put.
-/
import Derived.Test.YtfhmaincnlaapaaGreatFgBufOutKeep
import Derived.Test.YtfhmaincnlaapaaGreatFgFactSame2
namespace Go.Proofs.YtfhmaincnlaapaaGreat
open Go.ChangeShapes Go.WideShapes Go.ChangeAt Go.RowKit
set_option linter.unusedVariables false

def encCodes (l : List Int) : List UInt8 := l.flatMap fun c => encU c.toNat
def encIs (l : List Int) : List UInt8 := l.flatMap encI
def encFs (l : List Nat) : List UInt8 := l.flatMap fun b => be 8 (keyB b)
def encFact (F : FactS) : List UInt8 := encCodes F.codes ++ encIs F.ints ++ encFs F.nums
def encBatch (l : List FactS) : List UInt8 := encU l.length ++ l.flatMap encFact
theorem flat_snoc {α : Type} (f : α → List UInt8) (z : α) (l : List α) (k : Nat) (hk : k < l.length) : (l.take (k + 1)).flatMap f = (l.take k).flatMap f ++ f (l.getD k z) := by
  rw [List.take_succ_eq_append_getElem hk, List.flatMap_append]
  simp [List.getD, hk]
theorem flat_le {α : Type} (f : α → List UInt8) (c : Nat) (l : List α) (h : ∀ x ∈ l, (f x).length ≤ c) : (l.flatMap f).length ≤ c * l.length := by
  induction l with
  | nil => simp
  | cons x l ih =>
    have h1 := h x (by simp)
    have h2 := ih (fun y hy => h y (by simp [hy]))
    rw [List.flatMap_cons, List.length_append, List.length_cons, Nat.mul_succ]
    omega
theorem encU_9 (x : Nat) : (encU x).length ≤ 9 := by have := wd_le x; rw [encU_length]; omega
theorem encCodes_le (l : List Int) : (encCodes l).length ≤ 9 * l.length := flat_le _ 9 l fun _ _ => encU_9 _
theorem encIs_le (l : List Int) : (encIs l).length ≤ 9 * l.length := flat_le _ 9 l fun _ _ => encI_9 _
theorem encFs_le (l : List Nat) : (encFs l).length ≤ 9 * l.length := flat_le _ 9 l fun _ _ => by rw [be_length]; omega
theorem encFact_le (F : FactS) : (encFact F).length ≤ 9 * (F.codes.length + F.ints.length + F.nums.length) := by
  have := encCodes_le F.codes; have := encIs_le F.ints; have := encFs_le F.nums
  unfold encFact; rw [List.length_append, List.length_append]; omega
/-- a fact that fits a right schema is small, and its codes are not negative -/
theorem fits_small {S : Sch} {F : FactS} (hc : checkN S = 0) (h : fitsN S F = 0) : F.codes.length ≤ 6 ∧ F.ints.length ≤ 3 ∧ F.nums.length ≤ 2 ∧ ∀ k, k < F.codes.length → 0 ≤ codeAt F k ∧ codeAt F k < szAt S k ∧ szAt S k ≤ 4096 := by
  obtain ⟨hm, p, hp⟩ := checkN_zero hc
  unfold manyOk at hm
  by_cases hl : lensOk S F
  · unfold fitsN at h
    rw [if_pos hl] at h
    split at h
    · rename_i ht
      unfold lensOk at hl
      refine ⟨by omega, by omega, by omega, fun k hk => ?_⟩
      unfold codesTo at ht
      rw [List.all_eq_true] at ht
      have := ht k (List.mem_range.2 hk)
      unfold codeOk at this
      simp only [Bool.and_eq_true, decide_eq_true_iff] at this
      exact ⟨this.1, this.2, (keysTo_some S _ p hp k (by omega)).2⟩
    · cases h
  · rw [fitsN_many hl] at h; cases h
set_option maxRecDepth 20000 in
set_option maxHeartbeats 1000000 in
theorem eachI_any (w : World) (base g B : Nat) (L : List UInt8) (xs : List Int) (A : Option Addr) (c : Nat) (h : OutS w base g L) (hR : Rd w B 1 A xs.length (i64s xs)) (hB : B ≤ base)
    (hx : ∀ x ∈ xs, -9223372036854775808 ≤ x ∧ x ≤ 9223372036854775807) (hlen : L.length + 9 * xs.length ≤ 900000000) :
    Calls Tryz.prog 100 #[.slice A xs.length c, .func (.func 95) #[.pointer (some ⟨g, 0, none⟩)] #[]] w fun y w' => y = .returned (.tuple #[]) ∧ OutS w' base g (L ++ encIs xs) ∧ Below base w w' ∧ KeptK w w' := by
  have H := Lib.hid h; have HR := Lib.hid hR; have HX := Lib.hid hx
  clear h hR hx
  go_enter Tryz.func100, Tryz.ntmps100
  go_wp2
  go_loopw [8] (fun i wr => ∃ k : Nat, k ≤ xs.length ∧ i = .int .i64 (k : Int) ∧ Hid (OutS wr base g (L ++ encIs (xs.take k))) ∧ Hid (Below base w wr) ∧ Hid (KeptK w wr)) (fun i _ => xs.length - (intOf i).toNat)
  case atStart => exact ⟨0, by omega, rfl, by show OutS w base g (L ++ []); rw [List.append_nil]; exact H.out, Below.refl _ _, KeptK.refl w⟩
  case round =>
    obtain ⟨k, hk, rfl, HO, HBl, HK⟩ := hrel
    by_cases hlt : k < xs.length
    · obtain ⟨a, rfl, hab, x0⟩ := (HR.out.below (HBl.out.mono hB)).i64 hlt
      have q1 : (0 : Int) ≤ (k : Int) := by omega
      have q2 : (k : Int) < (xs.length : Int) := by omega
      have hsn : encIs (xs.take (k + 1)) = encIs (xs.take k) ++ encI (xs.getD k 0) := flat_snoc encI 0 xs k hlt
      have hle := encIs_le (xs.take k)
      rw [List.length_take, Nat.min_eq_left (by omega)] at hle
      have hr := HX.out (xs.getD k 0) (by simp [List.getD, hlt])
      have hc := outIK_any wr base g (xs.getD k 0) (L ++ encIs (xs.take k)) HO.out hr.1 hr.2 (by rw [List.length_append]; omega)
      generalize xs.getD k 0 = x at *
      have HSN := Lib.hid hsn; have HC := Lib.hid hc
      clear hsn hc hle
      go_wp2_with (go_at_call 95; (with_reducible refine HC.out.mono ?_); rintro y w2 ⟨rfl, ho2, hb2, hk2⟩; have HO2 := Lib.hid ho2; have HB2 := Lib.hid hb2; have HK2 := Lib.hid hk2; clear ho2 hb2 hk2)
      go_roundw
      case rel => exact ⟨k + 1, by omega, by go_num, by show OutS _ base g (L ++ encIs (xs.take (k + 1))); rw [HSN.out, ← List.append_assoc]; exact HO2.out, HBl.out.trans HB2.out, HK.out.trans HK2.out⟩
      case measure => simp [intOf]; omega
    · obtain rfl : k = xs.length := by omega
      rw [List.take_length] at HO
      go_wp2
      go_end0
      exact ⟨rfl, HO.out, HBl.out, HK.out⟩
set_option maxRecDepth 20000 in
set_option maxHeartbeats 1000000 in
theorem eachF_any (w : World) (base g B : Nat) (L : List UInt8) (xs : List Nat) (A : Option Addr) (c : Nat) (h : OutS w base g L) (hR : Rd w B 1 A xs.length (f64s xs)) (hB : B ≤ base)
    (hx : ∀ x ∈ xs, x < 18446744073709551616) (hlen : L.length + 9 * xs.length ≤ 900000000) :
    Calls Tryz.prog 101 #[.slice A xs.length c, .func (.func 97) #[.pointer (some ⟨g, 0, none⟩)] #[]] w fun y w' => y = .returned (.tuple #[]) ∧ OutS w' base g (L ++ encFs xs) ∧ Below base w w' ∧ KeptK w w' := by
  have H := Lib.hid h; have HR := Lib.hid hR; have HX := Lib.hid hx
  clear h hR hx
  go_enter Tryz.func101, Tryz.ntmps101
  go_wp2
  go_loopw [8] (fun i wr => ∃ k : Nat, k ≤ xs.length ∧ i = .int .i64 (k : Int) ∧ Hid (OutS wr base g (L ++ encFs (xs.take k))) ∧ Hid (Below base w wr) ∧ Hid (KeptK w wr)) (fun i _ => xs.length - (intOf i).toNat)
  case atStart => exact ⟨0, by omega, rfl, by show OutS w base g (L ++ []); rw [List.append_nil]; exact H.out, Below.refl _ _, KeptK.refl w⟩
  case round =>
    obtain ⟨k, hk, rfl, HO, HBl, HK⟩ := hrel
    by_cases hlt : k < xs.length
    · obtain ⟨a, rfl, hab, x0⟩ := (HR.out.below (HBl.out.mono hB)).f64 hlt
      have q1 : (0 : Int) ≤ (k : Int) := by omega
      have q2 : (k : Int) < (xs.length : Int) := by omega
      have hsn : encFs (xs.take (k + 1)) = encFs (xs.take k) ++ be 8 (keyB (xs.getD k 0)) := flat_snoc (fun b => be 8 (keyB b)) 0 xs k hlt
      have hle := encFs_le (xs.take k)
      rw [List.length_take, Nat.min_eq_left (by omega)] at hle
      have hr := HX.out (xs.getD k 0) (by simp [List.getD, hlt])
      have hc := outFK_any wr base g (xs.getD k 0) (L ++ encFs (xs.take k)) HO.out hr (by rw [List.length_append]; omega)
      generalize xs.getD k 0 = x at *
      have HSN := Lib.hid hsn; have HC := Lib.hid hc
      clear hsn hc hle
      go_wp2_with (go_at_call 97; (with_reducible refine HC.out.mono ?_); rintro y w2 ⟨rfl, ho2, hb2, hk2⟩; have HO2 := Lib.hid ho2; have HB2 := Lib.hid hb2; have HK2 := Lib.hid hk2; clear ho2 hb2 hk2)
      go_roundw
      case rel => exact ⟨k + 1, by omega, by go_num, by show OutS _ base g (L ++ encFs (xs.take (k + 1))); rw [HSN.out, ← List.append_assoc]; exact HO2.out, HBl.out.trans HB2.out, HK.out.trans HK2.out⟩
      case measure => simp [intOf]; omega
    · obtain rfl : k = xs.length := by omega
      rw [List.take_length] at HO
      go_wp2
      go_end0
      exact ⟨rfl, HO.out, HBl.out, HK.out⟩
theorem FactAt.rds {w : World} {B : Nat} {F : FactS} {D0 D1 D2 : Option Addr} {d0 d1 d2 : Nat} (h : FactAt w B (.agg #[.slice D0 F.codes.length d0, .slice D1 F.ints.length d1, .slice D2 F.nums.length d2]) F) :
    Rd w B 1 D0 F.codes.length (i64s F.codes) ∧ Rd w B 1 D1 F.ints.length (i64s F.ints) ∧ Rd w B 1 D2 F.nums.length (f64s F.nums) := by
  obtain ⟨_, _, _, e, hv⟩ := h
  injection e with e
  simp only [Array.mk.injEq, List.cons.injEq, and_true] at e
  obtain ⟨rfl, rfl, rfl⟩ := e
  obtain ⟨_, _, _, _, _, _, e0, e1, e2, r0, r1, r2, _⟩ := hv
  injection e0 with e0 _ _; injection e1 with e1 _ _; injection e2 with e2 _ _
  subst e0 e1 e2
  exact ⟨r0, r1, r2⟩
theorem encFact_app (L : List UInt8) (F : FactS) : L ++ encCodes F.codes ++ encIs F.ints ++ encFs F.nums = L ++ encFact F := by
  unfold encFact; simp only [List.append_assoc]
def encTo (l : List FactS) (k : Nat) : List UInt8 := encU l.length ++ (l.take k).flatMap encFact
theorem encTo_succ (l : List FactS) (k : Nat) (hk : k < l.length) : encTo l (k + 1) = encTo l k ++ encFact l[k] := by
  unfold encTo
  rw [flat_snoc encFact ⟨[], [], []⟩ l k hk, ← List.append_assoc]
  simp [List.getD, hk]
theorem encTo_all (l : List FactS) : encTo l l.length = encBatch l := by unfold encTo encBatch; rw [List.take_length]
theorem encTo_le {S : Sch} {l : List FactS} (hc : checkN S = 0) (h : ∀ j, j < l.length → fitsAt S l j = 0) (k : Nat) (hk : k ≤ l.length) : (encTo l k).length ≤ 9 + 99 * k := by
  induction k with
  | zero => unfold encTo; have := encU_9 l.length; simp; omega
  | succ k ih =>
    rw [encTo_succ l k (by omega), List.length_append]
    have := ih (by omega)
    have h1 := h k (by omega)
    rw [fitsAt_get S l k (by omega)] at h1
    obtain ⟨a, b, c, _⟩ := fits_small hc h1
    have := encFact_le l[k]
    omega
set_option maxRecDepth 20000 in
set_option maxHeartbeats 4000000 in
theorem put_any (w : World) (B : Nat) (v : Value) (S : Sch) (A : Option Addr) (c : Nat) (l : List FactS) (h : SchAt w B v S) (ho : SchOk S) (g : SlR factR w B l A c) (hB : B ≤ w.heap.size) (hok : (batchN S l).2 = 0) :
    Calls Tryz.prog 38 #[v, .slice A l.length c] w fun y w' => ∃ v', y = .returned (.tuple #[v', .int .i64 0]) ∧ w'.ownsRow w.heap.size 5 1 v' (encBatch l).length (u8s (encBatch l)) ∧ Below w.heap.size w w' := by
  have hh := h
  obtain ⟨A0, c0, A1, c1, A2, c2, A3, c3, rfl, r0, r1, r2, r3, b0, b1, b2, b3⟩ := hh
  clear r0 r1 r2 r3
  obtain ⟨hc0, hl1, hl2, hfit⟩ := batchN_zero hok
  have hw0 := belA (belR w) (.cells #[.slice A0 S.dims.length c0, .slice A1 S.ints.length c1, .slice A2 S.nums.length c2, .slice A3 S.views.length c3] 26)
  have hc := batch_any (w.alloc (.cells #[.slice A0 S.dims.length c0, .slice A1 S.ints.length c1, .slice A2 S.nums.length c2, .slice A3 S.views.length c3] 26)) B _ S A c l (h.keep (hw0.mono hB) (Nat.le_refl _)) ho (g.keep (hw0.mono hB) (Nat.le_refl _)) (by simp; omega)
  rw [hok] at hc
  have HW0 := Lib.hid hw0; have HC := Lib.hid hc; have G := Lib.hid g; have HLE := Lib.hid (encTo_le hc0 hfit); have HFIT := Lib.hid hfit; have HC0 := Lib.hid hc0
  have wl : IntKind.u64.wrap (l.length : Int) = (l.length : Int) := by rw [IntKind.wrap_u64]; omega
  clear hw0 hc h g hok hfit hc0
  generalize (batchN S l).1 = p at *
  go_enter Tryz.func38, Tryz.ntmps38
  go_wp2_with fail
  (with_reducible refine HC.out.mono ?_); rintro y w1 ⟨rfl, hb1⟩
  have HB1 := Lib.hid (HW0.out.trans (hb1.mono (show w.heap.size ≤ _ by simp)))
  clear hb1 HW0 HC
  go_wp2_with fail
  (with_reducible refine (newOut_any _).mono ?_); rintro y w2 ⟨rfl, ho2, hb2⟩
  have hc2 := outUK_any w2 w1.heap.size w1.heap.size l.length [] ho2 (by omega) (by simp)
  have HC2 := Lib.hid hc2; have HB2 := Lib.hid hb2
  clear hc2 ho2 hb2
  go_wp2_with fail
  (with_reducible refine HC2.out.mono ?_); rintro y w3 ⟨rfl, ho3, hb3, hk3⟩
  have HO3 : Hid (OutS w3 w1.heap.size w1.heap.size (encTo l 0)) := Lib.hid (by
    have e : encTo l 0 = [] ++ encU l.length := by unfold encTo; simp
    rw [e]; exact ho3)
  have HB3 := Lib.hid (HB2.out.trans hb3)
  have hz1 : w.heap.size ≤ w1.heap.size := HB1.out.size
  clear ho3 hb3 hk3 HC2 HB2
  generalize hbase : w1.heap.size = base at *
  go_wp2
  go_loopw [30] (fun i wr => ∃ k : Nat, k ≤ l.length ∧ i = .int .i64 (k : Int) ∧ Hid (OutS wr base base (encTo l k)) ∧ Hid (Below base w1 wr)) (fun i _ => l.length - (intOf i).toNat)
  case atStart => exact ⟨0, by omega, rfl, HO3.out, HB3.out⟩
  case round =>
    obtain ⟨k, hk, rfl, HO, HBl⟩ := hrel
    have HBW := Lib.hid (HB1.out.trans (HBl.out.mono hz1))
    have hzr : base ≤ wr.heap.size := by rw [← hbase]; exact HBl.out.size
    by_cases hlt : k < l.length
    · obtain ⟨a, D0, d0, D1, d1, D2, d2, rfl, hab, x0, x1, x2, hf, hfo⟩ := (G.out.keep (HBW.out.mono hB) (Nat.le_refl _)).fact3 hlt
      have q1 : (0 : Int) ≤ (k : Int) := by omega
      have q2 : (k : Int) < (l.length : Int) := by omega
      have hf0 := HFIT.out k hlt
      rw [fitsAt_get S l k hlt] at hf0
      obtain ⟨f1, f2, f3, f4⟩ := fits_small HC0.out hf0
      have hsn := encTo_succ l k hlt
      have hll := HLE.out k hk
      generalize l[k] = F at *
      obtain ⟨s0, s1, s2⟩ := hf.rds
      have hbx := belA (belR wr) (.cells #[.slice D0 F.codes.length d0, .slice D1 F.ints.length d1, .slice D2 F.nums.length d2] 86)
      have hbk := Blk.new wr 86 #[.slice D0 F.codes.length d0, .slice D1 F.ints.length d1, .slice D2 F.nums.length d2]
      have S0 := Lib.hid (s0.below (hbx.mono (show B ≤ wr.heap.size by omega))); have S1 := Lib.hid (s1.below (hbx.mono (show B ≤ wr.heap.size by omega))); have S2 := Lib.hid (s2.below (hbx.mono (show B ≤ wr.heap.size by omega)))
      have HOX := Lib.hid (HO.out.below hbx); have HBX := Lib.hid (HBl.out.trans (hbx.mono hzr)); have HBK := Lib.hid hbk; have HSN := Lib.hid hsn; have HF4 := Lib.hid f4
      generalize encTo l k = L at *
      clear hf hf0 s0 s1 s2 hbx hbk hsn f4 HO
      go_wp2
      generalize hW : wr.alloc (.cells #[.slice D0 F.codes.length d0, .slice D1 F.ints.length d1, .slice D2 F.nums.length d2] 86) = W at *
      clear hW x0 x1 x2
      generalize hbn : wr.heap.size = bn at *
      go_loopw [37] (fun i ws => ∃ j : Nat, j ≤ F.codes.length ∧ i = .int .i64 (j : Int) ∧ Hid (OutS ws base base (L ++ encCodes (F.codes.take j))) ∧ Hid (Below base W ws) ∧ Hid (KeptK W ws)) (fun i _ => F.codes.length - (intOf i).toNat)
      case atStart => exact ⟨0, by omega, rfl, by show OutS W base base (L ++ []); rw [List.append_nil]; exact HOX.out, Below.refl _ _, KeptK.refl W⟩
      case round =>
        obtain ⟨j, hj, rfl, HO, HBs, HK⟩ := hrel
        by_cases hjl : j < F.codes.length
        · obtain ⟨a', rfl, hab', y0⟩ := (S0.out.below (HBs.out.mono (show B ≤ base by omega))).i64 hjl
          have p1 : (0 : Int) ≤ (j : Int) := by omega
          have p2 : (j : Int) < (F.codes.length : Int) := by omega
          have hcs : encCodes (F.codes.take (j + 1)) = encCodes (F.codes.take j) ++ encU (F.codes.getD j 0).toNat := flat_snoc (fun c : Int => encU c.toNat) 0 F.codes j hjl
          have hle := encCodes_le (F.codes.take j)
          rw [List.length_take, Nat.min_eq_left (by omega)] at hle
          have hr := HF4.out j hjl
          unfold codeAt at hr
          generalize F.codes.getD j 0 = x at *
          obtain ⟨x, rfl⟩ : ∃ n : Nat, x = (n : Int) := ⟨x.toNat, by omega⟩
          rw [Int.toNat_natCast] at hcs
          have hcc := outUK_any wr base base x (L ++ encCodes (F.codes.take j)) HO.out (by omega) (by rw [List.length_append]; omega)
          have wx : IntKind.u64.wrap (x : Int) = (x : Int) := by rw [IntKind.wrap_u64]; omega
          have HCS := Lib.hid hcs; have HCC := Lib.hid hcc
          clear hcs hle hcc hr
          go_wp2_with (go_at_call 94; (with_reducible refine HCC.out.mono ?_); rintro y w4 ⟨rfl, ho4, hb4, hk4⟩; have HO4 := Lib.hid ho4; have HB4 := Lib.hid hb4; have HK4 := Lib.hid hk4; clear ho4 hb4 hk4)
          go_roundw
          case rel => exact ⟨j + 1, by omega, by go_num, by show OutS _ base base (L ++ encCodes (F.codes.take (j + 1))); rw [HCS.out, ← List.append_assoc]; exact HO4.out, HBs.out.trans HB4.out, HK.out.trans HK4.out⟩
          case measure => simp [intOf]; omega
        · obtain rfl : j = F.codes.length := by omega
          rw [List.take_length] at HO
          have h9 := encCodes_le F.codes; have h10 := encIs_le F.ints
          have hkb := HK.out _ _ _ HBK.out (by decide) (by decide)
          have k1 := hkb.cell 1; have k2 := hkb.cell 2
          simp at k1 k2
          have hc5 := eachI_any wr base base B (L ++ encCodes F.codes) F.ints D1 d1 HO.out (S1.out.below (HBs.out.mono (show B ≤ base by omega))) (show B ≤ base by omega) hfo.ints (by rw [List.length_append]; omega)
          have HC5 := Lib.hid hc5; have HKB := Lib.hid hkb
          clear hc5 hkb
          go_wp2_with fail
          (with_reducible refine HC5.out.mono ?_); rintro y w5 ⟨rfl, ho5, hb5, hk5⟩
          have hkb := hk5 _ _ _ HKB.out (by decide) (by decide)
          have m2 := hkb.cell 2
          simp at m2
          have hc6 := eachF_any w5 base base B _ F.nums D2 d2 ho5 (S2.out.below ((HBs.out.trans hb5).mono (show B ≤ base by omega))) (show B ≤ base by omega) hfo.nums (by rw [List.length_append, List.length_append]; omega)
          rw [encFact_app] at hc6
          have HC6 := Lib.hid hc6; have HB6 := Lib.hid (HBX.out.trans (HBs.out.trans hb5))
          clear hc6 hkb ho5 hb5 hk5 k1 k2 h9 h10
          go_wp2_with (go_at_call 101; (with_reducible refine HC6.out.mono ?_); rintro y w6 ⟨rfl, ho6, hb6, hk6⟩; have HO6 := Lib.hid ho6; have HB7 := Lib.hid (HB6.out.trans hb6); clear ho6 hb6 hk6)
          go_roundw
          case rel => exact ⟨k + 1, by omega, by go_num, by show OutS _ base base (encTo l (k + 1)); rw [HSN.out]; exact HO6.out, HB7.out⟩
          case measure => simp [intOf]; omega
    · obtain rfl : k = l.length := by omega
      have hll := HLE.out l.length (Nat.le_refl _)
      rw [encTo_all] at HO hll
      have hc7 := outBytes_any wr base base (encBatch l) HO.out (by omega)
      have HC7 := Lib.hid hc7
      clear hc7 hll
      go_wp2_with (go_at_call 98; (with_reducible refine HC7.out.mono ?_); rintro y w8 ⟨v8, rfl, ho8, hb8⟩; have HO8 := Lib.hid ho8; have HB8 := Lib.hid hb8; clear ho8 hb8)
      go_ret2
      exact ⟨_, rfl, own_mono HO8.out HBW.out.size, belT HBW.out HB8.out⟩
end Go.Proofs.YtfhmaincnlaapaaGreat
namespace Go.Proofs.YtfhmaincnlaapaaGreat
open Go.ChangeShapes Go.WideShapes Go.ChangeAt Go.RowKit
set_option linter.unusedVariables false

/-- a block that is known whole, read as elements -/
theorem rd_blk {w : World} {g B size n : Nat} {t : TypeId} {xs : List Value} (h : Blk w g t xs.toArray) (hg : g < B) (hn : xs.length = n * size) : Rd w B size (some ⟨g, 0, none⟩) n xs :=
  ⟨hn, fun _ => ⟨_, rfl, hg, fun j u hu => by
    have hadd : (⟨g, 0, none⟩ : Addr).add j = ⟨g, j, none⟩ := by unfold Addr.add; split <;> simp_all
    rw [hadd, h.cell j]
    simpa using hu⟩⟩
theorem blk_at (w : World) (n : Nat) (t : TypeId) (cs : Array Value) (h : w.heap.size = n) : Blk (w.alloc (.cells cs t)) n t cs := h ▸ Blk.new w t cs
theorem factR_mk {w : World} {B : Nat} {F : FactS} {v0 v1 v2 : Value} (h : FactV w B F v0 v1 v2) (ho : FactOk F) : factR.rep w B F [v0, v1, v2] := by
  obtain ⟨A0, c0, A1, c1, A2, c2, rfl, rfl, rfl, r0, r1, r2, ⟨b0, b0'⟩, ⟨b1, b1'⟩, b2, b2'⟩ := h
  refine ⟨[_], [_, _], rfl, ⟨A0, c0, _, rfl, b0, b0', r0, chunk_val.2 ⟨rfl, fun x hx => ?_⟩⟩, [_], [_], rfl, ⟨A1, c1, _, rfl, b1, b1', r1, chunk_val.2 ⟨rfl, fun x hx => ?_⟩⟩, A2, c2, _, rfl, b2, b2', r2, chunk_val.2 ⟨rfl, ho.nums⟩⟩
  · exact WalkArith.wf_i64 (ho.codes x hx)
  · exact WalkArith.wf_i64 (ho.ints x hx)
def awS : Sch := ⟨[(⟨#[97]⟩, 2)], [⟨#[109]⟩], [], []⟩
def awL : List FactS := [⟨[1], [-3], []⟩]
theorem awB : batchN awS awL = (0, 0) := by decide +kernel
theorem awE : encBatch awL = [1, 1, 1, 1, 7, 253] := by decide +kernel
theorem awO : SchOk awS := by
  refine ⟨fun x hx => ?_, fun x hx => ?_, (fun x hx => by cases hx), (fun x hx => by cases hx)⟩
  · obtain rfl := List.mem_singleton.1 hx; exact ⟨by decide +kernel, by decide, by decide⟩
  · obtain rfl := List.mem_singleton.1 hx; decide +kernel
theorem awF : FactOk ⟨[1], [-3], []⟩ := by
  refine ⟨fun x hx => ?_, fun x hx => ?_, fun x hx => by cases hx⟩
  · obtain rfl := List.mem_singleton.1 hx; exact ⟨by decide, by decide⟩
  · obtain rfl := List.mem_singleton.1 hx; exact ⟨by decide, by decide⟩
def awW (w : World) : World := (((((w.alloc (.cells #[.string ⟨#[97]⟩, .int .i64 2] 79)).alloc (.cells #[.string ⟨#[109]⟩] 9)).alloc (.cells #[.slice (some ⟨w.heap.size, 0, none⟩) 1 1, .slice (some ⟨w.heap.size + 1, 0, none⟩) 1 1, .slice none 0 0, .slice none 0 0] 26)).alloc (.cells #[.int .i64 1] 3)).alloc (.cells #[.int .i64 (-3)] 2)).alloc (.cells #[.slice (some ⟨w.heap.size + 1 + 1 + 1, 0, none⟩) 1 1, .slice (some ⟨w.heap.size + 1 + 1 + 1 + 1, 0, none⟩) 1 1, .slice none 0 0] 86)
theorem aw_put (w : World) : Calls Tryz.prog 38 #[.agg #[.slice (some ⟨w.heap.size, 0, none⟩) 1 1, .slice (some ⟨w.heap.size + 1, 0, none⟩) 1 1, .slice none 0 0, .slice none 0 0], .slice (some ⟨w.heap.size + 1 + 1 + 1 + 1 + 1, 0, none⟩) 1 1] (awW w)
    fun y w' => ∃ v', y = .returned (.tuple #[v', .int .i64 0]) ∧ w'.ownsRow (awW w).heap.size 5 1 v' 6 (u8s [1, 1, 1, 1, 7, 253]) ∧ Below w.heap.size w w' := by
  have m1 : (1 : Nat) ≤ maxLen := by simp [maxLen]
  have m0 : (0 : Nat) ≤ maxLen := by simp [maxLen]
  have hz : (awW w).heap.size = w.heap.size + 6 := by simp [awW]
  have k0 : Blk (awW w) w.heap.size 79 #[.string ⟨#[97]⟩, .int .i64 2] := (((((Blk.new w _ _).alloc _).alloc _).alloc _).alloc _).alloc _
  have k1 : Blk (awW w) (w.heap.size + 1) 9 #[.string ⟨#[109]⟩] := ((((blk_at _ _ _ _ (by simp)).alloc _).alloc _).alloc _).alloc _
  have k3 : Blk (awW w) (w.heap.size + 1 + 1 + 1) 3 #[.int .i64 1] := ((blk_at _ _ _ _ (by simp)).alloc _).alloc _
  have k4 : Blk (awW w) (w.heap.size + 1 + 1 + 1 + 1) 2 #[.int .i64 (-3)] := (blk_at _ _ _ _ (by simp)).alloc _
  have k5 : Blk (awW w) (w.heap.size + 1 + 1 + 1 + 1 + 1) 86 #[.slice (some ⟨w.heap.size + 1 + 1 + 1, 0, none⟩) 1 1, .slice (some ⟨w.heap.size + 1 + 1 + 1 + 1, 0, none⟩) 1 1, .slice none 0 0] := blk_at _ _ _ _ (by simp)
  have hbel : Below w.heap.size w (awW w) := belA (belA (belA (belA (belA (belA (belR w) _) _) _) _) _) _
  have hS : SchAt (awW w) (awW w).heap.size (.agg #[.slice (some ⟨w.heap.size, 0, none⟩) 1 1, .slice (some ⟨w.heap.size + 1, 0, none⟩) 1 1, .slice none 0 0, .slice none 0 0]) awS :=
    ⟨_, _, _, _, _, _, _, _, rfl, rd_blk (xs := [.string ⟨#[97]⟩, .int .i64 2]) k0 (by omega) rfl, rd_blk (xs := [.string ⟨#[109]⟩]) k1 (by omega) rfl, Rd.nil, Rd.nil, ⟨by decide, m1⟩, ⟨by decide, m1⟩, ⟨by decide, m0⟩, by decide, m0⟩
  have hV : FactV (awW w) (awW w).heap.size ⟨[1], [-3], []⟩ (.slice (some ⟨w.heap.size + 1 + 1 + 1, 0, none⟩) 1 1) (.slice (some ⟨w.heap.size + 1 + 1 + 1 + 1, 0, none⟩) 1 1) (.slice none 0 0) :=
    ⟨_, _, _, _, _, _, rfl, rfl, rfl, rd_blk (xs := [.int .i64 1]) k3 (by omega) rfl, rd_blk (xs := [.int .i64 (-3)]) k4 (by omega) rfl, Rd.nil, ⟨by decide, m1⟩, ⟨by decide, m1⟩, by decide, m0⟩
  have hL : SlR factR (awW w) (awW w).heap.size awL (some ⟨w.heap.size + 1 + 1 + 1 + 1 + 1, 0, none⟩) 1 :=
    ⟨by decide, m1, _, rd_blk (xs := [.slice (some ⟨w.heap.size + 1 + 1 + 1, 0, none⟩) 1 1, .slice (some ⟨w.heap.size + 1 + 1 + 1 + 1, 0, none⟩) 1 1, .slice none 0 0]) k5 (by omega) rfl, _, [], (List.append_nil _).symm, factR_mk hV awF, rfl⟩
  refine (put_any (awW w) _ _ awS _ 1 awL hS awO hL (Nat.le_refl _) (by rw [awB])).mono fun y w' ⟨v', h1, h2, h3⟩ => ⟨v', h1, ?_, belT hbel h3⟩
  rw [awE] at h2
  exact h2
set_option maxRecDepth 20000 in
theorem awake12_any (w : World) : Calls Tryz.prog 10 #[] w fun y w' => y = .returned (.bool true) ∧ Below w.heap.size w w' := by
  have HP := Lib.hid (aw_put w)
  go_enter Tryz.func10, Tryz.ntmps10
  go_wp2_with fail
  refine HP.out.mono ?_
  rintro y w1 ⟨v1, rfl, ho1, hb1⟩
  have hstr := run_str_own (P := Tryz.prog) (src := 27) (dst := 9) (e := 5) ho1 Tryz.underlying27 Tryz.underlying5 Tryz.underlying9
  have HB1 := Lib.hid hb1
  clear ho1 hb1
  go_wp2
  go_ret
  exact ⟨rfl, HB1.out⟩
end Go.Proofs.YtfhmaincnlaapaaGreat
namespace Go.Proofs.YtfhmaincnlaapaaGreat
open Go.ChangeShapes Go.WideShapes Go.ChangeAt Go.RowKit
set_option linter.unusedVariables false

def lightF (F : FactS) : Bool := decide (F.codes.length ≤ 20) && decide (F.ints.length ≤ 20) && decide (F.nums.length ≤ 20)
def lightFs (l : List FactS) : Bool := l.all lightF
def lightTo (l : List FactS) (k : Nat) : Prop := ∀ j (hj : j < l.length), j < k → lightF l[j] = true
theorem lightTo.snoc {l : List FactS} {k : Nat} (h : lightTo l k) (hk : k < l.length) (hx : lightF l[k] = true) : lightTo l (k + 1) := fun j hj hjk => by
  by_cases e : j = k
  · subst e; exact hx
  · exact h j hj (by omega)
theorem lightTo.all {l : List FactS} (h : lightTo l l.length) : lightFs l = true := by
  unfold lightFs; rw [List.all_eq_true]
  intro x hx
  obtain ⟨j, hj, rfl⟩ := List.getElem_of_mem hx
  exact h j hj hj
end Go.Proofs.YtfhmaincnlaapaaGreat
