/-
  bushelref07.GetI: the document's number with a sign of any bytes is the same.
-/
import Derived.Test.YtpnolgghbenekaaRefGetU
import Derived.Test.YtpnolgghbenekaaRefCode
import Derived.Test.YtpnolgghbenekaaGetIWalks
import Derived.Deep.DeepCutAuto
namespace Go.Proofs.Ytpnolgghbenekaa
open Go.ChangeShapes Go.WideShapes Go.ChangeAt Go.RowKit
set_option linter.unusedVariables false

theorem numB_take2 (u : List UInt8) (n : Nat) : numB (u.take n) n = numB u n := by
  unfold numB
  by_cases h0 : n = 0
  · rw [if_pos h0, if_pos h0]
  · rw [if_neg h0, if_neg h0]
    cases u with
    | nil => simp
    | cons c u =>
      obtain ⟨k, rfl⟩ : ∃ k, n = k + 1 := ⟨n - 1, by omega⟩
      have e1 : (c :: u).take (k + 1) = c :: u.take k := rfl
      rw [e1]
      simp only [List.length_cons, List.length_take]
      by_cases hc : c = 0
      · rw [if_pos hc, if_pos hc]
      · rw [if_neg hc, if_neg hc]
        by_cases hl : u.length + 1 < k + 1
        · rw [if_pos hl, if_pos (by omega)]
        · rw [if_neg hl, if_neg (by omega), ← e1, List.take_take, Nat.min_self]
/-- by U, of what is turned about -/
def tailI (b : Bool) (d : UInt8) (u : List UInt8) : Int × Nat × Nat :=
  if d.toNat = 8 ∧ 127 < (u.headD 0).toNat then (0, 0, 6) else
  if (getU (d :: u)).2.2 = 0 then (if b then -1 - ((getU (d :: u)).1 : Int) else (getU (d :: u)).1, (getU (d :: u)).2.1, 0) else (0, 0, (getU (d :: u)).2.2)
theorem tailI_of (x d : UInt8) (t u p : List UInt8) (b : Bool) (n : Nat) (hs : sgn x = (n, b)) (hp : prt x t = p) (hd : d.toNat = n) (hu : p = u.take n) : getI (x :: t) = tailI b d u := by
  unfold getI tailI
  simp only
  rw [hs, hp, hd, hu]
  simp only
  unfold getU
  simp only
  rw [hd]
  by_cases h8 : 8 < n
  · rw [if_pos h8, if_neg (by omega), if_pos h8]; rfl
  · rw [if_neg h8, if_neg h8, numB_take2]
    have hh : n = 8 → (u.take n).headD 0 = u.headD 0 := fun e => by subst e; cases u <;> rfl
    by_cases h9 : n = 8 ∧ 127 < (u.headD 0).toNat
    · rw [if_pos h9, if_pos ⟨h9.1, by rw [hh h9.1]; exact h9.2⟩]
    · rw [if_neg h9, if_neg (fun h => h9 ⟨h.1, by rw [← hh h.1]; exact h.2⟩)]
      by_cases h10 : (numB u n).2 = 0
      · rw [if_pos h10, if_pos h10]
        cases b
        · rfl
        · simp; omega
      · rw [if_neg h10, if_neg h10]
        simp [h10]
theorem tailI_pos (x : UInt8) (t : List UInt8) (h : ¬ x.toNat < 9) : getI (x :: t) = tailI false (x - 9) t := by
  have hx := x.toNat_lt
  refine tailI_of x (x - 9) t t (t.take (x.toNat - 9)) false (x.toNat - 9) (by unfold sgn; rw [if_neg h]) (by unfold prt sgn; rw [if_neg h]; rfl) ?_ rfl
  rw [UInt8.toNat_sub_of_le _ _ (by rw [UInt8.le_iff_toNat_le]; simp; omega)]; rfl
theorem tailI_neg (x : UInt8) (t : List UInt8) (h : x.toNat < 9) : getI (x :: t) = tailI true (8 - x) (t.map (255 - ·)) := by
  refine tailI_of x (8 - x) t (t.map (255 - ·)) ((t.take (8 - x.toNat)).map (255 - ·)) true (8 - x.toNat) (by unfold sgn; rw [if_pos h]) (by unfold prt sgn; rw [if_pos h]; rfl) ?_ (by rw [List.map_take])
  rw [UInt8.toNat_sub_of_le _ _ (by rw [UInt8.le_iff_toNat_le]; simp; omega)]; rfl
def GIcut (w wx : World) (x : UInt8) (t : List UInt8) (A : Option Addr) (n c : Nat) (s6 : Value) : Prop :=
  ∃ (b : Bool) (d : UInt8) (u : List UInt8), s6 = .bool b ∧ wx.ownsRow w.heap.size 5 1 (.slice A n c) n (u8s (d :: u)) ∧ getI (x :: t) = tailI b d u ∧ Below w.heap.size w wx
set_option maxRecDepth 20000 in
set_option maxHeartbeats 2000000 in
theorem refGetI_any (A : Option Addr) (m c B : Nat) (t : List UInt8) (w : World) (h : Rd w B 1 A m (u8s t)) (hmc : m ≤ c) (hc : c ≤ maxLen) (hB : B ≤ w.heap.size) (hm : m ≤ 1000000) :
    Calls Try.prog 73 #[.slice A m c] w fun e w' => e = .returned (.tuple #[.int .i64 (getI t).1, .int .i64 ((getI t).2.1 : Nat), .int .i64 ((getI t).2.2 : Nat)]) ∧ Below w.heap.size w w' := by
  obtain rfl : m = t.length := h.u8.symm
  cases t with
  | nil =>
    have hl : ([] : List UInt8).length = 0 := rfl
    rw [hl]
    go_enter Try.func73, Try.ntmps73
    go_wp2
    go_ret3
    exact ⟨rfl, belR _⟩
  | cons x t =>
    have hl : (x :: t).length = t.length + 1 := rfl
    rw [hl] at h hmc hm ⊢
    obtain ⟨a, rfl, hb, hx⟩ := h.byte (k := 0) (by simp)
    rw [add_zero'] at hx
    simp only [List.getElem_cons_zero] at hx
    have hx8 := x.toNat_lt
    have t0 : (((t.length : Int) + 1) == 0) = false := by rw [beq_eq_false_iff_ne]; omega
    have lit := (World.ownsRow_lit (base := w.heap.size) (e := 5) (size := 1) w #[] 0 (Nat.le_refl _) (by simp [maxLen]) (by simp))
    have hR := h.alloc hB (.cells #[] 5)
    have LIT := Lib.hid lit; have HR := Lib.hid hR; have HL := Lib.hid hl; clear lit hR hl h
    go_enter Try.func73, Try.ntmps73
    go_upto_if 21 with (at_builtin; (refine wpList_appS _ rfl (.tmp 14) (.tmp 15) 36 rfl w.heap.size 5 (.int .u8 0) 1 1 info_u8 rfl (by decide) Try.underlying36 (.slice (some ⟨w.heap.size, 0, none⟩) 0 0) 0 [] LIT.out ?_ _ (some a) (t.length + 1) c (u8s (x :: t)) HR.out ?_ (u8s_one _) ?_ ?_ ?_ ?_); rfl; rfl; omega; omega; (exact Nat.le_of_lt (LIT.out.lt _ rfl).2); intro v2 w2 ho2 hap2; have hb2 := hap2.below (B := w.heap.size) (Nat.le_of_lt (LIT.out.lt _ rfl).2) LIT.out; rw [Nat.zero_add, List.nil_append] at ho2; obtain ⟨A2, c2, rfl, hc2, hm2, _⟩ := own_form ho2; have hbw2 : Below w.heap.size w w2 := (belA (belR w) _).trans hb2; have hx2 := (hbw2.cell (p := a) (by omega)).trans hx; have HO2 := Lib.hid ho2; have HB2 := Lib.hid hbw2; clear ho2 hb2 hbw2 hap2)
    go_cut [6, 7] (fun s6 s7 wx => GIcut w wx x t A2 (t.length + 1) c2 s6)
    case first =>
      obtain ⟨g, rfl, hg, hgl, hcell, hfr, hset⟩ := own_head HO2.out
      have hne : ¬ a.block = g := by omega
      by_cases h9 : x.toNat < 9
      · have t9 : decide ((x.toNat : Int) < 9) = true := decide_eq_true (by omega)
        have htl := tailI_neg x t h9
        have e2 : ((8 - x : UInt8).toNat : Int) = 8 - (x.toNat : Int) := by rw [UInt8.toNat_sub_of_le _ _ (by rw [UInt8.le_iff_toNat_le]; simp; omega)]; simp; omega
        have hs2 := hset (8 - x)
        rw [e2] at hs2
        have HS2 := Lib.hid hs2; have HTL := Lib.hid htl; have E2 := Lib.hid e2; have HSET := Lib.hid hset; clear hs2 htl e2 hset
        go_wp2
        go_loopw [7] (fun i wr => ∃ j : Nat, j ≤ t.length ∧ i = .int .i64 ((j : Int) + 1) ∧ wr.ownsRow w.heap.size 5 1 (.slice (some ⟨g, 0, none⟩) (t.length + 1) c2) (t.length + 1) (u8s ((8 - x) :: fl t j)) ∧ Below w.heap.size w wr) (fun i _ => t.length + 1 - (intOf i).toNat)
        case atStart => exact ⟨0, by omega, rfl, by rw [fl_zero]; exact HS2.out, HB2.out.setCell hg _⟩
        case round =>
          obtain ⟨j, hj, rfl, ho, hbr⟩ := hrel
          by_cases hlt : j < t.length
          · have hfl := fl_length t j (by omega)
            obtain ⟨g', eg, _, hgl', hcell', hfr', hset'⟩ := own_at ho (j + 1) (by simp only [List.length_cons]; omega)
            injection eg with eg
            injection eg with eg
            subst eg
            simp only [List.getElem_cons_succ] at hcell'
            rw [fl_get t j hlt] at hcell'
            have hs := sub255 t[j]
            have hs2 := hset' (255 - t[j])
            rw [List.set_cons_succ, fl_set t j hlt] at hs2
            have hb8 := t[j].toNat_lt
            have q1 : (0 : Int) ≤ (j : Int) + 1 := by omega
            have q2 : (j : Int) + 1 < (t.length : Int) + 1 := by omega
            generalize t[j] = b at *
            have HS := Lib.hid hs; have HS3 := Lib.hid hs2; have HF := Lib.hid hfl; have HSET' := Lib.hid hset'; have HO := Lib.hid ho; clear hs hs2 hfl hset' ho
            go_wp2
            go_roundw
            case rel => exact ⟨j + 1, by omega, by go_num, by rw [HS.out]; exact HS3.out, hbr.setCell hg _⟩
            case measure => simp [intOf]; omega
          · obtain rfl : j = t.length := by omega
            rw [fl_end] at ho
            have HO := Lib.hid ho; clear ho
            go_wp2
            go_meet
            case rel => exact ⟨true, _, _, by first | rfl | (rw [t9]), HO.out, HTL.out, hbr⟩
      · have t9 : decide ((x.toNat : Int) < 9) = false := decide_eq_false (by omega)
        have htl := tailI_pos x t h9
        have e2 : ((x - 9 : UInt8).toNat : Int) = (x.toNat : Int) - 9 := by rw [UInt8.toNat_sub_of_le _ _ (by rw [UInt8.le_iff_toNat_le]; simp; omega)]; simp; omega
        have hs2 := hset (x - 9)
        rw [e2] at hs2
        have HS2 := Lib.hid hs2; have HTL := Lib.hid htl; have E2 := Lib.hid e2; have HSET := Lib.hid hset; clear hs2 htl e2 hset
        go_wp2
        go_meet
        case rel => exact ⟨false, _, _, by first | rfl | (rw [t9]), HS2.out, HTL.out, HB2.out.setCell hg _⟩
    case rest =>
      obtain ⟨b, d, u, rfl, ho, htl, hbw⟩ := hcut
      obtain ⟨g, rfl, hg, hgl, hc0, hfr, _⟩ := own_head ho
      have hgu := refGetU_any (some ⟨g, 0, none⟩) (t.length + 1) c2 _ (d :: u) wc (Rd.own ho) (by omega)
      have hul : u.length = t.length := by have := ho.1; rw [u8s_length] at this; simp at this; omega
      have hX63 : (getU (d :: u)).2.2 = 0 → (d.toNat = 8 → (u.headD 0).toNat ≤ 127) → (getU (d :: u)).1 < 9223372036854775808 := by
        intro h1 h2
        unfold getU at h1 ⊢
        simp only at h1 ⊢
        by_cases h8 : 8 < d.toNat
        · rw [if_pos h8]; simp
        · rw [if_neg h8] at h1 ⊢
          by_cases h9 : (numB u d.toNat).2 = 0
          · rw [if_pos h9]; exact numB_lt63 u d.toNat (by omega) h2
          · rw [if_neg h9]; simp
      obtain ⟨⟨X, N, E⟩, hr⟩ : ∃ r, getU (d :: u) = r := ⟨_, rfl⟩
      rw [hr] at hgu hX63
      simp only at hgu hX63
      have hd8 := d.toNat_lt
      have HTL := Lib.hid htl; clear htl
      by_cases hd : d.toNat = 8
      · have td : ((d.toNat : Int) == 8) = true := by rw [hd]; rfl
        cases u with
        | nil =>
          have hl0 : t.length = 0 := by simpa using hul.symm
          have tl : decide ((1 : Int) < (t.length : Int) + 1) = false := decide_eq_false (by omega)
          have HO := Lib.hid ho; have HD := Lib.hid hd; clear ho hd hul hl0
          have hT : getI (x :: t) = if E = 0 then (if b then -1 - (X : Int) else (X : Int), N, 0) else (0, 0, E) := by rw [HTL.out]; unfold tailI; rw [if_neg (by simp), hr]
          have HT := Lib.hid hT; have HR := Lib.hid hr; have HGU := Lib.hid hgu; clear hT hr hgu
          by_cases hE : E = 0
          · have hX := hX63 hE (fun _ => by simp)
            have ei := i64_small X hX
            subst hE
            rw [if_pos rfl] at HT
            have e0 : ((0 : Nat) : Int) = 0 := rfl
            cases b
            all_goals
              go_wp2_with (go_at_call 72; (with_reducible refine HGU.out.mono ?_); rintro y w3 ⟨rfl, j3, rfl⟩)
              go_ret3
              exact ⟨by rw [HT.out]; rfl, belD hbw _⟩
          · rw [if_neg hE] at HT
            have hEz : ((E : Int) != 0) = true := by rw [bne_iff_ne]; omega
            go_wp2_with (go_at_call 72; (with_reducible refine HGU.out.mono ?_); rintro y w3 ⟨rfl, j3, rfl⟩)
            go_ret3
            exact ⟨by rw [HT.out]; rfl, belD hbw _⟩
        | cons y u =>
          have tl : decide ((1 : Int) < (t.length : Int) + 1) = true := decide_eq_true (by simp at hul; omega)
          have q2 : (1 : Int) < (t.length : Int) + 1 := by simp at hul; omega
          obtain ⟨g', eg, _, _, hc1, _, _⟩ := own_at ho 1 (by simp)
          injection eg with eg
          injection eg with eg
          subst eg
          simp only [List.getElem_cons_succ, List.getElem_cons_zero] at hc1
          have hy8 := y.toNat_lt
          have HO := Lib.hid ho; have HD := Lib.hid hd; clear ho hd hul
          by_cases hy : 127 < y.toNat
          · have ty : decide ((127 : Int) < (y.toNat : Int)) = true := decide_eq_true (by omega)
            have hT : getI (x :: t) = (0, 0, 6) := by rw [HTL.out]; unfold tailI; rw [if_pos ⟨HD.out, hy⟩]
            have HT := Lib.hid hT; clear hT
            go_wp2
            go_ret3
            exact ⟨by rw [HT.out]; rfl, hbw⟩
          · have ty : decide ((127 : Int) < (y.toNat : Int)) = false := decide_eq_false (by omega)
            have hT : getI (x :: t) = if E = 0 then (if b then -1 - (X : Int) else (X : Int), N, 0) else (0, 0, E) := by rw [HTL.out]; unfold tailI; rw [if_neg (fun h => hy h.2), hr]
            have HT := Lib.hid hT; have HR := Lib.hid hr; have HGU := Lib.hid hgu; clear hT hr hgu
            by_cases hE : E = 0
            · have hX := hX63 hE (fun _ => by simp only [List.headD_cons]; omega)
              have ei := i64_small X hX
              subst hE
              rw [if_pos rfl] at HT
              have e0 : ((0 : Nat) : Int) = 0 := rfl
              cases b
              all_goals
                go_wp2_with (go_at_call 72; (with_reducible refine HGU.out.mono ?_); rintro y w3 ⟨rfl, j3, rfl⟩)
                go_ret3
                exact ⟨by rw [HT.out]; rfl, belD hbw _⟩
            · rw [if_neg hE] at HT
              have hEz : ((E : Int) != 0) = true := by rw [bne_iff_ne]; omega
              go_wp2_with (go_at_call 72; (with_reducible refine HGU.out.mono ?_); rintro y w3 ⟨rfl, j3, rfl⟩)
              go_ret3
              exact ⟨by rw [HT.out]; rfl, belD hbw _⟩
      · have td : ((d.toNat : Int) == 8) = false := by rw [beq_eq_false_iff_ne]; omega
        have HO := Lib.hid ho; have HU := Lib.hid hul; clear ho hul
        have hT : getI (x :: t) = if E = 0 then (if b then -1 - (X : Int) else (X : Int), N, 0) else (0, 0, E) := by rw [HTL.out]; unfold tailI; rw [if_neg (fun h => hd h.1), hr]
        have HT := Lib.hid hT; have HR := Lib.hid hr; have HGU := Lib.hid hgu; clear hT hr hgu
        by_cases hE : E = 0
        · have hX := hX63 hE (fun h => absurd h hd)
          have ei := i64_small X hX
          subst hE
          rw [if_pos rfl] at HT
          have e0 : ((0 : Nat) : Int) = 0 := rfl
          cases b
          all_goals
            go_wp2_with (go_at_call 72; (with_reducible refine HGU.out.mono ?_); rintro y w3 ⟨rfl, j3, rfl⟩)
            go_ret3
            exact ⟨by rw [HT.out]; rfl, belD hbw _⟩
        · rw [if_neg hE] at HT
          have hEz : ((E : Int) != 0) = true := by rw [bne_iff_ne]; omega
          go_wp2_with (go_at_call 72; (with_reducible refine HGU.out.mono ?_); rintro y w3 ⟨rfl, j3, rfl⟩)
          go_ret3
          exact ⟨by rw [HT.out]; rfl, belD hbw _⟩
end Go.Proofs.Ytpnolgghbenekaa
