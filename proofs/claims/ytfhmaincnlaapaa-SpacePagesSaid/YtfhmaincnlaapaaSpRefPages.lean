/-
  bushelref39.Pages.
  bushelref25.Leaves.
  LEAVES, one cell more, without the program.
-/
import Derived.Test.YtfhmaincnlaapaaSpRefLight
import Derived.Test.YtfhmaincnlaapaaSpLeavesW
import Derived.Test.YtfhmaincnlaapaaSpRefCells
import Derived.Test.YtfhmaincnlaapaaSpPagesW
namespace Go.Proofs.Ytfhmaincnlaapaa
open Go.ChangeShapes Go.WideShapes Go.ChangeAt Go.RowKit
set_option linter.unusedVariables false

theorem leaves_take (b : Nat) (l : List CellS) (k : Nat) : leaves b (l.take k) = pend 3 b (pkC b l k) := rfl
theorem pk_pos1 (kd : Int) (b : Nat) (st : Pst) (x : List UInt8) (br : Bool) : 0 < (pput kd b st x br).2.1 := by
  unfold pput
  split
  · exact Nat.one_pos
  · exact Nat.succ_pos _
theorem leaves_last (b : Nat) (l : List CellS) (k : Nat) (h0 : 0 < k) (hk : k ≤ l.length) : ∃ ss n d, pkC b l k = (ss, n, d) ∧ 0 < n ∧ leaves b (l.take k) = ss ++ [⟨3, n, b, d⟩] := by
  obtain ⟨j, rfl⟩ : ∃ j, k = j + 1 := ⟨k - 1, by omega⟩
  have hp : 0 < (pkC b l (j + 1)).2.1 := by rw [pkC_succ b l j (by omega)]; exact pk_pos1 _ _ _ _ _
  refine ⟨(pkC b l (j + 1)).1, (pkC b l (j + 1)).2.1, (pkC b l (j + 1)).2.2, rfl, hp, ?_⟩
  rw [leaves_take]; unfold pend; rw [if_pos hp]
theorem leaves_first (b : Nat) (l : List CellS) (h : 0 < l.length) : leaves b (l.take 0) = [] ∧ leaves b (l.take 1) = [⟨3, 0 + 1, b, [] ++ encCell l[0]⟩] := by
  refine ⟨rfl, ?_⟩
  rw [leaves_take, pkC_succ b l 0 h]
  have e : pput 3 b (pkC b l 0) (encCell l[0]) (brkB l[0].key 0) = ([], 1, encCell l[0]) := by
    rw [pkC_zero]; unfold pput; split <;> rfl
  rw [e]; rfl
theorem leaves_cut (b : Nat) (l : List CellS) (k : Nat) (h : k < l.length) (ss : List Sht) (n : Nat) (d : List UInt8) (e : pkC b l k = (ss, n, d)) (h0 : 0 < n)
    (hc : brkB l[k].key 0 = true ∨ 1001 < d.length + (encCell l[k]).length) : leaves b (l.take (k + 1)) = (ss ++ [⟨3, n, b, d⟩]) ++ [⟨3, 0 + 1, b, [] ++ encCell l[k]⟩] := by
  rw [leaves_take, pkC_succ b l k h, e]
  unfold pput
  rw [if_pos hc]
  show pend 3 b ((if 0 < n then ss ++ [⟨3, n, b, d⟩] else ss), 1, encCell l[k]) = _
  rw [if_pos h0]
  rfl
theorem leaves_more (b : Nat) (l : List CellS) (k : Nat) (h : k < l.length) (ss : List Sht) (n : Nat) (d : List UInt8) (e : pkC b l k = (ss, n, d))
    (hc : ¬ (brkB l[k].key 0 = true ∨ 1001 < d.length + (encCell l[k]).length)) : leaves b (l.take (k + 1)) = ss ++ [⟨3, n + 1, b, d ++ encCell l[k]⟩] := by
  rw [leaves_take, pkC_succ b l k h, e]
  unfold pput
  rw [if_neg hc]
  show pend 3 b (ss, n + 1, d ++ encCell l[k]) = _
  unfold pend
  rw [if_pos (Nat.succ_pos n)]
/-- whether a fresh sheet is begun, and what the leaves come to -/
def LvDec (b : Nat) (l : List CellS) (k : Nat) (e : List UInt8) (cb : Bool) : Prop :=
  (cb = true → leaves b (l.take (k + 1)) = leaves b (l.take k) ++ [⟨3, 0 + 1, b, [] ++ e⟩]) ∧
  (cb = false → ∃ ss n d, leaves b (l.take k) = ss ++ [⟨3, n, b, d⟩] ∧ pkC b l k = (ss, n, d) ∧ leaves b (l.take (k + 1)) = ss ++ [⟨3, n + 1, b, d ++ e⟩])
end Go.Proofs.Ytfhmaincnlaapaa
namespace Go.Proofs.Ytfhmaincnlaapaa
open Go.ChangeShapes Go.WideShapes Go.ChangeAt Go.RowKit
set_option linter.unusedVariables false

/-- a fresh sheet of any kind at the end of the row -/
theorem refNewK (kd : Int) {w3 w5 : World} {base B m c0 : Nat} {A0 : Option Addr} {v5 : Value} {ss : List Sht} {xs : List Value} {us : Array Value} (lv : Nat) (ho : w3.ownsRow base 55 4 (.slice A0 m c0) m xs) (hS : ShO w3 base B ss xs) (hbase : base ≤ w3.heap.size)
    (h : Appd (w3.alloc (.cells us 55)) w5 (.slice A0 m c0) v5) :
    ShO w5 base B (ss ++ [⟨kd, 0, lv, []⟩]) (xs ++ [.int .i64 kd, .int .u64 0, .int .u64 (lv : Int), .slice none 0 0]) ∧
      (∀ b1 nn x ys, w3.ownsRow b1 5 1 x nn ys → w5.ownsRow b1 5 1 x nn ys) ∧ Below base w3 w5 ∧ w3.heap.size ≤ w5.heap.size := by
  have ne58 : (5 : TypeId) ≠ 55 := by decide
  have far : ∀ {b1 nn : Nat} {x : Value} {ys : List Value}, w3.ownsRow b1 5 1 x nn ys → w5.ownsRow b1 5 1 x nn ys :=
    fun k => h.kept (k.alloc _) (own_own_ne k ho ne58)
  have hz : (w3.alloc (.cells us 55)).heap.size = w3.heap.size + 1 := by simp
  have hz5 := h.1.size
  refine ⟨(hS.map (Nat.le_refl _) fun x nn ys k _ => far k).snoc (s := ⟨kd, 0, lv, []⟩) (v := .slice none 0 0) (World.ownsRow_nil _ _ _ _) (fun k hk => by cases hk), fun _ _ _ _ k => far k, ((Below.refl _ w3).alloc hbase _).trans (h.below (by omega) (ho.alloc _)), by omega⟩
/-- behind a round: the row of sheets at the head of the next one -/
def LvRel (w wr : World) (b : Nat) (l : List CellS) (k : Nat) (v : Value) : Prop :=
  ∃ xs, wr.ownsRow w.heap.size 55 4 v (leaves b (l.take k)).length xs ∧ ShO wr w.heap.size wr.heap.size (leaves b (l.take k)) xs ∧ Below w.heap.size w wr
def LvCut (w w5 : World) (b : Nat) (l : List CellS) (k : Nat) (A3 : Option Addr) (c3 n3 : Nat) (e : List UInt8) (v5 v8 : Value) : Prop :=
  ∃ A5 c5 m ss s xs5, v5 = .slice A5 (m + 1) c5 ∧ v8 = .int .i64 (m : Int) ∧ m = ss.length ∧ m ≤ 2000 ∧ s.a ≤ 1000 ∧ s.d.length ≤ 8000 ∧ w5.ownsRow w.heap.size 55 4 v5 (m + 1) xs5 ∧ ShO w5 w.heap.size w5.heap.size (ss ++ [s]) xs5 ∧
    w5.ownsRow w.heap.size 5 1 (.slice A3 n3 c3) n3 (u8s e) ∧ Below w.heap.size w w5 ∧ leaves b (l.take (k + 1)) = ss ++ [⟨s.k, s.a + 1, s.b, s.d ++ e⟩]
set_option maxRecDepth 100000 in
set_option maxHeartbeats 8000000 in
theorem refLeaves_any (w : World) (b : Nat) (A : Option Addr) (c B : Nat) (l : List CellS) (g : SlR cellR w B l A c) (hb32 : b < 4294967296) (hl : ∀ C ∈ l, lightC C = true) (hn : l.length ≤ 60) (hB : B ≤ w.heap.size) :
    Calls Try.prog 51 #[.int .u32 (b : Int), .slice A l.length c] w fun y w' => ∃ v xs, y = .returned v ∧ w'.ownsRow w.heap.size 55 4 v (leaves b l).length xs ∧ ShR w' w'.heap.size (leaves b l) xs ∧ Below w.heap.size w w' := by
  have H := Lib.hid g; have HLI := Lib.hid hl; clear g hl
  have wl : IntKind.u64.wrap (b : Int) = (b : Int) := by rw [IntKind.wrap_u64]; omega
  go_enter Try.func51, Try.ntmps51
  go_wp2
  go_loopg [5, 6] l.length (fun g ov i wr => ∃ k : Nat, k ≤ l.length ∧ g = l.length - k ∧ i = .int .i64 (k : Int) ∧ LvRel w wr b l k ov)
  case atStart => exact ⟨0, by omega, rfl, rfl, [], World.ownsRow_nil _ _ _ 4, rfl, belR _⟩
  case round =>
    obtain ⟨k, hk, rfl, rfl, hrel⟩ := hrel
    obtain ⟨xs, ho, hs, hb⟩ := hrel
    have hz := hb.size
    by_cases hlt : k < l.length
    · obtain ⟨a, D2, d2, D3, d3, rfl, hab, x0, x1, x2, x3, hv⟩ := (H.out.keep (hb.mono hB) (Nat.le_refl _)).cellAt hlt
      have hlc := HLI.out _ (List.getElem_mem hlt)
      have hput := fun W (hW : Below wr.heap.size wr W) => refPutC_any W B l[k] D2 d2 D3 d3 (hv.keep (hW.mono (by omega)) (Nat.le_refl _)) hlc (by have := hW.size; omega)
      have hle := encCell_le hlc
      have hbd := pkC_bd b l (fun C hC => HLI.out C hC) k hk
      have hb60 : (pkC b l k).1.length ≤ 60 ∧ (pkC b l k).2.1 ≤ 60 ∧ (pkC b l k).2.2.length ≤ 6000 := ⟨by omega, by omega, hbd.2.2⟩
      have q1 : (0 : Int) ≤ (k : Int) := by omega
      have q2 : (k : Int) < (l.length : Int) := by omega
      obtain ⟨ky, hky⟩ : ∃ ky, l[k].key = ky := ⟨_, rfl⟩
      obtain ⟨e, he⟩ : ∃ e, encCell l[k] = e := ⟨_, rfl⟩
      obtain ⟨n3, hn3⟩ : ∃ n3, e.length = n3 := ⟨_, rfl⟩
      rw [he] at hput hle
      rw [hn3] at hput hle
      obtain ⟨A0, c0, rfl, _, _, _⟩ := own_form ho
      obtain ⟨L, hL⟩ : ∃ L, (leaves b (l.take k)).length = L := ⟨_, rfl⟩
      rw [hL] at ho ⊢
      have hL60 : L ≤ 61 := by
        have h1 := leaves_len b (l.take k)
        rw [List.length_take] at h1; omega
      have HKY := Lib.hid hky; have HE := Lib.hid he; have HN3 := Lib.hid hn3; have HL := Lib.hid hL; have HO := Lib.hid ho; have HS := Lib.hid hs; have HPUT := Lib.hid hput; have HBD := Lib.hid hb60
      clear hky he hn3 hL ho hs hput hlc hbd hv hb60
      go_upto_region 7 with (go_at_call 106; (with_reducible refine (HPUT.out _ (belR _)).mono ?_); rintro y w3 ⟨v3, rfl, ho3, hb3⟩; obtain ⟨A3, c3, rfl, _, _, _⟩ := own_form ho3; have HO9 := Lib.hid (own_belowK HO.out hb3 (fun k hk => (HO.out.lt k hk).2)); have HS9 := Lib.hid (HS.out.map hb3.size fun v n ys h hk => own_belowK h hb3 hk); have HOB9 := Lib.hid (own_mono ho3 hz); have HB9 := Lib.hid (hb.trans (hb3.mono hz)); clear ho3 hb3)
      have hz9 := HB9.out.size
      clear x0 x1 x2 x3
      go_cut [8, 44] (fun s8 s44 wx => w3 = wx ∧ s8 = .int .i64 ((L : Int) - 1) ∧ ∃ cb, s44 = .bool cb ∧ LvDec b l k e cb)
      case first =>
        by_cases hk0 : k = 0
        · subst hk0
          obtain ⟨e0, e1⟩ := leaves_first b l hlt
          rw [HE.out] at e1
          have hdec : LvDec b l 0 e true := ⟨fun _ => by rw [e0, e1]; rfl, fun h => by cases h⟩
          have HD := Lib.hid hdec; clear hdec e0 e1
          go_wp2
          go_meet
          case rel => exact ⟨rfl, congrArg (Value.int .i64) (by omega), true, rfl, HD.out⟩
        · obtain ⟨ss, n, d, hst, hn0, hnd⟩ := leaves_last b l k (by omega) hk
          have hlen := HL.out
          rw [hnd, List.length_append, List.length_singleton] at hlen
          subst hlen
          have hbd := HBD.out
          rw [hst] at hbd
          simp only at hbd
          have hsh := HS9.out
          rw [hnd] at hsh
          obtain ⟨xs0, v, hxs, hxl, _, hov, _⟩ := hsh.last
          obtain ⟨Ab, cb, rfl, _, _, _⟩ := own_form hov
          obtain ⟨a0, rfl, _, hal, _, -, hC⟩ := own_elem HO9.out ss.length (by omega)
          have y3 := (hC 3 (by decide)).1
          rw [hxs, ← hxl, get_mid, hxl] at y3
          simp only [shC, List.getElem?_cons_succ, List.getElem?_cons_zero] at y3
          clear hC hsh hov hxs
          have hkz : ((k : Int) == 0) = false := by rw [beq_eq_false_iff_ne]; omega
          have hdY : ∀ hc : brkB ky 0 = true ∨ 1001 < d.length + n3, LvDec b l k e true := fun hc => ⟨fun _ => by
            rw [leaves_cut b l k hlt ss n d hst hn0 (by rw [HKY.out, HE.out, HN3.out]; exact hc), hnd, HE.out], fun h => by cases h⟩
          have hdN : ∀ hc : ¬ (brkB ky 0 = true ∨ 1001 < d.length + n3), LvDec b l k e false := fun hc => ⟨fun h => (by cases h), fun _ =>
            ⟨ss, n, d, hnd, hst, by rw [leaves_more b l k hlt ss n d hst (by rw [HKY.out, HE.out, HN3.out]; exact hc), HE.out]⟩⟩
          have HYY := Lib.hid hdY; have HNN := Lib.hid hdN; have HST := Lib.hid hst; have HND := Lib.hid hnd
          clear hdY hdN hst hnd
          obtain ⟨a', _, _, _, _, ea, _, x0, _⟩ := (H.out.keep (HB9.out.mono hB) (Nat.le_refl _)).cellAt hlt
          injection ea with ea
          subst ea
          rw [HKY.out] at x0
          have q5 : (0 : Int) ≤ (ss.length : Int) := by omega
          have q6 : (ss.length : Int) < (ss.length : Int) + 1 := by omega
          have HBR := Lib.hid (fun W => refBreak_any ky 0 W)
          cases hbk : brkB ky 0
          · rw [hbk] at HBR
            by_cases hlen : 1001 < d.length + n3
            · have tl : decide ((1001 : Int) < (d.length : Int) + (n3 : Int)) = true := decide_eq_true (by omega)
              have HD := Lib.hid (HYY.out (.inr hlen)); clear HYY HNN hbk
              go_wp2_with (go_at_call 23; (with_reducible refine (HBR.out _).mono ?_); rintro y w' ⟨rfl, rfl⟩)
              go_meet
              case rel => exact ⟨rfl, congrArg (Value.int .i64) (by omega), true, rfl, HD.out⟩
            · have tl : decide ((1001 : Int) < (d.length : Int) + (n3 : Int)) = false := decide_eq_false (by omega)
              have HD := Lib.hid (HNN.out (by rw [hbk]; simp; omega)); clear HYY HNN hbk
              go_wp2_with (go_at_call 23; (with_reducible refine (HBR.out _).mono ?_); rintro y w' ⟨rfl, rfl⟩)
              go_meet
              case rel => exact ⟨rfl, congrArg (Value.int .i64) (by omega), false, rfl, HD.out⟩
          · rw [hbk] at HBR
            have HD := Lib.hid (HYY.out (.inl hbk)); clear HYY HNN hbk
            go_wp2_with (go_at_call 23; (with_reducible refine (HBR.out _).mono ?_); rintro y w' ⟨rfl, rfl⟩)
            go_meet
            case rel => exact ⟨rfl, congrArg (Value.int .i64) (by omega), true, rfl, HD.out⟩
      case rest =>
        obtain ⟨rfl, rfl, cb, rfl, hdec⟩ := hcut
        have HD := Lib.hid hdec; clear hdec
        go_upto_if 44 with (fail)
        go_cut [5, 8] (fun s5 s8 wx => LvCut w wx b l k A3 c3 n3 e s5 s8)
        case first =>
          cases cb with
          | true =>
            have hnd := HD.out.1 rfl
            have HN := Lib.hid hnd; clear hnd
            go_wp2_with (at_builtin; (refine wpList_appB rfl [.int .i64 3, .int .u64 0, .int .u64 (b : Int), .slice none 0 0] 4 rfl (by decide) (by simp [Value.oneCell']) _ _ 45 rfl w.heap.size 55 _ 48 info_sh rfl Try.underlying45 _ _ _ (HO9.out.alloc (.cells #[.int .i64 3, .int .u64 0, .int .u64 (b : Int), .slice none 0 0] 55)) _ (Blk.new _ _ _) rfl rfl ?_ ?_ ?_ ?_; omega; omega; (simp; omega); intro v5 w5 ho5 hap5; obtain ⟨A5, c5, rfl, _, _, _⟩ := own_form ho5; have HO5 := Lib.hid ho5; clear ho5))
            obtain ⟨hsh, hrows, hbl, hsz5⟩ := refNewK 3 b HO9.out HS9.out hz9 hap5
            have HSH := Lib.hid (hsh.map hsz5 fun _ _ _ h _ => h); have HR := Lib.hid hrows; clear hsh hrows
            go_meet
            case rel => exact ⟨A5, c5, L, leaves b (l.take k), ⟨3, 0, b, []⟩, _, rfl, by first | rfl | simp, HL.out.symm, by omega, by simp, by simp, HO5.out, HSH.out, HR.out _ _ _ _ HOB9.out, HB9.out.trans hbl, HN.out⟩
          | false =>
            obtain ⟨ss, n, d, e1, e2, e3⟩ := HD.out.2 rfl
            have hlen := HL.out
            rw [e1, List.length_append, List.length_singleton] at hlen
            have hbd := HBD.out
            rw [e2] at hbd
            simp only at hbd
            have hsh := HS9.out
            rw [e1] at hsh
            have HE3 := Lib.hid e3; have HSH := Lib.hid hsh; clear e1 e2 e3 hsh
            subst hlen
            go_wp2
            go_meet
            case rel => exact ⟨A0, c0, ss.length, ss, ⟨3, n, b, d⟩, xs, rfl, by first | rfl | simp, rfl, by omega, by simp only; omega, by simp only; omega, HO9.out, HSH.out, HOB9.out, HB9.out, HE3.out⟩
        case rest =>
          clear HO9 HS9 HOB9 HB9 HD HO HS H HPUT HBD
          obtain ⟨A5, c5, m, ss, s, xs5, rfl, rfl, hm, hm2, hsa, hsd2, ho5, hs5, hob5, hb5, hnd⟩ := hcut
          obtain ⟨a5, Ab, cb2, rfl, hba, hal, y1, z1, y3, z3, hcb1, hcb2, hnext⟩ := refTail _ w.heap.size _ _ _ c5 m ss s xs5 hm ho5 hs5 (Nat.le_refl _) A3 c3 e n3 HN3.out.symm hob5 hb5.size
          have hnext := hnext _ rfl
          rw [show ((s.a + 1 : Nat) : Int) = (s.a : Int) + 1 from by omega] at hnext
          simp only [pS] at y1 z1 y3 z3 hnext
          have wa : IntKind.u64.wrap ((s.a : Int) + 1) = (s.a : Int) + 1 := by rw [IntKind.wrap_u64]; omega
          have q5 : (0 : Int) ≤ (m : Int) := by omega
          have q6 : (m : Int) < (m : Int) + 1 := by omega
          obtain ⟨t1, t2, t3⟩ := hnext
          have hal' : (a5.add (m * 4)).block < wc.heap.size := by rw [block_add]; exact hal
          have hne' : ¬ (a5.add (m * 4)).block = wc.heap.size := by omega
          have hz5 := hb5.size
          have HM := Lib.hid hm; have HO5 := Lib.hid ho5; have HS5 := Lib.hid hs5; have HOB5 := Lib.hid hob5; have HB5 := Lib.hid hb5; have HN := Lib.hid hnd; have T1 := Lib.hid t1; have T2 := Lib.hid t2; have T3 := Lib.hid t3
          clear hm ho5 hs5 hob5 hb5 hnd t1 t2 t3
          go_wp2_with (first
            | (at_builtin; (refine wpList_appS _ rfl (.tmp 66) (.tmp 71) 53 rfl wc.heap.size 5 (.int .u8 0) 1 1 info_u8 rfl (by decide) Try.underlying53 (.slice (some ⟨wc.heap.size, 0, none⟩) 0 0) 0 [] T1.out ?_ _ Ab s.d.length cb2 (u8s s.d) T2.out ?_ (u8s_one _) ?_ ?_ ?_ ?_); rfl; rfl; omega; omega; (exact Nat.le_of_lt (T1.out.lt _ rfl).2); intro v8 w8 ho8 hap8; obtain ⟨R8, hz8, T8⟩ := T3.out v8 w8 ho8 hap8; have HO8 := Lib.hid ho8; have R8 := Lib.hid R8; have T8 := Lib.hid T8; clear ho8)
            | (at_builtin; (refine wpList_appS _ rfl (.tmp 72) (.tmp 73) 53 rfl wc.heap.size 5 (.int .u8 0) 1 1 info_u8 rfl (by decide) Try.underlying53 v8 (0 + s.d.length) ([] ++ u8s s.d) HO8.out ?_ _ A3 n3 c3 (u8s e) R8.out ?_ (u8s_one _) ?_ ?_ ?_ ?_); rfl; rfl; omega; omega; omega; intro v9 w9 ho9 hap9; obtain ⟨A9, c9, rfl, _, _, _⟩ := own_form ho9; obtain ⟨z9, ⟨yy, y9⟩, xs9, HF9⟩ := T8.out _ w9 ho9 hap9; rw [Nat.zero_add] at HF9; have HR9 := Lib.hid HF9; clear HF9 ho9))
          go_roundg (l.length - (k + 1))
          case measure => omega
          case rel => exact ⟨k + 1, by omega, rfl, by go_num, xs9, by rw [HN.out, List.length_append, List.length_singleton, ← HM.out]; exact HR9.out.1, by rw [HN.out]; exact HR9.out.2.1, HB5.out.trans HR9.out.2.2⟩
    · obtain rfl : k = l.length := by omega
      rw [List.take_length] at ho hs
      have HO := Lib.hid ho; have HS := Lib.hid hs; clear ho hs
      go_wp2
      go_ret
      exact ⟨_, xs, rfl, HO.out, HS.out.reads, hb⟩
end Go.Proofs.Ytfhmaincnlaapaa
namespace Go.Proofs.Ytfhmaincnlaapaa
open Go.ChangeShapes Go.WideShapes Go.ChangeAt Go.RowKit
set_option linter.unusedVariables false

theorem ents_take (es : List (Nat × Int)) (i f : Nat) (h : i < es.length) (e : es[i] = (f, 8192)) : entC (es.take (i + 1)) = entC (es.take i) ++ [.int .u64 (f : Int), .int .i64 8192] := by
  rw [entC_snoc, List.take_add_one, List.getElem?_eq_getElem h, e]; rfl
theorem keys_take (ks : List Nat) (i k : Nat) (h : i < ks.length) (e : ks[i] = k) : u64n (ks.take (i + 1)) = u64n (ks.take i) ++ [.int .u64 (k : Int)] := by
  rw [List.take_add_one, List.getElem?_eq_getElem h, e, u64n_app]; rfl
theorem info_entry25 : (Try.prog.info? 100).map (fun i => (i.zero, i.size, i.bytes)) = some (some (.agg #[.int .u64 0, .int .i64 0]), 2, 16) := by kernel_rfl
set_option maxRecDepth 20000 in
set_option maxHeartbeats 16000000 in
theorem ref39Pages_any (w : World) (B : Nat) (A : Option Addr) (c : Nat) (l : List CellS) (mask : Nat) (g : SlR cellR w B l A c) (hB : B ≤ w.heap.size) (hm : mask < 4294967296) (hr : risingC l = true)
    (hl : ∀ C ∈ l, lightC C = true) (hn : l.length ≤ 60) :
    Calls Try.prog 19 #[.int .u32 (mask : Int), .slice A l.length c] w fun y w' => y = .returned (.int .i64 (pagesN mask l : Int)) ∧ Below w.heap.size w w' := by
  have hc := refLeaves_any w mask A c B l g hm hl hn hB
  have HC := Lib.hid hc; have G := Lib.hid g
  have HCOV := Lib.hid (leaves_cover mask l); have HSTR := Lib.hid (rising_strict hr)
  have hpn : pagesN mask l = (leaves mask l).length + levs 1 (firsts (keysL l) (leaves mask l)) := rfl
  have HKY : Hid (∀ k ∈ keysL l, k < 18446744073709551616) := Lib.hid fun k hk => by
    obtain ⟨C, hC, rfl⟩ := List.mem_map.1 hk
    obtain ⟨j, hj, rfl⟩ := List.getElem_of_mem hC
    obtain ⟨_, _, _, _, _, _, _, _, _, _, _, hv⟩ := g.cellAt hj
    exact hv.key
  obtain ⟨L0, hL⟩ : ∃ L, leaves mask l = L := ⟨_, rfl⟩
  rw [hL] at HC HCOV hpn
  have HPN := Lib.hid hpn
  obtain ⟨tot, htot⟩ : ∃ tot, pagesN mask l = tot := ⟨_, rfl⟩
  have HTOT : Hid (tot ≤ 180) := Lib.hid (by have := pagesN_le mask l; omega)
  have HKL := Lib.hid (keysL_len l)
  rw [htot] at HPN ⊢
  clear hc g hl hpn hL htot hr
  go_enter Try.func19, Try.ntmps19
  go_wp2_with (go_at_call 51; (with_reducible refine HC.out.mono ?_); rintro y w1 ⟨v1, xs, rfl, ho1, hs1, hb1⟩; obtain ⟨A8, c8, rfl, _, _, _⟩ := own_form ho1; have HB1 := Lib.hid hb1; have HRA := Lib.hid (rowsR ho1 hs1 (belR w1) (Nat.le_refl _)); clear hb1 ho1 hs1)
  have HF0 := Lib.hid (World.ownsRow_nil w1 w1.heap.size 48 1)
  have h60 : L0.length ≤ 60 := by have := HCOV.out.len; omega
  go_loopw [6, 7] (fun vf vi wr => ∃ i : Nat, i ≤ l.length ∧ vi = .int .i64 (i : Int) ∧ Hid (wr.ownsRow w1.heap.size 48 1 vf i (u64n ((keysL l).take i))) ∧ Hid (Below w1.heap.size w1 wr)) (fun _ vi _ => l.length - (intOf vi).toNat)
  case atStart => exact ⟨0, by omega, rfl, HF0, Lib.hid (belR w1)⟩
  case round =>
    obtain ⟨i, hi, rfl, HO, HBl⟩ := hrel
    have hz := HBl.out.size
    by_cases hlt : i < l.length
    · have hbw : Below w.heap.size w wr := HB1.out.trans (HBl.out.mono HB1.out.size)
      obtain ⟨a', D2, d2, D3, d3, rfl, hab', y0, _, _, _, _⟩ := (G.out.keep (hbw.mono hB) (Nat.le_refl _)).cellAt hlt
      have hkt := keys_take (keysL l) i l[i].key (by rw [HKL.out]; exact hlt) (by simp [keysL])
      obtain ⟨ky, hky⟩ : ∃ ky, l[i].key = ky := ⟨_, rfl⟩
      rw [hky] at y0 hkt
      have q1 : (0 : Int) ≤ (i : Int) := by omega
      have q2 : (i : Int) < (l.length : Int) := by omega
      have HKT := Lib.hid hkt
      obtain ⟨A5, c5, rfl, _, _, _⟩ := own_form HO.out
      clear hkt hky hbw
      go_wp2_with (at_builtin; (refine wpList_app1 wr (.int .u64 (ky : Int)) rfl rfl _ _ 91 rfl w1.heap.size 48 _ 8 info_u64n rfl Try.underlying91 (.slice A5 i c5) i (u64n ((keysL l).take i)) HO.out (by rfl) (by rfl) ?_ ?_ ?_ ?_); omega; omega; exact HBl.out.size; intro v6 w6 ho6 hap6; have HO6 := Lib.hid ho6; have HB6 := Lib.hid (HBl.out.trans (hap6.below HBl.out.size HO.out)); clear ho6 hap6)
      go_roundw
      case rel => exact ⟨i + 1, by omega, by go_num, Lib.hid (by rw [HKT.out]; exact HO6.out), HB6⟩
      case measure => simp [intOf]; omega
    · obtain rfl : i = l.length := by omega
      have ho := HO.out
      rw [List.take_of_length_le (by rw [HKL.out]; exact Nat.le_refl _)] at ho
      have HO1 := Lib.hid ho
      clear ho
      go_wp2
      go_loopw [5, 6, 8, 9] (fun v5 v6 v8 v9 wr => ∃ (lv m : Nat) (ks : List Nat) (L : List Sht) (ys : List Value) (done : Nat) (A8 : Option Addr) (c8 q : Nat), Hid (L.length = m) ∧ v5 = .slice A8 m c8 ∧ v8 = .int .i64 (done : Int) ∧ v9 = .int .i64 (lv : Int) ∧ 1 ≤ lv ∧ lv + m ≤ 62 ∧ Hid (done + m + levs lv (firsts ks L) = tot) ∧ Hid (Cover L ks.length) ∧ Hid (StrictL ks) ∧ Hid (∀ k ∈ ks, k < 18446744073709551616) ∧ Hid (ks.length = q) ∧ q ≤ 62 ∧ Hid (wr.ownsRow w1.heap.size 48 1 v6 q (u64n ks)) ∧ Hid (Rd wr wr.heap.size 4 A8 m ys ∧ ShR wr wr.heap.size L ys) ∧ Hid (Below w1.heap.size w1 wr)) (fun v5 _ _ _ _ => lenOf v5)
      case atStart => exact ⟨1, L0.length, keysL l, L0, xs, 0, A8, c8, l.length, Lib.hid rfl, rfl, rfl, rfl, by omega, by omega, Lib.hid (by rw [Nat.zero_add]; exact HPN.out.symm), Lib.hid (by rw [HKL.out]; exact HCOV.out), HSTR, HKY, HKL, by omega, HO1, Lib.hid ⟨(HRA.out.1.below HBl.out).more hz, HRA.out.2.keep HBl.out hz⟩, HBl⟩
      case round =>
        obtain ⟨wo, hwo⟩ : ∃ wo, wo = wr := ⟨_, rfl⟩
        subst hwo
        obtain ⟨lv, m, ks, L, ys, done, A8', c8', q, HM, rfl, rfl, rfl, hlv, hlm, HT, HCV, HS, HK, HQ, hq, HOk, HSH, HB⟩ := hrel
        have htb : done + m ≤ 180 := by have h1 := HT.out; have h2 := HTOT.out; omega
        by_cases h0 : m = 0
        · have t1 : decide ((0 : Int) < (m : Int)) = false := decide_eq_false (by omega)
          have t1n : decide (0 < m) = false := decide_eq_false (by omega)
          have hl0 := levs_one (lv := lv) (fs := firsts ks L) (by rw [firsts_len]; have := HM.out; omega)
          have hdone : done = tot := by have := HT.out; omega
          have HDN := Lib.hid hdone
          have HBW := Lib.hid (HB1.out.trans (HB.out.mono HB1.out.size))
          clear hl0 hdone
          go_wp2
          go_ret
          rw [HDN.out]
          exact ⟨rfl, HBW.out⟩
        have t1 : decide ((0 : Int) < (m : Int)) = true := decide_eq_true (by omega)
        have t1n : decide (0 < m) = true := decide_eq_true (by omega)
        have wdm : IntKind.i64.wrap ((done : Int) + (m : Int)) = ((done + m : Nat) : Int) := by rw [IntWalk.i64_in _ (by omega)]; omega
        by_cases h1 : m = 1
        · have t2 : ((m : Int) == 1) = true := by rw [beq_iff_eq]; omega
          have hl0 := levs_one (lv := lv) (fs := firsts ks L) (by rw [firsts_len]; have := HM.out; omega)
          have hdone : done + m = tot := by have := HT.out; omega
          have HDN := Lib.hid hdone
          have HBW := Lib.hid (HB1.out.trans (HB.out.mono HB1.out.size))
          clear hl0 hdone h1
          obtain ⟨dm, hdm⟩ : ∃ dm, done + m = dm := ⟨_, rfl⟩
          rw [hdm] at wdm
          have HDM := Lib.hid hdm
          clear hdm
          go_wp2
          go_ret
          exact ⟨by rw [← HDN.out, HDM.out]; rfl, HBW.out⟩
        have t2 : ((m : Int) == 1) = false := by rw [beq_eq_false_iff_ne]; omega
        obtain ⟨dm, hdm⟩ : ∃ dm, done + m = dm := ⟨_, rfl⟩
        rw [hdm] at wdm
        have HDM := Lib.hid hdm
        have hdmb : dm ≤ 180 := by omega
        obtain ⟨A6, c6, rfl, _, _, _⟩ := own_form HOk.out
        have HF3 := Lib.hid (World.ownsRow_nil wo wo.heap.size 100 2)
        have hzw := HB.out.size
        have HESL : Hid ((entsOf (firsts ks L)).length = m) := Lib.hid (by rw [entsOf_len, firsts_len]; exact HM.out)
        have hm2 : 2 ≤ m := by omega
        clear hdm h0 h1 HF0 HO HO1 HBl
        go_wp2
        go_loopw [10, 11, 12] (fun ve vat vi w3 => ∃ i at_ : Nat, i ≤ m ∧ vi = .int .i64 (i : Int) ∧ vat = .int .i64 (at_ : Int) ∧ Hid (sumA (L.take i) = at_) ∧ Hid (w3.ownsRow wo.heap.size 100 2 ve i (entC ((entsOf (firsts ks L)).take i))) ∧ Hid (Below wo.heap.size wo w3)) (fun _ _ vi _ => m - (intOf vi).toNat)
        case atStart => exact ⟨0, 0, by omega, rfl, rfl, Lib.hid rfl, HF3, belR wo⟩
        case round =>
          obtain ⟨i, at_, hi, rfl, rfl, HAT, HO, HBl⟩ := hrel
          have hz3 := HBl.out.size
          by_cases hlt : i < m
          · have hltL : i < L.length := by have := HM.out; omega
            obtain ⟨a, Ad, cd, rfl, hab, _, x1, _, _, _, _, _⟩ := HSH.out.1.sht HSH.out.2 i hltL
            have hlt2 := HCV.out.lt hltL
            rw [HAT.out, HQ.out] at hlt2
            obtain ⟨a6, rfl, hab6, x6⟩ := ((Rd.own HOk.out).below HBl.out).u64n hlt2
            have hst := sumA_take L i L[i] (List.getElem?_eq_getElem hltL)
            rw [HAT.out] at hst
            have hle := sumA_take_le L (i + 1)
            rw [HCV.out.sum, HQ.out] at hle
            have het := ents_take (entsOf (firsts ks L)) i (ks.getD at_ 0) (by rw [HESL.out]; exact hlt) (by rw [entsOf_get, firsts_get _ _ _ hltL, HAT.out])
            obtain ⟨ky, hky⟩ : ∃ ky, ks.getD at_ 0 = ky := ⟨_, rfl⟩
            rw [hky] at x6 het
            generalize L[i] = s at *
            obtain ⟨z, hzz⟩ : ∃ z, sumA (L.take (i + 1)) = z := ⟨_, rfl⟩
            rw [hzz] at hst hle
            have q1 : (0 : Int) ≤ (i : Int) := by omega
            have q2 : (i : Int) < (m : Int) := by omega
            have q3 : (0 : Int) ≤ (at_ : Int) := by omega
            have q4 : (at_ : Int) < (q : Int) := by omega
            have wsa : IntKind.i64.wrap (s.a : Int) = (s.a : Int) := IntWalk.i64_in _ (by omega)
            have wz : (at_ : Int) + (s.a : Int) = (z : Int) := by omega
            have wz' : IntKind.i64.wrap ((at_ : Int) + (s.a : Int)) = (z : Int) := by rw [IntWalk.i64_in _ (by omega)]; omega
            have HET := Lib.hid het; have HZZ := Lib.hid hzz; have HX1 := Lib.hid x1
            have HOA := Lib.hid (HO.out.alloc (.cells #[.int .u64 (ky : Int), .int .i64 8192] 100))
            have HBX := Lib.hid (HBl.out.alloc hz3 (.cells #[.int .u64 (ky : Int), .int .i64 8192] 100))
            have hbxz : wo.heap.size ≤ (wr.alloc (.cells #[.int .u64 (ky : Int), .int .i64 8192] 100)).heap.size := by simp; omega
            have HBLK : Hid (Blk (wr.alloc (.cells #[.int .u64 (ky : Int), .int .i64 8192] 100)) wr.heap.size 100 [Value.int .u64 (ky : Int), .int .i64 8192].toArray) := Lib.hid (Blk.new wr _ _)
            obtain ⟨A5, c5, rfl, _, _, _⟩ := own_form HO.out
            clear hst het hzz hky x1
            go_wp2_with (at_builtin; (refine wpList_appB rfl [.int .u64 (ky : Int), .int .i64 8192] 2 rfl (by decide) (by simp [Value.oneCell']) _ _ 99 rfl wo.heap.size 100 _ 16 info_entry25 rfl Try.underlying99 _ _ _ HOA.out wr.heap.size HBLK.out rfl rfl ?_ ?_ ?_ ?_); omega; omega; exact hbxz; intro v6 w6 ho6 hap6; have HO6 := Lib.hid ho6; have HB6 := Lib.hid (HBX.out.trans (hap6.below hbxz HOA.out)); have z1 := (HB6.out.cell (p := ⟨(a.add (i * 4)).block, (a.add (i * 4)).off + 1, none⟩) (by show (a.add (i * 4)).block < _; rw [block_add]; exact hab)).trans HX1.out; clear ho6 hap6)
            go_roundw
            case rel => exact ⟨i + 1, z, by omega, by go_num, by go_num, HZZ, Lib.hid (by rw [HET.out]; exact HO6.out), HB6⟩
            case measure => simp [intOf]; omega
          · obtain rfl : i = m := by omega
            have q2 : ¬ (i : Int) < (i : Int) := by omega
            have hoe := HO.out
            rw [List.take_of_length_le (by have := HESL.out; omega)] at hoe
            obtain ⟨A10, c10, rfl, _, _, _⟩ := own_form hoe
            have hrd := Rd.own hoe
            have hsf := HCV.out.strict HS.out
            have HND := Lib.hid (refNodes_any wr lv A10 i c10 wr.heap.size (entsOf (firsts ks L)) hlv (by omega) hrd (by omega) (Nat.le_refl _) (fun k hk => by
              rw [entsOf_get _ k hk]
              refine ⟨?_, by show (1 : Int) ≤ 8192; decide, by show (8192 : Int) ≤ 8192; decide⟩
              exact u64_firsts_lt ks L HK.out k))
            have HCV2 := Lib.hid (nodes_cover lv (entsOf (firsts ks L))); have HHF := Lib.hid (nodes_half lv (entsOf (firsts ks L))); have HLM := Lib.hid (levs_more (lv := lv) (fs := firsts ks L) (by rw [firsts_len]; have := HM.out; omega))
            have HFL : Hid ((firsts ks L).length = i) := Lib.hid (by rw [firsts_len]; exact HM.out)
            have HRE := Lib.hid hrd
            generalize nodes lv (entsOf (firsts ks L)) = L2 at *
            have HBW3 := Lib.hid (HB.out.trans (HBl.out.mono hzw))
            have HSTF := Lib.hid hsf; have HKF := Lib.hid (firsts_mem_lt (L := L) HK.out)
            clear hoe hrd hsf
            go_wp2_with (go_at_call 52; (with_reducible refine HND.out.mono ?_); rintro y w4 ⟨v4, xs4, rfl, ho4, hs4, hb4⟩; obtain ⟨A4, c4, rfl, _, _, _⟩ := own_form ho4; have HB4 := Lib.hid (belT HBW3.out hb4); have HSA4 := Lib.hid (rowsR ho4 hs4 (belR w4) (Nat.le_refl _)); have HRE4 := Lib.hid (HRE.out.below hb4); have hz4 := hb4.size; clear hb4 ho4 hs4)
            have HF4 := Lib.hid (World.ownsRow_nil w4 w4.heap.size 48 1)
            have hl2 : L2.length ≤ i := by have h1 := HCV2.out.len; have h2 := HESL.out; omega
            have hz41 : w1.heap.size ≤ w4.heap.size := by omega
            generalize hfs : firsts ks L = fs at *
            go_loopw [6, 13] (fun vf vi w5 => ∃ j : Nat, j ≤ i ∧ vi = .int .i64 (j : Int) ∧ Hid (w5.ownsRow w4.heap.size 48 1 vf j (u64n (fs.take j))) ∧ Hid (Below w4.heap.size w4 w5)) (fun _ vi _ => i - (intOf vi).toNat)
            case atStart => exact ⟨0, by omega, rfl, HF4, Lib.hid (belR w4)⟩
            case round =>
              obtain ⟨j, hj, rfl, HOf, HBl5⟩ := hrel
              have hz5 := HBl5.out.size
              by_cases hlj : j < i
              · obtain ⟨a', rfl, hab', y0, _⟩ := (HRE4.out.below (HBl5.out.mono hz4)).ent (k := j) (by have := HESL.out; omega)
                rw [entsOf_get] at y0
                have hjf : j < fs.length := by have := HFL.out; omega
                have hkt := keys_take fs j (fs.getD j 0) hjf (by simp [List.getD, hjf])
                obtain ⟨ky, hky⟩ : ∃ ky, fs.getD j 0 = ky := ⟨_, rfl⟩
                rw [hky] at y0 hkt
                have q1 : (0 : Int) ≤ (j : Int) := by omega
                have q4 : (j : Int) < (i : Int) := by omega
                have HKT := Lib.hid hkt
                obtain ⟨A5, c5, rfl, _, _, _⟩ := own_form HOf.out
                clear hkt hky
                go_wp2_with (at_builtin; (refine wpList_app1 wr (.int .u64 (ky : Int)) rfl rfl _ _ 91 rfl w4.heap.size 48 _ 8 info_u64n rfl Try.underlying91 (.slice A5 j c5) j (u64n (fs.take j)) HOf.out (by rfl) (by rfl) ?_ ?_ ?_ ?_); omega; omega; exact hz5; intro v6 w6 ho6 hap6; have HO6 := Lib.hid ho6; have HB6 := Lib.hid (HBl5.out.trans (hap6.below hz5 HOf.out)); clear ho6 hap6)
                go_roundw
                case rel => exact ⟨j + 1, by omega, by go_num, Lib.hid (by rw [HKT.out]; exact HO6.out), HB6⟩
                case measure => simp [intOf]; omega
              · obtain rfl : j = i := by omega
                have q5 : ¬ (j : Int) < (j : Int) := by omega
                have hof := HOf.out
                rw [List.take_of_length_le (by have := HFL.out; omega)] at hof
                have hlm := HLM.out
                have hhf := HHF.out
                rw [HESL.out] at hhf
                have hdl : dm + L2.length + levs (lv + 1) (firsts fs L2) = tot := by have := HT.out; have := HDM.out; omega
                have hll : L2.length < j := by omega
                have HDL := Lib.hid hdl
                have HOF := Lib.hid (own_mono hof hz41)
                have HCN : Hid (Cover L2 fs.length) := Lib.hid (by have h := HCV2.out; rw [entsOf_len] at h; exact h)
                clear hlm hhf hdl hof
                go_wp2
                go_roundw
                case rel => exact ⟨lv + 1, L2.length, fs, L2, xs4, dm, A4, c4, j, Lib.hid rfl, rfl, by go_num, by go_num, by omega, by omega, HDL, HCN, HSTF, HKF, HFL, by omega, HOF, Lib.hid ⟨(HSA4.out.1.below HBl5.out).more hz5, HSA4.out.2.keep HBl5.out hz5⟩, Lib.hid (HB4.out.trans (HBl5.out.mono hz41))⟩
                case measure => simp [lenOf]; omega
end Go.Proofs.Ytfhmaincnlaapaa
