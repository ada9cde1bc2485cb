/-
  THE READER's U, I, T.
  buf.read at its four types: what it does to the reader.
  buf.NewIn; the reader's U.
  THE READER buf.In: its memory; fine, rest, fail, Fault, Left, End, NewIn.
  THE WRITER buf.Out: NewOut, lay, Bytes, U.
  code.number, GetU, GetI, GetT: what they read of any bytes.
  PLAIN LEAN: what is read of bytes (layer 7): numbers, numbers with a sign, texts; what was put is got.
  WHAT code.wide, bytes, U, I, T GIVE: the codes of layer 7, in a slice of the call's own.
  PLAIN LEAN: numbers and texts as bytes (layer 7's codes), with no program in sight.
  The bytes of a sum: exact's and bushelref05's.
-/
import Derived.Test.YtfhmaincnlaapaaAjSy3
import Derived.Test.YtfhmaincnlaapaaAjNumMath
import Derived.Test.YtfhmaincnlaapaaAjTExact
namespace Go.Proofs.Ytfhmaincnlaapaa.Sy
open Go.ChangeShapes Go.WideShapes Go.ChangeAt Go.RowKit
set_option linter.unusedVariables false
set_option linter.unusedSimpArgs false
def nB (l : List Nat) : List AV := l.map fun n : Nat => .v (.int .u8 ((n : Nat) : Int))
theorem nB_len (l : List Nat) : (nB l).length = l.length := by simp [nB]
theorem nB_app (l m : List Nat) : nB (l ++ m) = nB l ++ nB m := by simp [nB]
def u8L (l : List Nat) : List UInt8 := l.map UInt8.ofNat
theorem byL_u8 {l : List Nat} (h : ∀ n ∈ l, n < 256) : byL (u8L l) = nB l := by
  unfold byL u8L nB
  rw [List.map_map]
  refine List.map_congr_left fun n hn => ?_
  have := h n hn
  simp only [Function.comp]
  rw [UInt8.toNat_ofNat', Nat.mod_eq_of_lt (by simpa using this)]
def be4 (x : Nat) : List Nat := [x / 16777216, x / 65536 % 256, x / 256 % 256, x % 256]
theorem be4_lt {x : Nat} (hx : x < 4294967296) : ∀ n ∈ be4 x, n < 256 := by
  intro n hn
  simp only [be4, List.mem_cons, List.not_mem_nil, or_false] at hn
  omega
/-- the highest k words, the highest one first -/
def bS (w : List Nat) : Nat → List Nat
  | 0 => []
  | k + 1 => bS w k ++ be4 (dg w (w.length - 1 - k))
theorem bS_len (w : List Nat) : ∀ k, (bS w k).length = 4 * k
  | 0 => rfl
  | k + 1 => by rw [bS, List.length_append, bS_len w k]; simp [be4]; omega
theorem bS_lt {w : List Nat} (hw : Wd w) : ∀ k, ∀ n ∈ bS w k, n < 256
  | 0, n, h => by cases h
  | k + 1, n, h => by
    rcases List.mem_append.1 h with h | h
    · exact bS_lt hw k n h
    · exact be4_lt (dg_ltW w _ hw) n h
def encH (f : Nat) (w : List Nat) (k : Nat) : List Nat := [f, lz w, w.length - lz w] ++ bS w k
def encN (f : Nat) (w : List Nat) : List Nat := encH f w (w.length - lz w)
theorem encH_len (f : Nat) (w : List Nat) (k : Nat) : (encH f w k).length = 3 + 4 * k := by unfold encH; rw [List.length_append, bS_len]; rfl
def flg (b : Bool) (n : Nat) : Nat := if b then n else 0
theorem flg_le (b : Bool) (n : Nat) : flg b n ≤ n := by unfold flg; split <;> omega
def camN (s : SumS) : Nat := flg s.none 1 + flg s.up 2 + flg s.down 4 + flg s.minus 8 + flg s.plus 16
def flN (s : SumS) : Nat := camN s + flg (decide (s.all < 0)) 32
def encS (s : SumS) : List UInt8 := u8L (encN (flN s) (dgw s.all.natAbs))
theorem camN_lt (s : SumS) : camN s ≤ 31 := by
  have h1 := flg_le s.none 1; have h2 := flg_le s.up 2; have h3 := flg_le s.down 4; have h4 := flg_le s.minus 8; have h5 := flg_le s.plus 16
  unfold camN; omega
theorem flN_lt (s : SumS) : flN s ≤ 63 := by
  have := camN_lt s; have := flg_le (decide (s.all < 0)) 32
  unfold flN; omega
theorem flagN_ok (b : Bool) (n : Nat) : FnOk Try.prog 139 ⟨[bz b, iz (n : Nat)], [], iz (flg b n : Nat), []⟩ := by
  have h := flag_ok b n
  rw [show (if b = true then (n : Int) else 0) = ((flg b n : Nat) : Int) by unfold flg; split <;> rfl] at h
  exact h
theorem encN_lt {f : Nat} {w : List Nat} (hw : Wd w) (hf : f < 256) (hl : w.length ≤ 255) : ∀ n ∈ encN f w, n < 256 := by
  intro n hn
  unfold encN encH at hn
  have := lz_le w
  rcases List.mem_append.1 hn with h | h
  · simp only [List.mem_cons, List.not_mem_nil, or_false] at h; omega
  · exact bS_lt hw _ n h
theorem lz_dgw (n : Nat) : dgw n = [] ∨ lz (dgw n) < (dgw n).length := by
  by_cases h : n = 0
  · left; subst h; exact dig_zeroW
  · right
    refine Nat.lt_of_le_of_ne (lz_le _) fun e => ?_
    have : ∀ (l : List Nat), lz l = l.length → vw l = 0 := by
      intro l
      induction l with
      | nil => intro _; rfl
      | cons d l ih =>
        intro h
        unfold lz at h
        split at h
        · rename_i hd; rw [vd_consW, hd, ih (by simpa using h)]
        · simp at h
    have := this _ e
    rw [vd_digW] at this
    exact h this
/-! ### exact's -/
def rowB (q n : Nat) (cs : List AV) : Nat × AObj := (q, .row 5 1 n 0 cs)
theorem nB_snoc4 (l : List Nat) (a b c d : Nat) : nB l ++ [.v (.int .u8 (a : Int)), .v (.int .u8 (b : Int)), .v (.int .u8 (c : Int)), .v (.int .u8 (d : Int))] = nB (l ++ [a, b, c, d]) := by rw [nB_app]; rfl
theorem encH_succ (f : Nat) (w : List Nat) (k : Nat) : encH f w (k + 1) = encH f w k ++ be4 (dg w (w.length - 1 - k)) := by unfold encH; rw [bS, List.append_assoc]
def ebInv (c x : Int) (f : Nat) (w : List Nat) (k : Nat) : AS := ⟨[(0, .ptr 1000 0), (4, iz (lz w : Nat)), (5, .row 38 0), (6, iz ((w.length : Int) - 1 - k))], [(1000, .cells 196 [bz true, .v (.int .u8 c), bz (decide (x < 0)), wA w]), rowB 38 (3 + 4 * k) (nB (encH f w k))], 72, [1000]⟩
theorem eb_loop (c x : Int) (f : Nat) {w : List Nat} (hd : Wd w) (hl : w.length ≤ 1000) (i : {k : Nat // k ≤ w.length - lz w}) : LoopOk Try.prog (loopBody Try.f86 9) (ebInv c x f w i.1) (.exit 0) (ebInv c x f w (w.length - lz w)) := by
  refine LoopOk.of hmo (fun i : {k : Nat // k ≤ w.length - lz w} => ebInv c x f w i.1) (fun i => w.length - lz w - i.1) (fun i => ?_) i
  obtain ⟨k, hk⟩ := i
  have hle := lz_le w
  have hz := nB_len (encH f w k)
  rw [encH_len] at hz
  rcases Nat.lt_or_eq_of_le hk with hlt | rfl
  · have hr := rd_wL w (w.length - 1 - k) (by omega)
    have hdl := dg_ltW w (w.length - 1 - k) hd
    refine Round.on [(45, Hint.val (AV.v (Value.int IntKind.i64 (↑(w.length - (1 : Nat) - k) : Int)))), (47, Hint.val (AV.v (Value.bool true))), (54, Hint.val (AV.v (Value.int IntKind.i64 (↑(w.length - (1 : Nat) - k) : Int)))), (56, Hint.val (u3 (dg w (w.length - (1 : Nat) - k)))), (59, Hint.val (AV.v (Value.int IntKind.u32 (↑(dg w (w.length - (1 : Nat) - k) / (16777216 : Nat)) : Int)))), (60, Hint.val (AV.v (Value.int IntKind.u8 (↑(dg w (w.length - (1 : Nat) - k) / (16777216 : Nat)) : Int)))), (62, Hint.val (AV.v (Value.int IntKind.u32 (↑(dg w (w.length - (1 : Nat) - k) / (65536 : Nat)) : Int)))), (63, Hint.val (AV.v (Value.int IntKind.u8 (↑(dg w (w.length - (1 : Nat) - k) / (65536 : Nat) % (256 : Nat)) : Int)))), (65, Hint.val (AV.v (Value.int IntKind.u32 (↑(dg w (w.length - (1 : Nat) - k) / (256 : Nat)) : Int)))), (66, Hint.val (AV.v (Value.int IntKind.u8 (↑(dg w (w.length - (1 : Nat) - k) / (256 : Nat) % (256 : Nat)) : Int)))), (68, Hint.val (AV.v (Value.int IntKind.u8 (↑(dg w (w.length - (1 : Nat) - k) % (256 : Nat)) : Int)))), (48, Hint.val (AV.v (Value.int IntKind.i64 (↑(w.length - (1 : Nat) - k) : Int)))), (49, Hint.val (AV.v (Value.int IntKind.i64 ((↑(w.length - (1 : Nat) - k) : Int) - (1 : Int)))))] [] ⟨k + 1, hlt⟩ [(1000 : Nat) = (1000 : Nat) ∧ (0 : Nat) = (0 : Nat), (↑(lz w) : Int) = (↑(lz w) : Int), (38 : Nat) = (38 : Nat) ∧ (0 : Nat) = (0 : Nat), (↑(w.length - (1 : Nat) - k) : Int) - (1 : Int) = (↑w.length : Int) - (1 : Int) - (↑(k + (1 : Nat)) : Int), [AV.v (Value.bool true), AV.v (Value.int IntKind.u8 c), AV.v (Value.bool (decide (x < (0 : Int)))), AV.lst w.length (wL w)] = [AV.v (Value.bool true), AV.v (Value.int IntKind.u8 c), AV.v (Value.bool (decide (x < (0 : Int)))), AV.lst w.length (wL w)], (3 : Nat) + (4 : Nat) * k + (4 : Nat) = (3 : Nat) + (4 : Nat) * (k + (1 : Nat)) ∧ (0 : Nat) = (0 : Nat) ∧ nB (encH f w k) ++ [AV.v (Value.int IntKind.u8 (↑(dg w (w.length - (1 : Nat) - k) / (16777216 : Nat)) : Int)), AV.v (Value.int IntKind.u8 (↑(dg w (w.length - (1 : Nat) - k) / (65536 : Nat) % (256 : Nat)) : Int)), AV.v (Value.int IntKind.u8 (↑(dg w (w.length - (1 : Nat) - k) / (256 : Nat) % (256 : Nat)) : Int)), AV.v (Value.int IntKind.u8 (↑(dg w (w.length - (1 : Nat) - k) % (256 : Nat)) : Int))] = nB (encH f w (k + (1 : Nat))), (↑w.length : Int) - (1 : Int) - (↑k : Int) = (↑(w.length - (1 : Nat) - k) : Int), decide ((↑(lz w) : Int) ≤ (↑(w.length - (1 : Nat) - k) : Int)) = true, (↑w.length : Int) - (1 : Int) - (↑k : Int) = (↑(w.length - (1 : Nat) - k) : Int), (0 : Int) ≤ (↑(w.length - (1 : Nat) - k) : Int) ∧ (↑(w.length - (1 : Nat) - k) : Int) < (↑w.length : Int), rd1 false (1 : Nat) (wL w) ((↑(w.length - (1 : Nat) - k) : Int).toNat * (1 : Nat)) = some (AV.v (Value.int IntKind.u32 (↑(dg w (w.length - (1 : Nat) - k)) : Int))), (↑(dg w (w.length - (1 : Nat) - k)) : Int).fdiv ((2 : Int) ^ (24 : Nat)) = (↑(dg w (w.length - (1 : Nat) - k) / (16777216 : Nat)) : Int), (0 : Int) ≤ (24 : Int), IntKind.u8.wrap (↑(dg w (w.length - (1 : Nat) - k) / (16777216 : Nat)) : Int) = (↑(dg w (w.length - (1 : Nat) - k) / (16777216 : Nat)) : Int), (↑(dg w (w.length - (1 : Nat) - k)) : Int).fdiv ((2 : Int) ^ (16 : Nat)) = (↑(dg w (w.length - (1 : Nat) - k) / (65536 : Nat)) : Int), (0 : Int) ≤ (16 : Int), IntKind.u8.wrap (↑(dg w (w.length - (1 : Nat) - k) / (65536 : Nat)) : Int) = (↑(dg w (w.length - (1 : Nat) - k) / (65536 : Nat) % (256 : Nat)) : Int), (↑(dg w (w.length - (1 : Nat) - k)) : Int).fdiv ((2 : Int) ^ (8 : Nat)) = (↑(dg w (w.length - (1 : Nat) - k) / (256 : Nat)) : Int), (0 : Int) ≤ (8 : Int), IntKind.u8.wrap (↑(dg w (w.length - (1 : Nat) - k) / (256 : Nat)) : Int) = (↑(dg w (w.length - (1 : Nat) - k) / (256 : Nat) % (256 : Nat)) : Int), IntKind.u8.wrap (↑(dg w (w.length - (1 : Nat) - k)) : Int) = (↑(dg w (w.length - (1 : Nat) - k) % (256 : Nat)) : Int), [AV.v (Value.int IntKind.u8 (↑(dg w (w.length - (1 : Nat) - k) / (16777216 : Nat)) : Int)), AV.v (Value.int IntKind.u8 (↑(dg w (w.length - (1 : Nat) - k) / (65536 : Nat) % (256 : Nat)) : Int)), AV.v (Value.int IntKind.u8 (↑(dg w (w.length - (1 : Nat) - k) / (256 : Nat) % (256 : Nat)) : Int)), AV.v (Value.int IntKind.u8 (↑(dg w (w.length - (1 : Nat) - k) % (256 : Nat)) : Int))].length = (4 : Nat), ((3 : Nat) + (4 : Nat) * k + (4 : Nat)) * (1 : Nat) ≤ (140737488355328 : Nat) ∧ (3 : Nat) + (4 : Nat) * k + (4 : Nat) ≤ (140737488355328 : Nat), (↑w.length : Int) - (1 : Int) - (↑k : Int) = (↑(w.length - (1 : Nat) - k) : Int), IntKind.i64.wrap ((↑(w.length - (1 : Nat) - k) : Int) - (1 : Int)) = (↑(w.length - (1 : Nat) - k) : Int) - (1 : Int)] (by kernel_rfl) (by show w.length - lz w - (k + 1) < w.length - lz w - k; omega) ?_
    ((repeat' refine And.intro ?_ ?_); (iterate 5 (with_reducible rfl)); (omega); (with_reducible rfl); (omega); (with_reducible rfl); rotate_left 1; (omega); ((with_reducible refine Dt ?_; omega)); (iterate 3 (omega)); ((show rd1 _ _ _ _ = _; assumption)); (exact fdivN _ _ _ (by decide)); (omega); ((rw [IntKind.wrap_u8]; omega)); (exact fdivN _ _ _ (by decide)); (omega); (exact tmodN _ _); (exact fdivN _ _ _ (by decide)); (omega); (iterate 2 (exact tmodN _ _)); (exact rfl); (iterate 3 (omega)); (exact Wi _ (by omega)); (exact True.intro))
    all_goals (rw [encH_succ]; exact nB_snoc4 _ _ _ _ _)
  · refine Round.out [(47, Hint.val (AV.v (Value.bool false)))] [] [(1000 : Nat) = (1000 : Nat) ∧ (0 : Nat) = (0 : Nat), (↑(lz w) : Int) = (↑(lz w) : Int), (38 : Nat) = (38 : Nat) ∧ (0 : Nat) = (0 : Nat), (↑w.length : Int) - (1 : Int) - (↑(w.length - lz w) : Int) = (↑w.length : Int) - (1 : Int) - (↑(w.length - lz w) : Int), [AV.v (Value.bool true), AV.v (Value.int IntKind.u8 c), AV.v (Value.bool (decide (x < (0 : Int)))), AV.lst w.length (wL w)] = [AV.v (Value.bool true), AV.v (Value.int IntKind.u8 c), AV.v (Value.bool (decide (x < (0 : Int)))), AV.lst w.length (wL w)], (3 : Nat) + (4 : Nat) * (w.length - lz w) = (3 : Nat) + (4 : Nat) * (w.length - lz w) ∧ (0 : Nat) = (0 : Nat) ∧ nB (encH f w (w.length - lz w)) = nB (encH f w (w.length - lz w)), decide ((↑(lz w) : Int) ≤ (↑w.length : Int) - (1 : Int) - (↑(w.length - lz w) : Int)) = false] (by kernel_rfl) ?_
    ((repeat' refine And.intro ?_ ?_); (iterate 10 (with_reducible rfl)); ((with_reducible refine Df ?_; omega)); (exact True.intro))
theorem or32 (a b c d e : Bool) : ((BitVec.ofInt 8 ((flg a 1 + flg b 2 + flg c 4 + flg d 8 + flg e 16 : Nat) : Int) ||| BitVec.ofInt 8 32).toNat : Nat) = flg a 1 + flg b 2 + flg c 4 + flg d 8 + flg e 16 + 32 := by
  revert a b c d e; decide
theorem exBytes_ok (s : SumS) (hs : s.all.natAbs < roomN) : FnOk Try.prog 86 ⟨[.ptr 1000 0], [exO 1000 (camN s : Nat) s.all], .lst (encS s).length (byL (encS s)), [exO 1000 (camN s : Nat) s.all]⟩ := by
  have h1 := is_ok (camN s : Nat) s.all 1000 (.inl rfl)
  have hl := dgw_small hs
  have hw := Wd_dg s.all.natAbs
  obtain ⟨n, hn, hn2, h2⟩ := noughts_ok (by omega) hw (lz_dgw s.all.natAbs)
  have hle := lz_le (dgw s.all.natAbs)
  have hc := camN_lt s
  have hf := flN_lt s
  have hlen : (encS s).length = 3 + 4 * ((dgw s.all.natAbs).length - lz (dgw s.all.natAbs)) := by unfold encS u8L encN; rw [List.length_map, encH_len]
  have hby : byL (encS s) = nB (encH (flN s) (dgw s.all.natAbs) ((dgw s.all.natAbs).length - lz (dgw s.all.natAbs))) := byL_u8 (encN_lt hw (by omega) (by omega))
  have h3 := eb_loop (camN s : Nat) s.all (flN s) hw (by omega) ⟨0, Nat.zero_le _⟩
  have hz0 : encH (flN s) (dgw s.all.natAbs) 0 = [flN s, lz (dgw s.all.natAbs), (dgw s.all.natAbs).length - lz (dgw s.all.natAbs)] := rfl
  by_cases hneg : s.all < 0
  · have hb : decide (s.all < 0) = true := decide_eq_true hneg
    have hfl : flN s = camN s + 32 := by unfold flN; rw [hb]; rfl
    have hor : (BitVec.ofInt 8 ((camN s : Nat) : Int) ||| BitVec.ofInt 8 32).toNat = camN s + 32 := or32 ..
    refine fn_go hmo Try.func86 (by kernel_rfl) [(9, Hint.call (Inst.mk [AV.ptr (1000 : Nat) (0 : Nat)] [exO (1000 : Nat) (↑(camN s) : Int) s.all] (bz true) [exO (1000 : Nat) (↑(camN s) : Int) s.all])), (18, Hint.val (AV.v (Value.bool true))), (20, Hint.val (AV.v (Value.int IntKind.u8 (↑(flN s) : Int)))), (25, Hint.call (Inst.mk [wA (dgw s.all.natAbs)] [] (iz (↑n : Int)) [])), (26, Hint.val (AV.v (Value.int IntKind.i64 (↑(n / (32 : Nat)) : Int)))), (29, Hint.val (AV.v (Value.int IntKind.u8 (↑(n / (32 : Nat)) : Int)))), (36, Hint.val (AV.v (Value.int IntKind.i64 (↑((dgw s.all.natAbs).length - n / (32 : Nat)) : Int)))), (37, Hint.val (AV.v (Value.int IntKind.u8 (↑((dgw s.all.natAbs).length - n / (32 : Nat)) : Int)))), (44, Hint.val (AV.v (Value.int IntKind.i64 ((↑(dgw s.all.natAbs).length : Int) - (1 : Int)))))] [(9, ⟨.exit 0, ebInv (camN s : Nat) s.all (flN s) (dgw s.all.natAbs) 0, ebInv (camN s : Nat) s.all (flN s) (dgw s.all.natAbs) ((dgw s.all.natAbs).length - lz (dgw s.all.natAbs))⟩)] [(3 : Nat) + (4 : Nat) * ((dgw s.all.natAbs).length - lz (dgw s.all.natAbs)) = (encS s).length ∧ nB (encH (flN s) (dgw s.all.natAbs) ((dgw s.all.natAbs).length - lz (dgw s.all.natAbs))) = byL (encS s), [AV.v (Value.bool true), AV.v (Value.int IntKind.u8 (↑(camN s) : Int)), AV.v (Value.bool (decide (s.all < (0 : Int)))), AV.lst (dgw s.all.natAbs).length (wL (dgw s.all.natAbs))] = [AV.v (Value.bool true), AV.v (Value.int IntKind.u8 (↑(camN s) : Int)), AV.v (Value.bool (decide (s.all < (0 : Int)))), AV.lst (dgw s.all.natAbs).length (wL (dgw s.all.natAbs))], ((1000 : Nat) = (1000 : Nat) ∧ (0 : Nat) = (0 : Nat)) ∧ True, FnOk Try.prog (144 : Nat) (Inst.mk [AV.ptr (1000 : Nat) (0 : Nat)] [((1000 : Nat), AObj.cells (196 : TypeId) [AV.v (Value.bool true), AV.v (Value.int IntKind.u8 (↑(camN s) : Int)), AV.v (Value.bool (decide (s.all < (0 : Int)))), AV.lst (dgw s.all.natAbs).length (wL (dgw s.all.natAbs))])] (AV.v (Value.bool true)) [((1000 : Nat), AObj.cells (196 : TypeId) [AV.v (Value.bool true), AV.v (Value.int IntKind.u8 (↑(camN s) : Int)), AV.v (Value.bool (decide (s.all < (0 : Int)))), AV.lst (dgw s.all.natAbs).length (wL (dgw s.all.natAbs))])]), [AV.v (Value.bool true), AV.v (Value.int IntKind.u8 (↑(camN s) : Int)), AV.v (Value.bool (decide (s.all < (0 : Int)))), AV.lst (dgw s.all.natAbs).length (wL (dgw s.all.natAbs))] = [AV.v (Value.bool true), AV.v (Value.int IntKind.u8 (↑(camN s) : Int)), AV.v (Value.bool (decide (s.all < (0 : Int)))), AV.lst (dgw s.all.natAbs).length (wL (dgw s.all.natAbs))], some (AV.v (Value.bool (decide (s.all < (0 : Int))))) = some (AV.v (Value.bool true)), IntKind.u8.wrap (↑(BitVec.ofInt (8 : Nat) (↑(camN s) : Int) ||| BitVec.ofInt (8 : Nat) (32 : Int)).toNat : Int) = (↑(flN s) : Int), ((dgw s.all.natAbs).length = (dgw s.all.natAbs).length ∧ wL (dgw s.all.natAbs) = wL (dgw s.all.natAbs)) ∧ True, FnOk Try.prog (149 : Nat) (Inst.mk [AV.lst (dgw s.all.natAbs).length (wL (dgw s.all.natAbs))] [] (AV.v (Value.int IntKind.i64 (↑n : Int))) []), IntKind.i64.wrap ((↑n : Int).tdiv (32 : Int)) = (↑(n / (32 : Nat)) : Int), (32 : Int) ≠ (0 : Int), IntKind.u8.wrap (↑(n / (32 : Nat)) : Int) = (↑(n / (32 : Nat)) : Int), IntKind.i64.wrap ((↑(dgw s.all.natAbs).length : Int) - (↑(n / (32 : Nat)) : Int)) = (↑((dgw s.all.natAbs).length - n / (32 : Nat)) : Int), IntKind.u8.wrap (↑((dgw s.all.natAbs).length - n / (32 : Nat)) : Int) = (↑((dgw s.all.natAbs).length - n / (32 : Nat)) : Int), IntKind.i64.wrap ((↑(dgw s.all.natAbs).length : Int) - (1 : Int)) = (↑(dgw s.all.natAbs).length : Int) - (1 : Int), LoopOk Try.prog (loopBody Try.f86 (9 : Nat)) (ebInv (↑(camN s) : Int) s.all (flN s) (dgw s.all.natAbs) (0 : Nat)) (Exit.exit (0 : Nat)) (ebInv (↑(camN s) : Int) s.all (flN s) (dgw s.all.natAbs) ((dgw s.all.natAbs).length - lz (dgw s.all.natAbs))), (1000 : Nat) = (1000 : Nat) ∧ (0 : Nat) = (0 : Nat), (↑(n / (32 : Nat)) : Int) = (↑(lz (dgw s.all.natAbs)) : Int), (38 : Nat) = (38 : Nat) ∧ (0 : Nat) = (0 : Nat), (↑(dgw s.all.natAbs).length : Int) - (1 : Int) = (↑(dgw s.all.natAbs).length : Int) - (1 : Int) - (↑(0 : Nat) : Int), [AV.v (Value.bool true), AV.v (Value.int IntKind.u8 (↑(camN s) : Int)), AV.v (Value.bool (decide (s.all < (0 : Int)))), AV.lst (dgw s.all.natAbs).length (wL (dgw s.all.natAbs))] = [AV.v (Value.bool true), AV.v (Value.int IntKind.u8 (↑(camN s) : Int)), AV.v (Value.bool (decide (s.all < (0 : Int)))), AV.lst (dgw s.all.natAbs).length (wL (dgw s.all.natAbs))], (3 : Nat) = (3 : Nat) ∧ (0 : Nat) = (0 : Nat) ∧ [AV.v (Value.int IntKind.u8 (↑(flN s) : Int)), AV.v (Value.int IntKind.u8 (↑(n / (32 : Nat)) : Int)), AV.v (Value.int IntKind.u8 (↑((dgw s.all.natAbs).length - n / (32 : Nat)) : Int))] = [AV.v (Value.int IntKind.u8 (↑(flN s) : Int)), AV.v (Value.int IntKind.u8 (↑(lz (dgw s.all.natAbs)) : Int)), AV.v (Value.int IntKind.u8 (↑((dgw s.all.natAbs).length - lz (dgw s.all.natAbs)) : Int))]] (by kernel_rfl) ?_
    ((repeat' refine And.intro ?_ ?_); (omega); rotate_left 1; (iterate 3 (with_reducible rfl)); (exact True.intro); ((show FnOk _ _ _; assumption)); (with_reducible rfl); ((refine someB ?_; with_reducible assumption)); ((rw [IntKind.wrap_u8]; omega)); (iterate 2 (with_reducible rfl)); (exact True.intro); ((show FnOk _ _ _; assumption)); (exact tdivI _ _ _ (by rfl) (by omega)); (omega); ((rw [IntKind.wrap_u8]; omega)); ((rw [Wi _ (by omega)]; omega)); ((rw [IntKind.wrap_u8]; omega)); (exact Wi _ (by omega)); (with_reducible assumption); (iterate 2 (with_reducible rfl)); (omega); (iterate 2 (with_reducible rfl)); (omega); (iterate 3 (with_reducible rfl)); rotate_left 1; (exact True.intro))
    all_goals first | (rw [hby]; done) | (rw [hor, hfl, IntKind.wrap_u8]; omega) | (rw [hn, hz0]; rfl) | (rw [hn])
  · have hb : decide (s.all < 0) = false := decide_eq_false hneg
    have hfl : flN s = camN s := by unfold flN; rw [hb]; rfl
    refine fn_go hmo Try.func86 (by kernel_rfl) [(9, Hint.call (Inst.mk [AV.ptr (1000 : Nat) (0 : Nat)] [exO (1000 : Nat) (↑(camN s) : Int) s.all] (bz true) [exO (1000 : Nat) (↑(camN s) : Int) s.all])), (18, Hint.val (AV.v (Value.bool false))), (25, Hint.call (Inst.mk [wA (dgw s.all.natAbs)] [] (iz (↑n : Int)) [])), (26, Hint.val (AV.v (Value.int IntKind.i64 (↑(n / (32 : Nat)) : Int)))), (29, Hint.val (AV.v (Value.int IntKind.u8 (↑(n / (32 : Nat)) : Int)))), (36, Hint.val (AV.v (Value.int IntKind.i64 (↑((dgw s.all.natAbs).length - n / (32 : Nat)) : Int)))), (37, Hint.val (AV.v (Value.int IntKind.u8 (↑((dgw s.all.natAbs).length - n / (32 : Nat)) : Int)))), (44, Hint.val (AV.v (Value.int IntKind.i64 ((↑(dgw s.all.natAbs).length : Int) - (1 : Int)))))] [(9, ⟨.exit 0, ebInv (camN s : Nat) s.all (flN s) (dgw s.all.natAbs) 0, ebInv (camN s : Nat) s.all (flN s) (dgw s.all.natAbs) ((dgw s.all.natAbs).length - lz (dgw s.all.natAbs))⟩)] [(3 : Nat) + (4 : Nat) * ((dgw s.all.natAbs).length - lz (dgw s.all.natAbs)) = (encS s).length ∧ nB (encH (flN s) (dgw s.all.natAbs) ((dgw s.all.natAbs).length - lz (dgw s.all.natAbs))) = byL (encS s), [AV.v (Value.bool true), AV.v (Value.int IntKind.u8 (↑(camN s) : Int)), AV.v (Value.bool (decide (s.all < (0 : Int)))), AV.lst (dgw s.all.natAbs).length (wL (dgw s.all.natAbs))] = [AV.v (Value.bool true), AV.v (Value.int IntKind.u8 (↑(camN s) : Int)), AV.v (Value.bool (decide (s.all < (0 : Int)))), AV.lst (dgw s.all.natAbs).length (wL (dgw s.all.natAbs))], ((1000 : Nat) = (1000 : Nat) ∧ (0 : Nat) = (0 : Nat)) ∧ True, FnOk Try.prog (144 : Nat) (Inst.mk [AV.ptr (1000 : Nat) (0 : Nat)] [((1000 : Nat), AObj.cells (196 : TypeId) [AV.v (Value.bool true), AV.v (Value.int IntKind.u8 (↑(camN s) : Int)), AV.v (Value.bool (decide (s.all < (0 : Int)))), AV.lst (dgw s.all.natAbs).length (wL (dgw s.all.natAbs))])] (AV.v (Value.bool true)) [((1000 : Nat), AObj.cells (196 : TypeId) [AV.v (Value.bool true), AV.v (Value.int IntKind.u8 (↑(camN s) : Int)), AV.v (Value.bool (decide (s.all < (0 : Int)))), AV.lst (dgw s.all.natAbs).length (wL (dgw s.all.natAbs))])]), [AV.v (Value.bool true), AV.v (Value.int IntKind.u8 (↑(camN s) : Int)), AV.v (Value.bool (decide (s.all < (0 : Int)))), AV.lst (dgw s.all.natAbs).length (wL (dgw s.all.natAbs))] = [AV.v (Value.bool true), AV.v (Value.int IntKind.u8 (↑(camN s) : Int)), AV.v (Value.bool (decide (s.all < (0 : Int)))), AV.lst (dgw s.all.natAbs).length (wL (dgw s.all.natAbs))], some (AV.v (Value.bool (decide (s.all < (0 : Int))))) = some (AV.v (Value.bool false)), ((dgw s.all.natAbs).length = (dgw s.all.natAbs).length ∧ wL (dgw s.all.natAbs) = wL (dgw s.all.natAbs)) ∧ True, FnOk Try.prog (149 : Nat) (Inst.mk [AV.lst (dgw s.all.natAbs).length (wL (dgw s.all.natAbs))] [] (AV.v (Value.int IntKind.i64 (↑n : Int))) []), IntKind.i64.wrap ((↑n : Int).tdiv (32 : Int)) = (↑(n / (32 : Nat)) : Int), (32 : Int) ≠ (0 : Int), IntKind.u8.wrap (↑(n / (32 : Nat)) : Int) = (↑(n / (32 : Nat)) : Int), IntKind.i64.wrap ((↑(dgw s.all.natAbs).length : Int) - (↑(n / (32 : Nat)) : Int)) = (↑((dgw s.all.natAbs).length - n / (32 : Nat)) : Int), IntKind.u8.wrap (↑((dgw s.all.natAbs).length - n / (32 : Nat)) : Int) = (↑((dgw s.all.natAbs).length - n / (32 : Nat)) : Int), IntKind.i64.wrap ((↑(dgw s.all.natAbs).length : Int) - (1 : Int)) = (↑(dgw s.all.natAbs).length : Int) - (1 : Int), LoopOk Try.prog (loopBody Try.f86 (9 : Nat)) (ebInv (↑(camN s) : Int) s.all (flN s) (dgw s.all.natAbs) (0 : Nat)) (Exit.exit (0 : Nat)) (ebInv (↑(camN s) : Int) s.all (flN s) (dgw s.all.natAbs) ((dgw s.all.natAbs).length - lz (dgw s.all.natAbs))), (1000 : Nat) = (1000 : Nat) ∧ (0 : Nat) = (0 : Nat), (↑(n / (32 : Nat)) : Int) = (↑(lz (dgw s.all.natAbs)) : Int), (38 : Nat) = (38 : Nat) ∧ (0 : Nat) = (0 : Nat), (↑(dgw s.all.natAbs).length : Int) - (1 : Int) = (↑(dgw s.all.natAbs).length : Int) - (1 : Int) - (↑(0 : Nat) : Int), [AV.v (Value.bool true), AV.v (Value.int IntKind.u8 (↑(camN s) : Int)), AV.v (Value.bool (decide (s.all < (0 : Int)))), AV.lst (dgw s.all.natAbs).length (wL (dgw s.all.natAbs))] = [AV.v (Value.bool true), AV.v (Value.int IntKind.u8 (↑(camN s) : Int)), AV.v (Value.bool (decide (s.all < (0 : Int)))), AV.lst (dgw s.all.natAbs).length (wL (dgw s.all.natAbs))], (3 : Nat) = (3 : Nat) ∧ (0 : Nat) = (0 : Nat) ∧ [AV.v (Value.int IntKind.u8 (↑(camN s) : Int)), AV.v (Value.int IntKind.u8 (↑(n / (32 : Nat)) : Int)), AV.v (Value.int IntKind.u8 (↑((dgw s.all.natAbs).length - n / (32 : Nat)) : Int))] = [AV.v (Value.int IntKind.u8 (↑(flN s) : Int)), AV.v (Value.int IntKind.u8 (↑(lz (dgw s.all.natAbs)) : Int)), AV.v (Value.int IntKind.u8 (↑((dgw s.all.natAbs).length - lz (dgw s.all.natAbs)) : Int))]] (by kernel_rfl) ?_
    ((repeat' refine And.intro ?_ ?_); (omega); rotate_left 1; (iterate 3 (with_reducible rfl)); (exact True.intro); ((show FnOk _ _ _; assumption)); (with_reducible rfl); ((refine someB ?_; with_reducible assumption)); (iterate 2 (with_reducible rfl)); (exact True.intro); ((show FnOk _ _ _; assumption)); (exact tdivI _ _ _ (by rfl) (by omega)); (omega); ((rw [IntKind.wrap_u8]; omega)); ((rw [Wi _ (by omega)]; omega)); ((rw [IntKind.wrap_u8]; omega)); (exact Wi _ (by omega)); (with_reducible assumption); (iterate 2 (with_reducible rfl)); (omega); (iterate 2 (with_reducible rfl)); (omega); (iterate 3 (with_reducible rfl)); rotate_left 1; (exact True.intro))
    all_goals first | (rw [hby]; done) | (rw [hn, hz0, hfl]; rfl) | (rw [hn, hfl]) | (rw [hn, hfl]; rfl)
/-! ### bushelref05's -/
def rbO (s : SumS) : Nat × AObj := (1, .cells 131 [bz s.none, bz s.up, bz s.down, bz s.minus, bz s.plus, bz (decide (s.all < 0)), dA (dig s.all.natAbs)])
def rbInv1 (s : SumS) (w : List Nat) (i : Nat) : AS := ⟨[(1, .ptr 1 0), (3, wA w), (4, iz (i : Nat))], [rbO s], 93, []⟩
theorem rb_loop1 (s : SumS) {w : List Nat} (hd : Wd w) (hl : w.length ≤ 1000) (i : {i : Nat // i ≤ lz w}) : LoopOk Try.prog (loopBody Try.f75 3) (rbInv1 s w i.1) (.exit 0) (rbInv1 s w (lz w)) := by
  refine LoopOk.of hmo (fun i : {i : Nat // i ≤ lz w} => rbInv1 s w i.1) (fun i => lz w - i.1) (fun i => ?_) i
  obtain ⟨i, hi⟩ := i
  have hle := lz_le w
  rcases Nat.lt_or_eq_of_le hi with hlt | rfl
  · have hr := rd_wL w i (by omega)
    have h0 := lz_low hlt
    refine Round.on [(15, Hint.val (AV.v (Value.bool true))), (20, Hint.val (u3 (dg w i))), (21, Hint.val (AV.v (Value.bool true))), (24, Hint.val (AV.v (Value.int IntKind.i64 (↑(i + (1 : Nat)) : Int))))] [] ⟨i + 1, hlt⟩ [(1 : Nat) = (1 : Nat) ∧ (0 : Nat) = (0 : Nat), w.length = w.length ∧ wL w = wL w, (↑(i + (1 : Nat)) : Int) = (↑(i + (1 : Nat)) : Int), [AV.v (Value.bool s.none), AV.v (Value.bool s.up), AV.v (Value.bool s.down), AV.v (Value.bool s.minus), AV.v (Value.bool s.plus), AV.v (Value.bool (decide (s.all < (0 : Int)))), AV.lst (dig s.all.natAbs).length (dL (dig s.all.natAbs))] = [AV.v (Value.bool s.none), AV.v (Value.bool s.up), AV.v (Value.bool s.down), AV.v (Value.bool s.minus), AV.v (Value.bool s.plus), AV.v (Value.bool (decide (s.all < (0 : Int)))), AV.lst (dig s.all.natAbs).length (dL (dig s.all.natAbs))], decide ((↑i : Int) < (↑w.length : Int)) = true, (0 : Int) ≤ (↑i : Int) ∧ (↑i : Int) < (↑w.length : Int), rd1 false (1 : Nat) (wL w) ((↑i : Int).toNat * (1 : Nat)) = some (AV.v (Value.int IntKind.u32 (↑(dg w i) : Int))), ((↑(dg w i) : Int) == (0 : Int)) = true, IntKind.i64.wrap ((↑i : Int) + (1 : Int)) = (↑(i + (1 : Nat)) : Int)] (by kernel_rfl) (by show lz w - (i + 1) < lz w - i; omega) ?_
    ((repeat' refine And.intro ?_ ?_); (iterate 6 (with_reducible rfl)); ((with_reducible refine Dt ?_; omega)); (iterate 2 (omega)); ((show rd1 _ _ _ _ = _; assumption)); ((with_reducible refine Be ?_; omega)); (exact Wi _ (by omega)); (exact True.intro))
  · by_cases hlen : lz w < w.length
    · have hr := rd_wL w (lz w) hlen
      have h0 := lz_at hlen
      refine Round.out [(15, Hint.val (AV.v (Value.bool true))), (20, Hint.val (u3 (dg w (lz w)))), (21, Hint.val (AV.v (Value.bool false)))] [] [(1 : Nat) = (1 : Nat) ∧ (0 : Nat) = (0 : Nat), w.length = w.length ∧ wL w = wL w, (↑(lz w) : Int) = (↑(lz w) : Int), [AV.v (Value.bool s.none), AV.v (Value.bool s.up), AV.v (Value.bool s.down), AV.v (Value.bool s.minus), AV.v (Value.bool s.plus), AV.v (Value.bool (decide (s.all < (0 : Int)))), AV.lst (dig s.all.natAbs).length (dL (dig s.all.natAbs))] = [AV.v (Value.bool s.none), AV.v (Value.bool s.up), AV.v (Value.bool s.down), AV.v (Value.bool s.minus), AV.v (Value.bool s.plus), AV.v (Value.bool (decide (s.all < (0 : Int)))), AV.lst (dig s.all.natAbs).length (dL (dig s.all.natAbs))], decide ((↑(lz w) : Int) < (↑w.length : Int)) = true, (0 : Int) ≤ (↑(lz w) : Int) ∧ (↑(lz w) : Int) < (↑w.length : Int), rd1 false (1 : Nat) (wL w) ((↑(lz w) : Int).toNat * (1 : Nat)) = some (AV.v (Value.int IntKind.u32 (↑(dg w (lz w)) : Int))), ((↑(dg w (lz w)) : Int) == (0 : Int)) = false] (by kernel_rfl) ?_
      ((repeat' refine And.intro ?_ ?_); (iterate 6 (with_reducible rfl)); ((with_reducible refine Dt ?_; omega)); (iterate 2 (omega)); ((show rd1 _ _ _ _ = _; assumption)); ((with_reducible refine Bn ?_; omega)); (exact True.intro))
    · refine Round.out [(15, Hint.val (AV.v (Value.bool false)))] [] [(1 : Nat) = (1 : Nat) ∧ (0 : Nat) = (0 : Nat), w.length = w.length ∧ wL w = wL w, (↑(lz w) : Int) = (↑(lz w) : Int), [AV.v (Value.bool s.none), AV.v (Value.bool s.up), AV.v (Value.bool s.down), AV.v (Value.bool s.minus), AV.v (Value.bool s.plus), AV.v (Value.bool (decide (s.all < (0 : Int)))), AV.lst (dig s.all.natAbs).length (dL (dig s.all.natAbs))] = [AV.v (Value.bool s.none), AV.v (Value.bool s.up), AV.v (Value.bool s.down), AV.v (Value.bool s.minus), AV.v (Value.bool s.plus), AV.v (Value.bool (decide (s.all < (0 : Int)))), AV.lst (dig s.all.natAbs).length (dL (dig s.all.natAbs))], decide ((↑(lz w) : Int) < (↑w.length : Int)) = false] (by kernel_rfl) ?_
      ((repeat' refine And.intro ?_ ?_); (iterate 6 (with_reducible rfl)); ((with_reducible refine Df ?_; omega)); (exact True.intro))
def rbInv2 (f : Nat) (w : List Nat) (k : Nat) : AS := ⟨[(3, wA w), (4, iz (lz w : Nat)), (5, .row 57 0), (6, iz ((w.length : Int) - 1 - k))], [rowB 57 (3 + 4 * k) (nB (encH f w k))], 93, []⟩
theorem rb_loop2 (f : Nat) {w : List Nat} (hd : Wd w) (hl : w.length ≤ 1000) (i : {k : Nat // k ≤ w.length - lz w}) : LoopOk Try.prog (loopBody Try.f75 7) (rbInv2 f w i.1) (.exit 2) (rbInv2 f w (w.length - lz w)) := by
  refine LoopOk.of hmo (fun i : {k : Nat // k ≤ w.length - lz w} => rbInv2 f w i.1) (fun i => w.length - lz w - i.1) (fun i => ?_) i
  obtain ⟨k, hk⟩ := i
  have hle := lz_le w
  have hz := nB_len (encH f w k)
  rw [encH_len] at hz
  rcases Nat.lt_or_eq_of_le hk with hlt | rfl
  · have hr := rd_wL w (w.length - 1 - k) (by omega)
    have hdl := dg_ltW w (w.length - 1 - k) hd
    refine Round.on [(61, Hint.val (AV.v (Value.int IntKind.i64 (↑(w.length - (1 : Nat) - k) : Int)))), (63, Hint.val (AV.v (Value.bool true))), (68, Hint.val (AV.v (Value.int IntKind.i64 (↑(w.length - (1 : Nat) - k) : Int)))), (70, Hint.val (u3 (dg w (w.length - (1 : Nat) - k)))), (71, Hint.val (AV.v (Value.int IntKind.u32 (↑(dg w (w.length - (1 : Nat) - k) / (16777216 : Nat)) : Int)))), (72, Hint.val (AV.v (Value.int IntKind.u8 (↑(dg w (w.length - (1 : Nat) - k) / (16777216 : Nat)) : Int)))), (74, Hint.val (AV.v (Value.int IntKind.i64 (↑(w.length - (1 : Nat) - k) : Int)))), (76, Hint.val (u3 (dg w (w.length - (1 : Nat) - k)))), (77, Hint.val (AV.v (Value.int IntKind.u32 (↑(dg w (w.length - (1 : Nat) - k) / (65536 : Nat)) : Int)))), (78, Hint.val (AV.v (Value.int IntKind.u8 (↑(dg w (w.length - (1 : Nat) - k) / (65536 : Nat) % (256 : Nat)) : Int)))), (80, Hint.val (AV.v (Value.int IntKind.i64 (↑(w.length - (1 : Nat) - k) : Int)))), (82, Hint.val (u3 (dg w (w.length - (1 : Nat) - k)))), (83, Hint.val (AV.v (Value.int IntKind.u32 (↑(dg w (w.length - (1 : Nat) - k) / (256 : Nat)) : Int)))), (84, Hint.val (AV.v (Value.int IntKind.u8 (↑(dg w (w.length - (1 : Nat) - k) / (256 : Nat) % (256 : Nat)) : Int)))), (86, Hint.val (AV.v (Value.int IntKind.i64 (↑(w.length - (1 : Nat) - k) : Int)))), (88, Hint.val (u3 (dg w (w.length - (1 : Nat) - k)))), (89, Hint.val (AV.v (Value.int IntKind.u8 (↑(dg w (w.length - (1 : Nat) - k) % (256 : Nat)) : Int)))), (64, Hint.val (AV.v (Value.int IntKind.i64 (↑(w.length - (1 : Nat) - k) : Int)))), (65, Hint.val (AV.v (Value.int IntKind.i64 ((↑(w.length - (1 : Nat) - k) : Int) - (1 : Int)))))] [] ⟨k + 1, hlt⟩ [w.length = w.length ∧ wL w = wL w, (↑(lz w) : Int) = (↑(lz w) : Int), (57 : Nat) = (57 : Nat) ∧ (0 : Nat) = (0 : Nat), (↑(w.length - (1 : Nat) - k) : Int) - (1 : Int) = (↑w.length : Int) - (1 : Int) - (↑(k + (1 : Nat)) : Int), (3 : Nat) + (4 : Nat) * k + (4 : Nat) = (3 : Nat) + (4 : Nat) * (k + (1 : Nat)) ∧ (0 : Nat) = (0 : Nat) ∧ nB (encH f w k) ++ [AV.v (Value.int IntKind.u8 (↑(dg w (w.length - (1 : Nat) - k) / (16777216 : Nat)) : Int)), AV.v (Value.int IntKind.u8 (↑(dg w (w.length - (1 : Nat) - k) / (65536 : Nat) % (256 : Nat)) : Int)), AV.v (Value.int IntKind.u8 (↑(dg w (w.length - (1 : Nat) - k) / (256 : Nat) % (256 : Nat)) : Int)), AV.v (Value.int IntKind.u8 (↑(dg w (w.length - (1 : Nat) - k) % (256 : Nat)) : Int))] = nB (encH f w (k + (1 : Nat))), (↑w.length : Int) - (1 : Int) - (↑k : Int) = (↑(w.length - (1 : Nat) - k) : Int), decide ((↑(lz w) : Int) ≤ (↑(w.length - (1 : Nat) - k) : Int)) = true, (↑w.length : Int) - (1 : Int) - (↑k : Int) = (↑(w.length - (1 : Nat) - k) : Int), (0 : Int) ≤ (↑(w.length - (1 : Nat) - k) : Int) ∧ (↑(w.length - (1 : Nat) - k) : Int) < (↑w.length : Int), rd1 false (1 : Nat) (wL w) ((↑(w.length - (1 : Nat) - k) : Int).toNat * (1 : Nat)) = some (AV.v (Value.int IntKind.u32 (↑(dg w (w.length - (1 : Nat) - k)) : Int))), (↑(dg w (w.length - (1 : Nat) - k)) : Int).fdiv ((2 : Int) ^ (24 : Nat)) = (↑(dg w (w.length - (1 : Nat) - k) / (16777216 : Nat)) : Int), (0 : Int) ≤ (24 : Int), IntKind.u8.wrap (↑(dg w (w.length - (1 : Nat) - k) / (16777216 : Nat)) : Int) = (↑(dg w (w.length - (1 : Nat) - k) / (16777216 : Nat)) : Int), (↑w.length : Int) - (1 : Int) - (↑k : Int) = (↑(w.length - (1 : Nat) - k) : Int), (0 : Int) ≤ (↑(w.length - (1 : Nat) - k) : Int) ∧ (↑(w.length - (1 : Nat) - k) : Int) < (↑w.length : Int), rd1 false (1 : Nat) (wL w) ((↑(w.length - (1 : Nat) - k) : Int).toNat * (1 : Nat)) = some (AV.v (Value.int IntKind.u32 (↑(dg w (w.length - (1 : Nat) - k)) : Int))), (↑(dg w (w.length - (1 : Nat) - k)) : Int).fdiv ((2 : Int) ^ (16 : Nat)) = (↑(dg w (w.length - (1 : Nat) - k) / (65536 : Nat)) : Int), (0 : Int) ≤ (16 : Int), IntKind.u8.wrap (↑(dg w (w.length - (1 : Nat) - k) / (65536 : Nat)) : Int) = (↑(dg w (w.length - (1 : Nat) - k) / (65536 : Nat) % (256 : Nat)) : Int), (↑w.length : Int) - (1 : Int) - (↑k : Int) = (↑(w.length - (1 : Nat) - k) : Int), (0 : Int) ≤ (↑(w.length - (1 : Nat) - k) : Int) ∧ (↑(w.length - (1 : Nat) - k) : Int) < (↑w.length : Int), rd1 false (1 : Nat) (wL w) ((↑(w.length - (1 : Nat) - k) : Int).toNat * (1 : Nat)) = some (AV.v (Value.int IntKind.u32 (↑(dg w (w.length - (1 : Nat) - k)) : Int))), (↑(dg w (w.length - (1 : Nat) - k)) : Int).fdiv ((2 : Int) ^ (8 : Nat)) = (↑(dg w (w.length - (1 : Nat) - k) / (256 : Nat)) : Int), (0 : Int) ≤ (8 : Int), IntKind.u8.wrap (↑(dg w (w.length - (1 : Nat) - k) / (256 : Nat)) : Int) = (↑(dg w (w.length - (1 : Nat) - k) / (256 : Nat) % (256 : Nat)) : Int), (↑w.length : Int) - (1 : Int) - (↑k : Int) = (↑(w.length - (1 : Nat) - k) : Int), (0 : Int) ≤ (↑(w.length - (1 : Nat) - k) : Int) ∧ (↑(w.length - (1 : Nat) - k) : Int) < (↑w.length : Int), rd1 false (1 : Nat) (wL w) ((↑(w.length - (1 : Nat) - k) : Int).toNat * (1 : Nat)) = some (AV.v (Value.int IntKind.u32 (↑(dg w (w.length - (1 : Nat) - k)) : Int))), IntKind.u8.wrap (↑(dg w (w.length - (1 : Nat) - k)) : Int) = (↑(dg w (w.length - (1 : Nat) - k) % (256 : Nat)) : Int), [AV.v (Value.int IntKind.u8 (↑(dg w (w.length - (1 : Nat) - k) / (16777216 : Nat)) : Int)), AV.v (Value.int IntKind.u8 (↑(dg w (w.length - (1 : Nat) - k) / (65536 : Nat) % (256 : Nat)) : Int)), AV.v (Value.int IntKind.u8 (↑(dg w (w.length - (1 : Nat) - k) / (256 : Nat) % (256 : Nat)) : Int)), AV.v (Value.int IntKind.u8 (↑(dg w (w.length - (1 : Nat) - k) % (256 : Nat)) : Int))].length = (4 : Nat), ((3 : Nat) + (4 : Nat) * k + (4 : Nat)) * (1 : Nat) ≤ (140737488355328 : Nat) ∧ (3 : Nat) + (4 : Nat) * k + (4 : Nat) ≤ (140737488355328 : Nat), (↑w.length : Int) - (1 : Int) - (↑k : Int) = (↑(w.length - (1 : Nat) - k) : Int), IntKind.i64.wrap ((↑(w.length - (1 : Nat) - k) : Int) - (1 : Int)) = (↑(w.length - (1 : Nat) - k) : Int) - (1 : Int)] (by kernel_rfl) (by show w.length - lz w - (k + 1) < w.length - lz w - k; omega) ?_
    ((repeat' refine And.intro ?_ ?_); (iterate 5 (with_reducible rfl)); (iterate 2 (omega)); (with_reducible rfl); rotate_left 1; (omega); ((with_reducible refine Dt ?_; omega)); (iterate 3 (omega)); ((show rd1 _ _ _ _ = _; assumption)); (exact fdivN _ _ _ (by decide)); (omega); ((rw [IntKind.wrap_u8]; omega)); (iterate 3 (omega)); ((show rd1 _ _ _ _ = _; assumption)); (exact fdivN _ _ _ (by decide)); (omega); (exact tmodN _ _); (iterate 3 (omega)); ((show rd1 _ _ _ _ = _; assumption)); (exact fdivN _ _ _ (by decide)); (omega); (exact tmodN _ _); (iterate 3 (omega)); ((show rd1 _ _ _ _ = _; assumption)); (exact tmodN _ _); (exact rfl); (iterate 3 (omega)); (exact Wi _ (by omega)); (exact True.intro))
    all_goals (rw [encH_succ]; exact nB_snoc4 _ _ _ _ _)
  · refine Round.out [(63, Hint.val (AV.v (Value.bool false)))] [] [w.length = w.length ∧ wL w = wL w, (↑(lz w) : Int) = (↑(lz w) : Int), (57 : Nat) = (57 : Nat) ∧ (0 : Nat) = (0 : Nat), (↑w.length : Int) - (1 : Int) - (↑(w.length - lz w) : Int) = (↑w.length : Int) - (1 : Int) - (↑(w.length - lz w) : Int), (3 : Nat) + (4 : Nat) * (w.length - lz w) = (3 : Nat) + (4 : Nat) * (w.length - lz w) ∧ (0 : Nat) = (0 : Nat) ∧ nB (encH f w (w.length - lz w)) = nB (encH f w (w.length - lz w)), decide ((↑(lz w) : Int) ≤ (↑w.length : Int) - (1 : Int) - (↑(w.length - lz w) : Int)) = false] (by kernel_rfl) ?_
    ((repeat' refine And.intro ?_ ?_); (iterate 9 (with_reducible rfl)); ((with_reducible refine Df ?_; omega)); (exact True.intro))
theorem bytes05_ok (s : SumS) (hs : s.all.natAbs < roomN) : FnOk Try.prog 75 ⟨[sumA s], [], .lst (encS s).length (byL (encS s)), []⟩ := by
  have hl := dgw_small hs
  have hw := Wd_dg s.all.natAbs
  have hle := lz_le (dgw s.all.natAbs)
  have hf := flN_lt s
  have hv0 := vw_nd hw
  rw [vd_digW] at hv0
  unfold nd at hv0
  rw [Int.natAbs_natCast] at hv0
  have hnd : (dig s.all.natAbs).length ≤ 100000 := by omega
  have e1 := of02_ok s.all.natAbs hnd
  have f1 := flagN_ok s.none 1; have f2 := flagN_ok s.up 2; have f3 := flagN_ok s.down 4; have f4 := flagN_ok s.minus 8; have f5 := flagN_ok s.plus 16; have f6 := flagN_ok (decide (s.all < 0)) 32
  have g1 := flg_le s.none 1; have g2 := flg_le s.up 2; have g3 := flg_le s.down 4; have g4 := flg_le s.minus 8; have g5 := flg_le s.plus 16; have g6 := flg_le (decide (s.all < 0)) 32
  have hfl : flg s.none 1 + flg s.up 2 + flg s.down 4 + flg s.minus 8 + flg s.plus 16 + flg (decide (s.all < 0)) 32 = flN s := rfl
  have hlen : (encS s).length = 3 + 4 * ((dgw s.all.natAbs).length - lz (dgw s.all.natAbs)) := by unfold encS u8L encN; rw [List.length_map, encH_len]
  have hby : byL (encS s) = nB (encH (flN s) (dgw s.all.natAbs) ((dgw s.all.natAbs).length - lz (dgw s.all.natAbs))) := byL_u8 (encN_lt hw (by omega) (by omega))
  have hz0 : encH (flN s) (dgw s.all.natAbs) 0 = [flN s, lz (dgw s.all.natAbs), (dgw s.all.natAbs).length - lz (dgw s.all.natAbs)] := rfl
  have h1 := rb_loop1 s hw (by omega) ⟨0, Nat.zero_le _⟩
  have h2 := rb_loop2 (flN s) hw (by omega) ⟨0, Nat.zero_le _⟩
  refine fn_go hmo Try.func75 (by kernel_rfl) [(11, Hint.call (Inst.mk [numA (↑s.all.natAbs : Int)] [] (wA (dgw s.all.natAbs)) [])), (27, Hint.call (Inst.mk [bz s.none, iz (↑(1 : Nat) : Int)] [] (iz (↑(flg s.none (1 : Nat)) : Int)) [])), (30, Hint.call (Inst.mk [bz s.up, iz (↑(2 : Nat) : Int)] [] (iz (↑(flg s.up (2 : Nat)) : Int)) [])), (31, Hint.val (AV.v (Value.int IntKind.i64 (↑(flg s.none (1 : Nat) + flg s.up (2 : Nat)) : Int)))), (34, Hint.call (Inst.mk [bz s.down, iz (↑(4 : Nat) : Int)] [] (iz (↑(flg s.down (4 : Nat)) : Int)) [])), (35, Hint.val (AV.v (Value.int IntKind.i64 (↑(flg s.none (1 : Nat) + flg s.up (2 : Nat) + flg s.down (4 : Nat)) : Int)))), (38, Hint.call (Inst.mk [bz s.minus, iz (↑(8 : Nat) : Int)] [] (iz (↑(flg s.minus (8 : Nat)) : Int)) [])), (39, Hint.val (AV.v (Value.int IntKind.i64 (↑(flg s.none (1 : Nat) + flg s.up (2 : Nat) + flg s.down (4 : Nat) + flg s.minus (8 : Nat)) : Int)))), (42, Hint.call (Inst.mk [bz s.plus, iz (↑(16 : Nat) : Int)] [] (iz (↑(flg s.plus (16 : Nat)) : Int)) [])), (43, Hint.val (AV.v (Value.int IntKind.i64 (↑(flg s.none (1 : Nat) + flg s.up (2 : Nat) + flg s.down (4 : Nat) + flg s.minus (8 : Nat) + flg s.plus (16 : Nat)) : Int)))), (47, Hint.call (Inst.mk [bz (decide (s.all < (0 : Int))), iz (↑(32 : Nat) : Int)] [] (iz (↑(flg (decide (s.all < (0 : Int))) (32 : Nat)) : Int)) [])), (48, Hint.val (AV.v (Value.int IntKind.i64 (↑(flg s.none (1 : Nat) + flg s.up (2 : Nat) + flg s.down (4 : Nat) + flg s.minus (8 : Nat) + flg s.plus (16 : Nat) + flg (decide (s.all < (0 : Int))) (32 : Nat)) : Int)))), (49, Hint.val (AV.v (Value.int IntKind.u8 (↑(flg s.none (1 : Nat) + flg s.up (2 : Nat) + flg s.down (4 : Nat) + flg s.minus (8 : Nat) + flg s.plus (16 : Nat) + flg (decide (s.all < (0 : Int))) (32 : Nat)) : Int)))), (51, Hint.val (AV.v (Value.int IntKind.u8 (↑(lz (dgw s.all.natAbs)) : Int)))), (55, Hint.val (AV.v (Value.int IntKind.i64 (↑((dgw s.all.natAbs).length - lz (dgw s.all.natAbs)) : Int)))), (56, Hint.val (AV.v (Value.int IntKind.u8 (↑((dgw s.all.natAbs).length - lz (dgw s.all.natAbs)) : Int)))), (60, Hint.val (AV.v (Value.int IntKind.i64 ((↑(dgw s.all.natAbs).length : Int) - (1 : Int)))))] [(3, ⟨.exit 0, rbInv1 s (dgw s.all.natAbs) 0, rbInv1 s (dgw s.all.natAbs) (lz (dgw s.all.natAbs))⟩), (7, ⟨.exit 2, rbInv2 (flN s) (dgw s.all.natAbs) 0, rbInv2 (flN s) (dgw s.all.natAbs) ((dgw s.all.natAbs).length - lz (dgw s.all.natAbs))⟩)] [(3 : Nat) + (4 : Nat) * ((dgw s.all.natAbs).length - lz (dgw s.all.natAbs)) = (encS s).length ∧ nB (encH (flN s) (dgw s.all.natAbs) ((dgw s.all.natAbs).length - lz (dgw s.all.natAbs))) = byL (encS s), [AV.v (Value.bool false), AV.lst (dig s.all.natAbs).length (dL (dig s.all.natAbs))] = [AV.v (Value.bool false), AV.lst (dig (↑s.all.natAbs : Int).natAbs).length (dL (dig (↑s.all.natAbs : Int).natAbs))] ∧ True, FnOk Try.prog (72 : Nat) (Inst.mk [AV.agg [AV.v (Value.bool false), AV.lst (dig (↑s.all.natAbs : Int).natAbs).length (dL (dig (↑s.all.natAbs : Int).natAbs))]] [] (AV.lst (dgw s.all.natAbs).length (wL (dgw s.all.natAbs))) []), LoopOk Try.prog (loopBody Try.f75 (3 : Nat)) (rbInv1 s (dgw s.all.natAbs) (0 : Nat)) (Exit.exit (0 : Nat)) (rbInv1 s (dgw s.all.natAbs) (lz (dgw s.all.natAbs))), (1 : Nat) = (1 : Nat) ∧ (0 : Nat) = (0 : Nat), (dgw s.all.natAbs).length = (dgw s.all.natAbs).length ∧ wL (dgw s.all.natAbs) = wL (dgw s.all.natAbs), (0 : Int) = (↑(0 : Nat) : Int), [AV.v (Value.bool s.none), AV.v (Value.bool s.up), AV.v (Value.bool s.down), AV.v (Value.bool s.minus), AV.v (Value.bool s.plus), AV.v (Value.bool (decide (s.all < (0 : Int)))), AV.lst (dig s.all.natAbs).length (dL (dig s.all.natAbs))] = [AV.v (Value.bool s.none), AV.v (Value.bool s.up), AV.v (Value.bool s.down), AV.v (Value.bool s.minus), AV.v (Value.bool s.plus), AV.v (Value.bool (decide (s.all < (0 : Int)))), AV.lst (dig s.all.natAbs).length (dL (dig s.all.natAbs))], s.none = s.none ∧ (1 : Int) = (↑(1 : Nat) : Int) ∧ True, FnOk Try.prog (139 : Nat) (Inst.mk [AV.v (Value.bool s.none), AV.v (Value.int IntKind.i64 (↑(1 : Nat) : Int))] [] (AV.v (Value.int IntKind.i64 (↑(flg s.none (1 : Nat)) : Int))) []), s.up = s.up ∧ (2 : Int) = (↑(2 : Nat) : Int) ∧ True, FnOk Try.prog (139 : Nat) (Inst.mk [AV.v (Value.bool s.up), AV.v (Value.int IntKind.i64 (↑(2 : Nat) : Int))] [] (AV.v (Value.int IntKind.i64 (↑(flg s.up (2 : Nat)) : Int))) []), IntKind.i64.wrap ((↑(flg s.none (1 : Nat)) : Int) + (↑(flg s.up (2 : Nat)) : Int)) = (↑(flg s.none (1 : Nat) + flg s.up (2 : Nat)) : Int), s.down = s.down ∧ (4 : Int) = (↑(4 : Nat) : Int) ∧ True, FnOk Try.prog (139 : Nat) (Inst.mk [AV.v (Value.bool s.down), AV.v (Value.int IntKind.i64 (↑(4 : Nat) : Int))] [] (AV.v (Value.int IntKind.i64 (↑(flg s.down (4 : Nat)) : Int))) []), IntKind.i64.wrap ((↑(flg s.none (1 : Nat) + flg s.up (2 : Nat)) : Int) + (↑(flg s.down (4 : Nat)) : Int)) = (↑(flg s.none (1 : Nat) + flg s.up (2 : Nat) + flg s.down (4 : Nat)) : Int), s.minus = s.minus ∧ (8 : Int) = (↑(8 : Nat) : Int) ∧ True, FnOk Try.prog (139 : Nat) (Inst.mk [AV.v (Value.bool s.minus), AV.v (Value.int IntKind.i64 (↑(8 : Nat) : Int))] [] (AV.v (Value.int IntKind.i64 (↑(flg s.minus (8 : Nat)) : Int))) []), IntKind.i64.wrap ((↑(flg s.none (1 : Nat) + flg s.up (2 : Nat) + flg s.down (4 : Nat)) : Int) + (↑(flg s.minus (8 : Nat)) : Int)) = (↑(flg s.none (1 : Nat) + flg s.up (2 : Nat) + flg s.down (4 : Nat) + flg s.minus (8 : Nat)) : Int), s.plus = s.plus ∧ (16 : Int) = (↑(16 : Nat) : Int) ∧ True, FnOk Try.prog (139 : Nat) (Inst.mk [AV.v (Value.bool s.plus), AV.v (Value.int IntKind.i64 (↑(16 : Nat) : Int))] [] (AV.v (Value.int IntKind.i64 (↑(flg s.plus (16 : Nat)) : Int))) []), IntKind.i64.wrap ((↑(flg s.none (1 : Nat) + flg s.up (2 : Nat) + flg s.down (4 : Nat) + flg s.minus (8 : Nat)) : Int) + (↑(flg s.plus (16 : Nat)) : Int)) = (↑(flg s.none (1 : Nat) + flg s.up (2 : Nat) + flg s.down (4 : Nat) + flg s.minus (8 : Nat) + flg s.plus (16 : Nat)) : Int), decide (s.all < (0 : Int)) = decide (s.all < (0 : Int)) ∧ (32 : Int) = (↑(32 : Nat) : Int) ∧ True, FnOk Try.prog (139 : Nat) (Inst.mk [AV.v (Value.bool (decide (s.all < (0 : Int)))), AV.v (Value.int IntKind.i64 (↑(32 : Nat) : Int))] [] (AV.v (Value.int IntKind.i64 (↑(flg (decide (s.all < (0 : Int))) (32 : Nat)) : Int))) []), IntKind.i64.wrap ((↑(flg s.none (1 : Nat) + flg s.up (2 : Nat) + flg s.down (4 : Nat) + flg s.minus (8 : Nat) + flg s.plus (16 : Nat)) : Int) + (↑(flg (decide (s.all < (0 : Int))) (32 : Nat)) : Int)) = (↑(flg s.none (1 : Nat) + flg s.up (2 : Nat) + flg s.down (4 : Nat) + flg s.minus (8 : Nat) + flg s.plus (16 : Nat) + flg (decide (s.all < (0 : Int))) (32 : Nat)) : Int), IntKind.u8.wrap (↑(flg s.none (1 : Nat) + flg s.up (2 : Nat) + flg s.down (4 : Nat) + flg s.minus (8 : Nat) + flg s.plus (16 : Nat) + flg (decide (s.all < (0 : Int))) (32 : Nat)) : Int) = (↑(flg s.none (1 : Nat) + flg s.up (2 : Nat) + flg s.down (4 : Nat) + flg s.minus (8 : Nat) + flg s.plus (16 : Nat) + flg (decide (s.all < (0 : Int))) (32 : Nat)) : Int), IntKind.u8.wrap (↑(lz (dgw s.all.natAbs)) : Int) = (↑(lz (dgw s.all.natAbs)) : Int), IntKind.i64.wrap ((↑(dgw s.all.natAbs).length : Int) - (↑(lz (dgw s.all.natAbs)) : Int)) = (↑((dgw s.all.natAbs).length - lz (dgw s.all.natAbs)) : Int), IntKind.u8.wrap (↑((dgw s.all.natAbs).length - lz (dgw s.all.natAbs)) : Int) = (↑((dgw s.all.natAbs).length - lz (dgw s.all.natAbs)) : Int), IntKind.i64.wrap ((↑(dgw s.all.natAbs).length : Int) - (1 : Int)) = (↑(dgw s.all.natAbs).length : Int) - (1 : Int), LoopOk Try.prog (loopBody Try.f75 (7 : Nat)) (rbInv2 (flN s) (dgw s.all.natAbs) (0 : Nat)) (Exit.exit (2 : Nat)) (rbInv2 (flN s) (dgw s.all.natAbs) ((dgw s.all.natAbs).length - lz (dgw s.all.natAbs))), (dgw s.all.natAbs).length = (dgw s.all.natAbs).length ∧ wL (dgw s.all.natAbs) = wL (dgw s.all.natAbs), (↑(lz (dgw s.all.natAbs)) : Int) = (↑(lz (dgw s.all.natAbs)) : Int), (57 : Nat) = (57 : Nat) ∧ (0 : Nat) = (0 : Nat), (↑(dgw s.all.natAbs).length : Int) - (1 : Int) = (↑(dgw s.all.natAbs).length : Int) - (1 : Int) - (↑(0 : Nat) : Int), (3 : Nat) = (3 : Nat) ∧ (0 : Nat) = (0 : Nat) ∧ [AV.v (Value.int IntKind.u8 (↑(flg s.none (1 : Nat) + flg s.up (2 : Nat) + flg s.down (4 : Nat) + flg s.minus (8 : Nat) + flg s.plus (16 : Nat) + flg (decide (s.all < (0 : Int))) (32 : Nat)) : Int)), AV.v (Value.int IntKind.u8 (↑(lz (dgw s.all.natAbs)) : Int)), AV.v (Value.int IntKind.u8 (↑((dgw s.all.natAbs).length - lz (dgw s.all.natAbs)) : Int))] = [AV.v (Value.int IntKind.u8 (↑(flN s) : Int)), AV.v (Value.int IntKind.u8 (↑(lz (dgw s.all.natAbs)) : Int)), AV.v (Value.int IntKind.u8 (↑((dgw s.all.natAbs).length - lz (dgw s.all.natAbs)) : Int))]] (by kernel_rfl) ?_
  ((repeat' refine And.intro ?_ ?_); (omega); rotate_left 1; (exact rfl); (exact True.intro); ((show FnOk _ _ _; assumption)); (with_reducible assumption); (iterate 4 (with_reducible rfl)); (omega); (iterate 2 (with_reducible rfl)); (omega); (exact True.intro); ((show FnOk _ _ _; assumption)); (with_reducible rfl); (omega); (exact True.intro); ((show FnOk _ _ _; assumption)); (exact Wi _ (by omega)); (with_reducible rfl); (omega); (exact True.intro); ((show FnOk _ _ _; assumption)); (exact Wi _ (by omega)); (with_reducible rfl); (omega); (exact True.intro); ((show FnOk _ _ _; assumption)); (exact Wi _ (by omega)); (with_reducible rfl); (omega); (exact True.intro); ((show FnOk _ _ _; assumption)); (exact Wi _ (by omega)); (with_reducible rfl); (omega); (exact True.intro); ((show FnOk _ _ _; assumption)); (exact Wi _ (by omega)); (iterate 2 ((rw [IntKind.wrap_u8]; omega))); ((rw [Wi _ (by omega)]; omega)); ((rw [IntKind.wrap_u8]; omega)); (exact Wi _ (by omega)); (with_reducible assumption); (iterate 5 (with_reducible rfl)); (omega); (iterate 2 (with_reducible rfl)); (exact rfl); (exact True.intro))
  all_goals first | (rw [hby]; done) | (rw [hz0, ← hfl]; rfl) | skip
end Go.Proofs.Ytfhmaincnlaapaa.Sy
namespace Go.Proofs.Ytfhmaincnlaapaa
set_option linter.unusedVariables false

/-- how many bytes a number below 2^64 has (none: 0) -/
def wdF : Nat → Nat → Nat
  | 0, _ => 0
  | f + 1, x => if x = 0 then 0 else wdF f (x / 256) + 1
def wd (x : Nat) : Nat := wdF 8 x
end Go.Proofs.Ytfhmaincnlaapaa
namespace Go.Proofs.Ytfhmaincnlaapaa
open Go.ChangeShapes Go.WideShapes Go.ChangeAt Go.RowKit
set_option linter.unusedVariables false

end Go.Proofs.Ytfhmaincnlaapaa
namespace Go.Proofs.Ytfhmaincnlaapaa
set_option linter.unusedVariables false

theorem snoc_ind {α : Type} {p : List α → Prop} (h0 : p []) (h1 : ∀ l b, p l → p (l ++ [b])) (l : List α) : p l := by
  have h : ∀ r : List α, p r.reverse := by
    intro r
    induction r with
    | nil => exact h0
    | cons b r ih => rw [List.reverse_cons]; exact h1 _ _ ih
  have := h l.reverse
  rwa [List.reverse_reverse] at this
/-- the number that bytes are, the highest first -/
def bv (l : List UInt8) : Nat := l.foldl (fun x b => x * 256 + b.toNat) 0
theorem bv_snoc (l : List UInt8) (b : UInt8) : bv (l ++ [b]) = bv l * 256 + b.toNat := by simp [bv]
theorem bv_lt (l : List UInt8) : bv l < 256 ^ l.length := by
  refine snoc_ind (p := fun l => bv l < 256 ^ l.length) (by simp [bv]) (fun l b ih => ?_) l
  rw [bv_snoc, List.length_append, List.length_singleton, Nat.pow_succ]
  have := b.toNat_lt
  omega
theorem bv_take (l : List UInt8) (i : Nat) (h : i < l.length) : bv (l.take (i + 1)) = bv (l.take i) * 256 + l[i].toNat := by
  rw [List.take_succ_eq_append_getElem h, bv_snoc]
/-- n bytes that have no nought ahead: the number, and the error -/
def numB (t : List UInt8) (n : Nat) : Nat × Nat :=
  if n = 0 then (0, 0) else
  match t with
  | [] => (0, 5)
  | c :: _ => if c = 0 then (0, 6) else if t.length < n then (0, 5) else (bv (t.take n), 0)
/-- the number of bytes that a first byte asks for, and whether it is below 0 -/
def sgn (c : UInt8) : Nat × Bool := if c.toNat < 9 then (8 - c.toNat, true) else (c.toNat - 9, false)
def prt (c : UInt8) (t : List UInt8) : List UInt8 := if (sgn c).2 then (t.take (sgn c).1).map (255 - ·) else t.take (sgn c).1
def getI (l : List UInt8) : Int × Nat × Nat :=
  match l with
  | [] => (0, 0, 5)
  | c :: t => if 8 < (sgn c).1 then (0, 0, 6) else
    if (sgn c).1 = 8 ∧ 127 < ((prt c t).headD 0).toNat then (0, 0, 6) else
    if (numB (prt c t) (sgn c).1).2 = 0 then (if (sgn c).2 then -((numB (prt c t) (sgn c).1).1 : Int) - 1 else (numB (prt c t) (sgn c).1).1, (sgn c).1 + 1, 0)
    else (0, 0, (numB (prt c t) (sgn c).1).2)
end Go.Proofs.Ytfhmaincnlaapaa
namespace Go.Proofs.Ytfhmaincnlaapaa
open Go.ChangeShapes Go.WideShapes Go.ChangeAt Go.RowKit
set_option linter.unusedVariables false

end Go.Proofs.Ytfhmaincnlaapaa
namespace Go.Proofs.Ytfhmaincnlaapaa
open Go.ChangeShapes Go.WideShapes Go.ChangeAt Go.RowKit
set_option linter.unusedVariables false

/-- THE WRITER AT BLOCK g: what was laid; all of it lies from block base on -/
def OutS (w : World) (base g : Nat) (l : List UInt8) : Prop :=
  base ≤ g ∧ base ≤ w.heap.size ∧ ∃ v, Blk w g 216 #[.bool true, v] ∧ w.ownsRow base 5 1 v l.length (u8s l)
theorem OutS.lt {w : World} {base g : Nat} {l : List UInt8} (h : OutS w base g l) : g < w.heap.size := by obtain ⟨_, _, v, hb, _⟩ := h; exact hb.lt
theorem OutS.drw {w w' : World} {base g : Nat} {l : List UInt8} (h : OutS w base g l) (k : Drw w w') : OutS w' base g l := by obtain ⟨n, rfl⟩ := k; exact h
/-- all that is new lies behind what was there -/
theorem OutS.below {w w' : World} {base g : Nat} {l : List UInt8} (h : OutS w base g l) (hb : Below w.heap.size w w') : OutS w' base g l := by
  obtain ⟨h1, h2, v, hB, ho⟩ := h
  exact ⟨h1, Nat.le_trans h2 hb.size, v, hB.below hb hB.lt, own_below ho hb (Nat.le_refl _)⟩

end Go.Proofs.Ytfhmaincnlaapaa
namespace Go.Proofs.Ytfhmaincnlaapaa
open Go.ChangeShapes Go.WideShapes Go.ChangeAt Go.RowKit
set_option linter.unusedVariables false

/-- THE READER AT BLOCK g: its bytes, its place, its fault -/
def InS (w : World) (g : Nat) (t : List UInt8) (p e : Nat) : Prop :=
  ∃ A c, Blk w g 211 #[.bool true, .slice A t.length c, .int .i64 (p : Int), .int .i64 (e : Int)] ∧ Rd w g 1 A t.length (u8s t) ∧ t.length ≤ c ∧ c ≤ maxLen ∧ p ≤ t.length
section
variable {w w' : World} {g p e : Nat} {t : List UInt8}
theorem InS.lt (h : InS w g t p e) : g < w.heap.size := by obtain ⟨A, c, hb, _⟩ := h; exact hb.lt
theorem InS.drw (h : InS w g t p e) (k : Drw w w') : InS w' g t p e := by
  obtain ⟨n, rfl⟩ := k; exact h
theorem InS.below {B : Nat} (h : InS w g t p e) (hb : Below B w w') (hg : g < B) : InS w' g t p e := by
  obtain ⟨A, c, h1, h2, h3⟩ := h
  exact ⟨A, c, h1.below hb hg, h2.keep fun q hq => hb.cell (by omega), h3⟩
end

theorem InS.move {w : World} {g : Nat} {t : List UInt8} {p e : Nat} (h : InS w g t p e) (p' : Nat) (hp : p' ≤ t.length) : InS (w.setCell ⟨g, 2, none⟩ (.int .i64 (p' : Int))) g t p' e := by
  obtain ⟨A, c, hb, hR, h1, h2, h3⟩ := h
  have := hb.set_ 2 (.int .i64 (p' : Int))
  exact ⟨A, c, by simpa using this, hR.keep fun q hq => World.cell?_setCell_other w _ q _ (fun e => by subst e; simp at hq), h1, h2, hp⟩
theorem Only.set1 (w : World) (g i : Nat) (u : Value) : Only g w (w.setCell ⟨g, i, none⟩ u) := (Only.refl g w).set_ (p := ⟨g, i, none⟩) (.inl rfl) u

end Go.Proofs.Ytfhmaincnlaapaa
namespace Go.Proofs.Ytfhmaincnlaapaa
open Go.ChangeShapes Go.WideShapes Go.ChangeAt Go.RowKit
set_option linter.unusedVariables false

end Go.Proofs.Ytfhmaincnlaapaa
namespace Go.Proofs.Ytfhmaincnlaapaa
open Go.ChangeShapes Go.WideShapes Go.ChangeAt Go.RowKit
set_option linter.unusedVariables false

/-- the fault behind a read: the one that there was, the getter's, the bound's -/
def stepE (e er er2 : Nat) : Nat := if e ≠ 0 then e else if er ≠ 0 then er else er2
end Go.Proofs.Ytfhmaincnlaapaa
namespace Go.Proofs.Ytfhmaincnlaapaa
open Go.ChangeShapes Go.WideShapes Go.ChangeAt Go.RowKit
set_option linter.unusedVariables false

end Go.Proofs.Ytfhmaincnlaapaa
