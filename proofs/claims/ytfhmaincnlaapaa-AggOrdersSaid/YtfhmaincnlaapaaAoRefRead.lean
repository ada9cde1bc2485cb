/-
  bushelref08.Read (U), bushelref11.Reader: Ask, U, End.
  bushelref10.Twice.
  Layer 10: names.Is, bushelref10.Is.
  Layer 10: names.Word, names.Is, bushelref10.Is.
  Layer 10, names: the words, names.Word, bushelref10.Place.
  THE NODES OF ENTRIES, as a plain function; what the pack comes to.
  tree.bytes, pack.end, pack.put.
  AN APPEND AS A RULE OF THE WALK: where the append's run is known ahead, a region that draws its order runs it as any other operation.
  tree.Break, bushelref25.Break: the same test of a key; seal.Room.
  APPEND OF A SLICE as a step of a region that draws; a row of the call's own, element by element.
  WHAT A NODE READS AS, as a plain function.
  SHEETS IN MEMORY.
  ENTRIES IN MEMORY; which may be those of nodes.
  THE READER's U, I, T.
  buf.read at its four types: what it does to the reader.
  buf.NewIn; the reader's U.
  THE READER buf.In: its memory; fine, rest, fail, Fault, Left, End, NewIn.
  THE WRITER buf.Out: NewOut, lay, Bytes, U.
  code.number, GetU, GetI, GetT: what they read of any bytes.
  PLAIN LEAN: what is read of bytes (layer 7): numbers, numbers with a sign, texts; what was put is got.
  WHAT code.wide, bytes, U, I, T GIVE: the codes of layer 7, in a slice of the call's own.
  PLAIN LEAN: numbers and texts as bytes (layer 7's codes), with no program in sight.
  The bytes of a sum: exact's and bushelref05's.
-/
import Derived.IntWalk
import Derived.Deep.RegionHeldLaw
import Derived.BigRegion
import Derived.Deep.LoopGhost
import Derived.StillTailTactics
import Derived.Deep.DeepCutAuto
import Derived.Test.YtfhmaincnlaapaaAoSy3
import Derived.Test.YtfhmaincnlaapaaAoWordMath
import Derived.Test.YtfhmaincnlaapaaAoTExact
namespace Go.Proofs.Ytfhmaincnlaapaa.Sy
open Go.ChangeShapes Go.WideShapes Go.ChangeAt Go.RowKit
set_option linter.unusedVariables false
set_option linter.unusedSimpArgs false
def nB (l : List Nat) : List AV := l.map fun n : Nat => .v (.int .u8 ((n : Nat) : Int))
theorem nB_len (l : List Nat) : (nB l).length = l.length := by simp [nB]
theorem nB_app (l m : List Nat) : nB (l ++ m) = nB l ++ nB m := by simp [nB]
def u8L (l : List Nat) : List UInt8 := l.map UInt8.ofNat
theorem byL_u8 {l : List Nat} (h : ∀ n ∈ l, n < 256) : byL (u8L l) = nB l := by
  unfold byL u8L nB
  rw [List.map_map]
  refine List.map_congr_left fun n hn => ?_
  have := h n hn
  simp only [Function.comp]
  rw [UInt8.toNat_ofNat', Nat.mod_eq_of_lt (by simpa using this)]
def be4 (x : Nat) : List Nat := [x / 16777216, x / 65536 % 256, x / 256 % 256, x % 256]
theorem be4_lt {x : Nat} (hx : x < 4294967296) : ∀ n ∈ be4 x, n < 256 := by
  intro n hn
  simp only [be4, List.mem_cons, List.not_mem_nil, or_false] at hn
  omega
/-- the highest k words, the highest one first -/
def bS (w : List Nat) : Nat → List Nat
  | 0 => []
  | k + 1 => bS w k ++ be4 (dg w (w.length - 1 - k))
theorem bS_len (w : List Nat) : ∀ k, (bS w k).length = 4 * k
  | 0 => rfl
  | k + 1 => by rw [bS, List.length_append, bS_len w k]; simp [be4]; omega
theorem bS_lt {w : List Nat} (hw : Wd w) : ∀ k, ∀ n ∈ bS w k, n < 256
  | 0, n, h => by cases h
  | k + 1, n, h => by
    rcases List.mem_append.1 h with h | h
    · exact bS_lt hw k n h
    · exact be4_lt (dg_ltW w _ hw) n h
def encH (f : Nat) (w : List Nat) (k : Nat) : List Nat := [f, lz w, w.length - lz w] ++ bS w k
def encN (f : Nat) (w : List Nat) : List Nat := encH f w (w.length - lz w)
theorem encH_len (f : Nat) (w : List Nat) (k : Nat) : (encH f w k).length = 3 + 4 * k := by unfold encH; rw [List.length_append, bS_len]; rfl
def flg (b : Bool) (n : Nat) : Nat := if b then n else 0
theorem flg_le (b : Bool) (n : Nat) : flg b n ≤ n := by unfold flg; split <;> omega
def camN (s : SumS) : Nat := flg s.none 1 + flg s.up 2 + flg s.down 4 + flg s.minus 8 + flg s.plus 16
def flN (s : SumS) : Nat := camN s + flg (decide (s.all < 0)) 32
def encS (s : SumS) : List UInt8 := u8L (encN (flN s) (dgw s.all.natAbs))
theorem camN_lt (s : SumS) : camN s ≤ 31 := by
  have h1 := flg_le s.none 1; have h2 := flg_le s.up 2; have h3 := flg_le s.down 4; have h4 := flg_le s.minus 8; have h5 := flg_le s.plus 16
  unfold camN; omega
theorem flN_lt (s : SumS) : flN s ≤ 63 := by
  have := camN_lt s; have := flg_le (decide (s.all < 0)) 32
  unfold flN; omega
theorem encN_lt {f : Nat} {w : List Nat} (hw : Wd w) (hf : f < 256) (hl : w.length ≤ 255) : ∀ n ∈ encN f w, n < 256 := by
  intro n hn
  unfold encN encH at hn
  have := lz_le w
  rcases List.mem_append.1 hn with h | h
  · simp only [List.mem_cons, List.not_mem_nil, or_false] at h; omega
  · exact bS_lt hw _ n h
theorem lz_dgw (n : Nat) : dgw n = [] ∨ lz (dgw n) < (dgw n).length := by
  by_cases h : n = 0
  · left; subst h; exact dig_zeroW
  · right
    refine Nat.lt_of_le_of_ne (lz_le _) fun e => ?_
    have : ∀ (l : List Nat), lz l = l.length → vw l = 0 := by
      intro l
      induction l with
      | nil => intro _; rfl
      | cons d l ih =>
        intro h
        unfold lz at h
        split at h
        · rename_i hd; rw [vd_consW, hd, ih (by simpa using h)]
        · simp at h
    have := this _ e
    rw [vd_digW] at this
    exact h this
/-! ### exact's -/
def rowB (q n : Nat) (cs : List AV) : Nat × AObj := (q, .row 5 1 n 0 cs)
theorem nB_snoc4 (l : List Nat) (a b c d : Nat) : nB l ++ [.v (.int .u8 (a : Int)), .v (.int .u8 (b : Int)), .v (.int .u8 (c : Int)), .v (.int .u8 (d : Int))] = nB (l ++ [a, b, c, d]) := by rw [nB_app]; rfl
theorem encH_succ (f : Nat) (w : List Nat) (k : Nat) : encH f w (k + 1) = encH f w k ++ be4 (dg w (w.length - 1 - k)) := by unfold encH; rw [bS, List.append_assoc]
def ebInv (c x : Int) (f : Nat) (w : List Nat) (k : Nat) : AS := ⟨[(0, .ptr 1000 0), (4, iz (lz w : Nat)), (5, .row 38 0), (6, iz ((w.length : Int) - 1 - k))], [(1000, .cells 196 [bz true, .v (.int .u8 c), bz (decide (x < 0)), wA w]), rowB 38 (3 + 4 * k) (nB (encH f w k))], 72, [1000]⟩
theorem eb_loop (c x : Int) (f : Nat) {w : List Nat} (hd : Wd w) (hl : w.length ≤ 1000) (i : {k : Nat // k ≤ w.length - lz w}) : LoopOk Try.prog (loopBody Try.f86 9) (ebInv c x f w i.1) (.exit 0) (ebInv c x f w (w.length - lz w)) := by
  refine LoopOk.of hmo (fun i : {k : Nat // k ≤ w.length - lz w} => ebInv c x f w i.1) (fun i => w.length - lz w - i.1) (fun i => ?_) i
  obtain ⟨k, hk⟩ := i
  have hle := lz_le w
  have hz := nB_len (encH f w k)
  rw [encH_len] at hz
  rcases Nat.lt_or_eq_of_le hk with hlt | rfl
  · have hr := rd_wL w (w.length - 1 - k) (by omega)
    have hdl := dg_ltW w (w.length - 1 - k) hd
    refine Round.on [(45, Hint.val (AV.v (Value.int IntKind.i64 (↑(w.length - (1 : Nat) - k) : Int)))), (47, Hint.val (AV.v (Value.bool true))), (54, Hint.val (AV.v (Value.int IntKind.i64 (↑(w.length - (1 : Nat) - k) : Int)))), (56, Hint.val (u3 (dg w (w.length - (1 : Nat) - k)))), (59, Hint.val (AV.v (Value.int IntKind.u32 (↑(dg w (w.length - (1 : Nat) - k) / (16777216 : Nat)) : Int)))), (60, Hint.val (AV.v (Value.int IntKind.u8 (↑(dg w (w.length - (1 : Nat) - k) / (16777216 : Nat)) : Int)))), (62, Hint.val (AV.v (Value.int IntKind.u32 (↑(dg w (w.length - (1 : Nat) - k) / (65536 : Nat)) : Int)))), (63, Hint.val (AV.v (Value.int IntKind.u8 (↑(dg w (w.length - (1 : Nat) - k) / (65536 : Nat) % (256 : Nat)) : Int)))), (65, Hint.val (AV.v (Value.int IntKind.u32 (↑(dg w (w.length - (1 : Nat) - k) / (256 : Nat)) : Int)))), (66, Hint.val (AV.v (Value.int IntKind.u8 (↑(dg w (w.length - (1 : Nat) - k) / (256 : Nat) % (256 : Nat)) : Int)))), (68, Hint.val (AV.v (Value.int IntKind.u8 (↑(dg w (w.length - (1 : Nat) - k) % (256 : Nat)) : Int)))), (48, Hint.val (AV.v (Value.int IntKind.i64 (↑(w.length - (1 : Nat) - k) : Int)))), (49, Hint.val (AV.v (Value.int IntKind.i64 ((↑(w.length - (1 : Nat) - k) : Int) - (1 : Int)))))] [] ⟨k + 1, hlt⟩ [(1000 : Nat) = (1000 : Nat) ∧ (0 : Nat) = (0 : Nat), (↑(lz w) : Int) = (↑(lz w) : Int), (38 : Nat) = (38 : Nat) ∧ (0 : Nat) = (0 : Nat), (↑(w.length - (1 : Nat) - k) : Int) - (1 : Int) = (↑w.length : Int) - (1 : Int) - (↑(k + (1 : Nat)) : Int), [AV.v (Value.bool true), AV.v (Value.int IntKind.u8 c), AV.v (Value.bool (decide (x < (0 : Int)))), AV.lst w.length (wL w)] = [AV.v (Value.bool true), AV.v (Value.int IntKind.u8 c), AV.v (Value.bool (decide (x < (0 : Int)))), AV.lst w.length (wL w)], (3 : Nat) + (4 : Nat) * k + (4 : Nat) = (3 : Nat) + (4 : Nat) * (k + (1 : Nat)) ∧ (0 : Nat) = (0 : Nat) ∧ nB (encH f w k) ++ [AV.v (Value.int IntKind.u8 (↑(dg w (w.length - (1 : Nat) - k) / (16777216 : Nat)) : Int)), AV.v (Value.int IntKind.u8 (↑(dg w (w.length - (1 : Nat) - k) / (65536 : Nat) % (256 : Nat)) : Int)), AV.v (Value.int IntKind.u8 (↑(dg w (w.length - (1 : Nat) - k) / (256 : Nat) % (256 : Nat)) : Int)), AV.v (Value.int IntKind.u8 (↑(dg w (w.length - (1 : Nat) - k) % (256 : Nat)) : Int))] = nB (encH f w (k + (1 : Nat))), (↑w.length : Int) - (1 : Int) - (↑k : Int) = (↑(w.length - (1 : Nat) - k) : Int), decide ((↑(lz w) : Int) ≤ (↑(w.length - (1 : Nat) - k) : Int)) = true, (↑w.length : Int) - (1 : Int) - (↑k : Int) = (↑(w.length - (1 : Nat) - k) : Int), (0 : Int) ≤ (↑(w.length - (1 : Nat) - k) : Int) ∧ (↑(w.length - (1 : Nat) - k) : Int) < (↑w.length : Int), rd1 false (1 : Nat) (wL w) ((↑(w.length - (1 : Nat) - k) : Int).toNat * (1 : Nat)) = some (AV.v (Value.int IntKind.u32 (↑(dg w (w.length - (1 : Nat) - k)) : Int))), (↑(dg w (w.length - (1 : Nat) - k)) : Int).fdiv ((2 : Int) ^ (24 : Nat)) = (↑(dg w (w.length - (1 : Nat) - k) / (16777216 : Nat)) : Int), (0 : Int) ≤ (24 : Int), IntKind.u8.wrap (↑(dg w (w.length - (1 : Nat) - k) / (16777216 : Nat)) : Int) = (↑(dg w (w.length - (1 : Nat) - k) / (16777216 : Nat)) : Int), (↑(dg w (w.length - (1 : Nat) - k)) : Int).fdiv ((2 : Int) ^ (16 : Nat)) = (↑(dg w (w.length - (1 : Nat) - k) / (65536 : Nat)) : Int), (0 : Int) ≤ (16 : Int), IntKind.u8.wrap (↑(dg w (w.length - (1 : Nat) - k) / (65536 : Nat)) : Int) = (↑(dg w (w.length - (1 : Nat) - k) / (65536 : Nat) % (256 : Nat)) : Int), (↑(dg w (w.length - (1 : Nat) - k)) : Int).fdiv ((2 : Int) ^ (8 : Nat)) = (↑(dg w (w.length - (1 : Nat) - k) / (256 : Nat)) : Int), (0 : Int) ≤ (8 : Int), IntKind.u8.wrap (↑(dg w (w.length - (1 : Nat) - k) / (256 : Nat)) : Int) = (↑(dg w (w.length - (1 : Nat) - k) / (256 : Nat) % (256 : Nat)) : Int), IntKind.u8.wrap (↑(dg w (w.length - (1 : Nat) - k)) : Int) = (↑(dg w (w.length - (1 : Nat) - k) % (256 : Nat)) : Int), [AV.v (Value.int IntKind.u8 (↑(dg w (w.length - (1 : Nat) - k) / (16777216 : Nat)) : Int)), AV.v (Value.int IntKind.u8 (↑(dg w (w.length - (1 : Nat) - k) / (65536 : Nat) % (256 : Nat)) : Int)), AV.v (Value.int IntKind.u8 (↑(dg w (w.length - (1 : Nat) - k) / (256 : Nat) % (256 : Nat)) : Int)), AV.v (Value.int IntKind.u8 (↑(dg w (w.length - (1 : Nat) - k) % (256 : Nat)) : Int))].length = (4 : Nat), ((3 : Nat) + (4 : Nat) * k + (4 : Nat)) * (1 : Nat) ≤ (140737488355328 : Nat) ∧ (3 : Nat) + (4 : Nat) * k + (4 : Nat) ≤ (140737488355328 : Nat), (↑w.length : Int) - (1 : Int) - (↑k : Int) = (↑(w.length - (1 : Nat) - k) : Int), IntKind.i64.wrap ((↑(w.length - (1 : Nat) - k) : Int) - (1 : Int)) = (↑(w.length - (1 : Nat) - k) : Int) - (1 : Int)] (by kernel_rfl) (by show w.length - lz w - (k + 1) < w.length - lz w - k; omega) ?_
    ((repeat' refine And.intro ?_ ?_); (iterate 5 (with_reducible rfl)); (omega); (with_reducible rfl); (omega); (with_reducible rfl); rotate_left 1; (omega); ((with_reducible refine Dt ?_; omega)); (iterate 3 (omega)); ((show rd1 _ _ _ _ = _; assumption)); (exact fdivN _ _ _ (by decide)); (omega); ((rw [IntKind.wrap_u8]; omega)); (exact fdivN _ _ _ (by decide)); (omega); (exact tmodN _ _); (exact fdivN _ _ _ (by decide)); (omega); (iterate 2 (exact tmodN _ _)); (exact rfl); (iterate 3 (omega)); (exact Wi _ (by omega)); (exact True.intro))
    all_goals (rw [encH_succ]; exact nB_snoc4 _ _ _ _ _)
  · refine Round.out [(47, Hint.val (AV.v (Value.bool false)))] [] [(1000 : Nat) = (1000 : Nat) ∧ (0 : Nat) = (0 : Nat), (↑(lz w) : Int) = (↑(lz w) : Int), (38 : Nat) = (38 : Nat) ∧ (0 : Nat) = (0 : Nat), (↑w.length : Int) - (1 : Int) - (↑(w.length - lz w) : Int) = (↑w.length : Int) - (1 : Int) - (↑(w.length - lz w) : Int), [AV.v (Value.bool true), AV.v (Value.int IntKind.u8 c), AV.v (Value.bool (decide (x < (0 : Int)))), AV.lst w.length (wL w)] = [AV.v (Value.bool true), AV.v (Value.int IntKind.u8 c), AV.v (Value.bool (decide (x < (0 : Int)))), AV.lst w.length (wL w)], (3 : Nat) + (4 : Nat) * (w.length - lz w) = (3 : Nat) + (4 : Nat) * (w.length - lz w) ∧ (0 : Nat) = (0 : Nat) ∧ nB (encH f w (w.length - lz w)) = nB (encH f w (w.length - lz w)), decide ((↑(lz w) : Int) ≤ (↑w.length : Int) - (1 : Int) - (↑(w.length - lz w) : Int)) = false] (by kernel_rfl) ?_
    ((repeat' refine And.intro ?_ ?_); (iterate 10 (with_reducible rfl)); ((with_reducible refine Df ?_; omega)); (exact True.intro))
theorem or32 (a b c d e : Bool) : ((BitVec.ofInt 8 ((flg a 1 + flg b 2 + flg c 4 + flg d 8 + flg e 16 : Nat) : Int) ||| BitVec.ofInt 8 32).toNat : Nat) = flg a 1 + flg b 2 + flg c 4 + flg d 8 + flg e 16 + 32 := by
  revert a b c d e; decide
theorem exBytes_ok (s : SumS) (hs : s.all.natAbs < roomN) : FnOk Try.prog 86 ⟨[.ptr 1000 0], [exO 1000 (camN s : Nat) s.all], .lst (encS s).length (byL (encS s)), [exO 1000 (camN s : Nat) s.all]⟩ := by
  have h1 := is_ok (camN s : Nat) s.all 1000 (.inl rfl)
  have hl := dgw_small hs
  have hw := Wd_dg s.all.natAbs
  obtain ⟨n, hn, hn2, h2⟩ := noughts_ok (by omega) hw (lz_dgw s.all.natAbs)
  have hle := lz_le (dgw s.all.natAbs)
  have hc := camN_lt s
  have hf := flN_lt s
  have hlen : (encS s).length = 3 + 4 * ((dgw s.all.natAbs).length - lz (dgw s.all.natAbs)) := by unfold encS u8L encN; rw [List.length_map, encH_len]
  have hby : byL (encS s) = nB (encH (flN s) (dgw s.all.natAbs) ((dgw s.all.natAbs).length - lz (dgw s.all.natAbs))) := byL_u8 (encN_lt hw (by omega) (by omega))
  have h3 := eb_loop (camN s : Nat) s.all (flN s) hw (by omega) ⟨0, Nat.zero_le _⟩
  have hz0 : encH (flN s) (dgw s.all.natAbs) 0 = [flN s, lz (dgw s.all.natAbs), (dgw s.all.natAbs).length - lz (dgw s.all.natAbs)] := rfl
  by_cases hneg : s.all < 0
  · have hb : decide (s.all < 0) = true := decide_eq_true hneg
    have hfl : flN s = camN s + 32 := by unfold flN; rw [hb]; rfl
    have hor : (BitVec.ofInt 8 ((camN s : Nat) : Int) ||| BitVec.ofInt 8 32).toNat = camN s + 32 := or32 ..
    refine fn_go hmo Try.func86 (by kernel_rfl) [(9, Hint.call (Inst.mk [AV.ptr (1000 : Nat) (0 : Nat)] [exO (1000 : Nat) (↑(camN s) : Int) s.all] (bz true) [exO (1000 : Nat) (↑(camN s) : Int) s.all])), (18, Hint.val (AV.v (Value.bool true))), (20, Hint.val (AV.v (Value.int IntKind.u8 (↑(flN s) : Int)))), (25, Hint.call (Inst.mk [wA (dgw s.all.natAbs)] [] (iz (↑n : Int)) [])), (26, Hint.val (AV.v (Value.int IntKind.i64 (↑(n / (32 : Nat)) : Int)))), (29, Hint.val (AV.v (Value.int IntKind.u8 (↑(n / (32 : Nat)) : Int)))), (36, Hint.val (AV.v (Value.int IntKind.i64 (↑((dgw s.all.natAbs).length - n / (32 : Nat)) : Int)))), (37, Hint.val (AV.v (Value.int IntKind.u8 (↑((dgw s.all.natAbs).length - n / (32 : Nat)) : Int)))), (44, Hint.val (AV.v (Value.int IntKind.i64 ((↑(dgw s.all.natAbs).length : Int) - (1 : Int)))))] [(9, ⟨.exit 0, ebInv (camN s : Nat) s.all (flN s) (dgw s.all.natAbs) 0, ebInv (camN s : Nat) s.all (flN s) (dgw s.all.natAbs) ((dgw s.all.natAbs).length - lz (dgw s.all.natAbs))⟩)] [(3 : Nat) + (4 : Nat) * ((dgw s.all.natAbs).length - lz (dgw s.all.natAbs)) = (encS s).length ∧ nB (encH (flN s) (dgw s.all.natAbs) ((dgw s.all.natAbs).length - lz (dgw s.all.natAbs))) = byL (encS s), [AV.v (Value.bool true), AV.v (Value.int IntKind.u8 (↑(camN s) : Int)), AV.v (Value.bool (decide (s.all < (0 : Int)))), AV.lst (dgw s.all.natAbs).length (wL (dgw s.all.natAbs))] = [AV.v (Value.bool true), AV.v (Value.int IntKind.u8 (↑(camN s) : Int)), AV.v (Value.bool (decide (s.all < (0 : Int)))), AV.lst (dgw s.all.natAbs).length (wL (dgw s.all.natAbs))], ((1000 : Nat) = (1000 : Nat) ∧ (0 : Nat) = (0 : Nat)) ∧ True, FnOk Try.prog (144 : Nat) (Inst.mk [AV.ptr (1000 : Nat) (0 : Nat)] [((1000 : Nat), AObj.cells (196 : TypeId) [AV.v (Value.bool true), AV.v (Value.int IntKind.u8 (↑(camN s) : Int)), AV.v (Value.bool (decide (s.all < (0 : Int)))), AV.lst (dgw s.all.natAbs).length (wL (dgw s.all.natAbs))])] (AV.v (Value.bool true)) [((1000 : Nat), AObj.cells (196 : TypeId) [AV.v (Value.bool true), AV.v (Value.int IntKind.u8 (↑(camN s) : Int)), AV.v (Value.bool (decide (s.all < (0 : Int)))), AV.lst (dgw s.all.natAbs).length (wL (dgw s.all.natAbs))])]), [AV.v (Value.bool true), AV.v (Value.int IntKind.u8 (↑(camN s) : Int)), AV.v (Value.bool (decide (s.all < (0 : Int)))), AV.lst (dgw s.all.natAbs).length (wL (dgw s.all.natAbs))] = [AV.v (Value.bool true), AV.v (Value.int IntKind.u8 (↑(camN s) : Int)), AV.v (Value.bool (decide (s.all < (0 : Int)))), AV.lst (dgw s.all.natAbs).length (wL (dgw s.all.natAbs))], some (AV.v (Value.bool (decide (s.all < (0 : Int))))) = some (AV.v (Value.bool true)), IntKind.u8.wrap (↑(BitVec.ofInt (8 : Nat) (↑(camN s) : Int) ||| BitVec.ofInt (8 : Nat) (32 : Int)).toNat : Int) = (↑(flN s) : Int), ((dgw s.all.natAbs).length = (dgw s.all.natAbs).length ∧ wL (dgw s.all.natAbs) = wL (dgw s.all.natAbs)) ∧ True, FnOk Try.prog (149 : Nat) (Inst.mk [AV.lst (dgw s.all.natAbs).length (wL (dgw s.all.natAbs))] [] (AV.v (Value.int IntKind.i64 (↑n : Int))) []), IntKind.i64.wrap ((↑n : Int).tdiv (32 : Int)) = (↑(n / (32 : Nat)) : Int), (32 : Int) ≠ (0 : Int), IntKind.u8.wrap (↑(n / (32 : Nat)) : Int) = (↑(n / (32 : Nat)) : Int), IntKind.i64.wrap ((↑(dgw s.all.natAbs).length : Int) - (↑(n / (32 : Nat)) : Int)) = (↑((dgw s.all.natAbs).length - n / (32 : Nat)) : Int), IntKind.u8.wrap (↑((dgw s.all.natAbs).length - n / (32 : Nat)) : Int) = (↑((dgw s.all.natAbs).length - n / (32 : Nat)) : Int), IntKind.i64.wrap ((↑(dgw s.all.natAbs).length : Int) - (1 : Int)) = (↑(dgw s.all.natAbs).length : Int) - (1 : Int), LoopOk Try.prog (loopBody Try.f86 (9 : Nat)) (ebInv (↑(camN s) : Int) s.all (flN s) (dgw s.all.natAbs) (0 : Nat)) (Exit.exit (0 : Nat)) (ebInv (↑(camN s) : Int) s.all (flN s) (dgw s.all.natAbs) ((dgw s.all.natAbs).length - lz (dgw s.all.natAbs))), (1000 : Nat) = (1000 : Nat) ∧ (0 : Nat) = (0 : Nat), (↑(n / (32 : Nat)) : Int) = (↑(lz (dgw s.all.natAbs)) : Int), (38 : Nat) = (38 : Nat) ∧ (0 : Nat) = (0 : Nat), (↑(dgw s.all.natAbs).length : Int) - (1 : Int) = (↑(dgw s.all.natAbs).length : Int) - (1 : Int) - (↑(0 : Nat) : Int), [AV.v (Value.bool true), AV.v (Value.int IntKind.u8 (↑(camN s) : Int)), AV.v (Value.bool (decide (s.all < (0 : Int)))), AV.lst (dgw s.all.natAbs).length (wL (dgw s.all.natAbs))] = [AV.v (Value.bool true), AV.v (Value.int IntKind.u8 (↑(camN s) : Int)), AV.v (Value.bool (decide (s.all < (0 : Int)))), AV.lst (dgw s.all.natAbs).length (wL (dgw s.all.natAbs))], (3 : Nat) = (3 : Nat) ∧ (0 : Nat) = (0 : Nat) ∧ [AV.v (Value.int IntKind.u8 (↑(flN s) : Int)), AV.v (Value.int IntKind.u8 (↑(n / (32 : Nat)) : Int)), AV.v (Value.int IntKind.u8 (↑((dgw s.all.natAbs).length - n / (32 : Nat)) : Int))] = [AV.v (Value.int IntKind.u8 (↑(flN s) : Int)), AV.v (Value.int IntKind.u8 (↑(lz (dgw s.all.natAbs)) : Int)), AV.v (Value.int IntKind.u8 (↑((dgw s.all.natAbs).length - lz (dgw s.all.natAbs)) : Int))]] (by kernel_rfl) ?_
    ((repeat' refine And.intro ?_ ?_); (omega); rotate_left 1; (iterate 3 (with_reducible rfl)); (exact True.intro); ((show FnOk _ _ _; assumption)); (with_reducible rfl); ((refine someB ?_; with_reducible assumption)); ((rw [IntKind.wrap_u8]; omega)); (iterate 2 (with_reducible rfl)); (exact True.intro); ((show FnOk _ _ _; assumption)); (exact tdivI _ _ _ (by rfl) (by omega)); (omega); ((rw [IntKind.wrap_u8]; omega)); ((rw [Wi _ (by omega)]; omega)); ((rw [IntKind.wrap_u8]; omega)); (exact Wi _ (by omega)); (with_reducible assumption); (iterate 2 (with_reducible rfl)); (omega); (iterate 2 (with_reducible rfl)); (omega); (iterate 3 (with_reducible rfl)); rotate_left 1; (exact True.intro))
    all_goals first | (rw [hby]; done) | (rw [hor, hfl, IntKind.wrap_u8]; omega) | (rw [hn, hz0]; rfl) | (rw [hn])
  · have hb : decide (s.all < 0) = false := decide_eq_false hneg
    have hfl : flN s = camN s := by unfold flN; rw [hb]; rfl
    refine fn_go hmo Try.func86 (by kernel_rfl) [(9, Hint.call (Inst.mk [AV.ptr (1000 : Nat) (0 : Nat)] [exO (1000 : Nat) (↑(camN s) : Int) s.all] (bz true) [exO (1000 : Nat) (↑(camN s) : Int) s.all])), (18, Hint.val (AV.v (Value.bool false))), (25, Hint.call (Inst.mk [wA (dgw s.all.natAbs)] [] (iz (↑n : Int)) [])), (26, Hint.val (AV.v (Value.int IntKind.i64 (↑(n / (32 : Nat)) : Int)))), (29, Hint.val (AV.v (Value.int IntKind.u8 (↑(n / (32 : Nat)) : Int)))), (36, Hint.val (AV.v (Value.int IntKind.i64 (↑((dgw s.all.natAbs).length - n / (32 : Nat)) : Int)))), (37, Hint.val (AV.v (Value.int IntKind.u8 (↑((dgw s.all.natAbs).length - n / (32 : Nat)) : Int)))), (44, Hint.val (AV.v (Value.int IntKind.i64 ((↑(dgw s.all.natAbs).length : Int) - (1 : Int)))))] [(9, ⟨.exit 0, ebInv (camN s : Nat) s.all (flN s) (dgw s.all.natAbs) 0, ebInv (camN s : Nat) s.all (flN s) (dgw s.all.natAbs) ((dgw s.all.natAbs).length - lz (dgw s.all.natAbs))⟩)] [(3 : Nat) + (4 : Nat) * ((dgw s.all.natAbs).length - lz (dgw s.all.natAbs)) = (encS s).length ∧ nB (encH (flN s) (dgw s.all.natAbs) ((dgw s.all.natAbs).length - lz (dgw s.all.natAbs))) = byL (encS s), [AV.v (Value.bool true), AV.v (Value.int IntKind.u8 (↑(camN s) : Int)), AV.v (Value.bool (decide (s.all < (0 : Int)))), AV.lst (dgw s.all.natAbs).length (wL (dgw s.all.natAbs))] = [AV.v (Value.bool true), AV.v (Value.int IntKind.u8 (↑(camN s) : Int)), AV.v (Value.bool (decide (s.all < (0 : Int)))), AV.lst (dgw s.all.natAbs).length (wL (dgw s.all.natAbs))], ((1000 : Nat) = (1000 : Nat) ∧ (0 : Nat) = (0 : Nat)) ∧ True, FnOk Try.prog (144 : Nat) (Inst.mk [AV.ptr (1000 : Nat) (0 : Nat)] [((1000 : Nat), AObj.cells (196 : TypeId) [AV.v (Value.bool true), AV.v (Value.int IntKind.u8 (↑(camN s) : Int)), AV.v (Value.bool (decide (s.all < (0 : Int)))), AV.lst (dgw s.all.natAbs).length (wL (dgw s.all.natAbs))])] (AV.v (Value.bool true)) [((1000 : Nat), AObj.cells (196 : TypeId) [AV.v (Value.bool true), AV.v (Value.int IntKind.u8 (↑(camN s) : Int)), AV.v (Value.bool (decide (s.all < (0 : Int)))), AV.lst (dgw s.all.natAbs).length (wL (dgw s.all.natAbs))])]), [AV.v (Value.bool true), AV.v (Value.int IntKind.u8 (↑(camN s) : Int)), AV.v (Value.bool (decide (s.all < (0 : Int)))), AV.lst (dgw s.all.natAbs).length (wL (dgw s.all.natAbs))] = [AV.v (Value.bool true), AV.v (Value.int IntKind.u8 (↑(camN s) : Int)), AV.v (Value.bool (decide (s.all < (0 : Int)))), AV.lst (dgw s.all.natAbs).length (wL (dgw s.all.natAbs))], some (AV.v (Value.bool (decide (s.all < (0 : Int))))) = some (AV.v (Value.bool false)), ((dgw s.all.natAbs).length = (dgw s.all.natAbs).length ∧ wL (dgw s.all.natAbs) = wL (dgw s.all.natAbs)) ∧ True, FnOk Try.prog (149 : Nat) (Inst.mk [AV.lst (dgw s.all.natAbs).length (wL (dgw s.all.natAbs))] [] (AV.v (Value.int IntKind.i64 (↑n : Int))) []), IntKind.i64.wrap ((↑n : Int).tdiv (32 : Int)) = (↑(n / (32 : Nat)) : Int), (32 : Int) ≠ (0 : Int), IntKind.u8.wrap (↑(n / (32 : Nat)) : Int) = (↑(n / (32 : Nat)) : Int), IntKind.i64.wrap ((↑(dgw s.all.natAbs).length : Int) - (↑(n / (32 : Nat)) : Int)) = (↑((dgw s.all.natAbs).length - n / (32 : Nat)) : Int), IntKind.u8.wrap (↑((dgw s.all.natAbs).length - n / (32 : Nat)) : Int) = (↑((dgw s.all.natAbs).length - n / (32 : Nat)) : Int), IntKind.i64.wrap ((↑(dgw s.all.natAbs).length : Int) - (1 : Int)) = (↑(dgw s.all.natAbs).length : Int) - (1 : Int), LoopOk Try.prog (loopBody Try.f86 (9 : Nat)) (ebInv (↑(camN s) : Int) s.all (flN s) (dgw s.all.natAbs) (0 : Nat)) (Exit.exit (0 : Nat)) (ebInv (↑(camN s) : Int) s.all (flN s) (dgw s.all.natAbs) ((dgw s.all.natAbs).length - lz (dgw s.all.natAbs))), (1000 : Nat) = (1000 : Nat) ∧ (0 : Nat) = (0 : Nat), (↑(n / (32 : Nat)) : Int) = (↑(lz (dgw s.all.natAbs)) : Int), (38 : Nat) = (38 : Nat) ∧ (0 : Nat) = (0 : Nat), (↑(dgw s.all.natAbs).length : Int) - (1 : Int) = (↑(dgw s.all.natAbs).length : Int) - (1 : Int) - (↑(0 : Nat) : Int), [AV.v (Value.bool true), AV.v (Value.int IntKind.u8 (↑(camN s) : Int)), AV.v (Value.bool (decide (s.all < (0 : Int)))), AV.lst (dgw s.all.natAbs).length (wL (dgw s.all.natAbs))] = [AV.v (Value.bool true), AV.v (Value.int IntKind.u8 (↑(camN s) : Int)), AV.v (Value.bool (decide (s.all < (0 : Int)))), AV.lst (dgw s.all.natAbs).length (wL (dgw s.all.natAbs))], (3 : Nat) = (3 : Nat) ∧ (0 : Nat) = (0 : Nat) ∧ [AV.v (Value.int IntKind.u8 (↑(camN s) : Int)), AV.v (Value.int IntKind.u8 (↑(n / (32 : Nat)) : Int)), AV.v (Value.int IntKind.u8 (↑((dgw s.all.natAbs).length - n / (32 : Nat)) : Int))] = [AV.v (Value.int IntKind.u8 (↑(flN s) : Int)), AV.v (Value.int IntKind.u8 (↑(lz (dgw s.all.natAbs)) : Int)), AV.v (Value.int IntKind.u8 (↑((dgw s.all.natAbs).length - lz (dgw s.all.natAbs)) : Int))]] (by kernel_rfl) ?_
    ((repeat' refine And.intro ?_ ?_); (omega); rotate_left 1; (iterate 3 (with_reducible rfl)); (exact True.intro); ((show FnOk _ _ _; assumption)); (with_reducible rfl); ((refine someB ?_; with_reducible assumption)); (iterate 2 (with_reducible rfl)); (exact True.intro); ((show FnOk _ _ _; assumption)); (exact tdivI _ _ _ (by rfl) (by omega)); (omega); ((rw [IntKind.wrap_u8]; omega)); ((rw [Wi _ (by omega)]; omega)); ((rw [IntKind.wrap_u8]; omega)); (exact Wi _ (by omega)); (with_reducible assumption); (iterate 2 (with_reducible rfl)); (omega); (iterate 2 (with_reducible rfl)); (omega); (iterate 3 (with_reducible rfl)); rotate_left 1; (exact True.intro))
    all_goals first | (rw [hby]; done) | (rw [hn, hz0, hfl]; rfl) | (rw [hn, hfl]) | (rw [hn, hfl]; rfl)
/-! ### bushelref05's -/
end Go.Proofs.Ytfhmaincnlaapaa.Sy
namespace Go.Proofs.Ytfhmaincnlaapaa
set_option linter.unusedVariables false

/-- how many bytes a number below 2^64 has (none: 0) -/
def wdF : Nat → Nat → Nat
  | 0, _ => 0
  | f + 1, x => if x = 0 then 0 else wdF f (x / 256) + 1
def wd (x : Nat) : Nat := wdF 8 x
end Go.Proofs.Ytfhmaincnlaapaa
namespace Go.Proofs.Ytfhmaincnlaapaa
open Go.ChangeShapes Go.WideShapes Go.ChangeAt Go.RowKit
set_option linter.unusedVariables false

end Go.Proofs.Ytfhmaincnlaapaa
namespace Go.Proofs.Ytfhmaincnlaapaa
set_option linter.unusedVariables false

theorem snoc_ind {α : Type} {p : List α → Prop} (h0 : p []) (h1 : ∀ l b, p l → p (l ++ [b])) (l : List α) : p l := by
  have h : ∀ r : List α, p r.reverse := by
    intro r
    induction r with
    | nil => exact h0
    | cons b r ih => rw [List.reverse_cons]; exact h1 _ _ ih
  have := h l.reverse
  rwa [List.reverse_reverse] at this
/-- the number that bytes are, the highest first -/
def bv (l : List UInt8) : Nat := l.foldl (fun x b => x * 256 + b.toNat) 0
theorem bv_snoc (l : List UInt8) (b : UInt8) : bv (l ++ [b]) = bv l * 256 + b.toNat := by simp [bv]
theorem bv_lt (l : List UInt8) : bv l < 256 ^ l.length := by
  refine snoc_ind (p := fun l => bv l < 256 ^ l.length) (by simp [bv]) (fun l b ih => ?_) l
  rw [bv_snoc, List.length_append, List.length_singleton, Nat.pow_succ]
  have := b.toNat_lt
  omega
theorem bv_take (l : List UInt8) (i : Nat) (h : i < l.length) : bv (l.take (i + 1)) = bv (l.take i) * 256 + l[i].toNat := by
  rw [List.take_succ_eq_append_getElem h, bv_snoc]
end Go.Proofs.Ytfhmaincnlaapaa
namespace Go.Proofs.Ytfhmaincnlaapaa
open Go.ChangeShapes Go.WideShapes Go.ChangeAt Go.RowKit
set_option linter.unusedVariables false

end Go.Proofs.Ytfhmaincnlaapaa
namespace Go.Proofs.Ytfhmaincnlaapaa
open Go.ChangeShapes Go.WideShapes Go.ChangeAt Go.RowKit
set_option linter.unusedVariables false

/-- THE WRITER AT BLOCK g: what was laid; all of it lies from block base on -/
def OutS (w : World) (base g : Nat) (l : List UInt8) : Prop :=
  base ≤ g ∧ base ≤ w.heap.size ∧ ∃ v, Blk w g 216 #[.bool true, v] ∧ w.ownsRow base 5 1 v l.length (u8s l)
theorem OutS.lt {w : World} {base g : Nat} {l : List UInt8} (h : OutS w base g l) : g < w.heap.size := by obtain ⟨_, _, v, hb, _⟩ := h; exact hb.lt
theorem OutS.drw {w w' : World} {base g : Nat} {l : List UInt8} (h : OutS w base g l) (k : Drw w w') : OutS w' base g l := by obtain ⟨n, rfl⟩ := k; exact h
/-- all that is new lies behind what was there -/
theorem OutS.below {w w' : World} {base g : Nat} {l : List UInt8} (h : OutS w base g l) (hb : Below w.heap.size w w') : OutS w' base g l := by
  obtain ⟨h1, h2, v, hB, ho⟩ := h
  exact ⟨h1, Nat.le_trans h2 hb.size, v, hB.below hb hB.lt, own_below ho hb (Nat.le_refl _)⟩

end Go.Proofs.Ytfhmaincnlaapaa
namespace Go.Proofs.Ytfhmaincnlaapaa
open Go.ChangeShapes Go.WideShapes Go.ChangeAt Go.RowKit
set_option linter.unusedVariables false

/-- THE READER AT BLOCK g: its bytes, its place, its fault -/
def InS (w : World) (g : Nat) (t : List UInt8) (p e : Nat) : Prop :=
  ∃ A c, Blk w g 211 #[.bool true, .slice A t.length c, .int .i64 (p : Int), .int .i64 (e : Int)] ∧ Rd w g 1 A t.length (u8s t) ∧ t.length ≤ c ∧ c ≤ maxLen ∧ p ≤ t.length
section
variable {w w' : World} {g p e : Nat} {t : List UInt8}
theorem InS.lt (h : InS w g t p e) : g < w.heap.size := by obtain ⟨A, c, hb, _⟩ := h; exact hb.lt
theorem InS.drw (h : InS w g t p e) (k : Drw w w') : InS w' g t p e := by
  obtain ⟨n, rfl⟩ := k; exact h
theorem InS.below {B : Nat} (h : InS w g t p e) (hb : Below B w w') (hg : g < B) : InS w' g t p e := by
  obtain ⟨A, c, h1, h2, h3⟩ := h
  exact ⟨A, c, h1.below hb hg, h2.keep fun q hq => hb.cell (by omega), h3⟩
end

theorem InS.move {w : World} {g : Nat} {t : List UInt8} {p e : Nat} (h : InS w g t p e) (p' : Nat) (hp : p' ≤ t.length) : InS (w.setCell ⟨g, 2, none⟩ (.int .i64 (p' : Int))) g t p' e := by
  obtain ⟨A, c, hb, hR, h1, h2, h3⟩ := h
  have := hb.set_ 2 (.int .i64 (p' : Int))
  exact ⟨A, c, by simpa using this, hR.keep fun q hq => World.cell?_setCell_other w _ q _ (fun e => by subst e; simp at hq), h1, h2, hp⟩
theorem Only.set1 (w : World) (g i : Nat) (u : Value) : Only g w (w.setCell ⟨g, i, none⟩ u) := (Only.refl g w).set_ (p := ⟨g, i, none⟩) (.inl rfl) u

end Go.Proofs.Ytfhmaincnlaapaa
namespace Go.Proofs.Ytfhmaincnlaapaa
open Go.ChangeShapes Go.WideShapes Go.ChangeAt Go.RowKit
set_option linter.unusedVariables false

end Go.Proofs.Ytfhmaincnlaapaa
namespace Go.Proofs.Ytfhmaincnlaapaa
open Go.ChangeShapes Go.WideShapes Go.ChangeAt Go.RowKit
set_option linter.unusedVariables false

/-- the fault behind a read: the one that there was, the getter's, the bound's -/
def stepE (e er er2 : Nat) : Nat := if e ≠ 0 then e else if er ≠ 0 then er else er2
end Go.Proofs.Ytfhmaincnlaapaa
namespace Go.Proofs.Ytfhmaincnlaapaa
open Go.ChangeShapes Go.WideShapes Go.ChangeAt Go.RowKit
set_option linter.unusedVariables false

end Go.Proofs.Ytfhmaincnlaapaa
namespace Go.Proofs.Ytfhmaincnlaapaa
open Go.ChangeShapes Go.WideShapes Go.ChangeAt Go.RowKit
set_option linter.unusedVariables false

theorem flat_len {α : Type} (f : α → List Value) (s : Nat) (hs : ∀ x, (f x).length = s) (l : List α) : (l.flatMap f).length = l.length * s := by
  induction l with
  | nil => simp
  | cons x l ih => rw [List.flatMap_cons, List.length_append, hs, ih, List.length_cons, Nat.succ_mul]; omega

section
variable {w w' : World} {B n : Nat} {A : Option Addr} {l : List (Nat × Int)}
end

theorem one_of {p : Nat → Prop} (h : p 0) : ∀ j, j < 1 → p j := fun j hj => by obtain rfl : j = 0 := by omega
                                                                               exact h
theorem rd_drw {w w' : World} {B size n : Nat} {A : Option Addr} {xs : List Value} (h : Rd w B size A n xs) (k : Drw w w') : Rd w' B size A n xs := by obtain ⟨m, rfl⟩ := k; exact h
end Go.Proofs.Ytfhmaincnlaapaa
namespace Go.Proofs.Ytfhmaincnlaapaa
open Go.ChangeShapes Go.WideShapes Go.ChangeAt Go.RowKit
set_option linter.unusedVariables false

structure Sht where
  k : Int
  a : Nat
  b : Nat
  d : List UInt8
def shC (s : Sht) (v : Value) : List Value := [.int .i64 s.k, .int .u64 (s.a : Int), .int .u64 (s.b : Int), v]
theorem shC_len (s : Sht) (v : Value) : (shC s v).length = 4 := rfl

/-- the cells of a list of sheets; each body reads as its bytes, below block B -/
def ShR (w : World) (B : Nat) : List Sht → List Value → Prop
  | [], xs => xs = []
  | s :: ss, xs => ∃ A c rest, xs = shC s (.slice A s.d.length c) ++ rest ∧ Rd w B 1 A s.d.length (u8s s.d) ∧ s.d.length ≤ c ∧ c ≤ maxLen ∧ ShR w B ss rest
/-- the cells of a list of sheets whose bodies are the call's own, each in a block below B -/
def ShO (w : World) (base B : Nat) : List Sht → List Value → Prop
  | [], xs => xs = []
  | s :: ss, xs => ∃ v rest, xs = shC s v ++ rest ∧ w.ownsRow base 5 1 v s.d.length (u8s s.d) ∧ (∀ k, v.ownBlock = some k → k < B) ∧ ShO w base B ss rest
theorem ShO.map {w w' : World} {base B B' : Nat} {ss : List Sht} {xs : List Value} (h : ShO w base B ss xs) (hB : B ≤ B')
    (hk : ∀ v n ys, w.ownsRow base 5 1 v n ys → (∀ k, v.ownBlock = some k → k < B) → w'.ownsRow base 5 1 v n ys) : ShO w' base B' ss xs := by
  induction ss generalizing xs with
  | nil => exact h
  | cons s ss ih =>
    obtain ⟨v, rest, rfl, ho, hl, hr⟩ := h
    exact ⟨v, rest, rfl, hk _ _ _ ho hl, fun k hk => Nat.lt_of_lt_of_le (hl k hk) hB, ih hr⟩
theorem ShO.snoc {w : World} {base B : Nat} {ss : List Sht} {xs : List Value} {s : Sht} {v : Value} (h : ShO w base B ss xs) (ho : w.ownsRow base 5 1 v s.d.length (u8s s.d)) (hl : ∀ k, v.ownBlock = some k → k < B) :
    ShO w base B (ss ++ [s]) (xs ++ shC s v) := by
  induction ss generalizing xs with
  | nil => cases h; exact ⟨v, [], by simp, ho, hl, rfl⟩
  | cons s' ss ih =>
    obtain ⟨v', rest, rfl, ho', hl', hr⟩ := h
    exact ⟨v', rest ++ shC s v, by rw [List.append_assoc], ho', hl', ih hr⟩
theorem ShO.len {w : World} {base B : Nat} {ss : List Sht} {xs : List Value} (h : ShO w base B ss xs) : xs.length = ss.length * 4 := by
  induction ss generalizing xs with
  | nil => cases h; rfl
  | cons s ss ih =>
    obtain ⟨v, rest, rfl, _, _, hr⟩ := h
    rw [List.length_append, shC_len, ih hr, List.length_cons]; omega
theorem ShR.len {w : World} {B : Nat} {ss : List Sht} {xs : List Value} (h : ShR w B ss xs) : xs.length = ss.length * 4 := by
  induction ss generalizing xs with
  | nil => cases h; rfl
  | cons s ss ih =>
    obtain ⟨A, c, rest, rfl, _, _, _, hr⟩ := h
    rw [List.length_append, shC_len, ih hr, List.length_cons]; omega
theorem ShR.keep {w w' : World} {B B' : Nat} {ss : List Sht} {xs : List Value} (h : ShR w B ss xs) (hb : Below B w w') (hB : B ≤ B') : ShR w' B' ss xs := by
  induction ss generalizing xs with
  | nil => exact h
  | cons s ss ih =>
    obtain ⟨A, c, rest, rfl, hR, h1, h2, hr⟩ := h
    exact ⟨A, c, rest, rfl, (hR.below hb).more hB, h1, h2, ih hr⟩
theorem ShR.get {w : World} {B : Nat} {ss : List Sht} {xs : List Value} (h : ShR w B ss xs) (i : Nat) (hi : i < ss.length) :
    ∃ A c, xs[i * 4]? = some (.int .i64 ss[i].k) ∧ xs[i * 4 + 1]? = some (.int .u64 (ss[i].a : Int)) ∧ xs[i * 4 + 2]? = some (.int .u64 (ss[i].b : Int)) ∧ xs[i * 4 + 3]? = some (.slice A ss[i].d.length c) ∧
      Rd w B 1 A ss[i].d.length (u8s ss[i].d) ∧ ss[i].d.length ≤ c ∧ c ≤ maxLen := by
  induction ss generalizing xs i with
  | nil => simp at hi
  | cons s ss ih =>
    obtain ⟨A, c, rest, rfl, hR, h1, h2, hr⟩ := h
    cases i with
    | zero => exact ⟨A, c, rfl, rfl, rfl, rfl, hR, h1, h2⟩
    | succ i =>
      obtain ⟨A', c', e0, e1, e2, e3, r⟩ := ih hr i (by simpa using hi)
      have sh : ∀ j, (shC s (.slice A s.d.length c) ++ rest)[(i + 1) * 4 + j]? = rest[i * 4 + j]? := fun j => by
        rw [List.getElem?_append_right (by rw [shC_len]; omega), shC_len, show (i + 1) * 4 + j - 4 = i * 4 + j from by omega]
      exact ⟨A', c', (sh 0).trans e0, (sh 1).trans e1, (sh 2).trans e2, (sh 3).trans e3, r⟩

section
variable {P : Program}
end
end Go.Proofs.Ytfhmaincnlaapaa
namespace Go.Proofs.Ytfhmaincnlaapaa
open Go.ChangeShapes Go.WideShapes Go.ChangeAt Go.RowKit
set_option linter.unusedVariables false

end Go.Proofs.Ytfhmaincnlaapaa
namespace Go.Proofs.Ytfhmaincnlaapaa
open Go.ChangeShapes Go.WideShapes Go.ChangeAt Go.RowKit
set_option linter.unusedVariables false

section
variable {P : Program}
end

end Go.Proofs.Ytfhmaincnlaapaa
namespace Go.Proofs.Ytfhmaincnlaapaa
open Go.ChangeShapes Go.WideShapes Go.ChangeAt Go.RowKit
set_option linter.unusedVariables false

end Go.Proofs.Ytfhmaincnlaapaa
namespace Go.Proofs.Ytfhmaincnlaapaa
open Go.ChangeShapes Go.WideShapes Go.ChangeAt Go.RowKit
set_option linter.unusedVariables false

/-- what an append comes to -/
noncomputable def appR (P : Program) (W : World) (t ty : TypeId) (s x : Value) : Value × World := match (Builtin.append_ #[t, t] ty #[s, x]).run P W with | .ok v w' => (v, w') | _ => (undef, W)
def okApp (P : Program) (W : World) (t ty : TypeId) (s x : Value) : Prop := ∃ v w', (Builtin.append_ #[t, t] ty #[s, x]).run P W = .ok v w'
theorem appR_of {P : Program} {W : World} {t ty : TypeId} {s x v : Value} {w' : World} (h : (Builtin.append_ #[t, t] ty #[s, x]).run P W = .ok v w') : okApp P W t ty s x ∧ (appR P W t ty s x).1 = v ∧ (appR P W t ty s x).2 = w' := by
  refine ⟨⟨v, w', h⟩, ?_, ?_⟩ <;> · unfold appR; rw [h]
theorem wp_app_rule {P : Program} {dst : Option Tmp} {s x : Operand} {t ty : TypeId} {pos : String} {after : Array Edge} {g : Option (Nat × Bool)} {a : Act} {W : World} {K : Act → World → Prop} {Q : Exit → Act → World → Prop}
    (h : okApp P W t ty (a.eval s) (a.eval x)) :
    Oper.wp P ⟨dst, .call { callee := .builtin .append, args := #[s, x], argTypes := #[t, t] }, ty, pos, after, g⟩ a W K Q = K (a.put dst (appR P W t ty (a.eval s) (a.eval x)).1) (appR P W t ty (a.eval s) (a.eval x)).2 := by
  obtain ⟨v, w', hr⟩ := h
  obtain ⟨_, e1, e2⟩ := appR_of hr
  rw [e1, e2]
  unfold Oper.wp execOp
  simp only [resolve, invoke, builtin, Sem.run_bind, Sem.run_pure, Result.andThen_ok, List.map_toArray, List.map_cons, List.map_nil, hr]
  rfl
end Go.Proofs.Ytfhmaincnlaapaa
namespace Go.Proofs.Ytfhmaincnlaapaa
open Go.ChangeShapes Go.WideShapes Go.ChangeAt Go.RowKit
set_option linter.unusedVariables false

/-- THE PACK AT BLOCK g: the sheets that are done; how many things and which bytes the next one has -/
def PkS (w : World) (base g : Nat) (kd : Int) (b : Nat) (ss : List Sht) (n : Nat) (d : List UInt8) : Prop :=
  base ≤ g ∧ ∃ bv ov Bd xs, Blk w g 107 #[.int .i64 kd, .int .u64 (b : Int), bv, .int .u64 (n : Int), ov] ∧ base ≤ Bd ∧ Bd ≤ w.heap.size ∧
    w.ownsRow Bd 5 1 bv d.length (u8s d) ∧ w.ownsRow base 55 4 ov ss.length xs ∧ ShO w base Bd ss xs
theorem PkS.lt {w : World} {base g n b : Nat} {kd : Int} {ss : List Sht} {d : List UInt8} (h : PkS w base g kd b ss n d) : g < w.heap.size := by obtain ⟨_, bv, ov, Bd, xs, hb, _⟩ := h; exact hb.lt
theorem PkS.below {w w' : World} {base g n b : Nat} {kd : Int} {ss : List Sht} {d : List UInt8} (h : PkS w base g kd b ss n d) (hb : Below w.heap.size w w') : PkS w' base g kd b ss n d := by
  obtain ⟨h0, bv, ov, Bd, xs, hB, h1, h2, h3, h4, h5⟩ := h
  exact ⟨h0, bv, ov, Bd, xs, hB.below hb hB.lt, h1, Nat.le_trans h2 hb.size, own_below h3 hb (Nat.le_refl _), own_below h4 hb (Nat.le_refl _), h5.map (Nat.le_refl _) fun v n ys ho _ => own_below ho hb (Nat.le_refl _)⟩

attribute [local go_sem ↓] wp_app_rule
end Go.Proofs.Ytfhmaincnlaapaa
namespace Go.Proofs.Ytfhmaincnlaapaa
open Go.ChangeShapes Go.WideShapes Go.ChangeAt Go.RowKit
set_option linter.unusedVariables false

/-- the pack's state: sheets done, how many things, their bytes -/
abbrev Pst := List Sht × Nat × List UInt8
def pput (kd : Int) (b : Nat) (st : Pst) (k : List UInt8) (brk : Bool) : Pst :=
  if brk = true ∨ 1001 < st.2.2.length + k.length then (if 0 < st.2.1 then st.1 ++ [⟨kd, st.2.1, b, st.2.2⟩] else st.1, 1, k) else (st.1, st.2.1 + 1, st.2.2 ++ k)
end Go.Proofs.Ytfhmaincnlaapaa
namespace Go.Proofs.Ytfhmaincnlaapaa
open Go.ChangeShapes Go.WideShapes Go.ChangeAt Go.RowKit
set_option linter.unusedVariables false

theorem bl_trans : ∀ {a b c : List UInt8}, Op.bytesLess a b = true → Op.bytesLess b c = true → Op.bytesLess a c = true
  | _, [], _, h, _ => by cases ‹List UInt8› <;> simp [Op.bytesLess] at h
  | _, _ :: _, [], _, h => by simp [Op.bytesLess] at h
  | [], _ :: _, _ :: _, _, _ => by simp [Op.bytesLess]
  | a :: x, b :: y, c :: z, h1, h2 => by
    simp only [Op.bytesLess, Bool.or_eq_true, Bool.and_eq_true, decide_eq_true_iff, beq_iff_eq] at h1 h2 ⊢
    rcases h1 with h1 | ⟨rfl, h1⟩
    · rcases h2 with h2 | ⟨rfl, h2⟩
      · exact .inl (UInt8.lt_trans h1 h2)
      · exact .inl h1
    · rcases h2 with h2 | ⟨rfl, h2⟩
      · exact .inl h2
      · exact .inr ⟨rfl, bl_trans h1 h2⟩
theorem bl_tri : ∀ {a b : List UInt8}, Op.bytesLess a b = false → a ≠ b → Op.bytesLess b a = true
  | [], [], _, h => absurd rfl h
  | [], _ :: _, h, _ => by simp [Op.bytesLess] at h
  | _ :: _, [], _, _ => by simp [Op.bytesLess]
  | a :: x, b :: y, h1, h2 => by
    simp only [Op.bytesLess, Bool.or_eq_false_iff, decide_eq_false_iff_not, Bool.and_eq_false_iff, beq_eq_false_iff_ne, ne_eq] at h1
    simp only [Op.bytesLess, Bool.or_eq_true, Bool.and_eq_true, decide_eq_true_iff, beq_iff_eq]
    obtain ⟨h3, h4⟩ := h1
    by_cases e : a = b
    · subst e
      rcases h4 with h4 | h4
      · exact absurd rfl h4
      · exact .inr ⟨rfl, bl_tri h4 (fun e => h2 (by rw [e]))⟩
    · exact .inl (by
        have h5 : ¬ a.toNat < b.toNat := fun h => h3 (UInt8.lt_iff_toNat_lt.2 h)
        have h6 : a.toNat ≠ b.toNat := fun h => e (UInt8.toNat_inj.1 h)
        exact UInt8.lt_iff_toNat_lt.2 (by omega))
/-- the words -/
def wordsL : List ByteArray := [⟨#[97, 110, 100]⟩, ⟨#[97, 115, 99]⟩, ⟨#[98, 121]⟩, ⟨#[99, 111, 117, 110, 116]⟩, ⟨#[100, 101, 115, 99]⟩, ⟨#[100, 101, 118]⟩, ⟨#[105, 110]⟩, ⟨#[108, 105, 109, 105, 116]⟩, ⟨#[109, 97, 120]⟩, ⟨#[109, 101, 97, 110]⟩, ⟨#[109, 105, 110]⟩, ⟨#[111, 114, 100, 101, 114]⟩, ⟨#[115, 101, 108, 101, 99, 116]⟩, ⟨#[115, 104, 97, 114, 101]⟩, ⟨#[115, 117, 109]⟩, ⟨#[119, 104, 101, 114, 101]⟩]
abbrev strs (l : List ByteArray) : List Value := l.map Value.string
theorem wordsL_len : wordsL.length = 16 := rfl
/-- is a text among those? -/
def memB (l : List ByteArray) (s : ByteArray) : Bool := l.any fun x => x.toList == s.toList
theorem Rd.str_len {w : World} {B n : Nat} {A : Option Addr} {l : List ByteArray} (h : Rd w B 1 A n (strs l)) : n = l.length := by have := h.1; simp at this; omega
theorem Rd.str {w : World} {B n : Nat} {A : Option Addr} {l : List ByteArray} (h : Rd w B 1 A n (strs l)) {k : Nat} (hk : k < l.length) : ∃ a, A = some a ∧ a.block < B ∧ w.cell? (a.add k) = some (.string l[k]) := by
  obtain ⟨a, rfl, hb, hc⟩ := h.2 (by rw [h.str_len]; omega)
  exact ⟨a, rfl, hb, hc k _ (by simp [strs, hk])⟩
/-- where a text stands first, or -1 -/
def PlaceIs (l : List ByteArray) (s : ByteArray) (z : Int) : Prop := (z = -1 ∧ memB l s = false) ∨ (0 ≤ z ∧ z < (l.length : Int) ∧ memB l s = true)
end Go.Proofs.Ytfhmaincnlaapaa
namespace Go.Proofs.Ytfhmaincnlaapaa
open Go.ChangeShapes Go.WideShapes Go.ChangeAt Go.RowKit
set_option linter.unusedVariables false

theorem words_sorted : ∀ i j : Fin 16, i.1 < j.1 → Op.bytesLess (wordsL[i.1]'(by have := i.2; have := wordsL_len; omega)).toList (wordsL[j.1]'(by have := j.2; have := wordsL_len; omega)).toList = true := by decide +kernel
theorem words_lt (i j : Nat) (hij : i < j) (hj : j < wordsL.length) : Op.bytesLess (wordsL[i]'(by omega)).toList wordsL[j].toList = true :=
  words_sorted ⟨i, by have := wordsL_len; omega⟩ ⟨j, by have := wordsL_len; omega⟩ hij
/-- what a search by halves knows -/
def Half (s : ByteArray) (lo hi : Nat) : Prop := (∀ j (hj : j < wordsL.length), j < lo → Op.bytesLess wordsL[j].toList s.toList = true) ∧ (∀ j (hj : j < wordsL.length), hi ≤ j → Op.bytesLess s.toList wordsL[j].toList = true)
theorem Half.up {s : ByteArray} {lo hi mid : Nat} (h : Half s lo hi) (hm : mid < wordsL.length) (hl : Op.bytesLess wordsL[mid].toList s.toList = true) : Half s (mid + 1) hi :=
  ⟨fun j hj hjm => by
    rcases Nat.lt_or_ge j mid with h1 | h1
    · exact bl_trans (words_lt j mid h1 hm) hl
    · obtain rfl : j = mid := by omega
      exact hl, h.2⟩
theorem Half.down {s : ByteArray} {lo hi mid : Nat} (h : Half s lo hi) (hm : mid < wordsL.length) (hl : Op.bytesLess wordsL[mid].toList s.toList = false) (hne : (wordsL[mid].toList == s.toList) = false) : Half s lo mid :=
  ⟨h.1, fun j hj hjm => by
    have h2 := bl_tri hl (by rw [beq_eq_false_iff_ne] at hne; exact hne)
    rcases Nat.eq_or_lt_of_le hjm with h1 | h1
    · subst h1; exact h2
    · exact bl_trans h2 (words_lt mid j h1 hj)⟩
end Go.Proofs.Ytfhmaincnlaapaa
namespace Go.Proofs.Ytfhmaincnlaapaa
open Go.ChangeShapes Go.WideShapes Go.ChangeAt Go.RowKit
set_option linter.unusedVariables false

def smallC (c : UInt8) : Bool := decide (97 ≤ c.toNat) && decide (c.toNat ≤ 122)
def otherC (c : UInt8) : Bool := (decide (48 ≤ c.toNat) && decide (c.toNat ≤ 57)) || decide (c.toNat = 95)
def okC (c : UInt8) : Bool := smallC c || otherC c
/-- is a text a name? -/
def isB (s : ByteArray) : Bool := decide (1 ≤ s.size) && decide (s.size ≤ 16) && smallC (s.data.toList.headD 0) && s.data.toList.all okC && !memB wordsL s
end Go.Proofs.Ytfhmaincnlaapaa
namespace Go.Proofs.Ytfhmaincnlaapaa
open Go.ChangeShapes Go.WideShapes Go.ChangeAt Go.RowKit
set_option linter.unusedVariables false

theorem PlaceIs.two {l : List ByteArray} {s : ByteArray} {z : Int} (h : PlaceIs l s z) : (z < 0 ∧ memB l s = false) ∨ (0 ≤ z ∧ memB l s = true) := by
  rcases h with ⟨h1, h2⟩ | ⟨h1, _, h2⟩
  · exact .inl ⟨by omega, h2⟩
  · exact .inr ⟨h1, h2⟩
/-- does a text stand twice? -/
def dupTo (l : List ByteArray) (k : Nat) : Bool := (List.range k).any fun i => memB (l.take i) (l.getD i ⟨#[]⟩)
def dupB (l : List ByteArray) : Bool := dupTo l l.length
theorem dupTo_succ (l : List ByteArray) (k : Nat) (hk : k < l.length) : dupTo l (k + 1) = (dupTo l k || memB (l.take k) l[k]) := by
  unfold dupTo
  rw [List.range_succ, List.any_append]
  simp [List.getD, hk]
theorem dupTo_mono (l : List ByteArray) (k : Nat) (hk : k < l.length) (h : memB (l.take k) l[k] = true) : dupB l = true := by
  unfold dupB dupTo
  rw [List.any_eq_true]
  exact ⟨k, List.mem_range.2 hk, by rw [← h]; simp [List.getD, hk]⟩
/-- what a Twice tells -/
def TwIs (l : List ByteArray) (z : Int) : Prop := (z = -1 ∧ dupB l = false) ∨ (0 ≤ z ∧ dupB l = true)
end Go.Proofs.Ytfhmaincnlaapaa
namespace Go.Proofs.Ytfhmaincnlaapaa
open Go.ChangeShapes Go.WideShapes Go.ChangeAt Go.RowKit
set_option linter.unusedVariables false

section
variable {w w' : World} {g p e : Nat} {t : List UInt8}
end

/-- three new blocks, and some draws -/
def Lit3 (w w' : World) : Prop := ∃ c1 t1 c2 t2 c3 t3 k, w' = (((w.alloc (.cells c1 t1)).alloc (.cells c2 t2)).alloc (.cells c3 t3)).drewN k
theorem Lit3.below {w w' : World} (h : Lit3 w w') : Below w.heap.size w w' := by
  obtain ⟨_, _, _, _, _, _, k, rfl⟩ := h; exact belD (belA (belA (belA (belR w) _) _) _) k
end Go.Proofs.Ytfhmaincnlaapaa
