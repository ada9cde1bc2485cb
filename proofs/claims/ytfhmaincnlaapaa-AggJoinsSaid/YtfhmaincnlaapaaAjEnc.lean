/-
  WHAT A THING READS AS, AS A TREE: from things that stand below a block to trees, and back.
  bushelref05.Read on trees.
-/
import Derived.Test.YtfhmaincnlaapaaAjNumMath
import Derived.Test.YtfhmaincnlaapaaAjBufInU
import Derived.Test.YtfhmaincnlaapaaAjCellPure
import Derived.Test.YtfhmaincnlaapaaAjExactRead
namespace Go.Proofs.Ytfhmaincnlaapaa.Sy
open Go.ChangeShapes Go.WideShapes Go.ChangeAt Go.RowKit
set_option linter.unusedVariables false
set_option linter.unusedSimpArgs false
theorem wL_upd (l : List Nat) (j x : Nat) (h : j < l.length) : (wL l).take ((j : Int).toNat * 1) ++ [u3 x] ++ (wL l).drop ((j : Int).toNat * 1 + 1) = wL (l.set j x) := by
  rw [Int.toNat_natCast, Nat.mul_one]; exact wL_set l j x h
def bytT (l : List UInt8) : AV := .lst l.length (byL l)
theorem rd_byL (b : List UInt8) (k : Nat) (h : k < b.length) : rd1 false 1 (byL b) ((k : Int).toNat * 1) = some (.v (.int .u8 ((hd b k : Nat) : Int))) := by
  unfold rd1 byL hd
  simp [List.getD, h]
theorem hd_lt (b : List UInt8) (k : Nat) : hd b k < 256 := (b.getD k 0).toNat_lt
def zS : List AV := [bz false, bz false, bz false, bz false, bz false, bz false, .v (.slice none 0 0)]
def sumO (q : Nat) : Nat × AObj := (q, .cells 131 zS)
def rdS (b : List UInt8) (p g : Bool) (low n i : Nat) : List (Nat × AV) := [(0, bytT b), (2, .ptr 2 0), (4, .ptr 4 0), (5, iz (hd b 0 : Nat)), (6, bz p), (7, bz g), (8, iz (low : Nat)), (9, iz (n : Nat)), (10, .row 98 0), (11, iz (i : Nat))]
def rdK (b : List UInt8) (p g : Bool) (low n i k : Nat) : AS := ⟨(12, iz (k : Nat)) :: rdS b p g low n i, [sumO 2, sumO 4, rowW 98 (low + n) (wL (midP b (low + n) i k))], 195, []⟩
def rdE (e : Int) : AS := ⟨[(2, .ptr 2 0), (3, iz e)], [sumO 2], 195, []⟩
theorem midP_lenS (b : List UInt8) (m i k : Nat) (h : i < m) : (midP b m i k).length = m := by unfold midP; rw [List.length_set, magP_len _ _ _ (by omega)]
theorem midP_dg (b : List UInt8) (m i k : Nat) (h : i < m) : dg (midP b m i k) (m - 1 - i) = partB b i k := by
  unfold midP; exact dg_set_self _ _ _ (by rw [magP_len _ _ _ (by omega)]; omega)
theorem midP_setS (b : List UInt8) (m i k x : Nat) : (midP b m i k).set (m - 1 - i) (partB b i x) = midP b m i x := by unfold midP; rw [List.set_set]
theorem midP_full (b : List UInt8) (m i : Nat) (h : i < m) : midP b m i 4 = magP (wordB b) m (i + 1) := by
  unfold midP; rw [partB_four]; exact magP_succ _ _ _ h
theorem rdk_loop (b : List UInt8) (p g : Bool) (low n i : Nat) (hb : b.length ≤ 4611686018427387904) (hi : i < n) (hm : low + n ≤ 70) (hlen : 3 + 4 * i + 4 ≤ b.length) (k : {k : Nat // k ≤ 4}) : LoopOk Try.prog (loopBody Try.f73 23) (rdK b p g low n i k.1) (.exit 2) (rdK b p g low n i 4) := by
  refine LoopOk.of hmo (fun k : {k : Nat // k ≤ 4} => rdK b p g low n i k.1) (fun k => 4 - k.1) (fun k => ?_) k
  obtain ⟨k, hk⟩ := k
  rcases Nat.lt_or_eq_of_le hk with hlt | rfl
  · have h1 := midP_lenS b (low + n) i k (by omega)
    have h2 := midP_dg b (low + n) i k (by omega)
    have h3 := partB_lt b i k (by omega)
    have h4 : partB b i k < 16777216 := Nat.lt_of_lt_of_le h3 (Nat.le_trans (Nat.pow_le_pow_right (by decide) (show k ≤ 3 by omega)) (by decide))
    have h5 := hd_lt b (3 + 4 * i + k)
    have h6 := partB_succ b i k (by omega)
    have h7 := wL_len (midP b (low + n) i k)
    refine Round.on [(105, Hint.val (AV.v (Value.bool true))), (109, Hint.val (AV.v (Value.int IntKind.i64 (↑((4 : Nat) * i) : Int)))), (110, Hint.val (AV.v (Value.int IntKind.i64 (↑((3 : Nat) + (4 : Nat) * i) : Int)))), (112, Hint.val (AV.v (Value.int IntKind.i64 (↑((3 : Nat) + (4 : Nat) * i + k) : Int)))), (116, Hint.val (AV.v (Value.bool false))), (121, Hint.val (AV.v (Value.int IntKind.i64 (↑(low + n) : Int)))), (122, Hint.val (AV.v (Value.int IntKind.i64 (↑(low + n - (1 : Nat)) : Int)))), (124, Hint.val (AV.v (Value.int IntKind.i64 (↑(low + n - (1 : Nat) - i) : Int)))), (128, Hint.val (AV.v (Value.int IntKind.i64 (↑(low + n) : Int)))), (129, Hint.val (AV.v (Value.int IntKind.i64 (↑(low + n - (1 : Nat)) : Int)))), (131, Hint.val (AV.v (Value.int IntKind.i64 (↑(low + n - (1 : Nat) - i) : Int)))), (133, Hint.val (u3 (partB b i k))), (134, Hint.val (AV.v (Value.int IntKind.u32 (↑(partB b i k * (256 : Nat)) : Int)))), (138, Hint.val (AV.v (Value.int IntKind.u8 (↑(hd b ((3 : Nat) + (4 : Nat) * i + k)) : Int)))), (139, Hint.val (AV.v (Value.int IntKind.u32 (↑(hd b ((3 : Nat) + (4 : Nat) * i + k)) : Int)))), (140, Hint.val (u3 (partB b i (k + (1 : Nat))))), (107, Hint.val (AV.v (Value.int IntKind.i64 (↑(k + (1 : Nat)) : Int))))] [] ⟨k + 1, hlt⟩ [(↑(k + (1 : Nat)) : Int) = (↑(k + (1 : Nat)) : Int), b.length = b.length ∧ byL b = byL b, (2 : Nat) = (2 : Nat) ∧ (0 : Nat) = (0 : Nat), (4 : Nat) = (4 : Nat) ∧ (0 : Nat) = (0 : Nat), (↑(hd b (0 : Nat)) : Int) = (↑(hd b (0 : Nat)) : Int), p = p, g = g, (↑low : Int) = (↑low : Int), (↑n : Int) = (↑n : Int), (98 : Nat) = (98 : Nat) ∧ (0 : Nat) = (0 : Nat), (↑i : Int) = (↑i : Int), [AV.v (Value.bool false), AV.v (Value.bool false), AV.v (Value.bool false), AV.v (Value.bool false), AV.v (Value.bool false), AV.v (Value.bool false), AV.v (Value.slice none (0 : Nat) (0 : Nat))] = [AV.v (Value.bool false), AV.v (Value.bool false), AV.v (Value.bool false), AV.v (Value.bool false), AV.v (Value.bool false), AV.v (Value.bool false), AV.v (Value.slice none (0 : Nat) (0 : Nat))], [AV.v (Value.bool false), AV.v (Value.bool false), AV.v (Value.bool false), AV.v (Value.bool false), AV.v (Value.bool false), AV.v (Value.bool false), AV.v (Value.slice none (0 : Nat) (0 : Nat))] = [AV.v (Value.bool false), AV.v (Value.bool false), AV.v (Value.bool false), AV.v (Value.bool false), AV.v (Value.bool false), AV.v (Value.bool false), AV.v (Value.slice none (0 : Nat) (0 : Nat))], low + n = low + n ∧ (0 : Nat) = (0 : Nat) ∧ List.take ((↑(low + n - (1 : Nat) - i) : Int).toNat * (1 : Nat)) (wL (midP b (low + n) i k)) ++ [AV.v (Value.int IntKind.u32 (↑(partB b i (k + (1 : Nat))) : Int))] ++ List.drop ((↑(low + n - (1 : Nat) - i) : Int).toNat * (1 : Nat) + [AV.v (Value.int IntKind.u32 (↑(partB b i (k + (1 : Nat))) : Int))].length) (wL (midP b (low + n) i k)) = wL (midP b (low + n) i (k + (1 : Nat))), decide ((↑k : Int) < (4 : Int)) = true, IntKind.i64.wrap ((4 : Int) * (↑i : Int)) = (↑((4 : Nat) * i) : Int), IntKind.i64.wrap ((3 : Int) + (↑((4 : Nat) * i) : Int)) = (↑((3 : Nat) + (4 : Nat) * i) : Int), IntKind.i64.wrap ((↑((3 : Nat) + (4 : Nat) * i) : Int) + (↑k : Int)) = (↑((3 : Nat) + (4 : Nat) * i + k) : Int), decide ((↑b.length : Int) ≤ (↑((3 : Nat) + (4 : Nat) * i + k) : Int)) = false, IntKind.i64.wrap ((↑low : Int) + (↑n : Int)) = (↑(low + n) : Int), IntKind.i64.wrap ((↑(low + n) : Int) - (1 : Int)) = (↑(low + n - (1 : Nat)) : Int), IntKind.i64.wrap ((↑(low + n - (1 : Nat)) : Int) - (↑i : Int)) = (↑(low + n - (1 : Nat) - i) : Int), IntKind.i64.wrap ((↑low : Int) + (↑n : Int)) = (↑(low + n) : Int), IntKind.i64.wrap ((↑(low + n) : Int) - (1 : Int)) = (↑(low + n - (1 : Nat)) : Int), IntKind.i64.wrap ((↑(low + n - (1 : Nat)) : Int) - (↑i : Int)) = (↑(low + n - (1 : Nat) - i) : Int), (0 : Int) ≤ (↑(low + n - (1 : Nat) - i) : Int) ∧ (↑(low + n - (1 : Nat) - i) : Int) < (↑(low + n) : Int), rd1 false (1 : Nat) (wL (midP b (low + n) i k)) ((↑(low + n - (1 : Nat) - i) : Int).toNat * (1 : Nat)) = some (AV.v (Value.int IntKind.u32 (↑(partB b i k) : Int))), IntKind.u32.wrap ((↑(partB b i k) : Int) * (256 : Int)) = (↑(partB b i k * (256 : Nat)) : Int), (0 : Int) ≤ (↑((3 : Nat) + (4 : Nat) * i + k) : Int) ∧ (↑((3 : Nat) + (4 : Nat) * i + k) : Int) < (↑b.length : Int), rd1 false (1 : Nat) (byL b) ((↑((3 : Nat) + (4 : Nat) * i + k) : Int).toNat * (1 : Nat)) = some (AV.v (Value.int IntKind.u8 (↑(hd b ((3 : Nat) + (4 : Nat) * i + k)) : Int))), IntKind.u32.wrap (↑(hd b ((3 : Nat) + (4 : Nat) * i + k)) : Int) = (↑(hd b ((3 : Nat) + (4 : Nat) * i + k)) : Int), IntKind.u32.wrap ((↑(partB b i k * (256 : Nat)) : Int) + (↑(hd b ((3 : Nat) + (4 : Nat) * i + k)) : Int)) = (↑(partB b i (k + (1 : Nat))) : Int), (0 : Int) ≤ (↑(low + n - (1 : Nat) - i) : Int) ∧ (↑(low + n - (1 : Nat) - i) : Int) < (↑(low + n) : Int), (↑(low + n - (1 : Nat) - i) : Int).toNat * (1 : Nat) + [AV.v (Value.int IntKind.u32 (↑(partB b i (k + (1 : Nat))) : Int))].length ≤ (wL (midP b (low + n) i k)).length, IntKind.i64.wrap ((↑k : Int) + (1 : Int)) = (↑(k + (1 : Nat)) : Int)] (by kernel_rfl) (by show 4 - (k + 1) < 4 - k; omega) ?_
    ((repeat' refine And.intro ?_ ?_); (iterate 19 (with_reducible rfl)); rotate_left 1; ((with_reducible refine Dt ?_; omega)); (iterate 3 (exact Wi _ (by omega))); ((with_reducible refine Df ?_; omega)); (exact Wi _ (by omega)); (iterate 2 ((rw [Wi _ (by omega)]; omega))); (exact Wi _ (by omega)); (iterate 2 ((rw [Wi _ (by omega)]; omega))); (iterate 2 (omega)); rotate_left 1; ((rw [IntKind.wrap_u32]; omega)); (iterate 2 (omega)); rotate_left 1; (iterate 2 ((rw [IntKind.wrap_u32]; omega))); (iterate 2 (omega)); ((simp only [List.length_cons, List.length_nil]; omega)); (exact Wi _ (by omega)); (exact True.intro))
    all_goals first | (rw [← midP_setS b (low + n) i k (k + 1)]; exact wL_upd _ _ _ (by omega)) | (rw [← h2]; exact rd_wL _ _ (by omega)) | exact rd_byL _ _ (by omega) | skip
  · refine Round.out [(104, Hint.val (AV.v (Value.int IntKind.i64 (4 : Int))))] [] [(↑(4 : Nat) : Int) = (↑(4 : Nat) : Int), b.length = b.length ∧ byL b = byL b, (2 : Nat) = (2 : Nat) ∧ (0 : Nat) = (0 : Nat), (4 : Nat) = (4 : Nat) ∧ (0 : Nat) = (0 : Nat), (↑(hd b (0 : Nat)) : Int) = (↑(hd b (0 : Nat)) : Int), p = p, g = g, (↑low : Int) = (↑low : Int), (↑n : Int) = (↑n : Int), (98 : Nat) = (98 : Nat) ∧ (0 : Nat) = (0 : Nat), (↑i : Int) = (↑i : Int), [AV.v (Value.bool false), AV.v (Value.bool false), AV.v (Value.bool false), AV.v (Value.bool false), AV.v (Value.bool false), AV.v (Value.bool false), AV.v (Value.slice none (0 : Nat) (0 : Nat))] = [AV.v (Value.bool false), AV.v (Value.bool false), AV.v (Value.bool false), AV.v (Value.bool false), AV.v (Value.bool false), AV.v (Value.bool false), AV.v (Value.slice none (0 : Nat) (0 : Nat))], [AV.v (Value.bool false), AV.v (Value.bool false), AV.v (Value.bool false), AV.v (Value.bool false), AV.v (Value.bool false), AV.v (Value.bool false), AV.v (Value.slice none (0 : Nat) (0 : Nat))] = [AV.v (Value.bool false), AV.v (Value.bool false), AV.v (Value.bool false), AV.v (Value.bool false), AV.v (Value.bool false), AV.v (Value.bool false), AV.v (Value.slice none (0 : Nat) (0 : Nat))], low + n = low + n ∧ (0 : Nat) = (0 : Nat) ∧ wL (midP b (low + n) i (4 : Nat)) = wL (midP b (low + n) i (4 : Nat)), (↑(4 : Nat) : Int) = (4 : Int)] (by kernel_rfl) ?_
    ((repeat' refine And.intro ?_ ?_); (iterate 20 (with_reducible rfl)); (omega); (exact True.intro))
theorem rdk_no (b : List UInt8) (p g : Bool) (low n i : Nat) (hb : b.length ≤ 4611686018427387904) (hi : i < n) (hm : low + n ≤ 70) (hlen : b.length < 3 + 4 * i + 4) (k : {k : Nat // 3 + 4 * i + k ≤ b.length}) : LoopOk Try.prog (loopBody Try.f73 23) (rdK b p g low n i k.1) .ret (rdE 5) := by
  refine LoopOk.of hmo (fun k : {k : Nat // 3 + 4 * i + k ≤ b.length} => rdK b p g low n i k.1) (fun k => 4 - k.1) (fun k => ?_) k
  obtain ⟨k, hk⟩ := k
  rcases Nat.lt_or_eq_of_le hk with hlt | heq
  · have h1 := midP_lenS b (low + n) i k (by omega)
    have h2 := midP_dg b (low + n) i k (by omega)
    have h3 := partB_lt b i k (by omega)
    have h4 : partB b i k < 16777216 := Nat.lt_of_lt_of_le h3 (Nat.le_trans (Nat.pow_le_pow_right (by decide) (show k ≤ 3 by omega)) (by decide))
    have h5 := hd_lt b (3 + 4 * i + k)
    have h6 := partB_succ b i k (by omega)
    have h7 := wL_len (midP b (low + n) i k)
    refine Round.on [(105, Hint.val (AV.v (Value.bool true))), (109, Hint.val (AV.v (Value.int IntKind.i64 (↑((4 : Nat) * i) : Int)))), (110, Hint.val (AV.v (Value.int IntKind.i64 (↑((3 : Nat) + (4 : Nat) * i) : Int)))), (112, Hint.val (AV.v (Value.int IntKind.i64 (↑((3 : Nat) + (4 : Nat) * i + k) : Int)))), (116, Hint.val (AV.v (Value.bool false))), (121, Hint.val (AV.v (Value.int IntKind.i64 (↑(low + n) : Int)))), (122, Hint.val (AV.v (Value.int IntKind.i64 (↑(low + n - (1 : Nat)) : Int)))), (124, Hint.val (AV.v (Value.int IntKind.i64 (↑(low + n - (1 : Nat) - i) : Int)))), (128, Hint.val (AV.v (Value.int IntKind.i64 (↑(low + n) : Int)))), (129, Hint.val (AV.v (Value.int IntKind.i64 (↑(low + n - (1 : Nat)) : Int)))), (131, Hint.val (AV.v (Value.int IntKind.i64 (↑(low + n - (1 : Nat) - i) : Int)))), (133, Hint.val (u3 (partB b i k))), (134, Hint.val (AV.v (Value.int IntKind.u32 (↑(partB b i k * (256 : Nat)) : Int)))), (138, Hint.val (AV.v (Value.int IntKind.u8 (↑(hd b ((3 : Nat) + (4 : Nat) * i + k)) : Int)))), (139, Hint.val (AV.v (Value.int IntKind.u32 (↑(hd b ((3 : Nat) + (4 : Nat) * i + k)) : Int)))), (140, Hint.val (u3 (partB b i (k + (1 : Nat))))), (107, Hint.val (AV.v (Value.int IntKind.i64 (↑(k + (1 : Nat)) : Int))))] [] ⟨k + 1, hlt⟩ [(↑(k + (1 : Nat)) : Int) = (↑(k + (1 : Nat)) : Int), b.length = b.length ∧ byL b = byL b, (2 : Nat) = (2 : Nat) ∧ (0 : Nat) = (0 : Nat), (4 : Nat) = (4 : Nat) ∧ (0 : Nat) = (0 : Nat), (↑(hd b (0 : Nat)) : Int) = (↑(hd b (0 : Nat)) : Int), p = p, g = g, (↑low : Int) = (↑low : Int), (↑n : Int) = (↑n : Int), (98 : Nat) = (98 : Nat) ∧ (0 : Nat) = (0 : Nat), (↑i : Int) = (↑i : Int), [AV.v (Value.bool false), AV.v (Value.bool false), AV.v (Value.bool false), AV.v (Value.bool false), AV.v (Value.bool false), AV.v (Value.bool false), AV.v (Value.slice none (0 : Nat) (0 : Nat))] = [AV.v (Value.bool false), AV.v (Value.bool false), AV.v (Value.bool false), AV.v (Value.bool false), AV.v (Value.bool false), AV.v (Value.bool false), AV.v (Value.slice none (0 : Nat) (0 : Nat))], [AV.v (Value.bool false), AV.v (Value.bool false), AV.v (Value.bool false), AV.v (Value.bool false), AV.v (Value.bool false), AV.v (Value.bool false), AV.v (Value.slice none (0 : Nat) (0 : Nat))] = [AV.v (Value.bool false), AV.v (Value.bool false), AV.v (Value.bool false), AV.v (Value.bool false), AV.v (Value.bool false), AV.v (Value.bool false), AV.v (Value.slice none (0 : Nat) (0 : Nat))], low + n = low + n ∧ (0 : Nat) = (0 : Nat) ∧ List.take ((↑(low + n - (1 : Nat) - i) : Int).toNat * (1 : Nat)) (wL (midP b (low + n) i k)) ++ [AV.v (Value.int IntKind.u32 (↑(partB b i (k + (1 : Nat))) : Int))] ++ List.drop ((↑(low + n - (1 : Nat) - i) : Int).toNat * (1 : Nat) + [AV.v (Value.int IntKind.u32 (↑(partB b i (k + (1 : Nat))) : Int))].length) (wL (midP b (low + n) i k)) = wL (midP b (low + n) i (k + (1 : Nat))), decide ((↑k : Int) < (4 : Int)) = true, IntKind.i64.wrap ((4 : Int) * (↑i : Int)) = (↑((4 : Nat) * i) : Int), IntKind.i64.wrap ((3 : Int) + (↑((4 : Nat) * i) : Int)) = (↑((3 : Nat) + (4 : Nat) * i) : Int), IntKind.i64.wrap ((↑((3 : Nat) + (4 : Nat) * i) : Int) + (↑k : Int)) = (↑((3 : Nat) + (4 : Nat) * i + k) : Int), decide ((↑b.length : Int) ≤ (↑((3 : Nat) + (4 : Nat) * i + k) : Int)) = false, IntKind.i64.wrap ((↑low : Int) + (↑n : Int)) = (↑(low + n) : Int), IntKind.i64.wrap ((↑(low + n) : Int) - (1 : Int)) = (↑(low + n - (1 : Nat)) : Int), IntKind.i64.wrap ((↑(low + n - (1 : Nat)) : Int) - (↑i : Int)) = (↑(low + n - (1 : Nat) - i) : Int), IntKind.i64.wrap ((↑low : Int) + (↑n : Int)) = (↑(low + n) : Int), IntKind.i64.wrap ((↑(low + n) : Int) - (1 : Int)) = (↑(low + n - (1 : Nat)) : Int), IntKind.i64.wrap ((↑(low + n - (1 : Nat)) : Int) - (↑i : Int)) = (↑(low + n - (1 : Nat) - i) : Int), (0 : Int) ≤ (↑(low + n - (1 : Nat) - i) : Int) ∧ (↑(low + n - (1 : Nat) - i) : Int) < (↑(low + n) : Int), rd1 false (1 : Nat) (wL (midP b (low + n) i k)) ((↑(low + n - (1 : Nat) - i) : Int).toNat * (1 : Nat)) = some (AV.v (Value.int IntKind.u32 (↑(partB b i k) : Int))), IntKind.u32.wrap ((↑(partB b i k) : Int) * (256 : Int)) = (↑(partB b i k * (256 : Nat)) : Int), (0 : Int) ≤ (↑((3 : Nat) + (4 : Nat) * i + k) : Int) ∧ (↑((3 : Nat) + (4 : Nat) * i + k) : Int) < (↑b.length : Int), rd1 false (1 : Nat) (byL b) ((↑((3 : Nat) + (4 : Nat) * i + k) : Int).toNat * (1 : Nat)) = some (AV.v (Value.int IntKind.u8 (↑(hd b ((3 : Nat) + (4 : Nat) * i + k)) : Int))), IntKind.u32.wrap (↑(hd b ((3 : Nat) + (4 : Nat) * i + k)) : Int) = (↑(hd b ((3 : Nat) + (4 : Nat) * i + k)) : Int), IntKind.u32.wrap ((↑(partB b i k * (256 : Nat)) : Int) + (↑(hd b ((3 : Nat) + (4 : Nat) * i + k)) : Int)) = (↑(partB b i (k + (1 : Nat))) : Int), (0 : Int) ≤ (↑(low + n - (1 : Nat) - i) : Int) ∧ (↑(low + n - (1 : Nat) - i) : Int) < (↑(low + n) : Int), (↑(low + n - (1 : Nat) - i) : Int).toNat * (1 : Nat) + [AV.v (Value.int IntKind.u32 (↑(partB b i (k + (1 : Nat))) : Int))].length ≤ (wL (midP b (low + n) i k)).length, IntKind.i64.wrap ((↑k : Int) + (1 : Int)) = (↑(k + (1 : Nat)) : Int)] (by kernel_rfl) (by show 4 - (k + 1) < 4 - k; omega) ?_
    ((repeat' refine And.intro ?_ ?_); (iterate 19 (with_reducible rfl)); rotate_left 1; ((with_reducible refine Dt ?_; omega)); (iterate 3 (exact Wi _ (by omega))); ((with_reducible refine Df ?_; omega)); (exact Wi _ (by omega)); (iterate 2 ((rw [Wi _ (by omega)]; omega))); (exact Wi _ (by omega)); (iterate 2 ((rw [Wi _ (by omega)]; omega))); (iterate 2 (omega)); rotate_left 1; ((rw [IntKind.wrap_u32]; omega)); (iterate 2 (omega)); rotate_left 1; (iterate 2 ((rw [IntKind.wrap_u32]; omega))); (iterate 2 (omega)); ((simp only [List.length_cons, List.length_nil]; omega)); (exact Wi _ (by omega)); (exact True.intro))
    all_goals first | (rw [← midP_setS b (low + n) i k (k + 1)]; exact wL_upd _ _ _ (by omega)) | (rw [← h2]; exact rd_wL _ _ (by omega)) | exact rd_byL _ _ (by omega) | skip
  · refine Round.out [(105, Hint.val (AV.v (Value.bool true))), (109, Hint.val (AV.v (Value.int IntKind.i64 (↑((4 : Nat) * i) : Int)))), (110, Hint.val (AV.v (Value.int IntKind.i64 (↑((3 : Nat) + (4 : Nat) * i) : Int)))), (112, Hint.val (AV.v (Value.int IntKind.i64 (↑((3 : Nat) + (4 : Nat) * i + k) : Int)))), (116, Hint.val (AV.v (Value.bool true)))] [] [(2 : Nat) = (2 : Nat) ∧ (0 : Nat) = (0 : Nat), (5 : Int) = (5 : Int), [AV.v (Value.bool false), AV.v (Value.bool false), AV.v (Value.bool false), AV.v (Value.bool false), AV.v (Value.bool false), AV.v (Value.bool false), AV.v (Value.slice none (0 : Nat) (0 : Nat))] = [AV.v (Value.bool false), AV.v (Value.bool false), AV.v (Value.bool false), AV.v (Value.bool false), AV.v (Value.bool false), AV.v (Value.bool false), AV.v (Value.slice none (0 : Nat) (0 : Nat))], decide ((↑k : Int) < (4 : Int)) = true, IntKind.i64.wrap ((4 : Int) * (↑i : Int)) = (↑((4 : Nat) * i) : Int), IntKind.i64.wrap ((3 : Int) + (↑((4 : Nat) * i) : Int)) = (↑((3 : Nat) + (4 : Nat) * i) : Int), IntKind.i64.wrap ((↑((3 : Nat) + (4 : Nat) * i) : Int) + (↑k : Int)) = (↑((3 : Nat) + (4 : Nat) * i + k) : Int), decide ((↑b.length : Int) ≤ (↑((3 : Nat) + (4 : Nat) * i + k) : Int)) = true] (by kernel_rfl) ?_
    ((repeat' refine And.intro ?_ ?_); (iterate 4 (with_reducible rfl)); ((with_reducible refine Dt ?_; omega)); (iterate 3 (exact Wi _ (by omega))); ((with_reducible refine Dt ?_; omega)); (exact True.intro))
def rdI (b : List UInt8) (p g : Bool) (low n i : Nat) : AS := ⟨rdS b p g low n i, [sumO 2, sumO 4, rowW 98 (low + n) (wL (magP (wordB b) (low + n) i))], 195, []⟩
section
variable (b : List UInt8) (p g : Bool) (low n : Nat) (hb : b.length ≤ 4611686018427387904) (hm : low + n ≤ 70)
include hb hm
theorem rdi_on (e : Exit) (σ' : AS) (i : Nat) (hi : i < n) (hlen : 3 + 4 * i + 4 ≤ b.length) (hc : ¬ ((i = 0 ∨ i + 1 = n) ∧ wordB b i = 0)) (r : Nat) (h1) (h2 : i + 1 ≤ n ∧ wordsE b n (n - (i + 1)) = r) : Round Try.prog (loopBody Try.f73 20) (fun i : {i : Nat // i ≤ n ∧ wordsE b n (n - i) = r} => rdI b p g low n i.1) (fun i => n - i.1) e σ' ⟨i, h1⟩ := by
  have hl := rdk_loop b p g low n i hb hi hm hlen ⟨0, Nat.zero_le _⟩
  have hz := midP_zero b (low + n) i (by omega)
  have hf := midP_full b (low + n) i (by omega)
  have e1 := midP_lenS b (low + n) i 4 (by omega)
  have e2 := midP_dg b (low + n) i 4 (by omega)
  rw [partB_four] at e2
  have hw := wordB_lt b i
  have h7 := wL_len (midP b (low + n) i 4)
  refine Round.on [(101, Hint.val (AV.v (Value.bool true))), (145, Hint.gd), (146, Hint.gd), (147, Hint.gdv (AV.v (Value.int IntKind.i64 (↑(n - (1 : Nat)) : Int)))), (148, Hint.gd), (149, Hint.gdv (AV.v (Value.bool ((↑i : Int) == (0 : Int) || (↑i : Int) == (↑(n - (1 : Nat)) : Int))))), (151, Hint.gd), (152, Hint.gd), (153, Hint.gd), (154, Hint.gdv (AV.v (Value.int IntKind.i64 (↑(low + n) : Int)))), (155, Hint.gdv (AV.v (Value.int IntKind.i64 (↑(low + n - (1 : Nat)) : Int)))), (156, Hint.gd), (157, Hint.gdv (AV.v (Value.int IntKind.i64 (↑(low + n - (1 : Nat) - i) : Int)))), (158, Hint.gd), (159, Hint.gdv (u3 (wordB b i))), (160, Hint.gd), (161, Hint.gdv (AV.v (Value.bool false))), (103, Hint.val (AV.v (Value.int IntKind.i64 (↑(i + (1 : Nat)) : Int))))] [(23, ⟨.exit 2, rdK b p g low n i 0, rdK b p g low n i 4⟩)] ⟨i + 1, h2⟩ [b.length = b.length ∧ byL b = byL b, (2 : Nat) = (2 : Nat) ∧ (0 : Nat) = (0 : Nat), (4 : Nat) = (4 : Nat) ∧ (0 : Nat) = (0 : Nat), (↑(hd b (0 : Nat)) : Int) = (↑(hd b (0 : Nat)) : Int), p = p, g = g, (↑low : Int) = (↑low : Int), (↑n : Int) = (↑n : Int), (98 : Nat) = (98 : Nat) ∧ (0 : Nat) = (0 : Nat), (↑(i + (1 : Nat)) : Int) = (↑(i + (1 : Nat)) : Int), [AV.v (Value.bool false), AV.v (Value.bool false), AV.v (Value.bool false), AV.v (Value.bool false), AV.v (Value.bool false), AV.v (Value.bool false), AV.v (Value.slice none (0 : Nat) (0 : Nat))] = [AV.v (Value.bool false), AV.v (Value.bool false), AV.v (Value.bool false), AV.v (Value.bool false), AV.v (Value.bool false), AV.v (Value.bool false), AV.v (Value.slice none (0 : Nat) (0 : Nat))], [AV.v (Value.bool false), AV.v (Value.bool false), AV.v (Value.bool false), AV.v (Value.bool false), AV.v (Value.bool false), AV.v (Value.bool false), AV.v (Value.slice none (0 : Nat) (0 : Nat))] = [AV.v (Value.bool false), AV.v (Value.bool false), AV.v (Value.bool false), AV.v (Value.bool false), AV.v (Value.bool false), AV.v (Value.bool false), AV.v (Value.slice none (0 : Nat) (0 : Nat))], low + n = low + n ∧ (0 : Nat) = (0 : Nat) ∧ wL (midP b (low + n) i (4 : Nat)) = wL (magP (wordB b) (low + n) (i + (1 : Nat))), decide ((↑i : Int) < (↑n : Int)) = true, LoopOk Try.prog (loopBody Try.f73 (23 : Nat)) (rdK b p g low n i (0 : Nat)) (Exit.exit (2 : Nat)) (rdK b p g low n i (4 : Nat)), (0 : Int) = (↑(0 : Nat) : Int), b.length = b.length ∧ byL b = byL b, (2 : Nat) = (2 : Nat) ∧ (0 : Nat) = (0 : Nat), (4 : Nat) = (4 : Nat) ∧ (0 : Nat) = (0 : Nat), (↑(hd b (0 : Nat)) : Int) = (↑(hd b (0 : Nat)) : Int), p = p, g = g, (↑low : Int) = (↑low : Int), (↑n : Int) = (↑n : Int), (98 : Nat) = (98 : Nat) ∧ (0 : Nat) = (0 : Nat), (↑i : Int) = (↑i : Int), [AV.v (Value.bool false), AV.v (Value.bool false), AV.v (Value.bool false), AV.v (Value.bool false), AV.v (Value.bool false), AV.v (Value.bool false), AV.v (Value.slice none (0 : Nat) (0 : Nat))] = [AV.v (Value.bool false), AV.v (Value.bool false), AV.v (Value.bool false), AV.v (Value.bool false), AV.v (Value.bool false), AV.v (Value.bool false), AV.v (Value.slice none (0 : Nat) (0 : Nat))], [AV.v (Value.bool false), AV.v (Value.bool false), AV.v (Value.bool false), AV.v (Value.bool false), AV.v (Value.bool false), AV.v (Value.bool false), AV.v (Value.slice none (0 : Nat) (0 : Nat))] = [AV.v (Value.bool false), AV.v (Value.bool false), AV.v (Value.bool false), AV.v (Value.bool false), AV.v (Value.bool false), AV.v (Value.bool false), AV.v (Value.slice none (0 : Nat) (0 : Nat))], low + n = low + n ∧ (0 : Nat) = (0 : Nat) ∧ wL (magP (wordB b) (low + n) i) = wL (midP b (low + n) i (0 : Nat)), (((↑i : Int) == (0 : Int)) == false) = true → true = true, (((↑i : Int) == (0 : Int)) == false) = true → true = true, (((↑i : Int) == (0 : Int)) == false) = true → (((↑i : Int) == (0 : Int)) == false, AV.v (Value.int IntKind.i64 (↑n : Int))).fst = true, (((↑i : Int) == (0 : Int)) == false) = true → IntKind.i64.wrap ((↑n : Int) - (1 : Int)) = (↑(n - (1 : Nat)) : Int), (((↑i : Int) == (0 : Int)) == false) = true → (((↑i : Int) == (0 : Int)) == false, AV.v (Value.int IntKind.i64 (↑i : Int))).fst = true, (((↑i : Int) == (0 : Int)) == false) = true → (((↑i : Int) == (0 : Int)) == false, AV.v (Value.int IntKind.i64 (↑(n - (1 : Nat)) : Int))).fst = true, (bif (↑i : Int) == (0 : Int) then true else (↑i : Int) == (↑(n - (1 : Nat)) : Int)) = ((↑i : Int) == (0 : Int) || (↑i : Int) == (↑(n - (1 : Nat)) : Int)), true = true → true = true ∧ (((↑i : Int) == (0 : Int)) = true → true = true) ∧ (((↑i : Int) == (0 : Int)) = false → (((↑i : Int) == (0 : Int)) == false, AV.v (Value.bool ((↑i : Int) == (↑(n - (1 : Nat)) : Int)))).fst = true), (((↑i : Int) == (0 : Int) || (↑i : Int) == (↑(n - (1 : Nat)) : Int)) == true) = true → true = true, (((↑i : Int) == (0 : Int) || (↑i : Int) == (↑(n - (1 : Nat)) : Int)) == true) = true → true = true, (((↑i : Int) == (0 : Int) || (↑i : Int) == (↑(n - (1 : Nat)) : Int)) == true) = true → true = true, (((↑i : Int) == (0 : Int) || (↑i : Int) == (↑(n - (1 : Nat)) : Int)) == true) = true → (((↑i : Int) == (0 : Int) || (↑i : Int) == (↑(n - (1 : Nat)) : Int)) == true, AV.v (Value.int IntKind.i64 (↑low : Int))).fst = true, (((↑i : Int) == (0 : Int) || (↑i : Int) == (↑(n - (1 : Nat)) : Int)) == true) = true → (((↑i : Int) == (0 : Int) || (↑i : Int) == (↑(n - (1 : Nat)) : Int)) == true, AV.v (Value.int IntKind.i64 (↑n : Int))).fst = true, (((↑i : Int) == (0 : Int) || (↑i : Int) == (↑(n - (1 : Nat)) : Int)) == true) = true → IntKind.i64.wrap ((↑low : Int) + (↑n : Int)) = (↑(low + n) : Int), (((↑i : Int) == (0 : Int) || (↑i : Int) == (↑(n - (1 : Nat)) : Int)) == true) = true → (((↑i : Int) == (0 : Int) || (↑i : Int) == (↑(n - (1 : Nat)) : Int)) == true, AV.v (Value.int IntKind.i64 (↑(low + n) : Int))).fst = true, (((↑i : Int) == (0 : Int) || (↑i : Int) == (↑(n - (1 : Nat)) : Int)) == true) = true → IntKind.i64.wrap ((↑(low + n) : Int) - (1 : Int)) = (↑(low + n - (1 : Nat)) : Int), (((↑i : Int) == (0 : Int) || (↑i : Int) == (↑(n - (1 : Nat)) : Int)) == true) = true → true = true, (((↑i : Int) == (0 : Int) || (↑i : Int) == (↑(n - (1 : Nat)) : Int)) == true) = true → (((↑i : Int) == (0 : Int) || (↑i : Int) == (↑(n - (1 : Nat)) : Int)) == true, AV.v (Value.int IntKind.i64 (↑(low + n - (1 : Nat)) : Int))).fst = true, (((↑i : Int) == (0 : Int) || (↑i : Int) == (↑(n - (1 : Nat)) : Int)) == true) = true → (((↑i : Int) == (0 : Int) || (↑i : Int) == (↑(n - (1 : Nat)) : Int)) == true, AV.v (Value.int IntKind.i64 (↑i : Int))).fst = true, (((↑i : Int) == (0 : Int) || (↑i : Int) == (↑(n - (1 : Nat)) : Int)) == true) = true → IntKind.i64.wrap ((↑(low + n - (1 : Nat)) : Int) - (↑i : Int)) = (↑(low + n - (1 : Nat) - i) : Int), (((↑i : Int) == (0 : Int) || (↑i : Int) == (↑(n - (1 : Nat)) : Int)) == true) = true → (((↑i : Int) == (0 : Int) || (↑i : Int) == (↑(n - (1 : Nat)) : Int)) == true, AV.row (98 : Nat) (0 : Nat)).fst = true, (((↑i : Int) == (0 : Int) || (↑i : Int) == (↑(n - (1 : Nat)) : Int)) == true) = true → (((↑i : Int) == (0 : Int) || (↑i : Int) == (↑(n - (1 : Nat)) : Int)) == true, AV.v (Value.int IntKind.i64 (↑(low + n - (1 : Nat) - i) : Int))).fst = true, (((↑i : Int) == (0 : Int) || (↑i : Int) == (↑(n - (1 : Nat)) : Int)) == true) = true → (0 : Int) ≤ (↑(low + n - (1 : Nat) - i) : Int) ∧ (↑(low + n - (1 : Nat) - i) : Int) < (↑(low + n) : Int), (((↑i : Int) == (0 : Int) || (↑i : Int) == (↑(n - (1 : Nat)) : Int)) == true) = true → (((↑i : Int) == (0 : Int) || (↑i : Int) == (↑(n - (1 : Nat)) : Int)) == true, AV.rptr (98 : Nat) (0 : Nat) ((↑(low + n - (1 : Nat) - i) : Int).toNat * (1 : Nat))).fst = true, (((↑i : Int) == (0 : Int) || (↑i : Int) == (↑(n - (1 : Nat)) : Int)) == true) = true → rd1 false (1 : Nat) (wL (midP b (low + n) i (4 : Nat))) ((↑(low + n - (1 : Nat) - i) : Int).toNat * (1 : Nat)) = some (AV.v (Value.int IntKind.u32 (↑(wordB b i) : Int))), (((↑i : Int) == (0 : Int) || (↑i : Int) == (↑(n - (1 : Nat)) : Int)) == true) = true → (((↑i : Int) == (0 : Int) || (↑i : Int) == (↑(n - (1 : Nat)) : Int)) == true, AV.v (Value.int IntKind.u32 (↑(wordB b i) : Int))).fst = true, (bif (↑i : Int) == (0 : Int) || (↑i : Int) == (↑(n - (1 : Nat)) : Int) then (↑(wordB b i) : Int) == (0 : Int) else false) = false, true = true → true = true ∧ (((↑i : Int) == (0 : Int) || (↑i : Int) == (↑(n - (1 : Nat)) : Int)) = true → (((↑i : Int) == (0 : Int) || (↑i : Int) == (↑(n - (1 : Nat)) : Int)) == true, AV.v (Value.bool ((↑(wordB b i) : Int) == (0 : Int)))).fst = true) ∧ (((↑i : Int) == (0 : Int) || (↑i : Int) == (↑(n - (1 : Nat)) : Int)) = false → true = true), IntKind.i64.wrap ((↑i : Int) + (1 : Int)) = (↑(i + (1 : Nat)) : Int)] (by kernel_rfl) (by show n - (i + 1) < n - i; omega) ?_
  ((repeat' refine And.intro ?_ ?_); (iterate 18 (with_reducible rfl)); rotate_left 1; ((with_reducible refine Dt ?_; omega)); (with_reducible assumption); (omega); (iterate 18 (with_reducible rfl)); rotate_left 1; (iterate 2 (exact (fun (_ : (_ : Bool) = true) => rfl))); (exact (fun (h : (_ : Bool) = true) => h)); ((rw [Wi _ (by omega)]; omega)); (iterate 2 (exact (fun (h : (_ : Bool) = true) => h))); (focus (simp only [Bool.or_eq_true, Bool.and_eq_true, Bool.or_eq_false_iff, Bool.and_eq_false_iff, Bool.not_eq_true', Bool.not_eq_false', decide_eq_true_eq, decide_eq_false_iff_not, beq_iff_eq, beq_eq_false_iff_ne, bne_iff_ne, bne_eq_false_iff_eq, ne_eq, ← decide_not, decide_eq_decide, Bool.cond_true_left, Bool.cond_false_right, reduceCtorEq, or_false, false_or, and_true, true_and, implies_true, Bool.false_or, Bool.or_false, Bool.true_or, Bool.or_true, Bool.and_false, Bool.false_and, Bool.and_true, Bool.true_and]; done)); ((simp only [Bool.or_eq_true, Bool.and_eq_true, Bool.or_eq_false_iff, Bool.and_eq_false_iff, Bool.not_eq_true', Bool.not_eq_false', decide_eq_true_eq, decide_eq_false_iff_not, beq_iff_eq, beq_eq_false_iff_ne, bne_iff_ne, bne_eq_false_iff_eq, ne_eq, ← decide_not, decide_eq_decide, Bool.cond_true_left, Bool.cond_false_right, reduceCtorEq, or_false, false_or, and_true, true_and, implies_true, Bool.false_or, Bool.or_false, Bool.true_or, Bool.or_true, Bool.and_false, Bool.false_and, Bool.and_true, Bool.true_and]; omega)); (iterate 3 (exact (fun (_ : (_ : Bool) = true) => rfl))); (iterate 2 (exact (fun (h : (_ : Bool) = true) => h))); ((rw [Wi _ (by omega)]; omega)); (exact (fun (h : (_ : Bool) = true) => h)); ((rw [Wi _ (by omega)]; omega)); (exact (fun (_ : (_ : Bool) = true) => rfl)); (iterate 2 (exact (fun (h : (_ : Bool) = true) => h))); ((rw [Wi _ (by omega)]; omega)); (iterate 2 (exact (fun (h : (_ : Bool) = true) => h))); (omega); (exact (fun (h : (_ : Bool) = true) => h)); rotate_left 1; (exact (fun (h : (_ : Bool) = true) => h)); (iterate 2 ((simp only [Bool.or_eq_true, Bool.and_eq_true, Bool.or_eq_false_iff, Bool.and_eq_false_iff, Bool.not_eq_true', Bool.not_eq_false', decide_eq_true_eq, decide_eq_false_iff_not, beq_iff_eq, beq_eq_false_iff_ne, bne_iff_ne, bne_eq_false_iff_eq, ne_eq, ← decide_not, decide_eq_decide, Bool.cond_true_left, Bool.cond_false_right, reduceCtorEq, or_false, false_or, and_true, true_and, implies_true, Bool.false_or, Bool.or_false, Bool.true_or, Bool.or_true, Bool.and_false, Bool.false_and, Bool.and_true, Bool.true_and]; omega))); (exact Wi _ (by omega)); (exact True.intro))
  all_goals first | (rw [hf]; done) | (rw [hz]; done) | (intro _; rw [← e2]; exact rd_wL _ _ (by omega)) | (intro _; omega) | skip
theorem rdi_5 (i : {i : Nat // i ≤ n ∧ wordsE b n (n - i) = 5}) : LoopOk Try.prog (loopBody Try.f73 20) (rdI b p g low n i.1) .ret (rdE 5) := by
  refine LoopOk.of hmo (fun i : {i : Nat // i ≤ n ∧ wordsE b n (n - i) = 5} => rdI b p g low n i.1) (fun i => n - i.1) (fun i => ?_) i
  obtain ⟨i, hi, hw⟩ := i
  rcases Nat.lt_or_eq_of_le hi with hlt | rfl
  · have hs := words_step b n i hlt
    rw [hw] at hs
    by_cases hlen : b.length < 3 + 4 * i + 4
    · by_cases h3 : 3 + 4 * i ≤ b.length
      · have hl := rdk_no b p g low n i hb hlt hm hlen ⟨0, by omega⟩
        have hz := midP_zero b (low + n) i (by omega)
        refine Round.out [(101, Hint.val (AV.v (Value.bool true)))] [(23, ⟨.ret, rdK b p g low n i 0, rdE 5⟩)] [(2 : Nat) = (2 : Nat) ∧ (0 : Nat) = (0 : Nat), (5 : Int) = (5 : Int), [AV.v (Value.bool false), AV.v (Value.bool false), AV.v (Value.bool false), AV.v (Value.bool false), AV.v (Value.bool false), AV.v (Value.bool false), AV.v (Value.slice none (0 : Nat) (0 : Nat))] = [AV.v (Value.bool false), AV.v (Value.bool false), AV.v (Value.bool false), AV.v (Value.bool false), AV.v (Value.bool false), AV.v (Value.bool false), AV.v (Value.slice none (0 : Nat) (0 : Nat))], decide ((↑i : Int) < (↑n : Int)) = true, LoopOk Try.prog (loopBody Try.f73 (23 : Nat)) (rdK b p g low n i (0 : Nat)) Exit.ret (rdE (5 : Int)), (0 : Int) = (↑(0 : Nat) : Int), b.length = b.length ∧ byL b = byL b, (2 : Nat) = (2 : Nat) ∧ (0 : Nat) = (0 : Nat), (4 : Nat) = (4 : Nat) ∧ (0 : Nat) = (0 : Nat), (↑(hd b (0 : Nat)) : Int) = (↑(hd b (0 : Nat)) : Int), p = p, g = g, (↑low : Int) = (↑low : Int), (↑n : Int) = (↑n : Int), (98 : Nat) = (98 : Nat) ∧ (0 : Nat) = (0 : Nat), (↑i : Int) = (↑i : Int), [AV.v (Value.bool false), AV.v (Value.bool false), AV.v (Value.bool false), AV.v (Value.bool false), AV.v (Value.bool false), AV.v (Value.bool false), AV.v (Value.slice none (0 : Nat) (0 : Nat))] = [AV.v (Value.bool false), AV.v (Value.bool false), AV.v (Value.bool false), AV.v (Value.bool false), AV.v (Value.bool false), AV.v (Value.bool false), AV.v (Value.slice none (0 : Nat) (0 : Nat))], [AV.v (Value.bool false), AV.v (Value.bool false), AV.v (Value.bool false), AV.v (Value.bool false), AV.v (Value.bool false), AV.v (Value.bool false), AV.v (Value.slice none (0 : Nat) (0 : Nat))] = [AV.v (Value.bool false), AV.v (Value.bool false), AV.v (Value.bool false), AV.v (Value.bool false), AV.v (Value.bool false), AV.v (Value.bool false), AV.v (Value.slice none (0 : Nat) (0 : Nat))], low + n = low + n ∧ (0 : Nat) = (0 : Nat) ∧ wL (magP (wordB b) (low + n) i) = wL (midP b (low + n) i (0 : Nat))] (by kernel_rfl) ?_
        ((repeat' refine And.intro ?_ ?_); (iterate 4 (with_reducible rfl)); ((with_reducible refine Dt ?_; omega)); (with_reducible assumption); (omega); (iterate 18 (with_reducible rfl)); rotate_left 1; (exact True.intro))
        all_goals (rw [hz])
      · have hl : LoopOk Try.prog (loopBody Try.f73 23) (rdK b p g low n i 0) .ret (rdE 5) := by
          refine LoopOk.of hmo (fun _ : Unit => rdK b p g low n i 0) (fun _ => 0) (fun _ => ?_) ()
          refine Round.out [(104, Hint.val (AV.v (Value.int IntKind.i64 (0 : Int)))), (109, Hint.val (AV.v (Value.int IntKind.i64 (↑((4 : Nat) * i) : Int)))), (110, Hint.val (AV.v (Value.int IntKind.i64 (↑((3 : Nat) + (4 : Nat) * i) : Int)))), (111, Hint.val (AV.v (Value.int IntKind.i64 (0 : Int)))), (112, Hint.val (AV.v (Value.int IntKind.i64 (↑((3 : Nat) + (4 : Nat) * i) : Int)))), (116, Hint.val (AV.v (Value.bool true)))] [] [(2 : Nat) = (2 : Nat) ∧ (0 : Nat) = (0 : Nat), (5 : Int) = (5 : Int), [AV.v (Value.bool false), AV.v (Value.bool false), AV.v (Value.bool false), AV.v (Value.bool false), AV.v (Value.bool false), AV.v (Value.bool false), AV.v (Value.slice none (0 : Nat) (0 : Nat))] = [AV.v (Value.bool false), AV.v (Value.bool false), AV.v (Value.bool false), AV.v (Value.bool false), AV.v (Value.bool false), AV.v (Value.bool false), AV.v (Value.slice none (0 : Nat) (0 : Nat))], (↑(0 : Nat) : Int) = (0 : Int), IntKind.i64.wrap ((4 : Int) * (↑i : Int)) = (↑((4 : Nat) * i) : Int), IntKind.i64.wrap ((3 : Int) + (↑((4 : Nat) * i) : Int)) = (↑((3 : Nat) + (4 : Nat) * i) : Int), (↑(0 : Nat) : Int) = (0 : Int), IntKind.i64.wrap ((↑((3 : Nat) + (4 : Nat) * i) : Int) + (0 : Int)) = (↑((3 : Nat) + (4 : Nat) * i) : Int), decide ((↑b.length : Int) ≤ (↑((3 : Nat) + (4 : Nat) * i) : Int)) = true] (by kernel_rfl) ?_
          ((repeat' refine And.intro ?_ ?_); (iterate 4 (with_reducible rfl)); (omega); (iterate 2 (exact Wi _ (by omega))); (omega); (exact Wi _ (by omega)); ((with_reducible refine Dt ?_; omega)); (exact True.intro))
        have hz := midP_zero b (low + n) i (by omega)
        refine Round.out [(101, Hint.val (AV.v (Value.bool true)))] [(23, ⟨.ret, rdK b p g low n i 0, rdE 5⟩)] [(2 : Nat) = (2 : Nat) ∧ (0 : Nat) = (0 : Nat), (5 : Int) = (5 : Int), [AV.v (Value.bool false), AV.v (Value.bool false), AV.v (Value.bool false), AV.v (Value.bool false), AV.v (Value.bool false), AV.v (Value.bool false), AV.v (Value.slice none (0 : Nat) (0 : Nat))] = [AV.v (Value.bool false), AV.v (Value.bool false), AV.v (Value.bool false), AV.v (Value.bool false), AV.v (Value.bool false), AV.v (Value.bool false), AV.v (Value.slice none (0 : Nat) (0 : Nat))], decide ((↑i : Int) < (↑n : Int)) = true, LoopOk Try.prog (loopBody Try.f73 (23 : Nat)) (rdK b p g low n i (0 : Nat)) Exit.ret (rdE (5 : Int)), (0 : Int) = (↑(0 : Nat) : Int), b.length = b.length ∧ byL b = byL b, (2 : Nat) = (2 : Nat) ∧ (0 : Nat) = (0 : Nat), (4 : Nat) = (4 : Nat) ∧ (0 : Nat) = (0 : Nat), (↑(hd b (0 : Nat)) : Int) = (↑(hd b (0 : Nat)) : Int), p = p, g = g, (↑low : Int) = (↑low : Int), (↑n : Int) = (↑n : Int), (98 : Nat) = (98 : Nat) ∧ (0 : Nat) = (0 : Nat), (↑i : Int) = (↑i : Int), [AV.v (Value.bool false), AV.v (Value.bool false), AV.v (Value.bool false), AV.v (Value.bool false), AV.v (Value.bool false), AV.v (Value.bool false), AV.v (Value.slice none (0 : Nat) (0 : Nat))] = [AV.v (Value.bool false), AV.v (Value.bool false), AV.v (Value.bool false), AV.v (Value.bool false), AV.v (Value.bool false), AV.v (Value.bool false), AV.v (Value.slice none (0 : Nat) (0 : Nat))], [AV.v (Value.bool false), AV.v (Value.bool false), AV.v (Value.bool false), AV.v (Value.bool false), AV.v (Value.bool false), AV.v (Value.bool false), AV.v (Value.slice none (0 : Nat) (0 : Nat))] = [AV.v (Value.bool false), AV.v (Value.bool false), AV.v (Value.bool false), AV.v (Value.bool false), AV.v (Value.bool false), AV.v (Value.bool false), AV.v (Value.slice none (0 : Nat) (0 : Nat))], low + n = low + n ∧ (0 : Nat) = (0 : Nat) ∧ wL (magP (wordB b) (low + n) i) = wL (midP b (low + n) i (0 : Nat))] (by kernel_rfl) ?_
        ((repeat' refine And.intro ?_ ?_); (iterate 4 (with_reducible rfl)); ((with_reducible refine Dt ?_; omega)); (with_reducible assumption); (omega); (iterate 18 (with_reducible rfl)); rotate_left 1; (exact True.intro))
        all_goals (rw [hz])
    · rw [if_neg hlen] at hs
      by_cases hc : (i = 0 ∨ i + 1 = n) ∧ wordB b i = 0
      · rw [if_pos hc] at hs; omega
      · rw [if_neg hc] at hs
        exact rdi_on b p g low n hb hm _ _ i hlt (by omega) hc 5 _ ⟨hlt, hs.symm⟩
  · rw [Nat.sub_self, words_end] at hw
    split at hw <;> omega
theorem rdi_6 (i : {i : Nat // i ≤ n ∧ wordsE b n (n - i) = 6}) : LoopOk Try.prog (loopBody Try.f73 20) (rdI b p g low n i.1) .ret (rdE 6) := by
  refine LoopOk.of hmo (fun i : {i : Nat // i ≤ n ∧ wordsE b n (n - i) = 6} => rdI b p g low n i.1) (fun i => n - i.1) (fun i => ?_) i
  obtain ⟨i, hi, hw⟩ := i
  rcases Nat.lt_or_eq_of_le hi with hlt | rfl
  · have hs := words_step b n i hlt
    rw [hw] at hs
    by_cases hlen : b.length < 3 + 4 * i + 4
    · rw [if_pos hlen] at hs; omega
    · rw [if_neg hlen] at hs
      by_cases hc : (i = 0 ∨ i + 1 = n) ∧ wordB b i = 0
      · have hl := rdk_loop b p g low n i hb hlt hm (by omega) ⟨0, Nat.zero_le _⟩
        have hz := midP_zero b (low + n) i (by omega)
        have hf := midP_full b (low + n) i (by omega)
        have e1 := midP_lenS b (low + n) i 4 (by omega)
        have e2 := midP_dg b (low + n) i 4 (by omega)
        rw [partB_four] at e2
        have h7 := wL_len (midP b (low + n) i 4)
        refine Round.out [(101, Hint.val (AV.v (Value.bool true))), (145, Hint.gd), (146, Hint.gd), (147, Hint.gdv (AV.v (Value.int IntKind.i64 (↑(n - (1 : Nat)) : Int)))), (148, Hint.gd), (149, Hint.gdv (AV.v (Value.bool true))), (154, Hint.val (AV.v (Value.int IntKind.i64 (↑(low + n) : Int)))), (155, Hint.val (AV.v (Value.int IntKind.i64 (↑(low + n - (1 : Nat)) : Int)))), (157, Hint.val (AV.v (Value.int IntKind.i64 (↑(low + n - (1 : Nat) - i) : Int)))), (159, Hint.val (u3 (wordB b i))), (160, Hint.val (AV.v (Value.bool true)))] [(23, ⟨.exit 2, rdK b p g low n i 0, rdK b p g low n i 4⟩)] [(2 : Nat) = (2 : Nat) ∧ (0 : Nat) = (0 : Nat), (6 : Int) = (6 : Int), [AV.v (Value.bool false), AV.v (Value.bool false), AV.v (Value.bool false), AV.v (Value.bool false), AV.v (Value.bool false), AV.v (Value.bool false), AV.v (Value.slice none (0 : Nat) (0 : Nat))] = [AV.v (Value.bool false), AV.v (Value.bool false), AV.v (Value.bool false), AV.v (Value.bool false), AV.v (Value.bool false), AV.v (Value.bool false), AV.v (Value.slice none (0 : Nat) (0 : Nat))], decide ((↑i : Int) < (↑n : Int)) = true, LoopOk Try.prog (loopBody Try.f73 (23 : Nat)) (rdK b p g low n i (0 : Nat)) (Exit.exit (2 : Nat)) (rdK b p g low n i (4 : Nat)), (0 : Int) = (↑(0 : Nat) : Int), b.length = b.length ∧ byL b = byL b, (2 : Nat) = (2 : Nat) ∧ (0 : Nat) = (0 : Nat), (4 : Nat) = (4 : Nat) ∧ (0 : Nat) = (0 : Nat), (↑(hd b (0 : Nat)) : Int) = (↑(hd b (0 : Nat)) : Int), p = p, g = g, (↑low : Int) = (↑low : Int), (↑n : Int) = (↑n : Int), (98 : Nat) = (98 : Nat) ∧ (0 : Nat) = (0 : Nat), (↑i : Int) = (↑i : Int), [AV.v (Value.bool false), AV.v (Value.bool false), AV.v (Value.bool false), AV.v (Value.bool false), AV.v (Value.bool false), AV.v (Value.bool false), AV.v (Value.slice none (0 : Nat) (0 : Nat))] = [AV.v (Value.bool false), AV.v (Value.bool false), AV.v (Value.bool false), AV.v (Value.bool false), AV.v (Value.bool false), AV.v (Value.bool false), AV.v (Value.slice none (0 : Nat) (0 : Nat))], [AV.v (Value.bool false), AV.v (Value.bool false), AV.v (Value.bool false), AV.v (Value.bool false), AV.v (Value.bool false), AV.v (Value.bool false), AV.v (Value.slice none (0 : Nat) (0 : Nat))] = [AV.v (Value.bool false), AV.v (Value.bool false), AV.v (Value.bool false), AV.v (Value.bool false), AV.v (Value.bool false), AV.v (Value.bool false), AV.v (Value.slice none (0 : Nat) (0 : Nat))], low + n = low + n ∧ (0 : Nat) = (0 : Nat) ∧ wL (magP (wordB b) (low + n) i) = wL (midP b (low + n) i (0 : Nat)), (((↑i : Int) == (0 : Int)) == false) = true → true = true, (((↑i : Int) == (0 : Int)) == false) = true → true = true, (((↑i : Int) == (0 : Int)) == false) = true → (((↑i : Int) == (0 : Int)) == false, AV.v (Value.int IntKind.i64 (↑n : Int))).fst = true, (((↑i : Int) == (0 : Int)) == false) = true → IntKind.i64.wrap ((↑n : Int) - (1 : Int)) = (↑(n - (1 : Nat)) : Int), (((↑i : Int) == (0 : Int)) == false) = true → (((↑i : Int) == (0 : Int)) == false, AV.v (Value.int IntKind.i64 (↑i : Int))).fst = true, (((↑i : Int) == (0 : Int)) == false) = true → (((↑i : Int) == (0 : Int)) == false, AV.v (Value.int IntKind.i64 (↑(n - (1 : Nat)) : Int))).fst = true, (bif (↑i : Int) == (0 : Int) then true else (↑i : Int) == (↑(n - (1 : Nat)) : Int)) = true, true = true → true = true ∧ (((↑i : Int) == (0 : Int)) = true → true = true) ∧ (((↑i : Int) == (0 : Int)) = false → (((↑i : Int) == (0 : Int)) == false, AV.v (Value.bool ((↑i : Int) == (↑(n - (1 : Nat)) : Int)))).fst = true), IntKind.i64.wrap ((↑low : Int) + (↑n : Int)) = (↑(low + n) : Int), IntKind.i64.wrap ((↑(low + n) : Int) - (1 : Int)) = (↑(low + n - (1 : Nat)) : Int), IntKind.i64.wrap ((↑(low + n - (1 : Nat)) : Int) - (↑i : Int)) = (↑(low + n - (1 : Nat) - i) : Int), (0 : Int) ≤ (↑(low + n - (1 : Nat) - i) : Int) ∧ (↑(low + n - (1 : Nat) - i) : Int) < (↑(low + n) : Int), rd1 false (1 : Nat) (wL (midP b (low + n) i (4 : Nat))) ((↑(low + n - (1 : Nat) - i) : Int).toNat * (1 : Nat)) = some (AV.v (Value.int IntKind.u32 (↑(wordB b i) : Int))), ((↑(wordB b i) : Int) == (0 : Int)) = true] (by kernel_rfl) ?_
        ((repeat' refine And.intro ?_ ?_); (iterate 4 (with_reducible rfl)); ((with_reducible refine Dt ?_; omega)); (with_reducible assumption); (omega); (iterate 18 (with_reducible rfl)); rotate_left 1; (iterate 2 (exact (fun (_ : (_ : Bool) = true) => rfl))); (exact (fun (h : (_ : Bool) = true) => h)); ((rw [Wi _ (by omega)]; omega)); (iterate 2 (exact (fun (h : (_ : Bool) = true) => h))); (iterate 2 ((simp only [Bool.or_eq_true, Bool.and_eq_true, Bool.or_eq_false_iff, Bool.and_eq_false_iff, Bool.not_eq_true', Bool.not_eq_false', decide_eq_true_eq, decide_eq_false_iff_not, beq_iff_eq, beq_eq_false_iff_ne, bne_iff_ne, bne_eq_false_iff_eq, ne_eq, ← decide_not, decide_eq_decide, Bool.cond_true_left, Bool.cond_false_right, reduceCtorEq, or_false, false_or, and_true, true_and, implies_true, Bool.false_or, Bool.or_false, Bool.true_or, Bool.or_true, Bool.and_false, Bool.false_and, Bool.and_true, Bool.true_and]; omega))); (exact Wi _ (by omega)); (iterate 2 ((rw [Wi _ (by omega)]; omega))); (iterate 2 (omega)); rotate_left 1; ((with_reducible refine Be ?_; omega)); (exact True.intro))
        all_goals first | (rw [hz]; done) | (rw [← e2]; exact rd_wL _ _ (by omega)) | (intro _; rw [← e2]; exact rd_wL _ _ (by omega)) | (intro _; omega) | skip
      · rw [if_neg hc] at hs
        exact rdi_on b p g low n hb hm _ _ i hlt (by omega) hc 6 _ ⟨hlt, hs.symm⟩
  · rw [Nat.sub_self, words_end] at hw
    split at hw <;> omega
theorem rdi_all (r : Nat) (hr : r = 0 ∨ r = 7) (j : {i : Nat // i ≤ n ∧ wordsE b n (n - i) = r}) : LoopOk Try.prog (loopBody Try.f73 20) (rdI b p g low n j.1) (.exit 0) (rdI b p g low n n) := by
  refine LoopOk.of hmo (fun i : {i : Nat // i ≤ n ∧ wordsE b n (n - i) = r} => rdI b p g low n i.1) (fun i => n - i.1) (fun i => ?_) j
  clear j; obtain ⟨i, hi, hw⟩ := i
  rcases Nat.lt_or_eq_of_le hi with hlt | rfl
  · have hs := words_step b n i hlt
    rw [hw] at hs
    by_cases hlen : b.length < 3 + 4 * i + 4
    · rw [if_pos hlen] at hs; omega
    · rw [if_neg hlen] at hs
      by_cases hc : (i = 0 ∨ i + 1 = n) ∧ wordB b i = 0
      · rw [if_pos hc] at hs; omega
      · rw [if_neg hc] at hs
        exact rdi_on b p g low n hb hm _ _ i hlt (by omega) hc r _ ⟨hlt, hs.symm⟩
  · refine Round.out [(101, Hint.val (AV.v (Value.bool false)))] [] [b.length = b.length ∧ byL b = byL b, (2 : Nat) = (2 : Nat) ∧ (0 : Nat) = (0 : Nat), (4 : Nat) = (4 : Nat) ∧ (0 : Nat) = (0 : Nat), (↑(hd b (0 : Nat)) : Int) = (↑(hd b (0 : Nat)) : Int), p = p, g = g, (↑low : Int) = (↑low : Int), (↑i : Int) = (↑i : Int), (98 : Nat) = (98 : Nat) ∧ (0 : Nat) = (0 : Nat), (↑i : Int) = (↑i : Int), [AV.v (Value.bool false), AV.v (Value.bool false), AV.v (Value.bool false), AV.v (Value.bool false), AV.v (Value.bool false), AV.v (Value.bool false), AV.v (Value.slice none (0 : Nat) (0 : Nat))] = [AV.v (Value.bool false), AV.v (Value.bool false), AV.v (Value.bool false), AV.v (Value.bool false), AV.v (Value.bool false), AV.v (Value.bool false), AV.v (Value.slice none (0 : Nat) (0 : Nat))], [AV.v (Value.bool false), AV.v (Value.bool false), AV.v (Value.bool false), AV.v (Value.bool false), AV.v (Value.bool false), AV.v (Value.bool false), AV.v (Value.slice none (0 : Nat) (0 : Nat))] = [AV.v (Value.bool false), AV.v (Value.bool false), AV.v (Value.bool false), AV.v (Value.bool false), AV.v (Value.bool false), AV.v (Value.bool false), AV.v (Value.slice none (0 : Nat) (0 : Nat))], low + i = low + i ∧ (0 : Nat) = (0 : Nat) ∧ wL (magP (wordB b) (low + i) i) = wL (magP (wordB b) (low + i) i), decide ((↑i : Int) < (↑i : Int)) = false] (by kernel_rfl) ?_
    ((repeat' refine And.intro ?_ ?_); (iterate 19 (with_reducible rfl)); ((with_reducible refine Df ?_; omega)); (exact True.intro))
end
/-- the sum that bytes are, where they are one's -/
def decS (b : List UInt8) : SumS := ⟨((hd b 0 % 2 : Nat) : Int) == 1, ((hd b 0 / 2 % 2 : Nat) : Int) == 1, ((hd b 0 / 4 % 2 : Nat) : Int) == 1, ((hd b 0 / 8 % 2 : Nat) : Int) == 1, ((hd b 0 / 16 % 2 : Nat) : Int) == 1, if hd b 0 / 32 = 1 then -((vw (magP (wordB b) (hd b 1 + hd b 2) (hd b 2)) : Nat) : Int) else ((vw (magP (wordB b) (hd b 1 + hd b 2) (hd b 2)) : Nat) : Int)⟩
def noS : SumS := ⟨false, false, false, false, false, 0⟩
def res05 (b : List UInt8) : AV := .tup [sumA (if readE b = 0 then decS b else noS), iz (readE b : Nat)]
theorem noS_A : sumA noS = .agg [bz false, bz false, bz false, bz false, bz false, bz false, .lst 0 []] := by
  unfold sumA noS
  simp only [show ((0 : Int) < 0) = False by simp, show (0 : Int).natAbs = 0 from rfl, dig_zero]
  rfl
theorem magP_Wd (b : List UInt8) (m i : Nat) : Wd (magP (wordB b) m i) := by
  intro d hd
  unfold magP at hd
  rcases List.mem_append.1 hd with h | h
  · have := List.eq_of_mem_replicate h; omega
  · rw [List.mem_reverse, List.mem_map] at h
    obtain ⟨j, _, rfl⟩ := h
    exact wordB_lt b j
end Go.Proofs.Ytfhmaincnlaapaa.Sy
namespace Go.Proofs.Ytfhmaincnlaapaa.Sy
open Go.ChangeShapes Go.WideShapes Go.ChangeAt Go.RowKit
set_option linter.unusedVariables false
/-- cells that read as trees -/
def RepL (w : World) (F : Nat → Prop) (cs : List AV) (us : List Value) : Prop := us.length = cs.length ∧ ∀ (j : Nat) (x : AV) (u : Value), cs[j]? = some x → us[j]? = some u → Rep w F x u
section
variable {w : World} {F : Nat → Prop}
theorem RepL.nil : RepL w F [] [] := ⟨rfl, fun j x u h => by simp at h⟩
theorem RepL.app {a b : List AV} {us vs : List Value} (h : RepL w F a us) (k : RepL w F b vs) : RepL w F (a ++ b) (us ++ vs) := by
  refine ⟨by simp [h.1, k.1], fun j x u hx hu => ?_⟩
  by_cases hj : j < a.length
  · rw [List.getElem?_append_left hj] at hx
    rw [List.getElem?_append_left (by rw [h.1]; exact hj)] at hu
    exact h.2 j x u hx hu
  · rw [List.getElem?_append_right (by omega)] at hx
    rw [List.getElem?_append_right (by rw [h.1]; omega), h.1] at hu
    exact k.2 _ x u hx hu
theorem RepL.cut {a b : List AV} {us : List Value} (h : RepL w F (a ++ b) us) : ∃ c d, us = c ++ d ∧ RepL w F a c ∧ RepL w F b d := by
  have hl := h.1
  rw [List.length_append] at hl
  refine ⟨us.take a.length, us.drop a.length, (List.take_append_drop _ _).symm, ⟨by rw [List.length_take]; omega, fun j x u hx hu => ?_⟩, ⟨by rw [List.length_drop]; omega, fun j x u hx hu => ?_⟩⟩
  · have hj := lt_of_some hx
    rw [List.getElem?_take_of_lt hj] at hu
    exact h.2 j x u (by rw [List.getElem?_append_left hj]; exact hx) hu
  · rw [List.getElem?_drop] at hu
    exact h.2 (a.length + j) x u (by rw [List.getElem?_append_right (by omega), Nat.add_sub_cancel_left]; exact hx) hu
theorem RepL.one {x : AV} {u : Value} : RepL w F [x] [u] ↔ Rep w F x u := by
  constructor
  · intro h; exact h.2 0 x u rfl rfl
  · intro h
    refine ⟨rfl, fun j y v hy hv => ?_⟩
    cases j with
    | zero => simp only [List.getElem?_cons_zero, Option.some.injEq] at hy hv; subst hy; subst hv; exact h
    | succ j => simp at hy
theorem RepL.ones {cs : List AV} {us : List Value} (h : RepL w F cs us) : ∀ u ∈ us, u.oneCell' = true := fun u hu => by
  obtain ⟨j, hj, rfl⟩ := List.getElem_of_mem hu
  obtain ⟨x, hx⟩ := getElem?_of (l := cs) (j := j) (by rw [← h.1]; exact hj)
  exact (h.2 j x _ hx (List.getElem?_eq_getElem hj)).one
end
/-- enc: the trees of a thing's cells -/
structure Enc {α : Type} (R : Rp α) (enc : α → List AV) (ok : α → Prop) : Prop where
  len : ∀ x, (enc x).length = R.size
  fw : ∀ {w : World} {B : Nat} {F : Nat → Prop} {x : α} {cs : List Value}, (∀ b, b < B → F b) → R.rep w B x cs → RepL w F (enc x) cs ∧ ok x
  bw : ∀ {w : World} {B : Nat} {F : Nat → Prop} {x : α} {cs : List Value}, (∀ b, F b → b < B) → RepL w F (enc x) cs → ok x → R.rep w B x cs
theorem Enc.val {α : Type} {f : α → Value} {ok : α → Prop} {h1 : ∀ x, (f x).oneCell' = true} : Enc (Rp.val f ok h1) (fun x => [.v (f x)]) ok where
  len x := rfl
  fw hF h := by obtain ⟨rfl, h⟩ := h; exact ⟨RepL.one.2 (.v _ (h1 _)), h⟩
  bw {w B F x cs} hF h ho := by
    refine ⟨?_, ho⟩
    obtain ⟨u, rfl⟩ : ∃ u, cs = [u] := List.length_eq_one_iff.1 h.1
    cases RepL.one.1 h with
    | v _ _ => rfl
theorem Enc.two {α β γ : Type} {p : α → β} {q : α → γ} {R : Rp β} {S : Rp γ} {e1 : β → List AV} {e2 : γ → List AV} {o1 : β → Prop} {o2 : γ → Prop} (h : Enc R e1 o1) (k : Enc S e2 o2) : Enc (Rp.two p q R S) (fun x => e1 (p x) ++ e2 (q x)) (fun x => o1 (p x) ∧ o2 (q x)) where
  len x := by show (e1 (p x) ++ e2 (q x)).length = R.size + S.size; rw [List.length_append, h.len, k.len]
  fw hF hx := by
    obtain ⟨c, d, rfl, a, b⟩ := hx
    obtain ⟨a1, a2⟩ := h.fw hF a
    obtain ⟨b1, b2⟩ := k.fw hF b
    exact ⟨a1.app b1, a2, b2⟩
  bw hF hx ho := by
    obtain ⟨c, d, rfl, a, b⟩ := hx.cut
    exact ⟨c, d, rfl, h.bw hF a ho.1, k.bw hF b ho.2⟩
def encL {α : Type} (e : α → List AV) (l : List α) : List AV := [.lst l.length (l.flatMap e)]
theorem Enc.chunk {α : Type} {R : Rp α} {e : α → List AV} {ok : α → Prop} (h : Enc R e ok) {w : World} {B : Nat} {F : Nat → Prop} (hF : ∀ b, b < B → F b) : ∀ {l : List α} {xs : List Value}, Chunk R w B l xs → RepL w F (l.flatMap e) xs ∧ ∀ x ∈ l, ok x
  | [], xs, hc => by cases hc; exact ⟨.nil, fun x hx => by cases hx⟩
  | x :: l, xs, hc => by
    obtain ⟨c, rest, rfl, a, b⟩ := hc
    obtain ⟨a1, a2⟩ := h.fw hF a
    obtain ⟨b1, b2⟩ := h.chunk hF b
    exact ⟨a1.app b1, fun y hy => by rcases List.mem_cons.1 hy with rfl | hy; exact a2; exact b2 y hy⟩
theorem Enc.unchunk {α : Type} {R : Rp α} {e : α → List AV} {ok : α → Prop} (h : Enc R e ok) {w : World} {B : Nat} {F : Nat → Prop} (hF : ∀ b, F b → b < B) : ∀ {l : List α} {xs : List Value}, RepL w F (l.flatMap e) xs → (∀ x ∈ l, ok x) → Chunk R w B l xs
  | [], xs, hr, _ => List.eq_nil_of_length_eq_zero hr.1
  | x :: l, xs, hr, ho => by
    obtain ⟨c, d, rfl, a, b⟩ := RepL.cut (a := e x) (b := l.flatMap e) hr
    exact ⟨c, d, rfl, h.bw hF a (ho x (by simp)), h.unchunk hF b fun y hy => ho y (by simp [hy])⟩
theorem Enc.flat_len {α : Type} {R : Rp α} {e : α → List AV} {ok : α → Prop} (h : Enc R e ok) (l : List α) : (l.flatMap e).length = l.length * R.size := by
  induction l with
  | nil => simp
  | cons x l ih => rw [List.flatMap_cons, List.length_append, h.len, ih, List.length_cons, Nat.succ_mul]; omega
theorem Enc.sl {α : Type} {R : Rp α} {e : α → List AV} {ok : α → Prop} (h : Enc R e ok) : Enc R.sl (encL e) (fun l => ∀ x ∈ l, ok x) where
  len l := rfl
  fw {w B F l cs} hF hx := by
    obtain ⟨A, c, xs, rfl, h1, h2, h3, h4⟩ := hx
    obtain ⟨k1, k2⟩ := h.chunk hF h4
    refine ⟨RepL.one.2 ?_, k2⟩
    rcases Nat.eq_zero_or_pos l.length with h0 | h0
    · obtain rfl := List.eq_nil_of_length_eq_zero h0
      exact .nil A c h2
    · obtain ⟨a, rfl, hb, hc⟩ := h3.2 h0
      exact .lst _ c _ a xs h0 h1 h2 (hF _ hb) k1.1 k1.ones hc k1.2
  bw {w B F l cs} hF hx ho := by
    obtain ⟨u, rfl⟩ : ∃ u, cs = [u] := List.length_eq_one_iff.1 hx.1
    have hr : Rep w F (.lst l.length (l.flatMap e)) u := RepL.one.1 hx
    generalize hn : l.length = n at hr
    generalize hcs : l.flatMap e = cs at hr
    cases hr with
    | nil A c hm =>
      obtain rfl := List.eq_nil_of_length_eq_zero hn
      exact ⟨A, c, [], rfl, Nat.zero_le _, hm, Rd.nil, rfl⟩
    | lst _ c _ a us h0 h1 h2 hFa hl h1' hu hr =>
      subst hcs
      have hRL : RepL w F (l.flatMap e) us := ⟨hl, hr⟩
      have hch := h.unchunk hF hRL ho
      refine ⟨some a, c, us, by rw [hn], by rw [hn]; exact h1, h2, ⟨by rw [hl, h.flat_len], fun _ => ⟨a, rfl, hF _ hFa, hu⟩⟩, hch⟩
/-- a struct -/
theorem Enc.see {α : Type} {R : Rp α} {e : α → List AV} {ok : α → Prop} (h : Enc R e ok) {E : Env} {B : Nat} (hF : ∀ b, b < B → E.F b) {x : α} {cs : List Value} (hx : R.rep E.w B x cs) : Sees1 E (.agg (e x)) (.agg cs.toArray) := by
  obtain ⟨k, _⟩ := h.fw hF hx
  exact ⟨cs, rfl, k.1, fun j y u hy hu => ⟨Leaf.rep (k.2 j y u hy hu), (k.2 j y u hy hu).one⟩⟩
/-- leaves of a pure tree -/
def pureV : AV → Bool
  | .v _ => true
  | .lst _ _ => true
  | _ => false
theorem Enc.unsee {α : Type} {R : Rp α} {e : α → List AV} {ok : α → Prop} (h : Enc R e ok) {E : Env} {B : Nat} (hF : ∀ b, E.F b → b < B) {x : α} {u : Value} (hp : (e x).all pureV = true) (hx : Sees1 E (.agg (e x)) u) (ho : ok x) : ∃ cs : List Value, u = .agg cs.toArray ∧ R.rep E.w B x cs := by
  obtain ⟨us, rfl, hl, hs⟩ := hx
  refine ⟨us, rfl, h.bw hF ⟨hl, fun j y v hy hv => ?_⟩ ho⟩
  have h1 := (hs j y v hy hv).1
  have h2 := List.all_eq_true.1 hp y (List.mem_of_getElem? hy)
  cases y with
  | v z => obtain ⟨rfl, h3⟩ := h1; exact .v _ h3
  | lst n cs => exact h1
  | _ => cases h2
end Go.Proofs.Ytfhmaincnlaapaa.Sy
