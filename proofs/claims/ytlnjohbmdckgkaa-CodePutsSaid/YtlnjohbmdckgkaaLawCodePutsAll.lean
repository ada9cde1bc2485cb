/-
  bushellaw07.CodePuts, for any arguments.
-/
import Derived.Test.YtlnjohbmdckgkaaLawCodePuts
import Derived.Test.YtlnjohbmdckgkaaBlk
namespace Go.Proofs.Ytlnjohbmdckgkaa
open Go.ChangeShapes Go.WideShapes Go.ChangeAt Go.RowKit
set_option linter.unusedVariables false

set_option maxRecDepth 20000 in
set_option maxHeartbeats 1000000 in
theorem codePuts_all (X : Nat) (I : Int) (F : Nat) (T : ByteArray) (A : Option Addr) (n c : Nat) (l : List UInt8) (w : World) (hX : X < 18446744073709551616)
    (hI1 : -9223372036854775808 ≤ I) (hI2 : I ≤ 9223372036854775807) (hF : F < 18446744073709551616) (hR : Rd w w.heap.size 1 A n (u8s l)) (hnc : n ≤ c) (hc : c ≤ maxLen) :
    Calls Try.prog 7 #[.agg #[.int .u64 (X : Int), .int .i64 I, .float .f64 F, .string T], .slice A n c] w fun e w' => e = .returned (.bool true) ∧ Below w.heap.size w w' := by
  by_cases h1 : T.size ≤ 300
  · by_cases h2 : n ≤ 300
    · exact codePuts_walk X I F T A n c l w hX hI1 hI2 hF h1 hR h2 hnc hc
    · have h3 : 300 < n := by omega
      go_enter Try.func7, Try.ntmps7
      go_wp2_with (go_at_call 16; (with_reducible refine (awake07_any _).mono ?_); rintro y w7 ⟨rfl, hb7⟩)
      go_ret
      exact ⟨rfl, belT (belA (belR w) _) hb7⟩
  · have h3 : 300 < T.size := by omega
    go_enter Try.func7, Try.ntmps7
    go_wp2_with (go_at_call 16; (with_reducible refine (awake07_any _).mono ?_); rintro y w7 ⟨rfl, hb7⟩)
    go_ret
    exact ⟨rfl, belT (belA (belR w) _) hb7⟩
end Go.Proofs.Ytlnjohbmdckgkaa
