/-
  bushellaw39.awake.
-/
import Derived.Test.YtfhmaincnlaapaaPagesW
import Derived.Test.YtfhmaincnlaapaaSpaceRec
namespace Go.Proofs.Ytfhmaincnlaapaa
open Go.ChangeShapes Go.WideShapes Go.ChangeAt Go.RowKit
set_option linter.unusedVariables false

def sp39S : Sch := ⟨[(⟨#[97]⟩, 4)], [], [], []⟩
def sp39C : CellS := ⟨3, 1, [], []⟩
def sp39L : List CellS := [sp39C]
theorem sp39O : SchOk sp39S := by
  refine ⟨fun x hx => ?_, (fun x hx => by cases hx), (fun x hx => by cases hx), (fun x hx => by cases hx)⟩
  obtain rfl := List.mem_singleton.1 hx; exact ⟨by decide +kernel, by decide, by decide⟩
theorem sp39R : rightL sp39S 1 sp39L = true := by decide +kernel
theorem sp39N : pagesN 1 sp39L = 1 := by
  have h1 : (leaves 1 sp39L).length = 1 := by decide +kernel
  unfold pagesN
  rw [levs_one (by rw [firsts_len, h1]; exact Nat.le_refl _), h1]
def sp39W (w : World) : World := (w.alloc (.cells #[.string ⟨#[97]⟩, .int .i64 4] 89)).alloc (.cells #[.int .u64 3, .int .i64 1, .slice none 0 0, .slice none 0 0] 52)
theorem sp39_pages (w : World) : Calls Try.prog 14 #[.agg #[.slice (some ⟨w.heap.size, 0, none⟩) 1 1, .slice none 0 0, .slice none 0 0, .slice none 0 0], .int .u32 1, .slice (some ⟨w.heap.size + 1, 0, none⟩) 1 1] (sp39W w)
    fun y w' => y = .returned (.tuple #[.int .i64 1, .int .i64 0]) ∧ Below w.heap.size w w' := by
  have m1 : (1 : Nat) ≤ maxLen := by simp [maxLen]
  have m0 : (0 : Nat) ≤ maxLen := by simp [maxLen]
  have hz : (sp39W w).heap.size = w.heap.size + 2 := by simp [sp39W]
  have k0 : Blk (sp39W w) w.heap.size 89 #[.string ⟨#[97]⟩, .int .i64 4] := (Blk.new w _ _).alloc _
  have k1 : Blk (sp39W w) (w.heap.size + 1) 52 #[.int .u64 3, .int .i64 1, .slice none 0 0, .slice none 0 0] := blk_at _ _ _ _ (by simp)
  have hbel : Below w.heap.size w (sp39W w) := belA (belA (belR w) _) _
  have hS : SchAt (sp39W w) (sp39W w).heap.size (.agg #[.slice (some ⟨w.heap.size, 0, none⟩) 1 1, .slice none 0 0, .slice none 0 0, .slice none 0 0]) sp39S :=
    ⟨_, _, _, _, _, _, _, _, rfl, rd_blk (xs := [.string ⟨#[97]⟩, .int .i64 4]) k0 (by omega) rfl, Rd.nil, Rd.nil, Rd.nil, ⟨by decide, m1⟩, ⟨by decide, m0⟩, ⟨by decide, m0⟩, by decide, m0⟩
  have hV : CellV (sp39W w) (sp39W w).heap.size sp39C none 0 none 0 :=
    ⟨by decide, ⟨by decide, by decide⟩, ⟨Nat.le_refl _, m0, [], Rd.nil, rfl⟩, ⟨Nat.le_refl _, m0, [], Rd.nil, rfl⟩⟩
  have hL : SlR cellR (sp39W w) (sp39W w).heap.size sp39L (some ⟨w.heap.size + 1, 0, none⟩) 1 :=
    ⟨by decide, m1, _, rd_blk (xs := [.int .u64 3, .int .i64 1, .slice none 0 0, .slice none 0 0]) k1 (by omega) rfl, _, [], (List.append_nil _).symm, cellR_mk hV, rfl⟩
  have := pages_ok (sp39W w) _ _ sp39S _ 1 sp39L 1 hS sp39O hL (Nat.le_refl _) (by decide) sp39R (fun C hC => by obtain rfl := List.mem_singleton.1 hC; decide +kernel) (by decide)
  rw [sp39N] at this
  exact this.mono fun y w' ⟨h1, h2⟩ => ⟨h1, belT hbel h2⟩
theorem sec991 (w : World) : Calls Try.prog 27 #[.int .i64 991] w fun y w' => y = .returned (.int .i64 1) ∧ w = w' := sectors_any w 991 (by decide) (by decide)
theorem sec992 (w : World) : Calls Try.prog 27 #[.int .i64 992] w fun y w' => y = .returned (.int .i64 2) ∧ w = w' := sectors_any w 992 (by decide) (by decide)
set_option maxRecDepth 20000 in
theorem awake39_any (w : World) : Calls Try.prog 12 #[] w fun y w' => y = .returned (.bool true) ∧ Below w.heap.size w w' := by
  have HP := Lib.hid (sp39_pages w)
  go_enter Try.func12, Try.ntmps12
  go_wp2_with fail
  refine HP.out.mono ?_
  rintro y w1 ⟨rfl, hb1⟩
  have HB1 := Lib.hid hb1
  clear hb1
  go_wp2_with (first | (go_at_call 27; (with_reducible refine (sec991 _).mono ?_); rintro y w2 ⟨rfl, rfl⟩) | (go_at_call 27; (with_reducible refine (sec992 _).mono ?_); rintro y w2 ⟨rfl, rfl⟩))
  go_ret
  exact ⟨rfl, HB1.out⟩
end Go.Proofs.Ytfhmaincnlaapaa
