/-
  AN APPEND AS A RULE OF THE WALK: where the append's run is known ahead, a region that draws its order runs it as any other operation.
-/
import Derived.Test.YtpnolgghbenekaaSheets
import Derived.BigRegion
namespace Go.Proofs.Ytpnolgghbenekaa
open Go.ChangeShapes Go.WideShapes Go.ChangeAt Go.RowKit
set_option linter.unusedVariables false

/-- what an append comes to -/
noncomputable def appR (P : Program) (W : World) (t ty : TypeId) (s x : Value) : Value × World := match (Builtin.append_ #[t, t] ty #[s, x]).run P W with | .ok v w' => (v, w') | _ => (undef, W)
def okApp (P : Program) (W : World) (t ty : TypeId) (s x : Value) : Prop := ∃ v w', (Builtin.append_ #[t, t] ty #[s, x]).run P W = .ok v w'
theorem appR_of {P : Program} {W : World} {t ty : TypeId} {s x v : Value} {w' : World} (h : (Builtin.append_ #[t, t] ty #[s, x]).run P W = .ok v w') : okApp P W t ty s x ∧ (appR P W t ty s x).1 = v ∧ (appR P W t ty s x).2 = w' := by
  refine ⟨⟨v, w', h⟩, ?_, ?_⟩ <;> · unfold appR; rw [h]
theorem wp_app_rule {P : Program} {dst : Option Tmp} {s x : Operand} {t ty : TypeId} {pos : String} {after : Array Edge} {g : Option (Nat × Bool)} {a : Act} {W : World} {K : Act → World → Prop} {Q : Exit → Act → World → Prop}
    (h : okApp P W t ty (a.eval s) (a.eval x)) :
    Oper.wp P ⟨dst, .call { callee := .builtin .append, args := #[s, x], argTypes := #[t, t] }, ty, pos, after, g⟩ a W K Q = K (a.put dst (appR P W t ty (a.eval s) (a.eval x)).1) (appR P W t ty (a.eval s) (a.eval x)).2 := by
  obtain ⟨v, w', hr⟩ := h
  obtain ⟨_, e1, e2⟩ := appR_of hr
  rw [e1, e2]
  unfold Oper.wp execOp
  simp only [resolve, invoke, builtin, Sem.run_bind, Sem.run_pure, Result.andThen_ok, List.map_toArray, List.map_cons, List.map_nil, hr]
  rfl
/-- an append of one element made ready for a region that draws: lay what this gives into the context, the rule above among go_sem's -/
theorem app_ready {P : Program} {W : World} (us : List Value) (size : Nat) (hm : us.length = size) (hsz : 0 < size) (hu : ∀ u ∈ us, u.oneCell' = true) (t : TypeId) (base : Nat) (e : TypeId) {z : Value} (bytes : Nat)
    (hinf : (P.info? e).map (fun i => (i.zero, i.size, i.bytes)) = some (some z, size, bytes)) (hzs : z.cells.size = size) (ht : P.underlying t = some (.slice e))
    {v : Value} {n : Nat} {xs : List Value} (hown : W.ownsRow base e size v n xs) (nb : Nat) (hblk : Blk W nb e us.toArray) (hbytes : (n + 1) * bytes ≤ 140737488355328) (h63 : n + 1 ≤ 140737488355328) (hbase : base ≤ W.heap.size) :
    ∃ A c w', okApp P W t t v (.slice (some ⟨nb, 0, none⟩) 1 1) ∧ (appR P W t t v (.slice (some ⟨nb, 0, none⟩) 1 1)).1 = .slice A (n + 1) c ∧ (appR P W t t v (.slice (some ⟨nb, 0, none⟩) 1 1)).2 = w' ∧ w'.ownsRow base e size (.slice A (n + 1) c) (n + 1) (xs ++ us) ∧ Appd W w' v (.slice A (n + 1) c) := by
  obtain ⟨i, hi, hz, hs1, hby⟩ := info_parts hinf
  obtain ⟨v2, w2, hrun, ho2, hg2, _, hl2⟩ := run_append_own_at (P := P) W base t t e i z size bytes ht hi hz hs1 hby hzs hsz _ _ _ hown ⟨nb, 0, none⟩ 1 1 us (by omega)
    (fun j u hj => by
      have hadd : (⟨nb, 0, none⟩ : Addr).add j = ⟨nb, j, none⟩ := by unfold Addr.add; split <;> simp_all
      rw [hadd, hblk.cell]; simpa using hj) hu (by simp only [maxLen]; omega) hbytes hbase
  obtain ⟨A, c, rfl, _, _, _⟩ := own_form ho2
  obtain ⟨hok, hv, hw⟩ := appR_of hrun
  exact ⟨A, c, w2, hok, hv, hw, ho2, ⟨hg2, hl2.imp id fun e => ⟨_, e, Nat.le_refl _⟩⟩⟩
end Go.Proofs.Ytpnolgghbenekaa
