/-
  bushelref11.Light.
  bushelref11.names: a schema's names.
  schema.all: a schema's names.
  bushelref25.Nodes.
  THE LAST NODE: what one entry more does to the list of nodes.
  THE TAIL OF A ROUND OF bushelref25.Nodes, without the program: one count more, the body one row more.
  THE NODES OF ENTRIES, as a plain function; what the pack comes to.
  tree.bytes, pack.end, pack.put.
  AN APPEND AS A RULE OF THE WALK: where the append's run is known ahead, a region that draws its order runs it as any other operation.
  tree.Break, bushelref25.Break: the same test of a key; seal.Room.
  APPEND OF A SLICE as a step of a region that draws; a row of the call's own, element by element.
-/
import Derived.BigRegion
import Derived.IntWalk
import Derived.Deep.RegionHeldLaw
import Derived.Deep.LoopGhost
import Derived.Deep.DeepCutAuto
import Derived.Deep.RegionHeld3
import Derived.Test.YtfhmaincnlaapaaGreatApSy2
import Derived.Test.YtfhmaincnlaapaaGreatApGetWalks
import Derived.Test.YtfhmaincnlaapaaGreatApRefCode
import Derived.Test.YtfhmaincnlaapaaGreatApBufSmall
import Derived.Test.YtfhmaincnlaapaaGreatApSy14
namespace Go.Proofs.YtfhmaincnlaapaaGreat
open Go.ChangeShapes Go.WideShapes Go.ChangeAt Go.RowKit
set_option linter.unusedVariables false

section
variable {P : Program}
theorem run_appS {W : World} (t ty : TypeId) (base : Nat) (e : TypeId) (z : Value) (size bytes : Nat) (hinf : (P.info? e).map (fun i => (i.zero, i.size, i.bytes)) = some (some z, size, bytes)) (hzs : z.cells.size = size) (hsz : 0 < size) (ht : P.underlying t = some (.slice e))
    (v : Value) (n : Nat) (xs : List Value) (hown : W.ownsRow base e size v n xs) (B : Nat) (A : Option Addr) (m c : Nat) (news : List Value) (hr : Rd W B size A m news) (h1 : ∀ u ∈ news, u.oneCell' = true)
    (hbytes : (n + m) * bytes ≤ 140737488355328) (h63 : n + m ≤ 140737488355328) (hbase : base ≤ W.heap.size) :
    ∃ v' w', (Builtin.append_ #[t, t] ty #[v, .slice A m c]).run P W = .ok v' w' ∧ w'.ownsRow base e size v' (n + m) (xs ++ news) ∧ Appd W w' v v' := by
  obtain ⟨i, hi, hz, hs1, hby⟩ := info_parts hinf
  rcases A with _ | ad
  · have hm : m = 0 := by
      rcases Nat.eq_zero_or_pos m with h0 | h0
      · exact h0
      · obtain ⟨_, h, _⟩ := hr.2 h0
        cases h
    subst hm
    have hn : news = [] := List.eq_nil_of_length_eq_zero (by simpa using hr.1)
    subst hn
    have hrun : (Builtin.append_ #[t, t] ty #[v, .slice none 0 c]).run P W = .ok v W := by
      rcases hown.2 with ⟨rfl, rfl⟩ | ⟨g, cap, cur, rfl, _, _, hnc, _⟩
      · simp [Builtin.append_, run_underlying ht, sizeOf, typeInfo, hi, Builtin.lenOf, Builtin.firstCells]
      · simp [Builtin.append_, run_underlying ht, sizeOf, typeInfo, hi, Builtin.lenOf, Builtin.firstCells, hnc, storeCells]
    exact ⟨v, W, hrun, by simpa using hown, Appd.refl _ _⟩
  · have hcells : ∀ j u, news[j]? = some u → W.cell? (ad.add j) = some u := by
      intro j u hu
      rcases Nat.eq_zero_or_pos m with h0 | h0
      · subst h0
        have hn : news = [] := List.eq_nil_of_length_eq_zero (by simpa using hr.1)
        subst hn
        simp at hu
      · obtain ⟨ad', h, _, hc⟩ := hr.2 h0
        injection h with h
        subst h
        exact hc j u hu
    obtain ⟨v', w', hrun, h2, h3, _, h5⟩ := run_append_own_at (P := P) W base t ty e i z size bytes ht hi hz hs1 hby hzs hsz v n xs hown ad m c news hr.1 hcells h1 (by simp only [maxLen]; omega) hbytes hbase
    exact ⟨v', w', hrun, h2, ⟨h3, h5.imp id fun e => ⟨_, e, Nat.le_refl _⟩⟩⟩
theorem step_appS {ops : Array Oper} {o : Oper} {a : Act} {K : Act → World → Prop} {Q : Exit → Act → World → Prop} {E : Prop} {W : World} (hgd : o.guard = none) (s x : Operand) (t : TypeId)
    (ho : o.op = .call { callee := .builtin .append, args := #[s, x], argTypes := #[t, t] })
    (base : Nat) (e : TypeId) (z : Value) (size bytes : Nat) (hinf : (P.info? e).map (fun i => (i.zero, i.size, i.bytes)) = some (some z, size, bytes)) (hzs : z.cells.size = size) (hsz : 0 < size) (ht : P.underlying t = some (.slice e))
    (v : Value) (n : Nat) (xs : List Value) (hown : W.ownsRow base e size v n xs) (B : Nat) (A : Option Addr) (m c : Nat) (news : List Value) (hr : Rd W B size A m news) (hs : a.eval s = v) (hx : a.eval x = .slice A m c) (h1 : ∀ u ∈ news, u.oneCell' = true)
    (hbytes : (n + m) * bytes ≤ 140737488355328) (h63 : n + m ≤ 140737488355328) (hbase : base ≤ W.heap.size)
    (h : ∀ v' w', w'.ownsRow base e size v' (n + m) (xs ++ news) → Appd W w' v v' → K (a.put o.dst v') w') :
    if Region.wanted o (yielded ops a.tmps) = true then Oper.wp P o a W K Q else E := by
  have hw : Region.wanted o (yielded ops a.tmps) = true := by simp [Region.wanted, hgd]
  rw [if_pos hw]
  obtain ⟨v', w', hrun, h2, h3⟩ := run_appS (P := P) (W := W) t o.type base e z size bytes hinf hzs hsz ht v n xs hown B A m c news hr h1 hbytes h63 hbase
  unfold Oper.wp execOp
  simp only [ho, resolve, invoke, builtin, Sem.run_bind, Sem.run_pure, Result.andThen_ok, List.map_toArray, List.map_cons, List.map_nil, hs, hx, hrun]
  exact h v' w' h2 h3
end

end Go.Proofs.YtfhmaincnlaapaaGreat
namespace Go.Proofs.YtfhmaincnlaapaaGreat
open Go.ChangeShapes Go.WideShapes Go.ChangeAt Go.RowKit
set_option linter.unusedVariables false

end Go.Proofs.YtfhmaincnlaapaaGreat
namespace Go.Proofs.YtfhmaincnlaapaaGreat
open Go.ChangeShapes Go.WideShapes Go.ChangeAt Go.RowKit
set_option linter.unusedVariables false

/-- what an append comes to -/
noncomputable def appR (P : Program) (W : World) (t ty : TypeId) (s x : Value) : Value × World := match (Builtin.append_ #[t, t] ty #[s, x]).run P W with | .ok v w' => (v, w') | _ => (undef, W)
def okApp (P : Program) (W : World) (t ty : TypeId) (s x : Value) : Prop := ∃ v w', (Builtin.append_ #[t, t] ty #[s, x]).run P W = .ok v w'
theorem appR_of {P : Program} {W : World} {t ty : TypeId} {s x v : Value} {w' : World} (h : (Builtin.append_ #[t, t] ty #[s, x]).run P W = .ok v w') : okApp P W t ty s x ∧ (appR P W t ty s x).1 = v ∧ (appR P W t ty s x).2 = w' := by
  refine ⟨⟨v, w', h⟩, ?_, ?_⟩ <;> · unfold appR; rw [h]
theorem wp_app_rule {P : Program} {dst : Option Tmp} {s x : Operand} {t ty : TypeId} {pos : String} {after : Array Edge} {g : Option (Nat × Bool)} {a : Act} {W : World} {K : Act → World → Prop} {Q : Exit → Act → World → Prop}
    (h : okApp P W t ty (a.eval s) (a.eval x)) :
    Oper.wp P ⟨dst, .call { callee := .builtin .append, args := #[s, x], argTypes := #[t, t] }, ty, pos, after, g⟩ a W K Q = K (a.put dst (appR P W t ty (a.eval s) (a.eval x)).1) (appR P W t ty (a.eval s) (a.eval x)).2 := by
  obtain ⟨v, w', hr⟩ := h
  obtain ⟨_, e1, e2⟩ := appR_of hr
  rw [e1, e2]
  unfold Oper.wp execOp
  simp only [resolve, invoke, builtin, Sem.run_bind, Sem.run_pure, Result.andThen_ok, List.map_toArray, List.map_cons, List.map_nil, hr]
  rfl
end Go.Proofs.YtfhmaincnlaapaaGreat
namespace Go.Proofs.YtfhmaincnlaapaaGreat
open Go.ChangeShapes Go.WideShapes Go.ChangeAt Go.RowKit
set_option linter.unusedVariables false

/-- THE PACK AT BLOCK g: the sheets that are done; how many things and which bytes the next one has -/
def PkS (w : World) (base g : Nat) (kd : Int) (b : Nat) (ss : List Sht) (n : Nat) (d : List UInt8) : Prop :=
  base ≤ g ∧ ∃ bv ov Bd xs, Blk w g 149 #[.int .i64 kd, .int .u64 (b : Int), bv, .int .u64 (n : Int), ov] ∧ base ≤ Bd ∧ Bd ≤ w.heap.size ∧
    w.ownsRow Bd 5 1 bv d.length (u8s d) ∧ w.ownsRow base 42 4 ov ss.length xs ∧ ShO w base Bd ss xs
theorem PkS.lt {w : World} {base g n b : Nat} {kd : Int} {ss : List Sht} {d : List UInt8} (h : PkS w base g kd b ss n d) : g < w.heap.size := by obtain ⟨_, bv, ov, Bd, xs, hb, _⟩ := h; exact hb.lt
theorem PkS.below {w w' : World} {base g n b : Nat} {kd : Int} {ss : List Sht} {d : List UInt8} (h : PkS w base g kd b ss n d) (hb : Below w.heap.size w w') : PkS w' base g kd b ss n d := by
  obtain ⟨h0, bv, ov, Bd, xs, hB, h1, h2, h3, h4, h5⟩ := h
  exact ⟨h0, bv, ov, Bd, xs, hB.below hb hB.lt, h1, Nat.le_trans h2 hb.size, own_below h3 hb (Nat.le_refl _), own_below h4 hb (Nat.le_refl _), h5.map (Nat.le_refl _) fun v n ys ho _ => own_below ho hb (Nat.le_refl _)⟩

attribute [local go_sem ↓] wp_app_rule
end Go.Proofs.YtfhmaincnlaapaaGreat
namespace Go.Proofs.YtfhmaincnlaapaaGreat
open Go.ChangeShapes Go.WideShapes Go.ChangeAt Go.RowKit
set_option linter.unusedVariables false

/-- the pack's state: sheets done, how many things, their bytes -/
abbrev Pst := List Sht × Nat × List UInt8
def pput (kd : Int) (b : Nat) (st : Pst) (k : List UInt8) (brk : Bool) : Pst :=
  if brk = true ∨ 1001 < st.2.2.length + k.length then (if 0 < st.2.1 then st.1 ++ [⟨kd, st.2.1, b, st.2.2⟩] else st.1, 1, k) else (st.1, st.2.1 + 1, st.2.2 ++ k)
end Go.Proofs.YtfhmaincnlaapaaGreat
namespace Go.Proofs.YtfhmaincnlaapaaGreat
open Go.ChangeShapes Go.WideShapes Go.ChangeAt Go.RowKit
set_option linter.unusedVariables false

end Go.Proofs.YtfhmaincnlaapaaGreat
namespace Go.Proofs.YtfhmaincnlaapaaGreat
set_option linter.unusedVariables false

end Go.Proofs.YtfhmaincnlaapaaGreat
namespace Go.Proofs.YtfhmaincnlaapaaGreat
open Go.ChangeShapes Go.WideShapes Go.ChangeAt Go.RowKit
set_option linter.unusedVariables false

theorem step_appSD {P : Program} {ops : Array Oper} {o : Oper} {a : Act} {K : Act → World → Prop} {Q : Exit → Act → World → Prop} {E : Prop} {W : World} (d : Option Tmp) (hd : o.dst = d) (hgd : o.guard = none) (s x : Operand) (t : TypeId)
    (ho : o.op = .call { callee := .builtin .append, args := #[s, x], argTypes := #[t, t] })
    (base : Nat) (e : TypeId) (z : Value) (size bytes : Nat) (hinf : (P.info? e).map (fun i => (i.zero, i.size, i.bytes)) = some (some z, size, bytes)) (hzs : z.cells.size = size) (hsz : 0 < size) (ht : P.underlying t = some (.slice e))
    (v : Value) (n : Nat) (xs : List Value) (hown : W.ownsRow base e size v n xs) (B : Nat) (A : Option Addr) (m c : Nat) (news : List Value) (hr : Rd W B size A m news) (hs : a.eval s = v) (hx : a.eval x = .slice A m c) (h1 : ∀ u ∈ news, u.oneCell' = true)
    (hbytes : (n + m) * bytes ≤ 140737488355328) (h63 : n + m ≤ 140737488355328) (hbase : base ≤ W.heap.size)
    (h : ∀ v' w', w'.ownsRow base e size v' (n + m) (xs ++ news) → Appd W w' v v' → K (a.put d v') w') :
    if Region.wanted o (yielded ops a.tmps) = true then Oper.wp P o a W K Q else E := by
  subst hd
  exact step_appS hgd s x t ho base e z size bytes hinf hzs hsz ht v n xs hown B A m c news hr hs hx h1 hbytes h63 hbase h
end Go.Proofs.YtfhmaincnlaapaaGreat
namespace Go.Proofs.YtfhmaincnlaapaaGreat
open Go.ChangeShapes Go.WideShapes Go.ChangeAt Go.RowKit
set_option linter.unusedVariables false

def namesL (S : Sch) : List ByteArray := S.dims.map Prod.fst ++ S.ints ++ S.nums
theorem info_str : (Tryz.prog.info? 9).map (fun i => (i.zero, i.size, i.bytes)) = some (some (.string ⟨#[]⟩), 1, 16) := by kernel_rfl
theorem strs_one (l : List ByteArray) : ∀ u ∈ strs l, u.oneCell' = true := fun u hu => by
  obtain ⟨x, _, rfl⟩ := List.mem_map.1 hu; rfl
theorem strs_snoc (l : List ByteArray) (x : ByteArray) : strs l ++ [.string x] = strs (l ++ [x]) := by simp [strs]
theorem dims_snoc (l : List (ByteArray × Int)) (k : Nat) (hk : k < l.length) : (l.take (k + 1)).map Prod.fst = (l.take k).map Prod.fst ++ [l[k].1] := by
  rw [List.take_succ_eq_append_getElem hk, List.map_append]; rfl
theorem Rd.dim {w : World} {B : Nat} {A : Option Addr} {l : List (ByteArray × Int)} (h : Rd w B 2 A l.length (dimC l)) {k : Nat} (hk : k < l.length) : ∃ a, A = some a ∧ a.block < B ∧ w.cell? (a.add (k * 2)) = some (.string l[k].1) ∧ w.cell? ⟨(a.add (k * 2)).block, (a.add (k * 2)).off + 1, none⟩ = some (.int .i64 l[k].2) := by
  obtain ⟨a, rfl, hb, hc⟩ := h.2 (by omega)
  have key : ∀ j, j < 2 → w.cell? (a.add (k * 2 + j)) = ([.string l[k].1, .int .i64 l[k].2] : List Value)[j]? := fun j hj => by
    have := flat_get (fun x : ByteArray × Int => ([.string x.1, .int .i64 x.2] : List Value)) 2 (fun _ => rfl) l k j hk hj
    have hl : j < ([.string l[k].1, .int .i64 l[k].2] : List Value).length := hj
    rw [List.getElem?_eq_getElem hl] at this ⊢
    exact hc _ _ this
  refine ⟨a, rfl, hb, key 0 (by decide), ?_⟩
  have := key 1 (by decide)
  rw [← add_add', add_succ] at this
  exact this
def AllRel (W wr : World) (S : Sch) (v3 v9 : Value) : Prop :=
  ∃ k : Nat, k ≤ S.dims.length ∧ v9 = .int .i64 (k : Int) ∧ wr.ownsRow W.heap.size 9 1 v3 k (strs ((S.dims.take k).map Prod.fst)) ∧ Below W.heap.size W wr
set_option maxRecDepth 20000 in
set_option maxHeartbeats 1000000 in
theorem all_any (w : World) (B : Nat) (v : Value) (S : Sch) (h : SchAt w B v S) (hB : B ≤ w.heap.size) (h0 : S.dims.length ≤ 100) (h1 : S.ints.length ≤ 100) (h2 : S.nums.length ≤ 100) :
    Calls Tryz.prog 102 #[v] w fun y w' => ∃ v', y = .returned v' ∧ w'.ownsRow w.heap.size 9 1 v' (namesL S).length (strs (namesL S)) ∧ Below w.heap.size w w' := by
  obtain ⟨A0, c0, A1, c1, A2, c2, A3, c3, rfl, r0, r1, r2, r3, _, _, _, _⟩ := h
  have hw0 := belA (belR w) (.cells #[.slice A0 S.dims.length c0, .slice A1 S.ints.length c1, .slice A2 S.nums.length c2, .slice A3 S.views.length c3] 26)
  have hblk := Blk.new w 26 #[.slice A0 S.dims.length c0, .slice A1 S.ints.length c1, .slice A2 S.nums.length c2, .slice A3 S.views.length c3]
  have R0 := Lib.hid (r0.below (hw0.mono hB)); have R1 := Lib.hid (r1.below (hw0.mono hB)); have R2 := Lib.hid (r2.below (hw0.mono hB)); have HW0 := Lib.hid hw0; have HBLK := Lib.hid hblk
  have hz0 : w.heap.size < (w.alloc (.cells #[.slice A0 S.dims.length c0, .slice A1 S.ints.length c1, .slice A2 S.nums.length c2, .slice A3 S.views.length c3] 26)).heap.size := by simp
  clear r0 r1 r2 r3 hw0 hblk
  go_enter Tryz.func102, Tryz.ntmps102
  go_wp2_with fail
  generalize w.alloc (.cells #[.slice A0 S.dims.length c0, .slice A1 S.ints.length c1, .slice A2 S.nums.length c2, .slice A3 S.views.length c3] 26) = W at *
  go_loopw [3, 9] (fun v3 v9 wx => AllRel W wx S v3 v9) (fun _ v9 _ => S.dims.length - (intOf v9).toNat)
  case atStart => exact ⟨0, by omega, rfl, World.ownsRow_nil W W.heap.size 9 1, belR W⟩
  case round =>
    obtain ⟨k, hk, rfl, ho, hb⟩ := hrel
    have HO := Lib.hid ho; have HB := Lib.hid hb; clear ho hb
    by_cases hlt : k < S.dims.length
    · obtain ⟨a, rfl, hab, x0, x1⟩ := ((R0.out.more (show B ≤ W.heap.size by omega)).below HB.out).dim hlt
      have q1 : (0 : Int) ≤ (k : Int) := by omega
      have q2 : (k : Int) < (S.dims.length : Int) := by omega
      have hsn := dims_snoc S.dims k hlt
      generalize S.dims[k] = x at *
      obtain ⟨nm, sz⟩ := x
      simp only at x0 x1 hsn
      have HSN := Lib.hid hsn; clear hsn
      have hz := HB.out.size
      have hz3 : W.heap.size ≤ (wr.alloc (.cells #[.string nm, .int .i64 sz] 79)).heap.size := by simp; omega
      have hxx : Value.slice (some ⟨wr.heap.size + 1, 0, none⟩) 1 1 = .slice (some ⟨(wr.alloc (.cells #[.string nm, .int .i64 sz] 79)).heap.size, 0, none⟩) 1 1 := by simp
      have HO2 := Lib.hid (HO.out.alloc (.cells #[.string nm, .int .i64 sz] 79))
      go_wp2_with (at_builtin; refine wpList_app1 (wr.alloc (.cells #[.string nm, .int .i64 sz] 79)) (.string nm) rfl rfl (.tmp 13) (.tmp 16) 23 rfl W.heap.size 9 (.string ⟨#[]⟩) 16 info_str rfl Tryz.underlying23 _ k (strs ((S.dims.take k).map Prod.fst)) HO2.out rfl rfl ?_ ?_ ?_ ?_; omega; omega; exact hz3; intro v2 w2 ho2 hb2; have HO3 := Lib.hid ho2; have HB3 := Lib.hid (hb2.below (B := W.heap.size) hz3 HO2.out); clear ho2 hb2)
      go_roundw
      case rel => exact ⟨k + 1, by omega, by go_num, by rw [HSN.out, ← strs_snoc]; exact HO3.out, (HB.out.trans ((belA (belR wr) _).mono hz)).trans HB3.out⟩
      case measure => simp [intOf]; omega
    · obtain rfl : k = S.dims.length := by omega
      rw [List.take_length] at HO
      have hz := HB.out.size
      have k1 := HBLK.out.below HB.out hz0
      have x1 := k1.cell 1; have x2 := k1.cell 2
      simp at x1 x2
      have HR1 := Lib.hid (R1.out.below (HB.out.mono (show B ≤ W.heap.size by omega)))
      have HR2 := Lib.hid (R2.out.below (HB.out.mono (show B ≤ W.heap.size by omega)))
      clear k1
      go_wp2_with (first
        | (at_builtin; refine wpList_appS _ rfl (.tmp 19) (.tmp 21) 23 rfl W.heap.size 9 (.string ⟨#[]⟩) 1 16 info_str rfl (by decide) Tryz.underlying23 _ S.dims.length (strs (S.dims.map Prod.fst)) HO.out rfl _ A1 S.ints.length c1 (strs S.ints) HR1.out rfl (strs_one _) ?_ ?_ ?_ ?_; omega; omega; exact hz; intro v2 w2 ho2 hap2; have HO2 := Lib.hid ho2; have HB2 := Lib.hid (HB.out.trans (hap2.below hz HO.out)); have hz2 : W.heap.size ≤ w2.heap.size := HB2.out.size; have k2 := HBLK.out.below HB2.out hz0; have y2 := k2.cell 2; simp at y2; have HR3 := Lib.hid (R2.out.below (HB2.out.mono (show B ≤ W.heap.size by omega))); clear ho2 hap2 k2)
        | (at_builtin; refine wpList_appS _ rfl (.tmp 23) (.tmp 25) 23 rfl W.heap.size 9 (.string ⟨#[]⟩) 1 16 info_str rfl (by decide) Tryz.underlying23 _ (S.dims.length + S.ints.length) (strs (S.dims.map Prod.fst) ++ strs S.ints) HO2.out rfl _ A2 S.nums.length c2 (strs S.nums) HR3.out rfl (strs_one _) ?_ ?_ ?_ ?_; omega; omega; exact hz2; intro v3 w3 ho3 hap3; have HO3 := Lib.hid ho3; have HB3 := Lib.hid (HB2.out.trans (hap3.below hz2 HO2.out)); clear ho3 hap3))
      go_ret
      have hl : (namesL S).length = S.dims.length + S.ints.length + S.nums.length := by unfold namesL; rw [List.length_append, List.length_append, List.length_map]
      have hs : strs (namesL S) = strs (S.dims.map Prod.fst) ++ strs S.ints ++ strs S.nums := by unfold namesL strs; rw [List.map_append, List.map_append]
      exact ⟨_, rfl, by rw [hl, hs]; exact own_mono HO3.out (Nat.le_of_lt hz0), HW0.out.trans (HB3.out.mono (Nat.le_of_lt hz0))⟩
end Go.Proofs.YtfhmaincnlaapaaGreat
namespace Go.Proofs.YtfhmaincnlaapaaGreat
open Go.ChangeShapes Go.WideShapes Go.ChangeAt Go.RowKit
set_option linter.unusedVariables false

set_option maxRecDepth 20000 in
set_option maxHeartbeats 1000000 in
theorem refNames_any (w : World) (B : Nat) (v : Value) (S : Sch) (h : SchAt w B v S) (hB : B ≤ w.heap.size) (h0 : S.dims.length ≤ 100) (h1 : S.ints.length ≤ 100) (h2 : S.nums.length ≤ 100) :
    Calls Tryz.prog 37 #[v] w fun y w' => ∃ v', y = .returned v' ∧ w'.ownsRow w.heap.size 9 1 v' (namesL S).length (strs (namesL S)) ∧ Below w.heap.size w w' := by
  obtain ⟨A0, c0, A1, c1, A2, c2, A3, c3, rfl, r0, r1, r2, r3, _, _, _, _⟩ := h
  have hw0 := belA (belR w) (.cells #[.slice A0 S.dims.length c0, .slice A1 S.ints.length c1, .slice A2 S.nums.length c2, .slice A3 S.views.length c3] 26)
  have hblk := Blk.new w 26 #[.slice A0 S.dims.length c0, .slice A1 S.ints.length c1, .slice A2 S.nums.length c2, .slice A3 S.views.length c3]
  have R0 := Lib.hid (r0.below (hw0.mono hB)); have R1 := Lib.hid (r1.below (hw0.mono hB)); have R2 := Lib.hid (r2.below (hw0.mono hB)); have HW0 := Lib.hid hw0; have HBLK := Lib.hid hblk
  have hz0 : w.heap.size < (w.alloc (.cells #[.slice A0 S.dims.length c0, .slice A1 S.ints.length c1, .slice A2 S.nums.length c2, .slice A3 S.views.length c3] 26)).heap.size := by simp
  clear r0 r1 r2 r3 hw0 hblk
  go_enter Tryz.func37, Tryz.ntmps37
  go_wp2_with fail
  generalize w.alloc (.cells #[.slice A0 S.dims.length c0, .slice A1 S.ints.length c1, .slice A2 S.nums.length c2, .slice A3 S.views.length c3] 26) = W at *
  go_loopw [3, 4] (fun v3 v9 wx => AllRel W wx S v3 v9) (fun _ v9 _ => S.dims.length - (intOf v9).toNat)
  case atStart => exact ⟨0, by omega, rfl, World.ownsRow_nil W W.heap.size 9 1, belR W⟩
  case round =>
    obtain ⟨k, hk, rfl, ho, hb⟩ := hrel
    have HO := Lib.hid ho; have HB := Lib.hid hb; clear ho hb
    have hz := HB.out.size
    have k1 := HBLK.out.below HB.out hz0
    have z0 := k1.cell 0
    simp at z0
    by_cases hlt : k < S.dims.length
    · obtain ⟨a, rfl, hab, x0, x1⟩ := ((R0.out.more (show B ≤ W.heap.size by omega)).below HB.out).dim hlt
      have q1 : (0 : Int) ≤ (k : Int) := by omega
      have q2 : (k : Int) < (S.dims.length : Int) := by omega
      have hsn := dims_snoc S.dims k hlt
      generalize S.dims[k] = x at *
      obtain ⟨nm, sz⟩ := x
      simp only at x0 x1 hsn
      have HSN := Lib.hid hsn; clear hsn k1
      go_wp2_with (at_builtin; refine wpList_app1 wr (.string nm) rfl rfl (.tmp 12) (.tmp 19) 23 rfl W.heap.size 9 (.string ⟨#[]⟩) 16 info_str rfl Tryz.underlying23 _ k (strs ((S.dims.take k).map Prod.fst)) HO.out rfl rfl ?_ ?_ ?_ ?_; omega; omega; exact hz; intro v2 w2 ho2 hb2; have HO3 := Lib.hid ho2; have HB3 := Lib.hid (hb2.below (B := W.heap.size) hz HO.out); clear ho2 hb2)
      go_roundw
      case rel => exact ⟨k + 1, by omega, by go_num, by rw [HSN.out, ← strs_snoc]; exact HO3.out, HB.out.trans HB3.out⟩
      case measure => simp [intOf]; omega
    · obtain rfl : k = S.dims.length := by omega
      rw [List.take_length] at HO
      have hs1 : wr.drew.cell? ⟨w.heap.size, 1, none⟩ = some (.slice A1 S.ints.length c1) ∧ wr.drew.cell? ⟨w.heap.size, 2, none⟩ = some (.slice A2 S.nums.length c2) := ⟨k1.drew.cell 1, k1.drew.cell 2⟩
      have HR1 := Lib.hid ((R1.out.below (HB.out.mono (show B ≤ W.heap.size by omega))).drewN 1)
      have HS1 := Lib.hid hs1; clear hs1 k1
      have HOD : Hid (wr.drew.ownsRow W.heap.size 9 1 _ S.dims.length (strs (S.dims.map Prod.fst))) := Lib.hid HO.out
      have HBD : Hid (Below W.heap.size W wr.drew) := Lib.hid HB.out.drew
      have hzd : W.heap.size ≤ wr.drew.heap.size := hz
      go_upto_region 6 with (fail)
      go_region_held3 (fun W' => W'.cell? ⟨w.heap.size, 1, none⟩ = some (.slice A1 S.ints.length c1) ∧ W'.cell? ⟨w.heap.size, 2, none⟩ = some (.slice A2 S.nums.length c2)) (first | (with_reducible exact HS1.out) | (exact HS2.out) | (exact HS3.out))
        (first
         | (refine step_appSD (some 24) (by rfl) (by rfl) (.tmp 21) (.tmp 23) 23 (by rfl) W.heap.size 9 (.string ⟨#[]⟩) 1 16 info_str rfl (by decide) Tryz.underlying23 _ S.dims.length (strs (S.dims.map Prod.fst)) HOD.out _ A1 S.ints.length c1 (strs S.ints) HR1.out (by rfl) (by rfl) (strs_one _) (by omega) (by omega) hzd ?_; intro v2 w2 ho2 hap2; have HO2 := Lib.hid ho2; have HB2 := Lib.hid (HBD.out.trans (hap2.below hzd HOD.out)); have hz2 : W.heap.size ≤ w2.heap.size := HB2.out.size; have k2 := HBLK.out.below HB2.out hz0; have HS2 : Hid (w2.cell? ⟨w.heap.size, 1, none⟩ = some (.slice A1 S.ints.length c1) ∧ w2.cell? ⟨w.heap.size, 2, none⟩ = some (.slice A2 S.nums.length c2)) := Lib.hid ⟨k2.cell 1, k2.cell 2⟩; have HR3 := Lib.hid (R2.out.below (HB2.out.mono (show B ≤ W.heap.size by omega))); clear ho2 hap2 k2)
         | (refine step_appSD (some 27) (by rfl) (by rfl) (.tmp 24) (.tmp 26) 23 (by rfl) W.heap.size 9 (.string ⟨#[]⟩) 1 16 info_str rfl (by decide) Tryz.underlying23 _ (S.dims.length + S.ints.length) (strs (S.dims.map Prod.fst) ++ strs S.ints) HO2.out _ A2 S.nums.length c2 (strs S.nums) HR3.out (by rfl) (by rfl) (strs_one _) (by omega) (by omega) hz2 ?_; intro v3 w3 ho3 hap3; have HO3 := Lib.hid ho3; have HB3 := Lib.hid (HB2.out.trans (hap3.below hz2 HO2.out)); have k3 := HBLK.out.below HB3.out hz0; have HS3 : Hid (w3.cell? ⟨w.heap.size, 1, none⟩ = some (.slice A1 S.ints.length c1) ∧ w3.cell? ⟨w.heap.size, 2, none⟩ = some (.slice A2 S.nums.length c2)) := Lib.hid ⟨k3.cell 1, k3.cell 2⟩; clear ho3 hap3 k3))
      go_wp2
      go_ret
      have hl : (namesL S).length = S.dims.length + S.ints.length + S.nums.length := by unfold namesL; rw [List.length_append, List.length_append, List.length_map]
      have hs : strs (namesL S) = strs (S.dims.map Prod.fst) ++ strs S.ints ++ strs S.nums := by unfold namesL strs; rw [List.map_append, List.map_append]
      exact ⟨_, rfl, by rw [hl, hs]; exact own_mono HO3.out (Nat.le_of_lt hz0), HW0.out.trans (HB3.out.mono (Nat.le_of_lt hz0))⟩
end Go.Proofs.YtfhmaincnlaapaaGreat
namespace Go.Proofs.YtfhmaincnlaapaaGreat
open Go.ChangeShapes Go.WideShapes Go.ChangeAt Go.RowKit
set_option linter.unusedVariables false

/-- is a schema small? -/
def lightB (S : Sch) : Bool := decide (S.dims.length ≤ 100) && decide (S.ints.length ≤ 100) && decide (S.nums.length ≤ 100) && decide (S.views.length ≤ 100) && (namesL S).all fun x => decide (x.size ≤ 100)
theorem lightB_no (S : Sch) (h : ¬ (S.dims.length ≤ 100 ∧ S.ints.length ≤ 100 ∧ S.nums.length ≤ 100 ∧ S.views.length ≤ 100)) : lightB S = false := by
  cases hl : lightB S with
  | false => rfl
  | true =>
    unfold lightB at hl
    simp only [Bool.and_eq_true, decide_eq_true_iff] at hl
    exact absurd ⟨hl.1.1.1.1, hl.1.1.1.2, hl.1.1.2, hl.1.2⟩ h
set_option maxRecDepth 20000 in
set_option maxHeartbeats 1000000 in
theorem light_any (w : World) (B : Nat) (v : Value) (S : Sch) (h : SchAt w B v S) (hB : B ≤ w.heap.size) :
    Calls Tryz.prog 9 #[v] w fun y w' => y = .returned (.bool (lightB S)) ∧ Below w.heap.size w w' := by
  have hh := h
  obtain ⟨A0, c0, A1, c1, A2, c2, A3, c3, rfl, r0, r1, r2, r3, b0, b1, b2, b3⟩ := h
  have hw0 := belA (belR w) (.cells #[.slice A0 S.dims.length c0, .slice A1 S.ints.length c1, .slice A2 S.nums.length c2, .slice A3 S.views.length c3] 26)
  have hs0 : SchAt (w.alloc (.cells #[.slice A0 S.dims.length c0, .slice A1 S.ints.length c1, .slice A2 S.nums.length c2, .slice A3 S.views.length c3] 26)) B (.agg #[.slice A0 S.dims.length c0, .slice A1 S.ints.length c1, .slice A2 S.nums.length c2, .slice A3 S.views.length c3]) S :=
    ⟨A0, c0, A1, c1, A2, c2, A3, c3, rfl, r0.below (hw0.mono hB), r1.below (hw0.mono hB), r2.below (hw0.mono hB), r3.below (hw0.mono hB), b0, b1, b2, b3⟩
  clear r0 r1 r2 r3 hh b0 b1 b2 b3
  have HS := Lib.hid hs0; have HW0 := Lib.hid hw0; clear hs0 hw0
  have hno := lightB_no S
  by_cases h0 : S.dims.length ≤ 100
  · by_cases h1 : S.ints.length ≤ 100
    · by_cases h2 : S.nums.length ≤ 100
      · by_cases h3 : S.views.length ≤ 100
        · have hl : lightB S = (namesL S).all fun x => decide (x.size ≤ 100) := by unfold lightB; rw [decide_eq_true h0, decide_eq_true h1, decide_eq_true h2, decide_eq_true h3]; rfl
          have hnl : (namesL S).length ≤ 300 := by unfold namesL; rw [List.length_append, List.length_append, List.length_map]; omega
          have hn := refNames_any _ B _ S HS.out (Nat.le_trans hB (by simp)) h0 h1 h2
          have HL := Lib.hid hl; have HN := Lib.hid hn; clear hl hn hno
          generalize namesL S = L at *
          go_enter Tryz.func9, Tryz.ntmps9
          go_wp2_with (go_at_call 37; (with_reducible refine HN.out.mono ?_); rintro y w1 ⟨v1, rfl, ho1, hb1⟩; obtain ⟨A5, c5, rfl, _, _, _⟩ := own_form ho1; have HR1 := Lib.hid (Rd.own ho1); have HB1 := Lib.hid (belT HW0.out hb1); clear ho1 hb1)
          go_loop [4] (fun i => ∃ k : Nat, k ≤ L.length ∧ i = .int .i64 (k : Int) ∧ Hid (∀ j (hj : j < L.length), j < k → L[j].size ≤ 100)) (fun i => L.length - (intOf i).toNat)
          case atStart => exact ⟨0, by omega, rfl, fun j _ hj => by omega⟩
          case round =>
            obtain ⟨k, hk, rfl, HA⟩ := hrel
            by_cases hlt : k < L.length
            · obtain ⟨a, rfl, hab, x0⟩ := HR1.out.str hlt
              have q1 : (0 : Int) ≤ (k : Int) := by omega
              have q2 : (k : Int) < (L.length : Int) := by omega
              have hst := fun (h : L[k].size ≤ 100) => (show ∀ j (hj : j < L.length), j < k + 1 → L[j].size ≤ 100 from fun j hj hjk => by
                by_cases e : j = k
                · subst e; exact h
                · exact HA.out j hj (by omega))
              have hbad : ¬ L[k].size ≤ 100 → (L.all fun x => decide (x.size ≤ 100)) = false := fun h => by
                rw [List.all_eq_false]; exact ⟨_, List.getElem_mem hlt, by rw [decide_eq_false h]; decide⟩
              generalize L[k] = x at *
              have HST := Lib.hid hst; have HBAD := Lib.hid hbad; clear hst hbad
              by_cases hx : x.size ≤ 100
              · have hy := HST.out hx
                have HY := Lib.hid hy; clear hy
                go_wp2
                go_round
                case rel => exact ⟨k + 1, by omega, by go_num, HY⟩
                case measure => simp [intOf]; omega
              · have hn := HBAD.out hx
                have HNO := Lib.hid hn; clear hn
                go_wp2
                go_ret
                exact ⟨by rw [HL.out, HNO.out]; rfl, HB1.out⟩
            · have hy : (L.all fun x => decide (x.size ≤ 100)) = true := by
                rw [List.all_eq_true]
                intro x hx
                obtain ⟨j, hj, rfl⟩ := List.getElem_of_mem hx
                exact decide_eq_true (HA.out j hj (by omega))
              have HY := Lib.hid hy; clear hy
              go_wp2
              go_ret
              exact ⟨by rw [HL.out, HY.out]; rfl, HB1.out⟩
        · have HNO := Lib.hid (hno (fun h => h3 h.2.2.2)); clear hno
          go_enter Tryz.func9, Tryz.ntmps9
          go_wp2
          go_ret
          exact ⟨by rw [HNO.out]; rfl, HW0.out⟩
      · have HNO := Lib.hid (hno (fun h => h2 h.2.2.1)); clear hno
        go_enter Tryz.func9, Tryz.ntmps9
        go_wp2
        go_ret
        exact ⟨by rw [HNO.out]; rfl, HW0.out⟩
    · have HNO := Lib.hid (hno (fun h => h1 h.2.1)); clear hno
      go_enter Tryz.func9, Tryz.ntmps9
      go_wp2
      go_ret
      exact ⟨by rw [HNO.out]; rfl, HW0.out⟩
  · have HNO := Lib.hid (hno (fun h => h0 h.1)); clear hno
    go_enter Tryz.func9, Tryz.ntmps9
    go_wp2
    go_ret
    exact ⟨by rw [HNO.out]; rfl, HW0.out⟩
end Go.Proofs.YtfhmaincnlaapaaGreat
