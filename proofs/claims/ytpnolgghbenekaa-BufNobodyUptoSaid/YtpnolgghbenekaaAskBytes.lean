/-
  bushelref08.Bytes; bushellaw08.told; bushellaw08.write.
-/
import Derived.Test.YtpnolgghbenekaaBufFar
import Derived.Test.YtpnolgghbenekaaBackRead
import Derived.Test.YtpnolgghbenekaaLawCodePuts
import Derived.Deep.RegionHeld3
import Derived.Lib.AppendStr
namespace Go.Proofs.Ytpnolgghbenekaa
open Go.ChangeShapes Go.WideShapes Go.ChangeAt Go.RowKit
set_option linter.unusedVariables false

/-- what is written of a thing -/
def encAsk (a : AskS) : List UInt8 := if a.d = 0 then encU a.u else if a.d = 1 then encI a.i else if a.d = 2 then be 8 (keyB a.f) else if a.d = 3 then encT a.s.data.toList else encU a.s.size ++ a.s.data.toList
def toldN (a : AskS) : Nat := if a.d = 2 then keyB a.f else a.u
theorem encAsk_len (a : AskS) (hs : a.s.size ≤ 200) (ha : AskOk a) : (encAsk a).length ≤ 402 := by
  have h1 := wd_le a.u; have h2 := encI_len9 a.i ha.i1 ha.i2; have h3 := encT_len2 a.s.data.toList; have h4 := wd_le a.s.size
  have e : a.s.data.toList.length = a.s.size := rfl
  unfold encAsk
  split
  · rw [encU_length]; omega
  · split
    · omega
    · split
      · rw [be_length]; omega
      · split
        · omega
        · rw [List.length_append, encU_length]; omega
theorem step_appStrD {P : Program} {ops : Array Oper} {o : Oper} {a : Act} {K : Act → World → Prop} {Q : Exit → Act → World → Prop} {E : Prop} {W : World} (d : Option Tmp) (hd : o.dst = d) (hgd : o.guard = none) (s x : Operand) (t u : TypeId)
    (ho : o.op = .call { callee := .builtin .append, args := #[s, x], argTypes := #[t, u] })
    (base : Nat) (e : TypeId) (hinf : (P.info? e).map (fun i => (i.zero, i.size, i.bytes)) = some (some (.int .u8 0), 1, 1)) (ht : P.underlying t = some (.slice e)) (hu : P.underlying u = some .string)
    (v : Value) (n : Nat) (xs : List Value) (hown : W.ownsRow base e 1 v n xs) (S : ByteArray) (hs : a.eval s = v) (hx : a.eval x = .string S)
    (hbytes : n + S.size ≤ 140737488355328) (hbase : base ≤ W.heap.size)
    (h : ∀ v' w', w'.ownsRow base e 1 v' (n + S.size) (xs ++ u8s S.data.toList) → W.grownBy w' v.ownBlock → K (a.put d v') w') :
    if Region.wanted o (yielded ops a.tmps) = true then Oper.wp P o a W K Q else E := by
  subst hd
  have hw : Region.wanted o (yielded ops a.tmps) = true := by simp [Region.wanted, hgd]
  rw [if_pos hw]
  obtain ⟨i, hi, hz, hs1, hby⟩ := info_parts hinf
  obtain ⟨v', w', hrun, h2, h3, _⟩ := Lib.run_append_own_string (P := P) (w := W) base t u o.type e i ht hu hi hz hs1 hby v n xs hown S (by simp only [maxLen]; omega) hbytes hbase
  unfold Oper.wp execOp
  simp only [ho, resolve, invoke, builtin, Sem.run_bind, Sem.run_pure, Result.andThen_ok, List.map_toArray, List.map_cons, List.map_nil, hs, hx, hrun]
  exact h v' w' h2 h3

section
variable (w : World) (a : AskS)
set_option maxRecDepth 20000 in
set_option maxHeartbeats 1000000 in
theorem refBytes_any (ha : AskOk a) (hs : a.s.size ≤ 200) (h0 : 0 ≤ a.d) (h4 : a.d ≤ 4) :
    Calls Try.prog 42 #[.agg (askC a).toArray] w fun y w' => ∃ v, y = .returned v ∧ w'.ownsRow w.heap.size 5 1 v (encAsk a).length (u8s (encAsk a)) ∧ Below w.heap.size w w' := by
  have hd : a.d = 0 ∨ a.d = 1 ∨ a.d = 2 ∨ a.d = 3 ∨ a.d = 4 := by omega
  have hU := fun W => refU_any a.u W ha.u
  have hI := fun W => refI_any a.i W ha.i1 ha.i2
  have hF := fun W => refF_any a.f W ha.f
  have hT := fun W => refT_any a.s W (by omega)
  have hS := fun W => refU_any a.s.size W (by omega)
  obtain ⟨d, u, i, f, s, m⟩ := a
  simp only at hU hI hF hT hS hs hd
  clear ha h0 h4
  show Calls Try.prog 42 #[.agg #[.int .i64 d, .int .u64 (u : Int), .int .i64 i, .float .f64 f, .string s, .int .i64 m]] w _
  rcases hd with rfl | rfl | rfl | rfl | rfl
  · have e : encAsk ⟨0, u, i, f, s, m⟩ = encU u := if_pos rfl
    rw [e, encU_length]
    have HU := Lib.hid hU; clear hU hI hF hT hS e
    go_enter Try.func42, Try.ntmps42
    go_wp2_with (go_at_call 53; (with_reducible refine (HU.out _).mono ?_); rintro y w1 ⟨v1, rfl, ho1, hb1⟩)
    go_ret
    exact ⟨v1, rfl, own_mono ho1 (by simp), belT (belA (belR w) _) hb1⟩
  · have e : encAsk ⟨1, u, i, f, s, m⟩ = encI i := rfl
    rw [e]
    have HI := Lib.hid hI; clear hU hI hF hT hS e
    go_enter Try.func42, Try.ntmps42
    go_wp2_with (go_at_call 85; (with_reducible refine (HI.out _).mono ?_); rintro y w1 ⟨v1, rfl, ho1, hb1⟩)
    go_ret
    exact ⟨v1, rfl, own_mono ho1 (by simp), belT (belA (belR w) _) hb1⟩
  · have e : encAsk ⟨2, u, i, f, s, m⟩ = be 8 (keyB f) := rfl
    rw [e, be_length]
    have HF := Lib.hid hF; clear hU hI hF hT hS e
    go_enter Try.func42, Try.ntmps42
    go_wp2_with (go_at_call 86; (with_reducible refine (HF.out _).mono ?_); rintro y w1 ⟨v1, rfl, ho1, hb1⟩)
    go_ret
    exact ⟨v1, rfl, own_mono ho1 (by simp), belT (belA (belR w) _) hb1⟩
  · have e : encAsk ⟨3, u, i, f, s, m⟩ = encT s.data.toList := rfl
    rw [e]
    have HT := Lib.hid hT; clear hU hI hF hT hS e
    go_enter Try.func42, Try.ntmps42
    go_wp2_with (go_at_call 87; (with_reducible refine (HT.out _).mono ?_); rintro y w1 ⟨v1, rfl, ho1, hb1⟩)
    go_ret
    exact ⟨v1, rfl, own_mono ho1 (by simp), belT (belA (belR w) _) hb1⟩
  · have e : encAsk ⟨4, u, i, f, s, m⟩ = encU s.size ++ s.data.toList := rfl
    have el : (encU s.size ++ s.data.toList).length = wd s.size + 1 + s.size := by rw [List.length_append, encU_length]; rfl
    rw [e, el, u8s_append]
    have wm : IntKind.u64.wrap (s.size : Int) = (s.size : Int) := by rw [IntKind.wrap_u64]; omega
    have hw8 := wd_le s.size
    have hst : (w.alloc (.cells #[.int .i64 4, .int .u64 (u : Int), .int .i64 i, .float .f64 f, .string s, .int .i64 m] 79)).drew.cell? ⟨w.heap.size, 4, none⟩ = some (.string s) := by simp [go_sem]
    have HS := Lib.hid hS; have HST := Lib.hid hst; clear hU hI hF hT hS e el hst
    go_enter Try.func42, Try.ntmps42
    go_wp2_with fail
    go_region_held3 (fun W => W.cell? ⟨w.heap.size, 4, none⟩ = some (.string s)) (first | (with_reducible exact HST.out) | (exact (hb1.cell (by simp)).trans HST.out) | (exact hk3))
      (first
       | (go_at_call 53; (with_reducible refine (HS.out _).mono ?_); rintro y w1 ⟨v1, rfl, ho1, hb1⟩)
       | (refine step_appStrD (some 32) (by rfl) (by rfl) _ _ 36 9 (by rfl) (w.heap.size + 1) 5 info_u8 Try.underlying36 Try.underlying9 v1 _ _ (own_mono ho1 (by simp)) s (by rfl) (by rfl) (by omega) (by have := hb1.size; simp at this; omega) ?_; intro v3 w3 ho3 hg3; have hk3 : w3.cell? ⟨w.heap.size, 4, none⟩ = some (.string s) := (((Below.refl _ _).grown hg3 (show w.heap.size + 1 ≤ w1.heap.size by have := hb1.size; simp at this; omega) (fun k hk => by have := (ho1.lt k hk).1; simp at this; omega)).cell (by simp)).trans ((hb1.cell (by simp)).trans HST.out)))
    go_wp2
    go_ret
    exact ⟨v3, rfl, own_mono ho3 (by omega), (belT (belD (belA (belR w) _) _) hb1).trans ((Below.refl _ _).grown hg3 (by have := hb1.size; simp at this; omega) (fun k hk => by have := (ho1.lt k hk).1; simp at this; omega))⟩
set_option maxRecDepth 20000 in
theorem told_any (ha : AskOk a) : Calls Try.prog 44 #[.agg (askC a).toArray] w fun y w' => y = .returned (.int .u64 (toldN a : Int)) ∧ Below w.heap.size w w' := by
  have hK := fun W => refKey_any a.f W ha.f
  obtain ⟨d, u, i, f, s, m⟩ := a
  simp only at hK
  clear ha
  show Calls Try.prog 44 #[.agg #[.int .i64 d, .int .u64 (u : Int), .int .i64 i, .float .f64 f, .string s, .int .i64 m]] w _
  by_cases h2 : d = 2
  · subst h2
    have e : toldN ⟨2, u, i, f, s, m⟩ = keyB f := if_pos rfl
    rw [e]
    have HK := Lib.hid hK; clear hK e
    go_enter Try.func44, Try.ntmps44
    go_wp2_with (go_at_call 78; (with_reducible refine (HK.out _).mono ?_); rintro y w1 ⟨rfl, j, rfl⟩)
    go_ret
    exact ⟨rfl, belD (belA (belR w) _) _⟩
  · have e : toldN ⟨d, u, i, f, s, m⟩ = u := if_neg h2
    rw [e]
    have t1 : (d == 2) = false := by rw [beq_eq_false_iff_ne]; exact h2
    clear hK e h2
    go_enter Try.func44, Try.ntmps44
    go_wp2
    go_ret
    exact ⟨rfl, belA (belR w) _⟩
set_option maxRecDepth 20000 in
set_option maxHeartbeats 1000000 in
theorem write_any (base g : Nat) (l : List UInt8) (h : OutS w base g l) (hlen : l.length ≤ 900000000) (ha : AskOk a) (hs : a.s.size ≤ 200) (h0 : 0 ≤ a.d) (h4 : a.d ≤ 4) :
    Calls Try.prog 41 #[.pointer (some ⟨g, 0, none⟩), .agg (askC a).toArray] w fun y w' => y = .returned (.tuple #[]) ∧ OutS w' base g (l ++ encAsk a) ∧ Below base w w' := by
  have hd : a.d = 0 ∨ a.d = 1 ∨ a.d = 2 ∨ a.d = 3 ∨ a.d = 4 := by omega
  have hbz := h.2.1
  have hO := fun (o : Obj) => h.below (belA (belR w) o)
  have hU := fun W (h : OutS W base g l) => outU_any W base g a.u l h ha.u hlen
  have hI := fun W (h : OutS W base g l) => outI_any W base g a.i l h ha.i1 ha.i2 hlen
  have hF := fun W (h : OutS W base g l) => outF_any W base g a.f l h ha.f hlen
  have hT := fun W (h : OutS W base g l) => outT_any W base g a.s l h (by omega) hlen
  obtain ⟨d, u, i, f, s, m⟩ := a
  simp only at hU hI hF hT hs hd
  clear ha h0 h4
  show Calls Try.prog 41 #[.pointer (some ⟨g, 0, none⟩), .agg #[.int .i64 d, .int .u64 (u : Int), .int .i64 i, .float .f64 f, .string s, .int .i64 m]] w _
  have HO := Lib.hid hO; clear hO
  rcases hd with rfl | rfl | rfl | rfl | rfl
  · have e : encAsk ⟨0, u, i, f, s, m⟩ = encU u := if_pos rfl
    rw [e]
    have HC := Lib.hid hU; clear hU hI hF hT h e
    go_enter Try.func41, Try.ntmps41
    go_wp2_with (go_at_call 70; (with_reducible refine (HC.out _ (HO.out _)).mono ?_); rintro y w1 ⟨rfl, ho1, hb1⟩)
    go_end0
    exact ⟨rfl, ho1, ((belA (belR w) _).mono hbz).trans hb1⟩
  · have e : encAsk ⟨1, u, i, f, s, m⟩ = encI i := rfl
    rw [e]
    have HC := Lib.hid hI; clear hU hI hF hT h e
    go_enter Try.func41, Try.ntmps41
    go_wp2_with (go_at_call 82; (with_reducible refine (HC.out _ (HO.out _)).mono ?_); rintro y w1 ⟨rfl, ho1, hb1⟩)
    go_end0
    exact ⟨rfl, ho1, ((belA (belR w) _).mono hbz).trans hb1⟩
  · have e : encAsk ⟨2, u, i, f, s, m⟩ = be 8 (keyB f) := rfl
    rw [e]
    have HC := Lib.hid hF; clear hU hI hF hT h e
    go_enter Try.func41, Try.ntmps41
    go_wp2_with (go_at_call 83; (with_reducible refine (HC.out _ (HO.out _)).mono ?_); rintro y w1 ⟨rfl, ho1, hb1⟩)
    go_end0
    exact ⟨rfl, ho1, ((belA (belR w) _).mono hbz).trans hb1⟩
  · have e : encAsk ⟨3, u, i, f, s, m⟩ = encT s.data.toList := rfl
    rw [e]
    have HC := Lib.hid hT; clear hU hI hF hT h e
    go_enter Try.func41, Try.ntmps41
    go_wp2_with (go_at_call 71; (with_reducible refine (HC.out _ (HO.out _)).mono ?_); rintro y w1 ⟨rfl, ho1, hb1⟩)
    go_end0
    exact ⟨rfl, ho1, ((belA (belR w) _).mono hbz).trans hb1⟩
  · have e : encAsk ⟨4, u, i, f, s, m⟩ = encU s.size ++ s.data.toList := rfl
    rw [e, ← List.append_assoc]
    obtain ⟨W1, c1, hcv, hR1, hb1, hlt1⟩ := conv_bytes (w.alloc (.cells #[.int .i64 4, .int .u64 (u : Int), .int .i64 i, .float .f64 f, .string s, .int .i64 m] 79)) s
    have hfar := (HO.out (.cells #[.int .i64 4, .int .u64 (u : Int), .int .i64 i, .float .f64 f, .string s, .int .i64 m] 79)).far hb1 hlt1
    have hc := outB_far W1 base g _ s.data.toList l s.size c1 hfar hR1 (by omega) hlen
    have hbw := ((belA (belR w) (.cells #[.int .i64 4, .int .u64 (u : Int), .int .i64 i, .float .f64 f, .string s, .int .i64 m] 79)).mono hbz).trans (hb1.mono (by simp; omega))
    simp only [World.size_alloc] at hcv hc
    have HC := Lib.hid hc; have HBW := Lib.hid hbw; clear hU hI hF hT h e hc hbw hfar hR1 hb1 hlt1
    go_enter Try.func41, Try.ntmps41
    go_wp2_with (go_at_call 84; (with_reducible refine HC.out.mono ?_); rintro y w2 ⟨rfl, ho2, hb2⟩)
    go_end0
    exact ⟨rfl, ho2, HBW.out.trans hb2⟩
end
end Go.Proofs.Ytpnolgghbenekaa
