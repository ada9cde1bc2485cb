/-
  WHAT A NODE READS AS, as a plain function.
  SHEETS IN MEMORY.
  ENTRIES IN MEMORY; which may be those of nodes.
-/
import Derived.Test.YtfhmaincnlaapaaBlk
import Derived.IntWalk
import Derived.Test.YtfhmaincnlaapaaBufOut
import Derived.Deep.RegionHeldLaw
import Derived.Test.YtfhmaincnlaapaaBufInU
namespace Go.Proofs.Ytfhmaincnlaapaa
open Go.ChangeShapes Go.WideShapes Go.ChangeAt Go.RowKit
set_option linter.unusedVariables false

/-- the cells of a list whose elements have some cells each -/
theorem flat_get {α : Type} (f : α → List Value) (s : Nat) (hs : ∀ x, (f x).length = s) (l : List α) (k j : Nat) (hk : k < l.length) (hj : j < s) : (l.flatMap f)[k * s + j]? = (f l[k])[j]? := by
  induction l generalizing k with
  | nil => simp at hk
  | cons x l ih =>
    rw [List.flatMap_cons]
    cases k with
    | zero => rw [Nat.zero_mul, Nat.zero_add, List.getElem?_append_left (by rw [hs]; exact hj)]; rfl
    | succ k =>
      rw [List.getElem?_append_right (by rw [hs, Nat.succ_mul]; omega), hs, show (k + 1) * s + j - s = k * s + j from by rw [Nat.succ_mul]; omega, ih k (by simpa using hk)]
      rfl
theorem flat_len {α : Type} (f : α → List Value) (s : Nat) (hs : ∀ x, (f x).length = s) (l : List α) : (l.flatMap f).length = l.length * s := by
  induction l with
  | nil => simp
  | cons x l ih => rw [List.flatMap_cons, List.length_append, hs, ih, List.length_cons, Nat.succ_mul]; omega

def entC (l : List (Nat × Int)) : List Value := l.flatMap fun x => [.int .u64 (x.1 : Int), .int .i64 x.2]
theorem entC_len (l : List (Nat × Int)) : (entC l).length = l.length * 2 := flat_len _ 2 (fun _ => rfl) l
theorem entC_snoc (l : List (Nat × Int)) (f : Nat) (p : Int) : entC l ++ [.int .u64 (f : Int), .int .i64 p] = entC (l ++ [(f, p)]) := by simp [entC]
section
variable {w w' : World} {B n : Nat} {A : Option Addr} {l : List (Nat × Int)}
theorem Rd.ent_len (h : Rd w B 2 A n (entC l)) : n = l.length := by have := h.1; rw [entC_len] at this; omega
theorem Rd.ent (h : Rd w B 2 A n (entC l)) {k : Nat} (hk : k < l.length) : ∃ a, A = some a ∧ a.block < B ∧ w.cell? (a.add (k * 2)) = some (.int .u64 (l[k].1 : Int)) ∧ w.cell? ⟨(a.add (k * 2)).block, (a.add (k * 2)).off + 1, none⟩ = some (.int .i64 l[k].2) := by
  obtain ⟨a, e, hb, hc⟩ := h.2 (by rw [h.ent_len]; omega)
  refine ⟨a, e, hb, hc _ _ ?_, ?_⟩
  · have := flat_get (fun x : Nat × Int => [Value.int .u64 (x.1 : Int), .int .i64 x.2]) 2 (fun _ => rfl) l k 0 hk (by omega)
    exact this
  · have := flat_get (fun x : Nat × Int => [Value.int .u64 (x.1 : Int), .int .i64 x.2]) 2 (fun _ => rfl) l k 1 hk (by omega)
    have := hc _ _ this
    rw [← add_add', add_succ] at this
    exact this
end

/-- may entry k stand where it stands? -/
def okAt (l : List (Nat × Int)) (k : Nat) : Bool :=
  match l[k]? with
  | none => true
  | some x => decide (1 ≤ x.2) && decide (x.2 ≤ 8192) && (match k with | 0 => true | j + 1 => match l[j]? with | none => true | some y => decide (y.1 < x.1))
def riseB (l : List (Nat × Int)) : Bool := (List.range l.length).all (okAt l)
theorem riseB_iff (l : List (Nat × Int)) : riseB l = true ↔ ∀ k, k < l.length → okAt l k = true := by simp [riseB]
theorem riseB_no (l : List (Nat × Int)) (k : Nat) (hk : k < l.length) (h : okAt l k = false) : riseB l = false := by
  rw [Bool.eq_false_iff]; intro h'; rw [riseB_iff] at h'; rw [h' k hk] at h; cases h
theorem okAt_zero (l : List (Nat × Int)) (h : 0 < l.length) : okAt l 0 = (decide (1 ≤ l[0].2) && decide (l[0].2 ≤ 8192)) := by
  simp [okAt, h]
theorem okAt_succ (l : List (Nat × Int)) (j : Nat) (h : j + 1 < l.length) : okAt l (j + 1) = (decide (1 ≤ l[j + 1].2) && decide (l[j + 1].2 ≤ 8192) && decide (l[j].1 < l[j + 1].1)) := by
  have h' : j < l.length := by omega
  simp [okAt, h, h']

theorem one_of {p : Nat → Prop} (h : p 0) : ∀ j, j < 1 → p j := fun j hj => by obtain rfl : j = 0 := by omega
                                                                               exact h
theorem more_of {p : Nat → Prop} {k : Nat} (h : ∀ j, j < k → p j) (hk : p k) : ∀ j, j < k + 1 → p j := fun j hj => by
  by_cases e : j = k
  · rw [e]; exact hk
  · exact h j (by omega)
theorem rd_drw {w w' : World} {B size n : Nat} {A : Option Addr} {xs : List Value} (h : Rd w B size A n xs) (k : Drw w w') : Rd w' B size A n xs := by obtain ⟨m, rfl⟩ := k; exact h
set_option maxHeartbeats 400000 in
theorem rising_any (A : Option Addr) (n c B : Nat) (l : List (Nat × Int)) (w : World) (h : Rd w B 2 A n (entC l)) (hn : n ≤ 1000000) (hB : B ≤ w.heap.size) :
    Calls Try.prog 98 #[.slice A n c] w fun e w' => e = .returned (.bool (riseB l)) ∧ Below w.heap.size w w' := by
  obtain rfl : n = l.length := h.ent_len
  have H := Lib.hid h; clear h
  go_enter Try.func98, Try.ntmps98
  go_wp2
  go_loopw [3, 4, 7] (fun i3 v4 i wr => ∃ k : Nat, k ≤ l.length ∧ i = .int .i64 (k : Int) ∧ (∀ j, j < k → okAt l j = true) ∧ Below w.heap.size w wr) (fun _ _ i _ => l.length - (intOf i).toNat)
  case atStart => exact ⟨0, by omega, rfl, fun j hj => by omega, belR _⟩
  case round =>
    obtain ⟨k, hk, rfl, hall, hb⟩ := hrel
    have hz := hb.size
    by_cases hlt : k < l.length
    · cases k with
      | zero =>
        obtain ⟨a, rfl, hab, x0, x1⟩ := (H.out.below (hb.mono hB)).ent hlt
        have hok := okAt_zero l hlt
        have hno := riseB_no l 0 hlt
        rw [Nat.zero_mul, add_zero'] at x0 x1
        rw [show ((0 : Nat) : Int) = 0 from rfl]
        generalize l[0] = x at *
        obtain ⟨f, p⟩ := x
        simp only at x0 x1 hok
        have ALL := Lib.hid hall; clear hall
        by_cases h1 : p < 1
        · have t1 : decide (p < 1) = true := decide_eq_true h1
          have hok' : okAt l 0 = false := by rw [hok]; simp; omega
          have HNO := Lib.hid (hno hok'); have HOK := Lib.hid hok; clear hno hok hok'
          go_wp2
          go_quiet (fail)
          go_wp2
          go_ret
          exact ⟨by rw [HNO.out]; rfl, belD (belA hb _) _⟩
        · have t1 : decide (p < 1) = false := decide_eq_false h1
          by_cases h2 : 8192 < p
          · have t2 : decide (8192 < p) = true := decide_eq_true h2
            have hok' : okAt l 0 = false := by rw [hok]; simp; omega
            have HNO := Lib.hid (hno hok'); have HOK := Lib.hid hok; clear hno hok hok'
            go_wp2
            go_quiet (fail)
            go_wp2
            go_ret
            exact ⟨by rw [HNO.out]; rfl, belD (belA hb _) _⟩
          · have t2 : decide (8192 < p) = false := decide_eq_false h2
            have hok' : okAt l 0 = true := by rw [hok]; simp; omega
            have HOK' := Lib.hid hok'; have HOK := Lib.hid hok; clear hno hok hok'
            go_wp2
            go_quiet (fail)
            go_wp2
            go_roundw
            case rel => exact ⟨1, by omega, rfl, one_of HOK'.out, belD (belA hb _) _⟩
            case measure => simp [intOf]; omega
      | succ j =>
        obtain ⟨a, rfl, hab, x0, x1⟩ := (H.out.below (hb.mono hB)).ent hlt
        obtain ⟨a', ea, _, y0, _⟩ := (H.out.below (hb.mono hB)).ent (k := j) (by omega)
        injection ea with ea; subst ea
        have hok := okAt_succ l j hlt
        have hno := riseB_no l (j + 1) hlt
        rw [show ((j + 1 : Nat) : Int) = (j : Int) + 1 from by omega]
        have hltz : (j : Int) + 1 < (l.length : Int) := by omega
        generalize l[j + 1] = x at *
        generalize l[j] = y at *
        obtain ⟨f, p⟩ := x
        obtain ⟨f', p'⟩ := y
        simp only at x0 x1 y0 hok
        have ALL := Lib.hid hall; clear hall
        by_cases h1 : p < 1
        · have t1 : decide (p < 1) = true := decide_eq_true h1
          have hok' : okAt l (j + 1) = false := by rw [hok]; simp; omega
          have HNO := Lib.hid (hno hok'); have HOK := Lib.hid hok; clear hno hok hok'
          go_wp2
          go_quiet (fail)
          go_wp2
          go_ret
          exact ⟨by rw [HNO.out]; rfl, belD (belA hb _) _⟩
        · have t1 : decide (p < 1) = false := decide_eq_false h1
          by_cases h2 : 8192 < p
          · have t2 : decide (8192 < p) = true := decide_eq_true h2
            have hok' : okAt l (j + 1) = false := by rw [hok]; simp; omega
            have HNO := Lib.hid (hno hok'); have HOK := Lib.hid hok; clear hno hok hok'
            go_wp2
            go_quiet (fail)
            go_wp2
            go_ret
            exact ⟨by rw [HNO.out]; rfl, belD (belA hb _) _⟩
          · have t2 : decide (8192 < p) = false := decide_eq_false h2
            have t3 : decide ((0 : Int) < (j : Int) + 1) = true := decide_eq_true (by omega)
            have w1 : IntKind.i64.wrap (j : Int) = (j : Int) := IntWalk.i64_in _ (by omega)
            have w2 : IntKind.i64.wrap ((j : Int) + 1 - 1) = (j : Int) := by rw [show (j : Int) + 1 - 1 = (j : Int) from by omega]; exact w1
            have w3 : (0 : Int) ≤ (j : Int) := by omega
            have w4 : (j : Int) < (l.length : Int) := by omega
            have y1 := fun o => (World.cell?_alloc_lt wr o (a.add (j * 2)) (by rw [block_add]; omega)).trans y0
            by_cases h3 : f' < f
            · have t4 : decide (f ≤ f') = false := decide_eq_false (by omega)
              have hok' : okAt l (j + 1) = true := by rw [hok]; simp; omega
              have HOK' := Lib.hid hok'; have HOK := Lib.hid hok; clear hno hok hok'
              go_wp2
              go_quiet (fail)
              go_wp2
              go_roundw
              case rel => exact ⟨j + 1 + 1, by omega, by go_num, more_of ALL.out HOK'.out, belD (belA hb _) _⟩
              case measure => simp [intOf]; omega
            · have t4 : decide (f ≤ f') = true := decide_eq_true (by omega)
              have hok' : okAt l (j + 1) = false := by rw [hok]; simp; omega
              have HNO := Lib.hid (hno hok'); have HOK := Lib.hid hok; clear hno hok hok'
              go_wp2
              go_quiet (fail)
              go_wp2
              go_ret
              exact ⟨by rw [HNO.out]; rfl, belD (belA hb _) _⟩
    · have hyes : riseB l = true := (riseB_iff l).2 fun j hj => hall j (by omega)
      have HY := Lib.hid hyes; have ALL := Lib.hid hall; clear hyes hall
      go_wp2
      go_ret
      exact ⟨by rw [HY.out]; rfl, hb⟩
end Go.Proofs.Ytfhmaincnlaapaa
namespace Go.Proofs.Ytfhmaincnlaapaa
open Go.ChangeShapes Go.WideShapes Go.ChangeAt Go.RowKit
set_option linter.unusedVariables false

theorem own_own_ne {w : World} {base base' n n' : Nat} {e e' : TypeId} {size size' : Nat} {v v' : Value} {xs xs' : List Value} (h : w.ownsRow base e size v n xs) (h' : w.ownsRow base' e' size' v' n' xs') (hne : e ≠ e') : v.ownBlock = none ∨ v.ownBlock ≠ v'.ownBlock := by
  rcases h.2 with ⟨rfl, _⟩ | ⟨g, cap, cur, rfl, _, hh, _⟩
  · exact .inl rfl
  · refine .inr fun he => ?_
    rcases h'.2 with ⟨rfl, _⟩ | ⟨g', cap', cur', rfl, _, hh', _⟩
    · simp [Value.ownBlock] at he
    · have : g = g' := by simpa [Value.ownBlock] using he
      subst this
      rw [hh] at hh'
      injection hh' with hh'
      injection hh' with _ ht
      exact hne ht

structure Sht where
  k : Int
  a : Nat
  b : Nat
  d : List UInt8
def shC (s : Sht) (v : Value) : List Value := [.int .i64 s.k, .int .u64 (s.a : Int), .int .u64 (s.b : Int), v]
theorem shC_len (s : Sht) (v : Value) : (shC s v).length = 4 := rfl

/-- the cells of a list of sheets; each body reads as its bytes, below block B -/
def ShR (w : World) (B : Nat) : List Sht → List Value → Prop
  | [], xs => xs = []
  | s :: ss, xs => ∃ A c rest, xs = shC s (.slice A s.d.length c) ++ rest ∧ Rd w B 1 A s.d.length (u8s s.d) ∧ s.d.length ≤ c ∧ c ≤ maxLen ∧ ShR w B ss rest
/-- the cells of a list of sheets whose bodies are the call's own, each in a block below B -/
def ShO (w : World) (base B : Nat) : List Sht → List Value → Prop
  | [], xs => xs = []
  | s :: ss, xs => ∃ v rest, xs = shC s v ++ rest ∧ w.ownsRow base 5 1 v s.d.length (u8s s.d) ∧ (∀ k, v.ownBlock = some k → k < B) ∧ ShO w base B ss rest
theorem ShO.reads {w : World} {base B : Nat} {ss : List Sht} {xs : List Value} (h : ShO w base B ss xs) : ShR w w.heap.size ss xs := by
  induction ss generalizing xs with
  | nil => exact h
  | cons s ss ih =>
    obtain ⟨v, rest, rfl, ho, hk, hr⟩ := h
    obtain ⟨A, c, rfl, hc, hm, _⟩ := own_form ho
    exact ⟨A, c, rest, rfl, Rd.own ho, hc, hm, ih hr⟩
theorem ShO.map {w w' : World} {base B B' : Nat} {ss : List Sht} {xs : List Value} (h : ShO w base B ss xs) (hB : B ≤ B')
    (hk : ∀ v n ys, w.ownsRow base 5 1 v n ys → (∀ k, v.ownBlock = some k → k < B) → w'.ownsRow base 5 1 v n ys) : ShO w' base B' ss xs := by
  induction ss generalizing xs with
  | nil => exact h
  | cons s ss ih =>
    obtain ⟨v, rest, rfl, ho, hl, hr⟩ := h
    exact ⟨v, rest, rfl, hk _ _ _ ho hl, fun k hk => Nat.lt_of_lt_of_le (hl k hk) hB, ih hr⟩
theorem ShO.snoc {w : World} {base B : Nat} {ss : List Sht} {xs : List Value} {s : Sht} {v : Value} (h : ShO w base B ss xs) (ho : w.ownsRow base 5 1 v s.d.length (u8s s.d)) (hl : ∀ k, v.ownBlock = some k → k < B) :
    ShO w base B (ss ++ [s]) (xs ++ shC s v) := by
  induction ss generalizing xs with
  | nil => cases h; exact ⟨v, [], by simp, ho, hl, rfl⟩
  | cons s' ss ih =>
    obtain ⟨v', rest, rfl, ho', hl', hr⟩ := h
    exact ⟨v', rest ++ shC s v, by rw [List.append_assoc], ho', hl', ih hr⟩
theorem ShO.len {w : World} {base B : Nat} {ss : List Sht} {xs : List Value} (h : ShO w base B ss xs) : xs.length = ss.length * 4 := by
  induction ss generalizing xs with
  | nil => cases h; rfl
  | cons s ss ih =>
    obtain ⟨v, rest, rfl, _, _, hr⟩ := h
    rw [List.length_append, shC_len, ih hr, List.length_cons]; omega
theorem ShR.len {w : World} {B : Nat} {ss : List Sht} {xs : List Value} (h : ShR w B ss xs) : xs.length = ss.length * 4 := by
  induction ss generalizing xs with
  | nil => cases h; rfl
  | cons s ss ih =>
    obtain ⟨A, c, rest, rfl, _, _, _, hr⟩ := h
    rw [List.length_append, shC_len, ih hr, List.length_cons]; omega
theorem ShR.keep {w w' : World} {B B' : Nat} {ss : List Sht} {xs : List Value} (h : ShR w B ss xs) (hb : Below B w w') (hB : B ≤ B') : ShR w' B' ss xs := by
  induction ss generalizing xs with
  | nil => exact h
  | cons s ss ih =>
    obtain ⟨A, c, rest, rfl, hR, h1, h2, hr⟩ := h
    exact ⟨A, c, rest, rfl, (hR.below hb).more hB, h1, h2, ih hr⟩
theorem ShR.get {w : World} {B : Nat} {ss : List Sht} {xs : List Value} (h : ShR w B ss xs) (i : Nat) (hi : i < ss.length) :
    ∃ A c, xs[i * 4]? = some (.int .i64 ss[i].k) ∧ xs[i * 4 + 1]? = some (.int .u64 (ss[i].a : Int)) ∧ xs[i * 4 + 2]? = some (.int .u64 (ss[i].b : Int)) ∧ xs[i * 4 + 3]? = some (.slice A ss[i].d.length c) ∧
      Rd w B 1 A ss[i].d.length (u8s ss[i].d) ∧ ss[i].d.length ≤ c ∧ c ≤ maxLen := by
  induction ss generalizing xs i with
  | nil => simp at hi
  | cons s ss ih =>
    obtain ⟨A, c, rest, rfl, hR, h1, h2, hr⟩ := h
    cases i with
    | zero => exact ⟨A, c, rfl, rfl, rfl, rfl, hR, h1, h2⟩
    | succ i =>
      obtain ⟨A', c', e0, e1, e2, e3, r⟩ := ih hr i (by simpa using hi)
      have sh : ∀ j, (shC s (.slice A s.d.length c) ++ rest)[(i + 1) * 4 + j]? = rest[i * 4 + j]? := fun j => by
        rw [List.getElem?_append_right (by rw [shC_len]; omega), shC_len, show (i + 1) * 4 + j - 4 = i * 4 + j from by omega]
      exact ⟨A', c', (sh 0).trans e0, (sh 1).trans e1, (sh 2).trans e2, (sh 3).trans e3, r⟩

theorem info_sh : (Try.prog.info? 55).map (fun i => (i.zero, i.size, i.bytes)) = some (some (.agg #[.int .i64 0, .int .u64 0, .int .u64 0, .slice none 0 0]), 4, 48) := by kernel_rfl
theorem info_ent : (Try.prog.info? 94).map (fun i => (i.zero, i.size, i.bytes)) = some (some (.agg #[.int .u64 0, .int .i64 0]), 2, 16) := by kernel_rfl
theorem info_ent25 : (Try.prog.info? 100).map (fun i => (i.zero, i.size, i.bytes)) = some (some (.agg #[.int .u64 0, .int .i64 0]), 2, 16) := by kernel_rfl

section
variable {P : Program}
/-- APPEND OF ONE ELEMENT of some cells (they stand in the new block w0.heap.size). -/
theorem wpList_appN {ops : Array Oper} {rest : List Oper} {o : Oper} {a : Act} {Q : Exit → Act → World → Prop} (w0 : World) (us : List Value) (size : Nat) (hm : us.length = size) (hsz : 0 < size) (hu : ∀ u ∈ us, u.oneCell' = true) (hgd : o.guard = none) (s x : Operand) (t : TypeId)
    (ho : o.op = .call { callee := .builtin .append, args := #[s, x], argTypes := #[t, t] })
    (base : Nat) (e : TypeId) (z : Value) (bytes : Nat) (hinf : (P.info? e).map (fun i => (i.zero, i.size, i.bytes)) = some (some z, size, bytes)) (hzs : z.cells.size = size) (ht : P.underlying t = some (.slice e))
    (v : Value) (n : Nat) (xs : List Value) (hown : w0.ownsRow base e size v n xs) (hs : a.eval s = v) (hx : a.eval x = .slice (some ⟨w0.heap.size, 0, none⟩) 1 1)
    (hbytes : (n + 1) * bytes ≤ 140737488355328) (h63 : n + 1 ≤ 140737488355328) (hbase : base ≤ w0.heap.size)
    (h : ∀ v' w', w'.ownsRow base e size v' (n + 1) (xs ++ us) → Appd w0 w' v v' → wpList P ops Q rest (a.put o.dst v') w') :
    wpList P ops Q (o :: rest) a (w0.alloc (.cells us.toArray e)) := by
  obtain ⟨i, hi, hz, hs1, hby⟩ := info_parts hinf
  have hsz' : (w0.alloc (.cells us.toArray e)).heap.size = w0.heap.size + 1 := by simp
  refine wpList_append_own_at _ hgd s x t ho base e i z size bytes ht hi hz hs1 hby hzs hsz v n xs hs (hown.alloc _) ⟨w0.heap.size, 0, none⟩ 1 1 us hx (by omega)
    (fun j u hj => ?_) hu (by simp only [maxLen]; omega) hbytes (by omega) ?_
  · have hadd : (⟨w0.heap.size, 0, none⟩ : Addr).add j = ⟨w0.heap.size, j, none⟩ := by unfold Addr.add; split <;> simp_all
    rw [hadd, World.cell?_alloc_mark w0 us.toArray e (0, 0) j]
    simpa using hj
  · intro v' w' h1 h2 _ h4
    exact h v' w' h1 (Appd.of_alloc ⟨h2, h4.imp id fun e => ⟨_, e, Nat.le_refl _⟩⟩)
/-- the same where the element's block is known whole; in a plain region, and as a step of a region that draws -/
theorem wp_appB {o : Oper} {a : Act} {K : Act → World → Prop} {Q : Exit → Act → World → Prop} {W : World} (us : List Value) (size : Nat) (hm : us.length = size) (hsz : 0 < size) (hu : ∀ u ∈ us, u.oneCell' = true) (s x : Operand) (t : TypeId)
    (ho : o.op = .call { callee := .builtin .append, args := #[s, x], argTypes := #[t, t] })
    (base : Nat) (e : TypeId) (z : Value) (bytes : Nat) (hinf : (P.info? e).map (fun i => (i.zero, i.size, i.bytes)) = some (some z, size, bytes)) (hzs : z.cells.size = size) (ht : P.underlying t = some (.slice e))
    (v : Value) (n : Nat) (xs : List Value) (hown : W.ownsRow base e size v n xs) (nb : Nat) (hblk : Blk W nb e us.toArray) (hs : a.eval s = v) (hx : a.eval x = .slice (some ⟨nb, 0, none⟩) 1 1)
    (hbytes : (n + 1) * bytes ≤ 140737488355328) (h63 : n + 1 ≤ 140737488355328) (hbase : base ≤ W.heap.size)
    (h : ∀ v' w', w'.ownsRow base e size v' (n + 1) (xs ++ us) → Appd W w' v v' → K (a.put o.dst v') w') : o.wp P a W K Q := by
  obtain ⟨i, hi, hz, hs1, hby⟩ := info_parts hinf
  obtain ⟨v', w', hrun, h2, h3, _, h5⟩ := run_append_own_at (P := P) W base t o.type e i z size bytes ht hi hz hs1 hby hzs hsz v n xs hown ⟨nb, 0, none⟩ 1 1 us (by omega)
    (fun j u hj => by
      have hadd : (⟨nb, 0, none⟩ : Addr).add j = ⟨nb, j, none⟩ := by unfold Addr.add; split <;> simp_all
      rw [hadd, hblk.cell]; simpa using hj) hu (by simp only [maxLen]; omega) hbytes hbase
  unfold Oper.wp execOp
  simp only [ho, resolve, invoke, builtin, Sem.run_bind, Sem.run_pure, Result.andThen_ok, List.map_toArray, List.map_cons, List.map_nil, hs, hx, hrun]
  exact h v' w' h2 ⟨h3, h5.imp id fun e => ⟨_, e, Nat.le_refl _⟩⟩
theorem step_appB {ops : Array Oper} {o : Oper} {a : Act} {K : Act → World → Prop} {Q : Exit → Act → World → Prop} {E : Prop} {W : World} (hgd : o.guard = none) (us : List Value) (size : Nat) (hm : us.length = size) (hsz : 0 < size) (hu : ∀ u ∈ us, u.oneCell' = true) (s x : Operand) (t : TypeId)
    (ho : o.op = .call { callee := .builtin .append, args := #[s, x], argTypes := #[t, t] })
    (base : Nat) (e : TypeId) (z : Value) (bytes : Nat) (hinf : (P.info? e).map (fun i => (i.zero, i.size, i.bytes)) = some (some z, size, bytes)) (hzs : z.cells.size = size) (ht : P.underlying t = some (.slice e))
    (v : Value) (n : Nat) (xs : List Value) (hown : W.ownsRow base e size v n xs) (nb : Nat) (hblk : Blk W nb e us.toArray) (hs : a.eval s = v) (hx : a.eval x = .slice (some ⟨nb, 0, none⟩) 1 1)
    (hbytes : (n + 1) * bytes ≤ 140737488355328) (h63 : n + 1 ≤ 140737488355328) (hbase : base ≤ W.heap.size)
    (h : ∀ v' w', w'.ownsRow base e size v' (n + 1) (xs ++ us) → Appd W w' v v' → K (a.put o.dst v') w') :
    if Region.wanted o (yielded ops a.tmps) = true then Oper.wp P o a W K Q else E := by
  have hw : Region.wanted o (yielded ops a.tmps) = true := by simp [Region.wanted, hgd]
  rw [if_pos hw]
  exact wp_appB us size hm hsz hu s x t ho base e z bytes hinf hzs ht v n xs hown nb hblk hs hx hbytes h63 hbase h
theorem wpList_appB {ops : Array Oper} {rest : List Oper} {o : Oper} {a : Act} {Q : Exit → Act → World → Prop} {W : World} (hgd : o.guard = none) (us : List Value) (size : Nat) (hm : us.length = size) (hsz : 0 < size) (hu : ∀ u ∈ us, u.oneCell' = true) (s x : Operand) (t : TypeId)
    (ho : o.op = .call { callee := .builtin .append, args := #[s, x], argTypes := #[t, t] })
    (base : Nat) (e : TypeId) (z : Value) (bytes : Nat) (hinf : (P.info? e).map (fun i => (i.zero, i.size, i.bytes)) = some (some z, size, bytes)) (hzs : z.cells.size = size) (ht : P.underlying t = some (.slice e))
    (v : Value) (n : Nat) (xs : List Value) (hown : W.ownsRow base e size v n xs) (nb : Nat) (hblk : Blk W nb e us.toArray) (hs : a.eval s = v) (hx : a.eval x = .slice (some ⟨nb, 0, none⟩) 1 1)
    (hbytes : (n + 1) * bytes ≤ 140737488355328) (h63 : n + 1 ≤ 140737488355328) (hbase : base ≤ W.heap.size)
    (h : ∀ v' w', w'.ownsRow base e size v' (n + 1) (xs ++ us) → Appd W w' v v' → wpList P ops Q rest (a.put o.dst v') w') : wpList P ops Q (o :: rest) a W :=
  wpList_plain hgd fun _ hK => wp_appB us size hm hsz hu s x t ho base e z bytes hinf hzs ht v n xs hown nb hblk hs hx hbytes h63 hbase fun v' w' h2 h3 => hK _ _ (h v' w' h2 h3)
end
end Go.Proofs.Ytfhmaincnlaapaa
namespace Go.Proofs.Ytfhmaincnlaapaa
open Go.ChangeShapes Go.WideShapes Go.ChangeAt Go.RowKit
set_option linter.unusedVariables false

/-- the reading so far: the place, the fault, the entries -/
abbrev Rst := Nat × Nat × List (Nat × Int)
def umax : Nat := 18446744073709551615
def rx (t : List UInt8) (st : Rst) : Nat × Nat × Nat := inU t st.1 st.2.1 umax
def ry (t : List UInt8) (st : Rst) : Nat × Nat × Nat := inU t (rx t st).2.1 (rx t st).2.2 8192
def rstep (t : List UInt8) (st : Rst) : Rst := ((ry t st).2.1, (ry t st).2.2, st.2.2 ++ [((rx t st).1, ((ry t st).1 : Int))])
def rst (t : List UInt8) : Nat → Rst
  | 0 => (0, 0, [])
  | k + 1 => rstep t (rst t k)
theorem inU_bad (t : List UInt8) (p e most : Nat) (h : e ≠ 0) : inU t p e most = (0, p, e) := by
  have hk : stepE e (getU (t.drop p)).2.2 (overE (getU (t.drop p)).1 most) = e := by unfold stepE; rw [if_pos h]
  unfold inU; rw [hk]; unfold stepV stepP; rw [if_neg h, if_neg h]
theorem rstep_bad (t : List UInt8) (st : Rst) (h : st.2.1 ≠ 0) : (rstep t st).2.1 = st.2.1 := by
  have e1 : rx t st = (0, st.1, st.2.1) := inU_bad _ _ _ _ h
  unfold rstep ry
  simp only [e1]
  rw [inU_bad _ _ _ _ h]
theorem rst_bad (t : List UInt8) (k j : Nat) (h : (rst t k).2.1 ≠ 0) : (rst t (k + j)).2.1 = (rst t k).2.1 := by
  induction j with
  | zero => rfl
  | succ j ih => rw [← Nat.add_assoc]; show (rstep t (rst t (k + j))).2.1 = _; rw [rstep_bad _ _ (by rw [ih]; exact h), ih]
theorem rst_len (t : List UInt8) (k : Nat) : (rst t k).2.2.length = k := by
  induction k with
  | zero => rfl
  | succ k ih => show (rstep t (rst t k)).2.2.length = _; unfold rstep; simp [ih]
theorem inU_lt (t : List UInt8) (p e most : Nat) : (inU t p e most).1 ≤ most := by
  unfold inU
  simp only
  unfold stepV
  split
  · rename_i h
    unfold stepE at h
    split at h
    · omega
    · split at h
      · omega
      · unfold overE at h
        split at h
        · omega
        · omega
  · omega
/-- may a sheet be a node's, by its head? -/
def headB (k : Int) (a b : Nat) : Bool := decide (k = 4) && decide (1 ≤ a) && decide (a ≤ 1001) && decide (1 ≤ b) && decide (b ≤ 60)
def rnode (s : Sht) : Int × List (Nat × Int) × Nat :=
  if headB s.k s.a s.b = false then (0, [], 6)
  else if endE s.d (rst s.d s.a).1 (rst s.d s.a).2.1 ≠ 0 then (0, [], endE s.d (rst s.d s.a).1 (rst s.d s.a).2.1)
  else if riseB (rst s.d s.a).2.2 = false then (0, [], 6) else ((s.b : Int), (rst s.d s.a).2.2, 0)
theorem endE_bad (t : List UInt8) (p e : Nat) (h : e ≠ 0) : endE t p e = e := by unfold endE; rw [if_neg h]
theorem rnode_early (s : Sht) (k : Nat) (hh : headB s.k s.a s.b = true) (hk : k ≤ s.a) (he : (rst s.d k).2.1 ≠ 0) : rnode s = (0, [], (rst s.d k).2.1) := by
  obtain ⟨j, hj⟩ : ∃ j, s.a = k + j := ⟨s.a - k, by omega⟩
  have := rst_bad s.d k j he
  rw [← hj] at this
  have h2 : endE s.d (rst s.d s.a).1 (rst s.d s.a).2.1 = (rst s.d k).2.1 := by rw [endE_bad _ _ _ (by rw [this]; exact he), this]
  unfold rnode
  rw [if_neg (by rw [hh]; simp), if_pos (by rw [h2]; exact he), h2]
end Go.Proofs.Ytfhmaincnlaapaa
