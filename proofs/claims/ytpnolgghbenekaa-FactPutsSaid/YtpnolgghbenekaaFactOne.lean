/-
  fact.one.
-/
import Derived.Test.YtpnolgghbenekaaFactGetPure
import Derived.Test.YtpnolgghbenekaaRefNodesW
import Derived.Test.YtpnolgghbenekaaFactLight
import Derived.Deep.RegionLawGrows
namespace Go.Proofs.Ytpnolgghbenekaa
open Go.ChangeShapes Go.WideShapes Go.ChangeAt Go.RowKit
set_option linter.unusedVariables false

theorem info_int : (Try.prog.info? 3).map (fun i => (i.zero, i.size, i.bytes)) = some (some (.int .i64 0), 1, 8) := by kernel_rfl
theorem info_i64 : (Try.prog.info? 2).map (fun i => (i.zero, i.size, i.bytes)) = some (some (.int .i64 0), 1, 8) := by kernel_rfl
theorem info_f64 : (Try.prog.info? 77).map (fun i => (i.zero, i.size, i.bytes)) = some (some (.float .f64 0), 1, 8) := by kernel_rfl
theorem i64s_one (l : List Int) : ∀ u ∈ i64s l, u.oneCell' = true := by intro u hu; obtain ⟨x, _, rfl⟩ := List.mem_map.1 hu; rfl
theorem f64s_one (l : List Nat) : ∀ u ∈ f64s l, u.oneCell' = true := by intro u hu; obtain ⟨x, _, rfl⟩ := List.mem_map.1 hu; rfl
/-- the element that an append lays behind -/
theorem rd_new (w : World) (t : TypeId) (u : Value) : Rd (w.alloc (.cells #[u] t)) (w.heap.size + 1) 1 (some ⟨w.heap.size, 0, none⟩) 1 [u] :=
  ⟨rfl, fun _ => ⟨_, rfl, Nat.lt_succ_self _, fun j x hj => by
    cases j with
    | zero => rw [add_zero', World.cell?_alloc_mark w #[u] t (0, 0) 0]; simpa using hj
    | succ j => simp at hj⟩⟩
/-- a fact that is being read -/
structure OneRel (w wr : World) (g : Nat) (t : List UInt8) (SV : Array Value) (v0 v1 v2 : Value) (a b : List Int) (c : List Nat) (p e : Nat) : Prop where
  s : Blk wr w.heap.size 52 SV
  r : Blk wr (w.heap.size + 1) 66 #[.slice none 0 0, .slice none 0 0, .slice none 0 0]
  f : Blk wr (w.heap.size + 1 + 1) 66 #[v0, v1, v2]
  o0 : wr.ownsRow (w.heap.size + 1 + 1 + 1) 3 1 v0 a.length (i64s a)
  o1 : wr.ownsRow (w.heap.size + 1 + 1 + 1) 2 1 v1 b.length (i64s b)
  o2 : wr.ownsRow (w.heap.size + 1 + 1 + 1) 77 1 v2 c.length (f64s c)
  i : InS wr g t p e
  n : Only g w wr
section
variable {w wr w2 w3 : World} {g : Nat} {t : List UInt8} {SV : Array Value} {v0 v1 v2 v' : Value} {a b : List Int} {c : List Nat} {p e p' e' : Nat}
theorem OneRel.lt (h : OneRel w wr g t SV v0 v1 v2 a b c p e) : w.heap.size + 1 + 1 + 1 ≤ wr.heap.size := h.f.lt
theorem OneRel.drew (h : OneRel w wr g t SV v0 v1 v2 a b c p e) : OneRel w wr.drew g t SV v0 v1 v2 a b c p e :=
  ⟨h.s, h.r, h.f, own_drewN h.o0 1, own_drewN h.o1 1, own_drewN h.o2 1, h.i, h.n.drew⟩
theorem own_new {w : World} {base n : Nat} {e : TypeId} {size : Nat} {v : Value} {xs : List Value} (h : w.ownsRow base e size v n xs) (o : Obj) : (w.alloc o).ownsRow base e size v n xs := h.alloc o
theorem OneRel.alloc (h : OneRel w wr g t SV v0 v1 v2 a b c p e) (o : Obj) : OneRel w (wr.alloc o) g t SV v0 v1 v2 a b c p e :=
  ⟨h.s.alloc o, h.r.alloc o, h.f.alloc o, h.o0.alloc o, h.o1.alloc o, h.o2.alloc o, h.i.below (belA (belR wr) o) h.i.lt, h.n.alloc o⟩
theorem own_far {w : World} {base n g : Nat} {e : TypeId} {size : Nat} {v : Value} {xs : List Value} (h : w.ownsRow base e size v n xs) (hg : g < base) : v.ownBlock ≠ some g := fun he => by have := (h.lt g he).1; omega
theorem OneRel.only (h : OneRel w wr g t SV v0 v1 v2 a b c p e) (hg : g < w.heap.size) (k : Only g wr w2) (hi : InS w2 g t p' e') : OneRel w w2 g t SV v0 v1 v2 a b c p' e' :=
  ⟨k.blk h.s (by omega), k.blk h.r (by omega), k.blk h.f (by omega), k.own h.o0 (own_far h.o0 (by omega)), k.own h.o1 (own_far h.o1 (by omega)), k.own h.o2 (own_far h.o2 (by omega)), hi, h.n.trans k⟩
theorem OneRel.appd (h : OneRel w wr g t SV v0 v1 v2 a b c p e) (hg : g < w.heap.size) {u : Value} (k : Appd wr w3 u v') (hu : ∀ j, u.ownBlock = some j → w.heap.size + 1 + 1 + 1 ≤ j) :
    Blk w3 w.heap.size 52 SV ∧ Blk w3 (w.heap.size + 1) 66 #[.slice none 0 0, .slice none 0 0, .slice none 0 0] ∧ Blk w3 (w.heap.size + 1 + 1) 66 #[v0, v1, v2] ∧ InS w3 g t p e ∧ Only g w w3 := by
  have hb : Below (w.heap.size + 1 + 1 + 1) wr w3 := (Below.refl _ _).grown k.1 h.lt hu
  exact ⟨h.s.below hb (by omega), h.r.below hb (by omega), h.f.below hb (by omega), h.i.below hb (by omega), h.n.appd k fun j hj => .inr (by have := hu j hj; omega)⟩
theorem OneRel.put0 (h : OneRel w wr g t SV v0 v1 v2 a b c p e) (hg : g < w.heap.size) (x : Int) (ho : w3.ownsRow (w.heap.size + 1 + 1 + 1) 3 1 v' (a.length + 1) (i64s a ++ [.int .i64 x])) (k : Appd wr w3 v0 v') :
    Blk w3 (w.heap.size + 1 + 1) 66 #[v0, v1, v2] ∧ OneRel w (w3.setCell ⟨w.heap.size + 1 + 1, 0, none⟩ v') g t SV v' v1 v2 (a ++ [x]) b c p e := by
  obtain ⟨hs, hr, hf, hi, hn⟩ := h.appd hg k fun j hj => (h.o0.lt j hj).1
  have h1 := k.kept h.o1 (own_own_ne h.o1 h.o0 (by decide)); have h2 := k.kept h.o2 (own_own_ne h.o2 h.o0 (by decide))
  have hset := Only.set1 w3 (w.heap.size + 1 + 1) 0 v'
  have hbel : Below (w.heap.size + 1 + 1) w3 (w3.setCell ⟨w.heap.size + 1 + 1, 0, none⟩ v') := (Below.refl (w.heap.size + 1 + 1) w3).setCell (p := ⟨w.heap.size + 1 + 1, 0, none⟩) (Nat.le_refl _) v'
  refine ⟨hf, hset.blk hs (by omega), hset.blk hr (by omega), by simpa using hf.set_ 0 v', ?_, hset.own h1 (own_far h1 (by omega)), hset.own h2 (own_far h2 (by omega)), hi.below hbel (by omega), hn.set_ (.inr (by simp only; omega)) _⟩
  have := hset.own ho (own_far ho (by omega))
  simpa [i64s] using this
theorem OneRel.put1 (h : OneRel w wr g t SV v0 v1 v2 a b c p e) (hg : g < w.heap.size) (x : Int) (ho : w3.ownsRow (w.heap.size + 1 + 1 + 1) 2 1 v' (b.length + 1) (i64s b ++ [.int .i64 x])) (k : Appd wr w3 v1 v') :
    Blk w3 (w.heap.size + 1 + 1) 66 #[v0, v1, v2] ∧ OneRel w (w3.setCell ⟨w.heap.size + 1 + 1, 1, none⟩ v') g t SV v0 v' v2 a (b ++ [x]) c p e := by
  obtain ⟨hs, hr, hf, hi, hn⟩ := h.appd hg k fun j hj => (h.o1.lt j hj).1
  have h1 := k.kept h.o0 (own_own_ne h.o0 h.o1 (by decide)); have h2 := k.kept h.o2 (own_own_ne h.o2 h.o1 (by decide))
  have hset := Only.set1 w3 (w.heap.size + 1 + 1) 1 v'
  have hbel : Below (w.heap.size + 1 + 1) w3 (w3.setCell ⟨w.heap.size + 1 + 1, 1, none⟩ v') := (Below.refl (w.heap.size + 1 + 1) w3).setCell (p := ⟨w.heap.size + 1 + 1, 1, none⟩) (Nat.le_refl _) v'
  refine ⟨hf, hset.blk hs (by omega), hset.blk hr (by omega), by simpa using hf.set_ 1 v', hset.own h1 (own_far h1 (by omega)), ?_, hset.own h2 (own_far h2 (by omega)), hi.below hbel (by omega), hn.set_ (.inr (by simp only; omega)) _⟩
  have := hset.own ho (own_far ho (by omega))
  simpa [i64s] using this
theorem OneRel.put2 (h : OneRel w wr g t SV v0 v1 v2 a b c p e) (hg : g < w.heap.size) (x : Nat) (ho : w3.ownsRow (w.heap.size + 1 + 1 + 1) 77 1 v' (c.length + 1) (f64s c ++ [.float .f64 x])) (k : Appd wr w3 v2 v') :
    Blk w3 (w.heap.size + 1 + 1) 66 #[v0, v1, v2] ∧ OneRel w (w3.setCell ⟨w.heap.size + 1 + 1, 2, none⟩ v') g t SV v0 v1 v' a b (c ++ [x]) p e := by
  obtain ⟨hs, hr, hf, hi, hn⟩ := h.appd hg k fun j hj => (h.o2.lt j hj).1
  have h1 := k.kept h.o0 (own_own_ne h.o0 h.o2 (by decide)); have h2 := k.kept h.o1 (own_own_ne h.o1 h.o2 (by decide))
  have hset := Only.set1 w3 (w.heap.size + 1 + 1) 2 v'
  have hbel : Below (w.heap.size + 1 + 1) w3 (w3.setCell ⟨w.heap.size + 1 + 1, 2, none⟩ v') := (Below.refl (w.heap.size + 1 + 1) w3).setCell (p := ⟨w.heap.size + 1 + 1, 2, none⟩) (Nat.le_refl _) v'
  refine ⟨hf, hset.blk hs (by omega), hset.blk hr (by omega), by simpa using hf.set_ 2 v', hset.own h1 (own_far h1 (by omega)), hset.own h2 (own_far h2 (by omega)), ?_, hi.below hbel (by omega), hn.set_ (.inr (by simp only; omega)) _⟩
  have := hset.own ho (own_far ho (by omega))
  simpa [f64s] using this
theorem OneRel.fin (h : OneRel w wr g t SV v0 v1 v2 a b c p e) (hg : g < w.heap.size) :
    (((wr.setCell ⟨w.heap.size + 1, 0, none⟩ v0).setCell ⟨w.heap.size + 1, 1, none⟩ v1).setCell ⟨w.heap.size + 1, 2, none⟩ v2).ownsRow w.heap.size 3 1 v0 a.length (i64s a) ∧
    (((wr.setCell ⟨w.heap.size + 1, 0, none⟩ v0).setCell ⟨w.heap.size + 1, 1, none⟩ v1).setCell ⟨w.heap.size + 1, 2, none⟩ v2).ownsRow w.heap.size 2 1 v1 b.length (i64s b) ∧
    (((wr.setCell ⟨w.heap.size + 1, 0, none⟩ v0).setCell ⟨w.heap.size + 1, 1, none⟩ v1).setCell ⟨w.heap.size + 1, 2, none⟩ v2).ownsRow w.heap.size 77 1 v2 c.length (f64s c) ∧
    InS (((wr.setCell ⟨w.heap.size + 1, 0, none⟩ v0).setCell ⟨w.heap.size + 1, 1, none⟩ v1).setCell ⟨w.heap.size + 1, 2, none⟩ v2) g t p e ∧
    Only g w (((wr.setCell ⟨w.heap.size + 1, 0, none⟩ v0).setCell ⟨w.heap.size + 1, 1, none⟩ v1).setCell ⟨w.heap.size + 1, 2, none⟩ v2) := by
  have hset := ((Only.set1 wr (w.heap.size + 1) 0 v0).trans (Only.set1 (wr.setCell ⟨w.heap.size + 1, 0, none⟩ v0) (w.heap.size + 1) 1 v1)).trans (Only.set1 ((wr.setCell ⟨w.heap.size + 1, 0, none⟩ v0).setCell ⟨w.heap.size + 1, 1, none⟩ v1) (w.heap.size + 1) 2 v2)
  have hz := h.lt
  exact ⟨own_mono (hset.own h.o0 (own_far h.o0 (by omega))) (by omega), own_mono (hset.own h.o1 (own_far h.o1 (by omega))) (by omega), own_mono (hset.own h.o2 (own_far h.o2 (by omega))) (by omega),
    h.i.below (hset.below (B := w.heap.size + 1) (Nat.le_refl _) (by omega)) (by omega), ((h.n.set_ (.inr (by simp only; omega)) _).set_ (.inr (by simp only; omega)) _).set_ (.inr (by simp only; omega)) _⟩
end
set_option maxRecDepth 20000 in
set_option maxHeartbeats 4000000 in
theorem one_any (w : World) (B g : Nat) (v : Value) (S : Sch) (t : List UInt8) (p e : Nat) (h : SchAt w B v S) (hB : B ≤ g) (hm : S.dims.length ≤ 1000 ∧ S.ints.length ≤ 1000 ∧ S.nums.length ≤ 1000) (hz : ∀ k, k < S.dims.length → 1 ≤ szAt S k ∧ szAt S k ≤ 4096) (hi : InS w g t p e) :
    Calls Try.prog 90 #[v, .pointer (some ⟨g, 0, none⟩)] w fun y w' => ∃ v0 v1 v2, y = .returned (.agg #[v0, v1, v2]) ∧ w'.ownsRow w.heap.size 3 1 v0 S.dims.length (i64s (oneS S t p e).1.codes) ∧
      w'.ownsRow w.heap.size 2 1 v1 S.ints.length (i64s (oneS S t p e).1.ints) ∧ w'.ownsRow w.heap.size 77 1 v2 S.nums.length (f64s (oneS S t p e).1.nums) ∧
      InS w' g t (oneS S t p e).2.1 (oneS S t p e).2.2 ∧ Only g w w' := by
  obtain ⟨A0, c0, A1, c1, A2, c2, A3, c3, rfl, r0, r1, r2, r3, b0, b1, b2, b3⟩ := h
  have hgl := hi.lt
  obtain ⟨m0, m1, m2⟩ := hm
  obtain ⟨SV, hSV⟩ : ∃ SV : Array Value, #[.slice A0 S.dims.length c0, .slice A1 S.ints.length c1, .slice A2 S.nums.length c2, .slice A3 S.views.length c3] = SV := ⟨_, rfl⟩
  have hst : OneRel w (((w.alloc (.cells #[.slice A0 S.dims.length c0, .slice A1 S.ints.length c1, .slice A2 S.nums.length c2, .slice A3 S.views.length c3] 52)).alloc (.cells #[.slice none 0 0, .slice none 0 0, .slice none 0 0] 66)).alloc (.cells #[.slice none 0 0, .slice none 0 0, .slice none 0 0] 66)) g t SV (.slice none 0 0) (.slice none 0 0) (.slice none 0 0) [] [] [] p e := by
    rw [← hSV]
    have hb := belA (belA (belA (belR w) (.cells #[.slice A0 S.dims.length c0, .slice A1 S.ints.length c1, .slice A2 S.nums.length c2, .slice A3 S.views.length c3] 52)) (.cells #[.slice none 0 0, .slice none 0 0, .slice none 0 0] 66)) (.cells #[.slice none 0 0, .slice none 0 0, .slice none 0 0] 66)
    exact ⟨((Blk.new w _ _).alloc _).alloc _, (blk_at _ _ _ _ (by simp)).alloc _, blk_at _ _ _ _ (by simp), World.ownsRow_nil _ _ _ 1, World.ownsRow_nil _ _ _ 1, World.ownsRow_nil _ _ _ 1, hi.below hb hgl, Only.of_below hb g⟩
  have HST := Lib.hid hst; have R0 := Lib.hid r0; have HZ := Lib.hid hz
  clear r1 r2 r3 b0 b1 b2 b3 hst r0 hz hi
  have HSV := Lib.hid hSV
  clear hSV
  go_enter Try.func90, Try.ntmps90
  go_wp2
  generalize hW0 : ((w.alloc (.cells #[.slice A0 S.dims.length c0, .slice A1 S.ints.length c1, .slice A2 S.nums.length c2, .slice A3 S.views.length c3] 52)).alloc (.cells #[.slice none 0 0, .slice none 0 0, .slice none 0 0] 66)).alloc (.cells #[.slice none 0 0, .slice none 0 0, .slice none 0 0] 66) = W0 at *
  clear hW0
  go_loopw [11] (fun i wr => ∃ (k : Nat) (v0 : Value), k ≤ S.dims.length ∧ i = .int .i64 (k : Int) ∧ Hid (OneRel w wr g t SV v0 (.slice none 0 0) (.slice none 0 0) (runN (uF t (szAt S)) p e k).1 [] [] (runN (uF t (szAt S)) p e k).2.1 (runN (uF t (szAt S)) p e k).2.2)) (fun i _ => S.dims.length - (intOf i).toNat)
  case atStart => exact ⟨0, _, by omega, rfl, HST.out⟩
  case round =>
    obtain ⟨k, v0, hk, rfl, HR⟩ := hrel
    have hll := runN_len (f := uF t (szAt S)) (fun _ _ _ => rfl) p e k
    by_cases hlt : k < S.dims.length
    · obtain ⟨a, rfl, hab, x0, x1⟩ := (R0.out.below (HR.out.n.below hB (by omega))).dim hlt
      have q1 : (0 : Int) ≤ (k : Int) := by omega
      have q2 : (k : Int) < (S.dims.length : Int) := by omega
      have hs := runN_succ (uF t (szAt S)) p e k
      have hzk := HZ.out k hlt
      have hsz : szAt S k = S.dims[k].2 := by unfold szAt; simp [List.getD, hlt]
      generalize S.dims[k] = d at *
      obtain ⟨nm, sz⟩ := d
      simp only at x0 x1 hsz
      subst hsz
      generalize runN (uF t (szAt S)) p e k = st at *
      obtain ⟨aa, p1, e1⟩ := st
      simp only at hs hll HR
      have er : uF t (szAt S) k p1 e1 = ([((inU t p1 e1 (szAt S k - 1).toNat).1 : Int)], (inU t p1 e1 (szAt S k - 1).toNat).2) := rfl
      rw [er] at hs
      clear er
      obtain ⟨n, hn⟩ : ∃ n : Nat, szAt S k - 1 = (n : Int) := ⟨(szAt S k - 1).toNat, by omega⟩
      have hn2 : szAt S k = (n : Int) + 1 := by omega
      have hux := inU_le t p1 e1 n
      have hcu := fun W hW => inU_any W g t p1 e1 n hW
      rw [hn, Int.toNat_natCast] at hs
      rw [hn2] at x1
      generalize inU t p1 e1 n = r at *
      obtain ⟨x, p2, e2⟩ := r
      simp only at hs hux hcu
      have w1 : IntKind.i64.wrap ((n : Int) + 1 - 1) = (n : Int) := by rw [show (n : Int) + 1 - 1 = (n : Int) from by omega]; exact IntWalk.i64_in _ (by omega)
      have w1' : IntKind.i64.wrap (n : Int) = (n : Int) := IntWalk.i64_in _ (by omega)
      have w2 : IntKind.u64.wrap (n : Int) = (n : Int) := by rw [IntKind.wrap_u64]; omega
      have w3 : IntKind.i64.wrap (x : Int) = (x : Int) := IntWalk.i64_in _ (by omega)
      have HL := HR.out.alloc (.cells #[.string nm, .int .i64 ((n : Int) + 1)] 117)
      have hzz := HR.out.lt
      have hdb := Blk.new wr 117 #[.string nm, .int .i64 ((n : Int) + 1)]
      have hzw : (wr.alloc (.cells #[.string nm, .int .i64 ((n : Int) + 1)] 117)).heap.size = wr.heap.size + 1 := by simp
      have HLN := Lib.hid hll; have HCU := Lib.hid hcu; have HS := Lib.hid hs; have HDB := Lib.hid hdb
      clear hcu hs hdb hzk
      go_upto_region 5 with (fail)
      generalize hW : wr.alloc (.cells #[.string nm, .int .i64 ((n : Int) + 1)] 117) = W at *
      have HD := Lib.hid HL.drew
      have d1 : W.drew.cell? ⟨wr.heap.size, 1, none⟩ = some (.int .i64 ((n : Int) + 1)) := HDB.out.cell 1
      have f0 : W.drew.cell? ⟨w.heap.size + 1 + 1, 0, none⟩ = some v0 := HD.out.f.cell 0
      have HDD : Hid (Blk W.drew wr.heap.size 117 #[.string nm, .int .i64 ((n : Int) + 1)]) := Lib.hid HDB.out.drew
      clear HL hW x0 x1
      go_region_law (first
        | (refine step_appSD (some 25) (by rfl) (by rfl) (.tmp 16) (.tmp 24) 62 (by rfl) (w.heap.size + 1 + 1 + 1) 3 (.int .i64 0) 1 8 info_int rfl (by decide) Try.underlying62 v0 aa.length (i64s aa) HA.out.o0 _ (some ⟨w4.heap.size, 0, none⟩) 1 1 [.int .i64 (x : Int)] HRD.out (by rfl) (by rfl) (i64s_one [(x : Int)]) (by omega) (by omega) hz5 ?_; intro v5 w5 ho5 hap5; have HDB6 := Lib.hid (hap5.blk HDB5.out (own_blk_ne HA.out.o0 HDB5.out (by decide))); obtain ⟨hf5, hr5⟩ := HA.out.put0 hgl (x : Int) ho5 hap5; have c5 := hf5.cell 0; have fr5 := hf5.frozen 0; simp at c5; have HR5 := Lib.hid hr5; obtain ⟨A9, c9, rfl, _, _, _⟩ := own_form ho5; clear ho5 hap5 hf5 hr5)
        | (go_simp; go_at_call 55; (with_reducible refine (HCU.out _ HD.out.i).mono ?_); rintro y w4 ⟨rfl, hi4, ho4⟩; have HR4 := Lib.hid (HD.out.only hgl ho4 hi4); have HA := Lib.hid (HR4.out.alloc (.cells #[.int .i64 (x : Int)] 3)); have HRD := Lib.hid (rd_new w4 3 (.int .i64 (x : Int))); have f4 : w4.cell? ⟨w.heap.size + 1 + 1, 0, none⟩ = some v0 := HR4.out.f.cell 0; have f5 : (w4.alloc (.cells #[.int .i64 (x : Int)] 3)).cell? ⟨w.heap.size + 1 + 1, 0, none⟩ = some v0 := HA.out.f.cell 0; have hz5 : w.heap.size + 1 + 1 + 1 ≤ (w4.alloc (.cells #[.int .i64 (x : Int)] 3)).heap.size := HA.out.lt; have HDB4 := Lib.hid (ho4.blk HDD.out (by omega)); have d4 : w4.cell? ⟨wr.heap.size, 1, none⟩ = some (.int .i64 ((n : Int) + 1)) := HDB4.out.cell 1; have HDB5 := Lib.hid (HDB4.out.alloc (.cells #[.int .i64 (x : Int)] 3)); clear hi4 ho4))
      all_goals
        go_wp2
        go_roundw
        case rel => exact ⟨k + 1, _, by omega, by go_num, by rw [HS.out]; have hx := HR5.out; rw [hll] at hx; exact Lib.hid hx⟩
        case measure => simp [intOf]; omega
    · obtain rfl : k = S.dims.length := by omega
      generalize hra : runN (uF t (szAt S)) p e S.dims.length = ra at *
      obtain ⟨aa, pa, ea⟩ := ra
      simp only at HR
      have HRA := Lib.hid (show onesA S t p e = (aa, pa, ea) from hra)
      have k1 : wr.cell? ⟨w.heap.size, 1, none⟩ = some (.slice A1 S.ints.length c1) := by have := HR.out.s.cell 1; rw [← HSV.out] at this; exact this
      clear hra hll
      go_wp2
      clear k1
      go_loopw [31] (fun i ws => ∃ (k : Nat) (v1 : Value), k ≤ S.ints.length ∧ i = .int .i64 (k : Int) ∧ Hid (OneRel w ws g t SV v0 v1 (.slice none 0 0) aa (runN (iF t) pa ea k).1 [] (runN (iF t) pa ea k).2.1 (runN (iF t) pa ea k).2.2)) (fun i _ => S.ints.length - (intOf i).toNat)
      case atStart => exact ⟨0, _, by omega, rfl, HR.out⟩
      case round =>
        obtain ⟨k, v1, hk, rfl, HR⟩ := hrel
        have hll := runN_len (f := iF t) (fun _ _ _ => rfl) pa ea k
        by_cases hlt : k < S.ints.length
        · have q1 : (0 : Int) ≤ (k : Int) := by omega
          have q2 : (k : Int) < (S.ints.length : Int) := by omega
          have hs := runN_succ (iF t) pa ea k
          generalize runN (iF t) pa ea k = st at *
          obtain ⟨bs, p1, e1⟩ := st
          simp only at hs hll HR
          have hcu := fun W hW => inI_any W g t p1 e1 hW
          have er : iF t k p1 e1 = ([stepV (0 : Int) (getI (t.drop p1)).1 (stepE e1 (getI (t.drop p1)).2.2 0)], stepP p1 (getI (t.drop p1)).2.1 (stepE e1 (getI (t.drop p1)).2.2 0), stepE e1 (getI (t.drop p1)).2.2 0) := rfl
          rw [er] at hs
          generalize stepV (0 : Int) (getI (t.drop p1)).1 (stepE e1 (getI (t.drop p1)).2.2 0) = x at *
          generalize stepP p1 (getI (t.drop p1)).2.1 (stepE e1 (getI (t.drop p1)).2.2 0) = p2 at *
          generalize stepE e1 (getI (t.drop p1)).2.2 0 = e2 at *
          have HD := Lib.hid HR.out.drew
          have f0 : wr.drew.cell? ⟨w.heap.size + 1 + 1, 1, none⟩ = some v1 := HD.out.f.cell 1
          have HCU := Lib.hid hcu; have HS := Lib.hid hs
          clear hcu hs er
          go_upto_region 9 with (fail)
          go_region_law (first
            | (refine step_appSD (some 38) (by rfl) (by rfl) (.tmp 34) (.tmp 37) 63 (by rfl) (w.heap.size + 1 + 1 + 1) 2 (.int .i64 0) 1 8 info_i64 rfl (by decide) Try.underlying63 v1 bs.length (i64s bs) HA.out.o1 _ (some ⟨w4.heap.size, 0, none⟩) 1 1 [.int .i64 x] HRD.out (by rfl) (by rfl) (i64s_one [x]) (by omega) (by omega) hz5 ?_; intro v5 w5 ho5 hap5; obtain ⟨hf5, hr5⟩ := HA.out.put1 hgl x ho5 hap5; have c5 := hf5.cell 1; have fr5 := hf5.frozen 1; simp at c5; have HR5 := Lib.hid hr5; obtain ⟨A9, c9, rfl, _, _, _⟩ := own_form ho5; clear ho5 hap5 hf5 hr5)
            | (go_simp; go_at_call 76; (with_reducible refine (HCU.out _ HD.out.i).mono ?_); rintro y w4 ⟨rfl, hi4, ho4⟩; have HR4 := Lib.hid (HD.out.only hgl ho4 hi4); have HA := Lib.hid (HR4.out.alloc (.cells #[.int .i64 x] 2)); have HRD := Lib.hid (rd_new w4 2 (.int .i64 x)); have f4 : w4.cell? ⟨w.heap.size + 1 + 1, 1, none⟩ = some v1 := HR4.out.f.cell 1; have f5 : (w4.alloc (.cells #[.int .i64 x] 2)).cell? ⟨w.heap.size + 1 + 1, 1, none⟩ = some v1 := HA.out.f.cell 1; have hz5 : w.heap.size + 1 + 1 + 1 ≤ (w4.alloc (.cells #[.int .i64 x] 2)).heap.size := HA.out.lt; clear hi4 ho4))
          all_goals
            go_wp2
            go_roundw
            case rel => exact ⟨k + 1, _, by omega, by go_num, by rw [HS.out]; have hx := HR5.out; rw [hll] at hx; exact Lib.hid hx⟩
            case measure => simp [intOf]; omega
        · obtain rfl : k = S.ints.length := by omega
          generalize hrb : runN (iF t) pa ea S.ints.length = rb at *
          obtain ⟨bs, pb, eb⟩ := rb
          simp only at HR
          have HRB := Lib.hid (show onesB S t p e = (bs, pb, eb) from by unfold onesB; rw [HRA.out]; exact hrb)
          have k2 : wr.cell? ⟨w.heap.size, 2, none⟩ = some (.slice A2 S.nums.length c2) := by have := HR.out.s.cell 2; rw [← HSV.out] at this; exact this
          clear hrb hll
          go_wp2
          clear k2
          go_loopw [44] (fun i ws => ∃ (k : Nat) (v2 : Value), k ≤ S.nums.length ∧ i = .int .i64 (k : Int) ∧ Hid (OneRel w ws g t SV v0 v1 v2 aa bs (runN (fF t) pb eb k).1 (runN (fF t) pb eb k).2.1 (runN (fF t) pb eb k).2.2)) (fun i _ => S.nums.length - (intOf i).toNat)
          case atStart => exact ⟨0, _, by omega, rfl, HR.out⟩
          case round =>
            obtain ⟨k, v2, hk, rfl, HR⟩ := hrel
            have hll := runN_len (f := fF t) (fun _ _ _ => rfl) pb eb k
            by_cases hlt : k < S.nums.length
            · have q1 : (0 : Int) ≤ (k : Int) := by omega
              have q2 : (k : Int) < (S.nums.length : Int) := by omega
              have hs := runN_succ (fF t) pb eb k
              generalize runN (fF t) pb eb k = st at *
              obtain ⟨cs, p1, e1⟩ := st
              simp only at hs hll HR
              have hcu := fun W hW => inF_any W g t p1 e1 hW
              have er : fF t k p1 e1 = ([stepV (0 : Nat) (getF (t.drop p1)).1 (stepE e1 (getF (t.drop p1)).2.2 0)], stepP p1 (getF (t.drop p1)).2.1 (stepE e1 (getF (t.drop p1)).2.2 0), stepE e1 (getF (t.drop p1)).2.2 0) := rfl
              rw [er] at hs
              generalize stepV (0 : Nat) (getF (t.drop p1)).1 (stepE e1 (getF (t.drop p1)).2.2 0) = x at *
              generalize stepP p1 (getF (t.drop p1)).2.1 (stepE e1 (getF (t.drop p1)).2.2 0) = p2 at *
              generalize stepE e1 (getF (t.drop p1)).2.2 0 = e2 at *
              have HD := Lib.hid HR.out.drew
              have f0 : wr.drew.cell? ⟨w.heap.size + 1 + 1, 2, none⟩ = some v2 := HD.out.f.cell 2
              have HCU := Lib.hid hcu; have HS := Lib.hid hs
              clear hcu hs er
              go_upto_region 13 with (fail)
              go_region_law (first
                | (refine step_appSD (some 51) (by rfl) (by rfl) (.tmp 47) (.tmp 50) 64 (by rfl) (w.heap.size + 1 + 1 + 1) 77 (.float .f64 0) 1 8 info_f64 rfl (by decide) Try.underlying64 v2 cs.length (f64s cs) HA.out.o2 _ (some ⟨w4.heap.size, 0, none⟩) 1 1 [.float .f64 x] HRD.out (by rfl) (by rfl) (f64s_one [x]) (by omega) (by omega) hz5 ?_; intro v5 w5 ho5 hap5; obtain ⟨hf5, hr5⟩ := HA.out.put2 hgl x ho5 hap5; have c5 := hf5.cell 2; have fr5 := hf5.frozen 2; simp at c5; have HR5 := Lib.hid hr5; obtain ⟨A9, c9, rfl, _, _, _⟩ := own_form ho5; clear ho5 hap5 hf5 hr5)
                | (go_simp; go_at_call 77; (with_reducible refine (HCU.out _ HD.out.i).mono ?_); rintro y w4 ⟨rfl, hi4, ho4⟩; have HR4 := Lib.hid (HD.out.only hgl ho4 hi4); have HA := Lib.hid (HR4.out.alloc (.cells #[.float .f64 x] 77)); have HRD := Lib.hid (rd_new w4 77 (.float .f64 x)); have f4 : w4.cell? ⟨w.heap.size + 1 + 1, 2, none⟩ = some v2 := HR4.out.f.cell 2; have f5 : (w4.alloc (.cells #[.float .f64 x] 77)).cell? ⟨w.heap.size + 1 + 1, 2, none⟩ = some v2 := HA.out.f.cell 2; have hz5 : w.heap.size + 1 + 1 + 1 ≤ (w4.alloc (.cells #[.float .f64 x] 77)).heap.size := HA.out.lt; clear hi4 ho4))
              all_goals
                go_wp2
                go_roundw
                case rel => exact ⟨k + 1, _, by omega, by go_num, by rw [HS.out]; have hx := HR5.out; rw [hll] at hx; exact Lib.hid hx⟩
                case measure => simp [intOf]; omega
            · obtain rfl : k = S.nums.length := by omega
              generalize hrc : runN (fF t) pb eb S.nums.length = rc at *
              obtain ⟨cs, pc, ec⟩ := rc
              simp only at HR
              have HRC := Lib.hid (show onesC S t p e = (cs, pc, ec) from by unfold onesC; rw [HRB.out]; exact hrc)
              have hone : oneS S t p e = (⟨aa, bs, cs⟩, pc, ec) := by unfold oneS; rw [HRA.out, HRB.out, HRC.out]
              obtain ⟨l0, l1, l2⟩ := oneS_len S t p e
              rw [hone] at l0 l1 l2
              obtain ⟨A7, c7, rfl, _, _, _⟩ := own_form HR.out.o0
              obtain ⟨A8, c8, rfl, _, _, _⟩ := own_form HR.out.o1
              obtain ⟨A9, c9, rfl, _, _, _⟩ := own_form HR.out.o2
              have z0 := HR.out.f.cell 0; have z1 := HR.out.f.cell 1; have z2 := HR.out.f.cell 2
              have y0 := HR.out.r.cell 0; have y1 := HR.out.r.cell 1; have y2 := HR.out.r.cell 2
              have g0 := HR.out.r.frozen 0; have g1 := HR.out.r.frozen 1; have g2 := HR.out.r.frozen 2
              simp at z0 z1 z2 y0 y1 y2
              have HONE := Lib.hid hone; have L0 := Lib.hid l0; have L1 := Lib.hid l1; have L2 := Lib.hid l2
              clear hrc hll hone l0 l1 l2
              have hfin := HR.out.fin hgl
              have HF := Lib.hid hfin
              clear hfin
              go_wp2
              refine bodyPost_ret (v := .agg #[.slice A7 aa.length c7, .slice A8 bs.length c8, .slice A9 cs.length c9]) ?_ rfl ?_
              · simp [results, Try.results90, go_sem, *]
              · refine ⟨_, _, _, rfl, ?_⟩
                rw [HONE.out, ← L0.out, ← L1.out, ← L2.out]
                exact HF.out
end Go.Proofs.Ytpnolgghbenekaa
