/-
  BufBack: what was written is read so.
-/
import Derived.Test.YtpnolgghbenekaaAskBytes
import Derived.Test.YtpnolgghbenekaaBufAwake
import Derived.Test.YtpnolgghbenekaaLawBufReads
namespace Go.Proofs.Ytpnolgghbenekaa
open Go.ChangeShapes Go.WideShapes Go.ChangeAt Go.RowKit
set_option linter.unusedVariables false

def encAll (l : List AskS) : List UInt8 := l.flatMap encAsk
theorem encAll_app (l m : List AskS) : encAll (l ++ m) = encAll l ++ encAll m := List.flatMap_append
theorem encAll_succ (l : List AskS) (k : Nat) (hk : k < l.length) : encAll (l.take (k + 1)) = encAll (l.take k) ++ encAsk l[k] := by
  rw [List.take_succ_eq_append_getElem hk, encAll_app]
  simp [encAll]
theorem encAll_drop (l : List AskS) (k : Nat) (hk : k < l.length) : (encAll l).drop (encAll (l.take k)).length = encAsk l[k] ++ encAll (l.drop (k + 1)) := by
  have h : encAll l = encAll (l.take k) ++ (encAsk l[k] ++ encAll (l.drop (k + 1))) := by
    rw [← List.append_assoc, ← encAll_succ l k hk, ← encAll_app, List.take_append_drop]
  rw [h, List.drop_left]
theorem encAll_len (l : List AskS) (hs : ∀ x ∈ l, x.s.size ≤ 200) (ha : ∀ x ∈ l, AskOk x) : ∀ k, k ≤ l.length → (encAll (l.take k)).length ≤ 402 * k := by
  intro k
  induction k with
  | zero => intro _; simp [encAll]
  | succ k ih =>
    intro hk
    have h1 := ih (by omega)
    have h2 := encAsk_len l[k] (hs _ (List.getElem_mem _)) (ha _ (List.getElem_mem _))
    rw [encAll_succ l k (by omega), List.length_append]
    omega
theorem getF_enc (F cF : Nat) (l : List UInt8) (h : fromB (keyB F) = some cF) : getF (be 8 (keyB F) ++ l) = (cF, 8, 0) := by
  have hk := keyB_lt F
  have e : (be 8 (keyB F) ++ l).take 8 = be 8 (keyB F) := List.take_left' (be_length _ _)
  have e2 : bv (be 8 (keyB F)) = keyB F := by rw [bv_be]; exact Nat.mod_eq_of_lt (Nat.lt_of_lt_of_le hk (by decide))
  unfold getF
  rw [if_neg (by rw [List.length_append, be_length]; omega), e, e2, h]
theorem backRead_any (w : World) (g : Nat) (t : List UInt8) (p : Nat) (a : AskS) (rest : List UInt8) (h : InS w g t p 0) (ha : AskOk a) (h0 : 0 ≤ a.d) (h4 : a.d ≤ 4) (hs : a.s.size ≤ 200) (hdr : t.drop p = encAsk a ++ rest) (ht : t.length ≤ 1000000) :
    Calls Try.prog 36 #[.pointer (some ⟨g, 0, none⟩), .agg #[.int .i64 a.d, .int .u64 (a.u : Int), .int .i64 a.i, .float .f64 a.f, .string a.s, .int .i64 200], .agg #[.int .u64 (toldN a : Int), .int .i64 a.i, .string a.s, .int .i64 1, .int .i64 0]] w
      fun y w' => y = .returned (.bool true) ∧ InS w' g t (p + (encAsk a).length) 0 ∧ Only g w w' := by
  have hd : a.d = 0 ∨ a.d = 1 ∨ a.d = 2 ∨ a.d = 3 ∨ a.d = 4 := by omega
  have key : Calls Try.prog 36 #[.pointer (some ⟨g, 0, none⟩), .agg (askC ⟨a.d, a.u, a.i, a.f, a.s, 200⟩).toArray, (GotS.mk (toldN a) a.i a.s.data.toList 1 0).v] w fun y w' => y = .returned (.bool true) ∧ InS w' g t (p + (encAsk a).length) 0 ∧ Only g w w' := by
    rcases hd with hd | hd | hd | hd | hd
    · refine backRead0 w g t p _ ⟨a.d, a.u, a.i, a.f, a.s, 200⟩ _ h hd ?_
      have e : encAsk a = encU a.u := if_pos hd
      have et : toldN a = a.u := if_neg (by omega)
      have hg := inU_got t p 0 a.u ⟨a.u, 0, [], wd a.u + 1, 0⟩ (by rw [if_pos rfl]; unfold rdU; rw [hdr, e, getU_enc a.u ha.u]; simp)
      rw [e, et, encU_length]
      simpa [nextP, nextE] using hg
    · refine backRead1 w g t p _ ⟨a.d, a.u, a.i, a.f, a.s, 200⟩ _ h hd ?_
      have e : encAsk a = encI a.i := by unfold encAsk; rw [if_neg (by omega), if_pos hd]
      have hg := inI_got t p 0 ⟨0, a.i, [], (encI a.i).length, 0⟩ (by rw [if_pos rfl]; unfold rdI; rw [hdr, e, getI_enc a.i ha.i1 ha.i2]; simp)
      rw [e]
      simpa [nextP, nextE] using hg
    · refine backRead2 w g t p _ ⟨a.d, a.u, a.i, a.f, a.s, 200⟩ _ h hd ?_
      have e : encAsk a = be 8 (keyB a.f) := by unfold encAsk; rw [if_neg (by omega), if_neg (by omega), if_pos hd]
      have et : toldN a = keyB a.f := if_pos hd
      obtain ⟨cF, hcF, hcFl, hcFk⟩ := fromB_of_key a.f
      have hg : getF (t.drop p) = (cF, 8, 0) := by rw [hdr, e]; exact getF_enc a.f cF rest hcF
      rw [hg, e, et, be_length]
      refine ⟨rfl, rfl, ?_, hcFk, hcFl⟩
      show 0 < 1
      decide
    · refine backRead3 w g t p _ ⟨a.d, a.u, a.i, a.f, a.s, 200⟩ _ h hd ?_ ht
      have e : encAsk a = encT a.s.data.toList := by unfold encAsk; rw [if_neg (by omega), if_neg (by omega), if_neg (by omega), if_pos hd]
      have hg : getT (t.drop p) = (a.s.data.toList, (encT a.s.data.toList).length, 0) := by rw [hdr, e]; exact getT_enc _ rest
      have hl : longE a.s.data.toList.length 200 = 0 := by
        unfold longE
        have h1 : a.s.data.toList.length = a.s.size := rfl
        have h2 : mx 200 = 200 := by decide
        rw [h1]
        first | (rw [h2, if_neg (by omega)]) | (rw [if_neg (by omega)]) | (simp; omega)
      rw [hg, e]
      simp only [hl]
      exact ⟨rfl, rfl, rfl⟩
    · refine backRead4 w g t p _ ⟨a.d, a.u, a.i, a.f, a.s, 200⟩ _ h hd ?_ ht (by show (200 : Int) ≤ _; decide)
      have e : encAsk a = encU a.s.size ++ a.s.data.toList := by unfold encAsk; rw [if_neg (by omega), if_neg (by omega), if_neg (by omega), if_neg (by omega)]
      have h1 : a.s.data.toList.length = a.s.size := rfl
      have h2 : mx 200 = 200 := by decide
      have hg : getU (t.drop p) = (a.s.size, wd a.s.size + 1, 0) := by rw [hdr, e, List.append_assoc]; exact getU_enc _ (by omega) _
      have hdd : (t.drop p).drop (wd a.s.size + 1) = a.s.data.toList ++ rest := by
        rw [hdr, e, List.append_assoc]; exact List.drop_left' (encU_length _)
      have hll : (t.drop p).length = wd a.s.size + 1 + a.s.size + rest.length := by
        rw [hdr, e, List.length_append, List.length_append, encU_length, h1]
      have hr : rdB 200 (t.drop p) = ⟨0, 0, a.s.data.toList, wd a.s.size + 1 + a.s.size, 0⟩ := by
        unfold rdB
        rw [hg]
        simp only
        rw [if_neg (by omega), h2, if_neg (by omega), hll, if_neg (by omega), hdd, List.take_left' h1]
      show (rdB 200 (t.drop p)).t = a.s.data.toList ∧ p + (rdB 200 (t.drop p)).n = p + (encAsk a).length ∧ (rdB 200 (t.drop p)).e = 0
      rw [hr, e, List.length_append, encU_length, h1]
      exact ⟨rfl, rfl, rfl⟩
  have e3 : (⟨a.s.data.toList.toArray⟩ : ByteArray) = a.s := str_back a.s
  unfold GotS.v at key
  simp only [e3] at key
  exact key

theorem ba_app (a b : List UInt8) : (⟨(a ++ b).toArray⟩ : ByteArray) = ⟨a.toArray⟩ ++ ⟨b.toArray⟩ := by
  apply ByteArray.ext
  simp [ByteArray.data_append]
theorem run_store_f {P : Program} {w : World} {a : Addr} {m : Mode} (k : FloatKind) (b : Nat) : (store a (.float k b) m).run P w = stored P w a (.float k b) m := run_store P w a _ m rfl
attribute [local go_sem] run_store_f
theorem six_keep {a b : World} {n : Nat} {v0 v1 v2 v3 v4 v5 : Value} (hb : ∀ q : Addr, q.block = n → b.cell? q = a.cell? q)
    (h : a.cell? ⟨n, 0, none⟩ = some v0 ∧ a.cell? ⟨n, 1, none⟩ = some v1 ∧ a.cell? ⟨n, 2, none⟩ = some v2 ∧ a.cell? ⟨n, 3, none⟩ = some v3 ∧ a.cell? ⟨n, 4, none⟩ = some v4 ∧ a.cell? ⟨n, 5, none⟩ = some v5) :
    b.cell? ⟨n, 0, none⟩ = some v0 ∧ b.cell? ⟨n, 1, none⟩ = some v1 ∧ b.cell? ⟨n, 2, none⟩ = some v2 ∧ b.cell? ⟨n, 3, none⟩ = some v3 ∧ b.cell? ⟨n, 4, none⟩ = some v4 ∧ b.cell? ⟨n, 5, none⟩ = some v5 :=
  ⟨(hb _ rfl).trans h.1, (hb _ rfl).trans h.2.1, (hb _ rfl).trans h.2.2.1, (hb _ rfl).trans h.2.2.2.1, (hb _ rfl).trans h.2.2.2.2.1, (hb _ rfl).trans h.2.2.2.2.2⟩
theorem six_new {w : World} {g : Nat} {t : TypeId} {v0 v1 v2 v3 v4 v5 : Value} (h : Blk w g t #[v0, v1, v2, v3, v4, v5]) :
    w.cell? ⟨g, 0, none⟩ = some v0 ∧ w.cell? ⟨g, 1, none⟩ = some v1 ∧ w.cell? ⟨g, 2, none⟩ = some v2 ∧ w.cell? ⟨g, 3, none⟩ = some v3 ∧ w.cell? ⟨g, 4, none⟩ = some v4 ∧ w.cell? ⟨g, 5, none⟩ = some v5 :=
  ⟨h.cell 0, h.cell 1, h.cell 2, h.cell 3, h.cell 4, h.cell 5⟩
def BkOne (w wx : World) (g : Nat) (l : List AskS) (v4 v5 : Value) : Prop :=
  ∃ k : Nat, k ≤ l.length ∧ v4 = .string ⟨(encAll (l.take k)).toArray⟩ ∧ v5 = .int .i64 (k : Int) ∧ OutS wx w.heap.size g (encAll (l.take k)) ∧ Below w.heap.size w wx
def BkTwo (w wx : World) (gi : Nat) (l : List AskS) (v7 : Value) : Prop :=
  ∃ k : Nat, k ≤ l.length ∧ v7 = .int .i64 (k : Int) ∧ InS wx gi (encAll l) (encAll (l.take k)).length 0 ∧ Below w.heap.size w wx
set_option maxRecDepth 20000 in
set_option maxHeartbeats 2000000 in
theorem bufBack_yes (Al : Option Addr) (nl cl : Nat) (l : List AskS) (w : World) (hl : Rd w w.heap.size 6 Al nl (asksC l)) (hs : smallB l = true) (hok : ∀ x ∈ l, AskOk x) :
    Calls Try.prog 7 #[.slice Al nl cl] w fun y w' => y = .returned (.bool true) ∧ Below w.heap.size w w' := by
  obtain rfl : nl = l.length := hl.ask_len
  obtain ⟨h40, hsa⟩ := smallA_of hs
  have hlen := encAll_len l (fun x hx => by obtain ⟨j, hj, rfl⟩ := List.getElem_of_mem hx; exact (hsa j hj).1) hok
  have HSM := Lib.hid (small_any w Al l.length cl w.heap.size l hl (by unfold maxLen; omega)); rw [hs] at HSM; clear hs
  have HL := Lib.hid hl; have HSA := Lib.hid hsa; have HOK := Lib.hid hok; have HLEN := Lib.hid hlen; clear hl hsa hok hlen
  go_enter Try.func7, Try.ntmps7
  go_wp2_with (first
    | (go_at_call 32; (with_reducible refine HSM.out.mono ?_); rintro y w1 ⟨rfl, rfl⟩)
    | (go_at_call 40; (with_reducible refine (newOut_any _).mono ?_); rintro y w2 ⟨rfl, hout, hb2⟩))
  go_loopw [4, 5] (fun v4 v5 wx => BkOne w wx w.heap.size l v4 v5) (fun _ v5 _ => l.length - (intOf v5).toNat)
  case atStart => exact ⟨0, by omega, rfl, rfl, hout, hb2⟩
  case round =>
    obtain ⟨k, hk, rfl, rfl, hout1, hb1⟩ := hrel
    have HOUT := Lib.hid hout1; have HB := Lib.hid hb1; clear hout hb2 hout1 hb1
    have hlk := HLEN.out k hk
    by_cases hlt : k < l.length
    · have hklt : (k : Int) < (l.length : Int) := by omega
      have hk0 : (0 : Int) ≤ (k : Int) := by omega
      obtain ⟨a, rfl, hab, x0, x1, x2, x3, x4, x5⟩ := (HL.out.below HB.out).ask hlt
      have ha := HOK.out _ (List.getElem_mem hlt)
      obtain ⟨hs2, hd0, hd4⟩ := HSA.out k hlt
      have hsu := encAll_succ l k hlt
      have hle := encAsk_len l[k] hs2 ha
      generalize l[k] = x at *
      have HSU := Lib.hid hsu; clear hsu
      have HX : Hid (AskAt wr (a.add (k * 6)) x.d x.u x.i x.f x.s x.m) := Lib.hid (And.intro x0 (And.intro x1 (And.intro x2 (And.intro x3 (And.intro x4 x5)))))
      have hwr := write_any wr x w.heap.size w.heap.size (encAll (l.take k)) HOUT.out (by omega) ha hs2 hd0 hd4
      have HBY := Lib.hid (fun W => refBytes_any W x ha hs2 hd0 hd4)
      have hwr2 : Calls Try.prog 41 #[.pointer (some ⟨w.heap.size, 0, none⟩), .agg #[.int .i64 x.d, .int .u64 (x.u : Int), .int .i64 x.i, .float .f64 x.f, .string x.s, .int .i64 x.m]] wr fun y w' => y = .returned (.tuple #[]) ∧ OutS w' w.heap.size w.heap.size (encAll (l.take k) ++ encAsk x) ∧ Below w.heap.size wr w' := hwr
      have HWR := Lib.hid hwr2; clear hwr hwr2
      go_upto_region 9 with (go_at_call 41; (with_reducible refine HWR.out.mono ?_); rintro y w3 ⟨rfl, ho3, hb3⟩)
      have hx3 := HX.out.below hb3 (by rw [block_add]; exact hab)
      clear x0 x1 x2 x3 x4 x5
      obtain ⟨x0, x1, x2, x3, x4, x5⟩ := hx3
      have hby : Calls Try.prog 42 #[.agg #[.int .i64 x.d, .int .u64 (x.u : Int), .int .i64 x.i, .float .f64 x.f, .string x.s, .int .i64 x.m]] w3 fun y w' => ∃ v, y = .returned v ∧ w'.ownsRow w3.heap.size 5 1 v (encAsk x).length (u8s (encAsk x)) ∧ Below w3.heap.size w3 w' := HBY.out w3
      have HBY3 := Lib.hid hby; have HO3 := Lib.hid ho3; have HB3 := Lib.hid (HB.out.trans hb3); clear hby ho3 hb3
      have hsz : (encAll (l.take k)).length + (encAsk x).length ≤ 9223372036854775807 := by omega
      go_wp2_with (go_at_call 42; (with_reducible refine HBY3.out.mono ?_); rintro y w4 ⟨v4, rfl, ho4, hb4⟩; have hcv := run_str_own (P := Try.prog) (src := 36) (dst := 9) ho4 Try.underlying36 Try.underlying5 Try.underlying9; have HO4 := Lib.hid (HO3.out.below hb4); have HB4 := Lib.hid (HB3.out.trans (hb4.mono HB3.out.size)); clear ho4 hb4)
      go_roundw
      case rel => exact ⟨k + 1, by omega, by rw [HSU.out, ba_app], by go_num, by rw [HSU.out]; exact HO4.out, HB4.out⟩
      case measure => simp [intOf]; omega
    · have hk2 : ¬ (k : Int) < (l.length : Int) := by omega
      obtain rfl : k = l.length := by omega
      rw [List.take_length] at HOUT hlk ⊢
      have hby := outBytes_any wr w.heap.size w.heap.size (encAll l) HOUT.out (by omega)
      have HBY := Lib.hid hby; clear hby
      go_upto_region 12 with (go_at_call 43; (with_reducible refine HBY.out.mono ?_); rintro y w5 ⟨v5, rfl, ho5, hb5⟩; have hcv := run_str_own (P := Try.prog) (src := 36) (dst := 9) ho5 Try.underlying36 Try.underlying5 Try.underlying9; have HO5 := Lib.hid (HOUT.out.below hb5); have HB5 := Lib.hid (HB.out.trans (hb5.mono HB.out.size)); clear ho5 hb5)
      have hby2 := outBytes_any w5 w.heap.size w.heap.size (encAll l) HO5.out (by omega)
      have HBY2 := Lib.hid hby2; clear hby2
      go_wp2_with (first
        | (go_at_call 43; (with_reducible refine HBY2.out.mono ?_); rintro y w6 ⟨v6, rfl, ho6, hb6⟩; obtain ⟨A6, c6, rfl, _, _, _⟩ := own_form ho6; have HR6 := Lib.hid (Rd.own ho6); have HB6 := Lib.hid (HB5.out.trans (hb6.mono HB5.out.size)); clear ho6 hb6)
        | (go_at_call 34; (with_reducible refine (newIn_any _ A6 (encAll l).length c6 (encAll l) HR6.out (by omega)).mono ?_); rintro y w7 ⟨gi, rfl, hgi, hin7, hb7⟩))
      have HGI : Hid (w.heap.size ≤ gi) := Lib.hid (Nat.le_trans HB6.out.size hgi)
      go_loopw [7] (fun v7 wx => BkTwo w wx gi l v7) (fun v7 _ => l.length - (intOf v7).toNat)
      case atStart => exact ⟨0, by omega, rfl, hin7, HB6.out.trans (hb7.mono HB6.out.size)⟩
      case round =>
        obtain ⟨k, hk, rfl, hin, hb⟩ := hrel
        have HIN := Lib.hid hin; have HB8 := Lib.hid hb; clear hin hb hin7 hb7
        by_cases hlt : k < l.length
        · have hklt : (k : Int) < (l.length : Int) := by omega
          have hk0 : (0 : Int) ≤ (k : Int) := by omega
          obtain ⟨a, rfl, hab, x0, x1, x2, x3, x4, x5⟩ := (HL.out.below HB8.out).ask hlt
          have ha := HOK.out _ (List.getElem_mem hlt)
          obtain ⟨hs2, hd0, hd4⟩ := HSA.out k hlt
          have hsu := encAll_succ l k hlt
          have hdr := encAll_drop l k hlt
          generalize l[k] = x at *
          have HSU := Lib.hid hsu; have HDR := Lib.hid hdr; clear hsu hdr
          go_upto_region 18 with (fail)
          have hbw := belA (belR wr) (.cells #[.int .i64 x.d, .int .u64 (x.u : Int), .int .i64 x.i, .float .f64 x.f, .string x.s, .int .i64 200] 79)
          have hblk := Blk.new wr 79 #[.int .i64 x.d, .int .u64 (x.u : Int), .int .i64 x.i, .float .f64 x.f, .string x.s, .int .i64 200]
          generalize wr.alloc (.cells #[.int .i64 x.d, .int .u64 (x.u : Int), .int .i64 x.i, .float .f64 x.f, .string x.s, .int .i64 200] 79) = W0 at *
          have hgn : gi < wr.heap.size := HIN.out.lt
          have hin0 : InS W0.drew gi (encAll l) (encAll (l.take k)).length 0 := (HIN.out.below hbw hgn).drw ⟨1, rfl⟩
          obtain ⟨n, hn⟩ : ∃ n, wr.heap.size = n := ⟨_, rfl⟩
          rw [hn] at hblk hgn hbw ⊢
          have hn0 : n < W0.drew.heap.size := hblk.lt
          have hs0 := six_new hblk.drew
          have HS0 := Lib.hid hs0; have HBW := Lib.hid hbw; have HIN0 := Lib.hid hin0; have HN := Lib.hid hn; clear hs0 hbw hin0 hn hblk x0 x1 x2 x3 x4 x5
          have ha2 : AskOk ⟨x.d, x.u, x.i, x.f, x.s, 200⟩ := ⟨ha.u, ha.i1, ha.i2, ha.f, ha.s, by show (200 : Int) ≤ _; decide⟩
          have HTO := Lib.hid (fun W => (show Calls Try.prog 44 #[.agg #[.int .i64 x.d, .int .u64 (x.u : Int), .int .i64 x.i, .float .f64 x.f, .string x.s, .int .i64 200]] W fun y w' => y = .returned (.int .u64 (toldN x : Int)) ∧ Below W.heap.size W w' from told_any W ⟨x.d, x.u, x.i, x.f, x.s, 200⟩ ha2))
          go_region_held3 (fun W => W.cell? ⟨n, 0, none⟩ = some (.int .i64 x.d) ∧ W.cell? ⟨n, 1, none⟩ = some (.int .u64 (x.u : Int)) ∧ W.cell? ⟨n, 2, none⟩ = some (.int .i64 x.i) ∧ W.cell? ⟨n, 3, none⟩ = some (.float .f64 x.f) ∧ W.cell? ⟨n, 4, none⟩ = some (.string x.s) ∧ W.cell? ⟨n, 5, none⟩ = some (.int .i64 200)) (first | (with_reducible exact HS0.out) | (exact six_keep (fun q hq => hb8.cell (by rw [hq]; exact hn0)) HS0.out) | (exact six_keep (fun q hq => ho9.cell_far (by rw [hq]; exact Nat.lt_of_lt_of_le hn0 hb8.size) (by rw [hq]; omega)) (six_keep (fun q hq => hb8.cell (by rw [hq]; exact hn0)) HS0.out)))
            (first
             | (go_at_call 44; (with_reducible refine (HTO.out _).mono ?_); rintro y w8 ⟨rfl, hb8⟩)
             | (go_at_call 36; (with_reducible refine (backRead_any _ gi (encAll l) _ x (encAll (l.drop (k + 1))) (HIN0.out.below hb8 (Nat.lt_trans hgn hn0)) ha hd0 hd4 hs2 HDR.out (by omega)).mono ?_); rintro y w9 ⟨rfl, hi9, ho9⟩))
          go_wp2
          go_roundw
          case rel => exact ⟨k + 1, by omega, by go_num, by rw [HSU.out, List.length_append]; exact hi9, (HB8.out.trans (HBW.out.drew.mono (by have := HB8.out.size; have := HN.out; omega))).trans ((hb8.mono (by have := HB8.out.size; have := HN.out; omega)).trans (ho9.below HGI.out (by have := hb8.size; have := HB8.out.size; have := HN.out; omega)))⟩
          case measure => simp [intOf]; omega
        · have hk2 : ¬ (k : Int) < (l.length : Int) := by omega
          obtain rfl : k = l.length := by omega
          rw [List.take_length] at HIN
          have hend := end_any wr gi (encAll l) (encAll l).length 0 HIN.out
          have T2 : endE (encAll l) (encAll l).length 0 = 0 := by unfold endE; rw [if_pos rfl, if_neg (by omega)]
          rw [T2] at hend
          simp only [show ((0 : Nat) : Int) = 0 from rfl] at hend
          have HEND := Lib.hid hend; clear hend T2
          go_wp2_with (first
            | (go_at_call 39; (with_reducible refine HEND.out.mono ?_); rintro y w8 ⟨rfl, hin8, ho8⟩)
            | (go_at_call 33; (with_reducible refine (awake08_any _).mono ?_); rintro y w9 ⟨rfl, hb9⟩))
          go_ret
          exact ⟨rfl, belT (HB8.out.trans (ho8.below HGI.out HB8.out.size)) hb9⟩
theorem bufBack_any (Al : Option Addr) (nl cl : Nat) (l : List AskS) (w : World) (hl : Rd w w.heap.size 6 Al nl (asksC l)) (hlc : nl ≤ maxLen) (hok : ∀ x ∈ l, AskOk x) :
    Calls Try.prog 7 #[.slice Al nl cl] w fun y w' => y = .returned (.bool true) ∧ Below w.heap.size w w' := by
  cases hs : smallB l with
  | true => exact bufBack_yes Al nl cl l w hl hs hok
  | false =>
    have hsm := small_any w Al nl cl w.heap.size l hl hlc
    rw [hs] at hsm
    have HSM := Lib.hid hsm; clear hsm hl hok hs
    go_enter Try.func7, Try.ntmps7
    go_wp2_with (first | (go_at_call 32; (with_reducible refine HSM.out.mono ?_); rintro y w1 ⟨rfl, rfl⟩) | (go_at_call 33; (with_reducible refine (awake08_any _).mono ?_); rintro y w9 ⟨rfl, hb9⟩))
    go_ret
    exact ⟨rfl, hb9⟩
end Go.Proofs.Ytpnolgghbenekaa
