/-
  BufReads: any asks of any bytes.
-/
import Derived.Test.YtpnolgghbenekaaBufAwake
import Derived.Deep.DeepCutAuto
import Derived.Deep.LoopGhost
import Derived.StillTailTactics
namespace Go.Proofs.Ytpnolgghbenekaa
open Go.ChangeShapes Go.WideShapes Go.ChangeAt Go.RowKit
set_option linter.unusedVariables false

theorem got0S_n (e m : Nat) : (got0S e).n ≤ m := Nat.zero_le _
theorem rgetF_short (t : List UInt8) (h : (rgetF t).2 = 0) : 8 ≤ t.length := by
  have hd := getF_doc t
  have h1 := hd.1
  have h2 := hd.2.2 h
  have h3 := getF_fits t (by rw [h1]; exact h)
  omega
theorem askG_n (a : AskS) (t : List UInt8) : (askG a t).n ≤ t.length := by
  unfold askG rdU rdI rdF rdT rdB
  have hu := getU_fits t; have hi := getI_fits t; have hf := rgetF_short t; have ht := getT_fits t
  repeat' split
  all_goals first
    | exact got0S_n _ _
    | exact hu (by simpa using ‹¬ (getU t).2.2 ≠ 0›)
    | exact hi (by simpa using ‹¬ (getI t).2.2 ≠ 0›)
    | exact hf (by simpa using ‹¬ (rgetF t).2 ≠ 0›)
    | exact ht (by simpa using ‹¬ (getT t).2.2 ≠ 0›)
    | (have := hu (by simpa using ‹¬ (getU t).2.2 ≠ 0›); simp only; omega)
def gotC (G : GotS) : Array Value := #[.int .u64 (G.u : Int), .int .i64 G.i, .string ⟨G.t.toArray⟩, .int .i64 (G.n : Int), .int .i64 (G.e : Int)]
def gotZ : Array Value := #[.int .u64 0, .int .i64 0, .string ⟨#[]⟩, .int .i64 0, .int .i64 0]
theorem smallA_of {l : List AskS} (h : smallB l = true) : l.length ≤ 40 ∧ ∀ k (hk : k < l.length), l[k].s.size ≤ 200 ∧ 0 ≤ l[k].d ∧ l[k].d ≤ 4 := by
  unfold smallB at h
  rw [Bool.and_eq_true, decide_eq_true_iff, List.all_eq_true] at h
  refine ⟨h.1, fun k hk => ?_⟩
  have := h.2 _ (List.getElem_mem hk)
  unfold smallA at this
  simp only [Bool.and_eq_true, decide_eq_true_iff] at this
  exact ⟨this.1.1, this.1.2, this.2⟩
def AskAt (w : World) (p : Addr) (d : Int) (u : Nat) (i : Int) (f : Nat) (s : ByteArray) (m : Int) : Prop :=
  w.cell? p = some (.int .i64 d) ∧ w.cell? ⟨p.block, p.off + 1, none⟩ = some (.int .u64 (u : Int)) ∧ w.cell? ⟨p.block, p.off + 2, none⟩ = some (.int .i64 i) ∧
    w.cell? ⟨p.block, p.off + 3, none⟩ = some (.float .f64 f) ∧ w.cell? ⟨p.block, p.off + 4, none⟩ = some (.string s) ∧ w.cell? ⟨p.block, p.off + 5, none⟩ = some (.int .i64 m)
theorem AskAt.below {w w' : World} {p : Addr} {d : Int} {u : Nat} {i : Int} {f : Nat} {s : ByteArray} {m : Int} {B : Nat} (h : AskAt w p d u i f s m) (hb : Below B w w') (hp : p.block < B) : AskAt w' p d u i f s m := by
  obtain ⟨h0, h1, h2, h3, h4, h5⟩ := h
  exact ⟨(hb.cell hp).trans h0, (hb.cell (p := ⟨p.block, p.off + 1, none⟩) hp).trans h1, (hb.cell (p := ⟨p.block, p.off + 2, none⟩) hp).trans h2, (hb.cell (p := ⟨p.block, p.off + 3, none⟩) hp).trans h3, (hb.cell (p := ⟨p.block, p.off + 4, none⟩) hp).trans h4, (hb.cell (p := ⟨p.block, p.off + 5, none⟩) hp).trans h5⟩
theorem AskAt.alloc {w : World} {p : Addr} {d : Int} {u : Nat} {i : Int} {f : Nat} {s : ByteArray} {m : Int} (h : AskAt w p d u i f s m) (o : Obj) (hp : p.block < w.heap.size) : AskAt (w.alloc o) p d u i f s m := h.below (belA (belR w) o) hp
def RdsRel (w wx : World) (gi : Nat) (t : List UInt8) (n : Nat) (v6 v7 v8 : Value) : Prop :=
  ∃ k p e : Nat, k ≤ n ∧ v6 = .int .i64 (p : Int) ∧ v7 = .int .i64 (e : Int) ∧ v8 = .int .i64 (k : Int) ∧ InS wx gi t p e ∧ Below w.heap.size w wx
def RdsMid (wr wx : World) (gi : Nat) (t : List UInt8) (p e : Nat) (a : AskS) (v6 v7 : Value) : Prop :=
  ∃ G : GotS, (G = if e = 0 then askG a (t.drop p) else got0S 0) ∧ v6 = .int .i64 (nextP e p G : Int) ∧ v7 = .int .i64 (nextE e G : Int) ∧ InS wx gi t p e ∧ Below wr.heap.size wr wx ∧ wr.heap.size < wx.heap.size ∧ Blk wx wr.heap.size 75 (gotC G)
theorem readAsk_flat (w : World) (d : Int) (u : Nat) (i : Int) (f : Nat) (s : ByteArray) (m : Int) (A : Option Addr) (n c B : Nat) (t : List UInt8) (gu : Nat) (gI : Int) (gt : List UInt8) (gn ge : Nat) (hg : askG ⟨d, u, i, f, s, m⟩ t = ⟨gu, gI, gt, gn, ge⟩)
    (h0 : 0 ≤ d) (h4 : d ≤ 4) (hms : m ≤ 9223372036854775807) (h : Rd w B 1 A n (u8s t)) (hm : n ≤ 1000000) (hmc : n ≤ c) (hc : c ≤ maxLen) (hB : B ≤ w.heap.size) :
    Calls Try.prog 35 #[.agg #[.int .i64 d, .int .u64 (u : Int), .int .i64 i, .float .f64 f, .string s, .int .i64 m], .slice A n c] w fun y w' => y = .returned (.agg #[.int .u64 (gu : Int), .int .i64 gI, .string ⟨gt.toArray⟩, .int .i64 (gn : Int), .int .i64 (ge : Int)]) ∧ Below w.heap.size w w' := by
  have := refReadAsk_any w ⟨d, u, i, f, s, m⟩ A n c B t h0 h4 hms h hm hmc hc hB
  rw [hg] at this
  exact this
theorem lawRead_flat (w : World) (g : Nat) (t : List UInt8) (p e : Nat) (d : Int) (u : Nat) (i : Int) (f : Nat) (s : ByteArray) (m : Int) (gu : Nat) (gI : Int) (gt : List UInt8) (gn ge : Nat) (h : InS w g t p e) (h0 : 0 ≤ d) (h4 : d ≤ 4) (hms : m ≤ 9223372036854775807) (ht : t.length ≤ 1000000)
    (hG : (⟨gu, gI, gt, gn, ge⟩ : GotS) = if e = 0 then askG ⟨d, u, i, f, s, m⟩ (t.drop p) else got0S 0) (p' e' : Nat) (hp : nextP e p ⟨gu, gI, gt, gn, ge⟩ = p') (he : nextE e ⟨gu, gI, gt, gn, ge⟩ = e') :
    Calls Try.prog 36 #[.pointer (some ⟨g, 0, none⟩), .agg #[.int .i64 d, .int .u64 (u : Int), .int .i64 i, .float .f64 f, .string s, .int .i64 m], .agg #[.int .u64 (gu : Int), .int .i64 gI, .string ⟨gt.toArray⟩, .int .i64 (gn : Int), .int .i64 (ge : Int)]] w fun y w' => y = .returned (.bool true) ∧ InS w' g t p' e' ∧ Only g w w' := by
  subst hp; subst he
  exact lawRead_any w g t p e ⟨d, u, i, f, s, m⟩ _ h h0 h4 hms ht hG

set_option maxRecDepth 20000 in
set_option maxHeartbeats 2000000 in
theorem bufReads_yes (A Al : Option Addr) (n c nl cl : Nat) (t : List UInt8) (l : List AskS) (w : World) (h : Rd w w.heap.size 1 A n (u8s t)) (hn : n ≤ 1000) (hnc : n ≤ c) (hc : c ≤ maxLen)
    (hl : Rd w w.heap.size 6 Al nl (asksC l)) (hs : smallB l = true) (hok : ∀ x ∈ l, x.m ≤ 9223372036854775807) :
    Calls Try.prog 6 #[.slice A n c, .slice Al nl cl] w fun y w' => y = .returned (.bool true) ∧ Below w.heap.size w w' := by
  obtain rfl : nl = l.length := hl.ask_len
  obtain rfl : n = t.length := h.u8.symm
  obtain ⟨h40, hsa⟩ := smallA_of hs
  have hsm := fun W => small_any W Al l.length cl w.heap.size l
  have HSM := Lib.hid (small_any w Al l.length cl w.heap.size l hl (by unfold maxLen; omega)); rw [hs] at HSM; clear hs hsm
  have HNC := Lib.hid hnc; have HT := Lib.hid h; have HL := Lib.hid hl; have HSA := Lib.hid hsa; have HOK := Lib.hid hok; have HC := Lib.hid hc; clear hnc h hl hsa hok hc
  go_enter Try.func6, Try.ntmps6
  go_wp2_with (first
    | (go_at_call 32; (with_reducible refine HSM.out.mono ?_); rintro y w1 ⟨rfl, rfl⟩)
    | (go_at_call 34; (with_reducible refine (newIn_any _ A t.length c t HT.out (by omega)).mono ?_); rintro y w2 ⟨gi, rfl, hgi, hin2, hb2⟩))
  have HGI := Lib.hid hgi; clear hgi
  go_loopw [6, 7, 8] (fun v6 v7 v8 wx => RdsRel w wx gi t l.length v6 v7 v8) (fun _ _ v8 _ => l.length - (intOf v8).toNat)
  case atStart => exact ⟨0, 0, 0, by omega, rfl, rfl, rfl, hin2, hb2⟩
  case round =>
    obtain ⟨k, p, e, hk, rfl, rfl, rfl, hin, hb⟩ := hrel
    have HIN := Lib.hid hin; have HB := Lib.hid hb; clear hin hb hin2 hb2
    have hp : p ≤ t.length := by obtain ⟨_, _, _, _, _, _, h⟩ := HIN.out; exact h
    by_cases hlt : k < l.length
    · have hklt : (k : Int) < (l.length : Int) := by omega
      have hk0 : (0 : Int) ≤ (k : Int) := by omega
      obtain ⟨a, rfl, hab, x0, x1, x2, x3, x4, x5⟩ := (HL.out.below HB.out).ask hlt
      have hm := HOK.out _ (List.getElem_mem hlt)
      obtain ⟨_, hd0, hd4⟩ := HSA.out k hlt
      generalize l[k] = x at *
      obtain ⟨d, u, i, f, s, m⟩ := x
      simp only at hm hd0 hd4 x0 x1 x2 x3 x4 x5
      have HX : Hid (AskAt wr (a.add (k * 6)) d u i f s m) := Lib.hid (And.intro x0 (And.intro x1 (And.intro x2 (And.intro x3 (And.intro x4 x5))))); clear x0 x1 x2 x3 x4 x5
      go_upto_if 34 with (fail)
      go_cut [6, 7] (fun v6 v7 wx => RdsMid wr wx gi t p e ⟨d, u, i, f, s, m⟩ v6 v7)
      case first =>
          by_cases he : e = 0
          · subst he
            obtain ⟨G, hg⟩ : ∃ G, askG ⟨d, u, i, f, s, m⟩ (t.drop p) = G := ⟨_, rfl⟩
            have hn2 := askG_n ⟨d, u, i, f, s, m⟩ (t.drop p)
            rw [List.length_drop, hg] at hn2
            obtain ⟨gu, gI, gt, gn, ge⟩ := G
            simp only at hn2
            have HG := Lib.hid hg; clear hg
            obtain ⟨A', hrun, hrd⟩ := slice_from (P := Try.prog) (T := 36) (E := 5) Try.underlying36 elu8 szu8 (HT.out.below HB.out) (p := p) (by omega) HNC.out
            have HRD := Lib.hid hrd; clear hrd
            have hx := HX.out.alloc (.cells #[.int .u64 0, .int .i64 0, .string ⟨#[]⟩, .int .i64 0, .int .i64 0] 75) (by have := HB.out.size; rw [show (a.add (k * 6)).block = a.block from by unfold Addr.add; split <;> rfl]; omega)
            have hbw := belA (belR wr) (.cells #[.int .u64 0, .int .i64 0, .string ⟨#[]⟩, .int .i64 0, .int .i64 0] 75)
            have hblk := Blk.new wr 75 #[.int .u64 0, .int .i64 0, .string ⟨#[]⟩, .int .i64 0, .int .i64 0]
            have hz1 : (wr.alloc (.cells #[.int .u64 0, .int .i64 0, .string ⟨#[]⟩, .int .i64 0, .int .i64 0] 75)).heap.size = wr.heap.size + 1 := by simp
            simp only [show ((0 : Nat) : Int) = 0 from rfl]
            go_upto_region 10 with (fail)
            generalize wr.alloc (.cells #[.int .u64 0, .int .i64 0, .string ⟨#[]⟩, .int .i64 0, .int .i64 0] 75) = W1 at *
            obtain ⟨x0, x1, x2, x3, x4, x5⟩ := hx
            have HZ1 := Lib.hid hz1; have HBW := Lib.hid hbw; have HBLK := Lib.hid hblk; clear hz1 hbw hblk
            go_still_tail 7, (by kernel_rfl)
            have H2 := Lib.hid (readAsk_flat W1.drew d u i f s m A' (t.length - p) (c - p) w.heap.size (t.drop p) gu gI gt gn ge HG.out hd0 hd4 hm (HRD.out.below (HBW.out.drew.mono HB.out.size)) (by omega) (by have := HNC.out; omega) (by have := HC.out; omega) (by have := HB.out.size; have := HZ1.out; simp; omega))
            go_wp2_with (go_at_call 35; (with_reducible refine H2.out.mono ?_); rintro y w3 ⟨rfl, hb3⟩; have k3 := HBLK.out.drew.below hb3 (by have := HZ1.out; simp; omega); have c0 := k3.cell 0; have c1 := k3.cell 1; have c2 := k3.cell 2; have c3 := k3.cell 3; have c4 := k3.cell 4; have f0 := k3.frozen 0; have f1 := k3.frozen 1; have f2 := k3.frozen 2; have f3 := k3.frozen 3; have f4 := k3.frozen 4; simp at c0 c1 c2 c3 c4; have HB3 := Lib.hid hb3; have K3 := Lib.hid k3; clear hb3 k3)
            have k5 := ((((K3.out.set_ 0 (.int .u64 (gu : Int))).set_ 1 (.int .i64 gI)).set_ 2 (.string ⟨gt.toArray⟩)).set_ 3 (.int .i64 (gn : Int))).set_ 4 (.int .i64 (ge : Int))
            have b5 : Below wr.heap.size wr w3 := HBW.out.drew.trans (HB3.out.mono (by have := HZ1.out; simp; omega))
            have b6 := ((((b5.setCell (p := ⟨wr.heap.size, 0, none⟩) (Nat.le_refl _) (.int .u64 (gu : Int))).setCell (p := ⟨wr.heap.size, 1, none⟩) (Nat.le_refl _) (.int .i64 gI)).setCell (p := ⟨wr.heap.size, 2, none⟩) (Nat.le_refl _) (.string ⟨gt.toArray⟩)).setCell (p := ⟨wr.heap.size, 3, none⟩) (Nat.le_refl _) (.int .i64 (gn : Int))).setCell (p := ⟨wr.heap.size, 4, none⟩) (Nat.le_refl _) (.int .i64 (ge : Int))
            go_meet
            case rel => exact ⟨⟨gu, gI, gt, gn, ge⟩, (by rw [if_pos rfl]; exact HG.out.symm), by simp [nextP], by simp [nextE], HIN.out.below b6 HIN.out.lt, b6, k5.lt, k5⟩
          · have t1 : ((e : Int) == 0) = false := by rw [beq_eq_false_iff_ne]; omega
            have hblk := Blk.new wr 75 #[.int .u64 0, .int .i64 0, .string ⟨#[]⟩, .int .i64 0, .int .i64 0]
            have hbw := belA (belR wr) (.cells #[.int .u64 0, .int .i64 0, .string ⟨#[]⟩, .int .i64 0, .int .i64 0] 75)
            have HBLK := Lib.hid hblk; have HBW := Lib.hid hbw; have HE := Lib.hid he; clear hblk hbw he
            go_wp2
            go_meet
            case rel => exact ⟨got0S 0, (by rw [if_neg HE.out]), by unfold nextP; rw [if_neg HE.out], by unfold nextE; rw [if_neg HE.out], HIN.out.below HBW.out HIN.out.lt, HBW.out, HBLK.out.lt, HBLK.out⟩
      obtain ⟨G, hG, rfl, rfl, hin3, hb3, hlt3, hk3⟩ := hcut
      obtain ⟨gu, gI, gt, gn, ge⟩ := G
      have hb0 := HB.out.size
      have hx := HX.out.below (hb3.mono hb0) (by rw [block_add]; exact hab)
      obtain ⟨p', hp'⟩ : ∃ p', nextP e p ⟨gu, gI, gt, gn, ge⟩ = p' := ⟨_, rfl⟩
      obtain ⟨e', he'⟩ : ∃ e', nextE e ⟨gu, gI, gt, gn, ge⟩ = e' := ⟨_, rfl⟩
      have hcall := lawRead_flat wc.drew gi t p e d u i f s m gu gI gt gn ge (hin3.drw ⟨1, rfl⟩) hd0 hd4 hm (by omega) hG p' e' hp' he'
      simp only [hp', he']
      have c0 := hk3.cell 0; have c1 := hk3.cell 1; have c2 := hk3.cell 2; have c3 := hk3.cell 3; have c4 := hk3.cell 4
      simp [gotC] at c0 c1 c2 c3 c4
      have b3 := HB.out.trans (hb3.mono hb0)
      have HCALL := Lib.hid hcall; have HB3 := Lib.hid b3; clear hcall b3 hp' he' hG hin3 hb3 hk3 hlt3
      generalize wc = wx at *
      go_upto_region 13 with (fail)
      obtain ⟨x0, x1, x2, x3, x4, x5⟩ := hx
      go_still_tail 6, (by kernel_rfl)
      clear x0 x1 x2 x3 x4 x5 c0 c1 c2 c3 c4
      go_upto_region 15 with (go_at_call 36; (with_reducible refine HCALL.out.mono ?_); rintro y w4 ⟨rfl, hin4, ho4⟩; have HIN4 := Lib.hid hin4; have HB4 := Lib.hid (HB3.out.drew.trans (ho4.below HGI.out (show w.heap.size ≤ wx.heap.size from HB3.out.size))); clear hin4 ho4)
      have hp4 : p' ≤ t.length := by obtain ⟨_, _, _, _, _, _, h⟩ := HIN4.out; exact h
      have HFT := Lib.hid (fault_any w4 gi t p' e' HIN4.out)
      by_cases he : e' = 0
      · subst he
        have T3 := Lib.hid (show faultP p' 0 = 0 from rfl)
        have T4 := Lib.hid (show leftN t p' 0 = (t.length : Int) - (p' : Int) from if_pos rfl)
        rw [T3.out] at HFT
        simp only [show ((0 : Nat) : Int) = 0 from rfl] at HFT ⊢
        go_wp2_with (first | (go_at_call 37; (with_reducible refine HFT.out.mono ?_); rintro y w5 ⟨rfl, hd5⟩; have HL5 := Lib.hid (left_any w5 gi t p' 0 (HIN4.out.drw hd5)); rw [T4.out] at HL5; have HIN5 := Lib.hid (HIN4.out.drw hd5); have HB5 := Lib.hid (hd5.below HB4.out); clear hd5) | (go_at_call 38; (with_reducible refine HL5.out.mono ?_); rintro y w6 ⟨rfl, hd6⟩; have HIN6 := Lib.hid (HIN5.out.drw hd6); have HB6 := Lib.hid (hd6.below HB5.out); clear hd6))
        go_roundw
        case rel => exact ⟨k + 1, p', 0, by omega, rfl, rfl, by go_num, HIN6.out, HB6.out⟩
        case measure => simp [intOf]; omega
      · have T3 := Lib.hid (show faultP p' e' = (p' : Int) from if_neg he)
        have T4 := Lib.hid (show leftN t p' e' = 0 from if_neg he)
        have t1 : ((e' : Int) == 0) = false := by rw [beq_eq_false_iff_ne]; omega
        have t2 : ((e' : Int) != 0) = true := by rw [bne_iff_ne]; omega
        rw [T3.out] at HFT
        have HE := Lib.hid he; clear he
        go_wp2_with (first | (go_at_call 37; (with_reducible refine HFT.out.mono ?_); rintro y w5 ⟨rfl, hd5⟩; have HL5 := Lib.hid (left_any w5 gi t p' e' (HIN4.out.drw hd5)); rw [T4.out] at HL5; have HIN5 := Lib.hid (HIN4.out.drw hd5); have HB5 := Lib.hid (hd5.below HB4.out); clear hd5) | (go_at_call 38; (with_reducible refine HL5.out.mono ?_); rintro y w6 ⟨rfl, hd6⟩; have HIN6 := Lib.hid (HIN5.out.drw hd6); have HB6 := Lib.hid (hd6.below HB5.out); clear hd6))
        go_roundw
        case rel => exact ⟨k + 1, p', e', by omega, rfl, rfl, by go_num, HIN6.out, HB6.out⟩
        case measure => simp [intOf]; omega
    · have hk2 : ¬ (k : Int) < (l.length : Int) := by omega
      obtain rfl : k = l.length := by omega
      by_cases he : e = 0
      · subst he
        simp only [show ((0 : Nat) : Int) = 0 from rfl]
        by_cases hl : p < t.length
        · have T2 := Lib.hid (show endE t p 0 = 7 by unfold endE; rw [if_pos rfl, if_pos hl])
          have T3 := Lib.hid (show faultP p 7 = (p : Int) from if_neg (by decide))
          have hlz : (p : Int) < (t.length : Int) := by omega
          have hend := end_any wr gi t p 0 HIN.out
          rw [T2.out] at hend
          try simp only [show ((7 : Nat) : Int) = 7 from rfl, show ((0 : Nat) : Int) = 0 from rfl] at hend
          have HEND := Lib.hid hend; clear hend
          go_wp2_with (go_at_call 39; (with_reducible refine HEND.out.mono ?_); rintro y w6 ⟨rfl, hin6, ho6⟩; have hft := fault_any w6 gi t p 7 hin6; rw [T3.out] at hft; (try simp only [show ((7 : Nat) : Int) = 7 from rfl, show ((0 : Nat) : Int) = 0 from rfl] at hft); have HFT := Lib.hid hft; have HO6 := Lib.hid ho6; clear hft hin6 ho6)
          go_wp2_with (first | (go_at_call 37; (with_reducible refine HFT.out.mono ?_); rintro y w7 ⟨rfl, hd7⟩; have B7 := Lib.hid (hd7.below (HB.out.trans (HO6.out.below HGI.out HB.out.size))); clear hd7) | (go_at_call 33; (with_reducible refine (awake08_any _).mono ?_); rintro y w9 ⟨rfl, hb9⟩))
          go_ret
          exact ⟨rfl, belT B7.out hb9⟩
        · have T2 := Lib.hid (show endE t p 0 = 0 by unfold endE; rw [if_pos rfl, if_neg hl])
          have T3 := Lib.hid (show faultP p 0 = 0 from rfl)
          have hlz : ¬ (p : Int) < (t.length : Int) := by omega
          have hend := end_any wr gi t p 0 HIN.out
          rw [T2.out] at hend
          try simp only [show ((7 : Nat) : Int) = 7 from rfl, show ((0 : Nat) : Int) = 0 from rfl] at hend
          have HEND := Lib.hid hend; clear hend
          go_wp2_with (go_at_call 39; (with_reducible refine HEND.out.mono ?_); rintro y w6 ⟨rfl, hin6, ho6⟩; have hft := fault_any w6 gi t p 0 hin6; rw [T3.out] at hft; (try simp only [show ((7 : Nat) : Int) = 7 from rfl, show ((0 : Nat) : Int) = 0 from rfl] at hft); have HFT := Lib.hid hft; have HO6 := Lib.hid ho6; clear hft hin6 ho6)
          go_wp2_with (first | (go_at_call 37; (with_reducible refine HFT.out.mono ?_); rintro y w7 ⟨rfl, hd7⟩; have B7 := Lib.hid (hd7.below (HB.out.trans (HO6.out.below HGI.out HB.out.size))); clear hd7) | (go_at_call 33; (with_reducible refine (awake08_any _).mono ?_); rintro y w9 ⟨rfl, hb9⟩))
          go_ret
          exact ⟨rfl, belT B7.out hb9⟩
      · have T2 := Lib.hid (show endE t p e = e by unfold endE; rw [if_neg he])
        have T3 := Lib.hid (show faultP p e = (p : Int) from if_neg he)
        have t1 : ((e : Int) == 0) = false := by rw [beq_eq_false_iff_ne]; omega
        have t2 : ((e : Int) != 0) = true := by rw [bne_iff_ne]; omega
        skip
        have hend := end_any wr gi t p e HIN.out
        rw [T2.out] at hend
        try simp only [show ((7 : Nat) : Int) = 7 from rfl, show ((0 : Nat) : Int) = 0 from rfl] at hend
        have HEND := Lib.hid hend; clear hend
        go_wp2_with (go_at_call 39; (with_reducible refine HEND.out.mono ?_); rintro y w6 ⟨rfl, hin6, ho6⟩; have hft := fault_any w6 gi t p e hin6; rw [T3.out] at hft; (try simp only [show ((7 : Nat) : Int) = 7 from rfl, show ((0 : Nat) : Int) = 0 from rfl] at hft); have HFT := Lib.hid hft; have HO6 := Lib.hid ho6; clear hft hin6 ho6)
        go_wp2_with (first | (go_at_call 37; (with_reducible refine HFT.out.mono ?_); rintro y w7 ⟨rfl, hd7⟩; have B7 := Lib.hid (hd7.below (HB.out.trans (HO6.out.below HGI.out HB.out.size))); clear hd7) | (go_at_call 33; (with_reducible refine (awake08_any _).mono ?_); rintro y w9 ⟨rfl, hb9⟩))
        go_ret
        exact ⟨rfl, belT B7.out hb9⟩
set_option maxRecDepth 20000 in
set_option maxHeartbeats 1000000 in
theorem bufReads_any (A Al : Option Addr) (n c nl cl : Nat) (t : List UInt8) (l : List AskS) (w : World) (h : Rd w w.heap.size 1 A n (u8s t)) (hnc : n ≤ c) (hc : c ≤ maxLen)
    (hl : Rd w w.heap.size 6 Al nl (asksC l)) (hlc : nl ≤ maxLen) (hok : ∀ x ∈ l, x.m ≤ 9223372036854775807) :
    Calls Try.prog 6 #[.slice A n c, .slice Al nl cl] w fun y w' => y = .returned (.bool true) ∧ Below w.heap.size w w' := by
  by_cases hn : n ≤ 1000
  · cases hs : smallB l with
    | true => exact bufReads_yes A Al n c nl cl t l w h hn hnc hc hl hs hok
    | false =>
      have hsm := small_any w Al nl cl w.heap.size l hl hlc
      rw [hs] at hsm
      have HSM := Lib.hid hsm; clear hsm h hl hok hs
      go_enter Try.func6, Try.ntmps6
      go_wp2_with (first | (go_at_call 32; (with_reducible refine HSM.out.mono ?_); rintro y w1 ⟨rfl, rfl⟩) | (go_at_call 33; (with_reducible refine (awake08_any _).mono ?_); rintro y w9 ⟨rfl, hb9⟩))
      go_ret
      exact ⟨rfl, hb9⟩
  · have hn2 : 1000 < n := by omega
    clear h hl hok hn
    go_enter Try.func6, Try.ntmps6
    go_wp2_with (go_at_call 33; (with_reducible refine (awake08_any _).mono ?_); rintro y w9 ⟨rfl, hb9⟩)
    go_ret
    exact ⟨rfl, hb9⟩
end Go.Proofs.Ytpnolgghbenekaa
