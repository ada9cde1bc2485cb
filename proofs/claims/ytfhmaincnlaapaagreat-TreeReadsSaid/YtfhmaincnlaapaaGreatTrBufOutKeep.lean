/- THE WRITER's lay, U, I, F, T, B once more: what blocks of other types they keep. -/
import Derived.BigRegion
import Derived.IntWalk
import Derived.Deep.RegionHeldLaw
import Derived.Deep.LoopGhost
import Derived.Deep.DeepCutAuto
import Derived.Deep.RegionHeld3
import Derived.Test.YtfhmaincnlaapaaGreatTrSy2
import Derived.Test.YtfhmaincnlaapaaGreatTrGetWalks
import Derived.Test.YtfhmaincnlaapaaGreatTrRefCode
import Derived.Test.YtfhmaincnlaapaaGreatTrGetFWalks
import Derived.Test.YtfhmaincnlaapaaGreatTrBufSmall
import Derived.Test.YtfhmaincnlaapaaGreatTrFnOld
namespace Go.Proofs.YtfhmaincnlaapaaGreat
open Go.ChangeShapes Go.WideShapes Go.ChangeAt Go.RowKit
set_option linter.unusedVariables false
section
variable {P:Program}
theorem run_appS {W:World} (t ty:TypeId) (base:Nat) (e:TypeId) (z:Value) (size bytes:Nat) (hinf:(P.info? e).map (fun i=>(i.zero,i.size,i.bytes))=some (some z,size,bytes)) (hzs:z.cells.size=size) (hsz:0<size) (ht:P.underlying t=some (.slice e))
 (v:Value) (n:Nat) (xs:List Value) (hown:W.ownsRow base e size v n xs) (B:Nat) (A:Option Addr) (m c:Nat) (news:List Value) (hr:Rd W B size A m news) (h1:∀ u∈news,u.oneCell'=true)
 (hbytes:(n+m)*bytes≤140737488355328) (h63:n+m≤140737488355328) (hbase:base≤W.heap.size) :
 ∃ v' w',(Builtin.append_ #[t,t] ty #[v,.slice A m c]).run P W=.ok v' w'∧w'.ownsRow base e size v' (n+m) (xs++news)∧Appd W w' v v':=by
 obtain ⟨i,hi,hz,hs1,hby⟩:=info_parts hinf
 rcases A with _|ad
 ·have hm:m=0:=by
   rcases Nat.eq_zero_or_pos m with h0|h0
   ·exact h0
   ·obtain ⟨_,h,_⟩:=hr.2 h0
    cases h
  subst hm
  have hn:news=[]:=List.eq_nil_of_length_eq_zero (by simpa using hr.1)
  subst hn
  have hrun:(Builtin.append_ #[t,t] ty #[v,.slice none 0 c]).run P W=.ok v W:=by
   rcases hown.2 with ⟨rfl,rfl⟩|⟨g,cap,cur,rfl,_,_,hnc,_⟩
   ·simp [Builtin.append_,run_underlying ht,sizeOf,typeInfo,hi,Builtin.lenOf,Builtin.firstCells]
   ·simp [Builtin.append_,run_underlying ht,sizeOf,typeInfo,hi,Builtin.lenOf,Builtin.firstCells,hnc,storeCells]
  exact ⟨v,W,hrun,by simpa using hown,Appd.refl _ _⟩
 ·have hcells:∀ j u,news[j]?=some u→W.cell? (ad.add j)=some u:=by
   intro j u hu
   rcases Nat.eq_zero_or_pos m with h0|h0
   ·subst h0
    have hn:news=[]:=List.eq_nil_of_length_eq_zero (by simpa using hr.1)
    subst hn
    simp at hu
   ·obtain ⟨ad',h,_,hc⟩:=hr.2 h0
    injection h with h
    subst h
    exact hc j u hu
  obtain ⟨v',w',hrun,h2,h3,_,h5⟩:=run_append_own_at (P:=P) W base t ty e i z size bytes ht hi hz hs1 hby hzs hsz v n xs hown ad m c news hr.1 hcells h1 (by simp only [maxLen];omega) hbytes hbase
  exact ⟨v',w',hrun,h2,⟨h3,h5.imp id fun e=>⟨_,e,Nat.le_refl _⟩⟩⟩
theorem step_appS {ops:Array Oper} {o:Oper} {a:Act} {K:Act→World→Prop} {Q:Exit→Act→World→Prop} {E:Prop} {W:World} (hgd:o.guard=none) (s x:Operand) (t:TypeId)
 (ho:o.op=.call { callee:=.builtin .append,args:=#[s,x],argTypes:=#[t,t] })
 (base:Nat) (e:TypeId) (z:Value) (size bytes:Nat) (hinf:(P.info? e).map (fun i=>(i.zero,i.size,i.bytes))=some (some z,size,bytes)) (hzs:z.cells.size=size) (hsz:0<size) (ht:P.underlying t=some (.slice e))
 (v:Value) (n:Nat) (xs:List Value) (hown:W.ownsRow base e size v n xs) (B:Nat) (A:Option Addr) (m c:Nat) (news:List Value) (hr:Rd W B size A m news) (hs:a.eval s=v) (hx:a.eval x=.slice A m c) (h1:∀ u∈news,u.oneCell'=true)
 (hbytes:(n+m)*bytes≤140737488355328) (h63:n+m≤140737488355328) (hbase:base≤W.heap.size)
 (h:∀ v' w',w'.ownsRow base e size v' (n+m) (xs++news)→Appd W w' v v'→K (a.put o.dst v') w') :
 if Region.wanted o (yielded ops a.tmps)=true then Oper.wp P o a W K Q else E:=by
 have hw:Region.wanted o (yielded ops a.tmps)=true:=by simp [Region.wanted,hgd]
 rw [if_pos hw]
 obtain ⟨v',w',hrun,h2,h3⟩:=run_appS (P:=P) (W:=W) t o.type base e z size bytes hinf hzs hsz ht v n xs hown B A m c news hr h1 hbytes h63 hbase
 unfold Oper.wp execOp
 simp only [ho,resolve,invoke,builtin,Sem.run_bind,Sem.run_pure,Result.andThen_ok,List.map_toArray,List.map_cons,List.map_nil,hs,hx,hrun]
 exact h v' w' h2 h3
end
theorem room_any (w:World):Calls Tryz.prog 58 #[] w fun e w'=>e=.returned (.int .i64 1001)∧w=w':=by
 go_enter Tryz.func58,Tryz.ntmps58
 go_wp2
 go_ret
 exact ⟨rfl,rfl⟩
def hashI (key:Nat) (level:Int):Int:=IntKind.u64.wrap (IntKind.u64.wrap (IntKind.u64.wrap ((key:Int)+IntKind.u64.wrap level)+1)*11400714819323198485)
def brkB (key:Nat) (level:Int):Bool:=decide (hashI key level<2305843009213693952)
theorem div_test (x:Int) (h:0≤x):(x/2305843009213693952==0)=decide (x<2305843009213693952):=by
 rw [Bool.eq_iff_iff];simp;omega
theorem hashI_nonneg (key:Nat) (level:Int):0≤hashI key level:=by
 unfold hashI;rw [IntKind.wrap_u64];exact Int.emod_nonneg _ (by decide)
theorem break_any (key:Nat) (level:Int) (w:World) :
 Calls Tryz.prog 84 #[.int .u64 (key:Int),.int .i64 level] w fun e w'=>e=.returned (.bool (brkB key level))∧w=w':=by
 go_enter Tryz.func84,Tryz.ntmps84
 go_wp2
 go_ret
 exact ⟨congrArg (fun b=>Ending.returned (Value.bool b)) (div_test (hashI key level) (hashI_nonneg key level)),rfl⟩
noncomputable def appR (P:Program) (W:World) (t ty:TypeId) (s x:Value):Value×World:=match (Builtin.append_ #[t,t] ty #[s,x]).run P W with | .ok v w'=>(v,w')|_=>(undef,W)
def okApp (P:Program) (W:World) (t ty:TypeId) (s x:Value):Prop:=∃ v w',(Builtin.append_ #[t,t] ty #[s,x]).run P W=.ok v w'
theorem appR_of {P:Program} {W:World} {t ty:TypeId} {s x v:Value} {w':World} (h:(Builtin.append_ #[t,t] ty #[s,x]).run P W=.ok v w'):okApp P W t ty s x∧(appR P W t ty s x).1=v∧(appR P W t ty s x).2=w':=by
 refine ⟨⟨v,w',h⟩,?_,?_⟩<;>· unfold appR;rw [h]
theorem wp_app_rule {P:Program} {dst:Option Tmp} {s x:Operand} {t ty:TypeId} {pos:String} {after:Array Edge} {g:Option (Nat×Bool)} {a:Act} {W:World} {K:Act→World→Prop} {Q:Exit→Act→World→Prop}
 (h:okApp P W t ty (a.eval s) (a.eval x)) :
 Oper.wp P ⟨dst,.call { callee:=.builtin .append,args:=#[s,x],argTypes:=#[t,t] },ty,pos,after,g⟩ a W K Q=K (a.put dst (appR P W t ty (a.eval s) (a.eval x)).1) (appR P W t ty (a.eval s) (a.eval x)).2:=by
 obtain ⟨v,w',hr⟩:=h
 obtain ⟨_,e1,e2⟩:=appR_of hr
 rw [e1,e2]
 unfold Oper.wp execOp
 simp only [resolve,invoke,builtin,Sem.run_bind,Sem.run_pure,Result.andThen_ok,List.map_toArray,List.map_cons,List.map_nil,hr]
 rfl
def encE (x:Nat×Int):List UInt8:=encU x.1++encU x.2.toNat
theorem encE_len (x:Nat×Int):(encE x).length≤18:=by
 unfold encE;rw [List.length_append,encU_length,encU_length];have:=wd_le x.1;have:=wd_le x.2.toNat;omega
theorem bytesE_any (w:World) (f:Nat) (p:Int) (hf:f<18446744073709551616) (h0:0≤p) (h1:p≤8192) :
 Calls Tryz.prog 118 #[.agg #[.int .u64 (f:Int),.int .i64 p]] w fun y w'=>∃ v,y=.returned v∧w'.ownsRow w.heap.size 5 1 v (encE (f,p)).length (u8s (encE (f,p)))∧Below w.heap.size w w':=by
 obtain ⟨q,rfl⟩:=Int.eq_ofNat_of_zero_le h0
 have hw:=wd_le f;have hw2:=wd_le q
 have hz1:(w.alloc (.cells #[.int .u64 (f:Int),.int .i64 (q:Int)] 112)).heap.size=w.heap.size+1:=by simp
 have hn:=newOut_any (w.alloc (.cells #[.int .u64 (f:Int),.int .i64 (q:Int)] 112))
 have hb0:Blk (w.alloc (.cells #[.int .u64 (f:Int),.int .i64 (q:Int)] 112)) w.heap.size 112 #[.int .u64 (f:Int),.int .i64 (q:Int)]:=Blk.new _ _ _
 rw [hz1] at hn
 have HN:=Lib.hid hn;have HB0:=Lib.hid hb0;clear hn hb0 hz1
 go_enter Tryz.func118,Tryz.ntmps118
 go_wp2_with fail
 (with_reducible refine HN.out.mono ?_);rintro y w1 ⟨rfl,ho1,hb1⟩
 have B1:=HB0.out.below hb1 (by omega)
 have hk1:Below (w.heap.size+1) (w.alloc (.cells #[.int .u64 (f:Int),.int .i64 (q:Int)] 112)) w1:=hb1
 have hu1:=outU_any w1 (w.heap.size+1) (w.heap.size+1) f [] ho1 hf (by simp)
 have x0:=B1.cell 0
 simp at x0
 have HU1:=Lib.hid hu1;have HB1:=Lib.hid B1;have HK1:=Lib.hid hk1;clear hu1 B1 hk1 hb1 ho1
 go_wp2_with fail
 (with_reducible refine HU1.out.mono ?_);rintro y w2 ⟨rfl,ho2,hb2⟩
 have B2:=HB1.out.below hb2 (by omega)
 have hu2:=outU_any w2 (w.heap.size+1) (w.heap.size+1) q _ ho2 (by omega) (by rw [List.nil_append,encU_length];omega)
 have y1:=B2.cell 1
 simp at y1
 have HU2:=Lib.hid hu2;have HB2:=Lib.hid B2;have HK2:=Lib.hid (HK1.out.trans hb2);clear hu2 B2 ho2 hb2
 go_wp2_with fail
 (with_reducible refine HU2.out.mono ?_);rintro y w3 ⟨rfl,ho3,hb3⟩
 have hl3:(([]:List UInt8)++encU f++encU q)=encE (f,(q:Int)):=by unfold encE;simp
 rw [hl3] at ho3
 have hby:=outBytes_any w3 _ _ _ ho3 (by have:=encE_len (f,(q:Int));omega)
 have HBY:=Lib.hid hby;have HK3:=Lib.hid (HK2.out.trans hb3);have HL3:=Lib.hid hl3;clear hby ho3 hb3 hl3
 go_wp2_with fail
 (with_reducible refine HBY.out.mono ?_);rintro y w4 ⟨v,rfl,ho4,hb4⟩
 have hall:Below w.heap.size w w3:=(belA (belR w) _).trans (HK3.out.mono (Nat.le_succ _))
 have HO4:=Lib.hid ho4;have HB4:=Lib.hid hb4;have HALL:=Lib.hid hall;clear ho4 hb4 hall
 go_wp2
 go_ret
 exact ⟨v,rfl,own_mono HO4.out HALL.out.size,belT HALL.out HB4.out⟩
def PkS (w:World) (base g:Nat) (kd:Int) (b:Nat) (ss:List Sht) (n:Nat) (d:List UInt8):Prop :=
 base≤g∧∃ bv ov Bd xs,Blk w g 149 #[.int .i64 kd,.int .u64 (b:Int),bv,.int .u64 (n:Int),ov]∧base≤Bd∧Bd≤w.heap.size ∧
  w.ownsRow Bd 5 1 bv d.length (u8s d)∧w.ownsRow base 42 4 ov ss.length xs∧ShO w base Bd ss xs
theorem PkS.lt {w:World} {base g n b:Nat} {kd:Int} {ss:List Sht} {d:List UInt8} (h:PkS w base g kd b ss n d):g<w.heap.size:=by obtain ⟨_,bv,ov,Bd,xs,hb,_⟩:=h;exact hb.lt
theorem PkS.below {w w':World} {base g n b:Nat} {kd:Int} {ss:List Sht} {d:List UInt8} (h:PkS w base g kd b ss n d) (hb:Below w.heap.size w w'):PkS w' base g kd b ss n d:=by
 obtain ⟨h0,bv,ov,Bd,xs,hB,h1,h2,h3,h4,h5⟩:=h
 exact ⟨h0,bv,ov,Bd,xs,hB.below hb hB.lt,h1,Nat.le_trans h2 hb.size,own_below h3 hb (Nat.le_refl _),own_below h4 hb (Nat.le_refl _),h5.map (Nat.le_refl _) fun v n ys ho _=>own_below ho hb (Nat.le_refl _)⟩
set_option maxRecDepth 20000 in
def KeepU8 (w w':World):Prop:=∀ B0 v m ys,w.ownsRow B0 5 1 v m ys→w'.ownsRow B0 5 1 v m ys
attribute [local go_sem ↓] wp_app_rule
set_option maxHeartbeats 1000000 in
theorem packEnd_yes (w:World) (base g b n:Nat) (kd:Int) (ss:List Sht) (d:List UInt8) (h:PkS w base g kd b ss n d) (hn:0<n) (hss:ss.length≤1000000) (hd:d.length≤1000000) :
 Calls Tryz.prog 85 #[.pointer (some ⟨g,0,none⟩)] w fun y w'=>y=.returned (.tuple #[])∧PkS w' base g kd b (ss ++ [⟨kd,n,b,d⟩]) 0 []∧Below base w w'∧KeepU8 w w':=by
 obtain ⟨h0,bv,ov,Bd,xs,hB,h1,h2,h3,h4,h5⟩:=h
 obtain ⟨A1,c1,rfl,_,_,_⟩:=own_form h3
 obtain ⟨A2,c2,rfl,_,_,_⟩:=own_form h4
 have x0:=hB.cell 0;have x1:=hB.cell 1;have x2:=hB.cell 2;have x3:=hB.cell 3;have x4:=hB.cell 4
 simp at x0 x1 x2 x3 x4
 have hone:∀ u∈[Value.int .i64 kd,.int .u64 (n:Int),.int .u64 (b:Int),.slice A1 d.length c1],u.oneCell'=true:=by simp [Value.oneCell']
 have hne:=own_blk_ne h4 hB (by decide)
 have HB:=Lib.hid hB;have H3:=Lib.hid h3;have H4:=Lib.hid h4;have H5:=Lib.hid h5;have HONE:=Lib.hid hone;have NE:=Lib.hid hne;clear hB h3 h4 h5 hone hne
 have hoa:(w.alloc (.cells #[.int .i64 kd,.int .u64 (n:Int),.int .u64 (b:Int),.slice A1 d.length c1] 42)).drew.ownsRow base 42 4 (.slice A2 ss.length c2) ss.length xs:=H4.out.alloc _
 have hba:Blk (w.alloc (.cells #[.int .i64 kd,.int .u64 (n:Int),.int .u64 (b:Int),.slice A1 d.length c1] 42)).drew w.heap.size 42 [Value.int .i64 kd,.int .u64 (n:Int),.int .u64 (b:Int),.slice A1 d.length c1].toArray:=Blk.new _ _ _
 have hza:base≤(w.alloc (.cells #[.int .i64 kd,.int .u64 (n:Int),.int .u64 (b:Int),.slice A1 d.length c1] 42)).drew.heap.size:=by simp;omega
 have hga:Blk (w.alloc (.cells #[.int .i64 kd,.int .u64 (n:Int),.int .u64 (b:Int),.slice A1 d.length c1] 42)).drew g 149 #[.int .i64 kd,.int .u64 (b:Int),.slice A1 d.length c1,.int .u64 (n:Int),.slice A2 ss.length c2]:=HB.out.alloc _
 have hgl:g<w.heap.size:=HB.out.lt
 have HGA:=Lib.hid hga;clear hga
 have hga:Blk (w.alloc (.cells #[.int .i64 kd,.int .u64 (n:Int),.int .u64 (b:Int),.slice A1 d.length c1] 42)).drew g 149 #[.int .i64 kd,.int .u64 (b:Int),.slice A1 d.length c1,.int .u64 (n:Int),.slice A2 ss.length c2]:=HB.out.alloc _
 have hgl:g<w.heap.size:=HB.out.lt
 obtain ⟨i,hi,hz,hs1,hby⟩:=info_parts info_sh
 obtain ⟨v2,w2,hrun,ho2,hg2,_,hl2⟩:=run_append_own_at (P:=Tryz.prog) _ base 65 65 42 i _ 4 48 Tryz.underlying65 hi hz hs1 hby rfl (by decide) _ _ _ hoa ⟨w.heap.size,0,none⟩ 1 1 [Value.int .i64 kd,.int .u64 (n:Int),.int .u64 (b:Int),.slice A1 d.length c1] rfl
  (fun j u hj=>by
   have hadd:(⟨w.heap.size,0,none⟩:Addr).add j=⟨w.heap.size,j,none⟩:=by unfold Addr.add;split<;>simp_all
   rw [hadd,hba.cell];simpa using hj) HONE.out (by simp only [maxLen];omega) (by omega) hza
 obtain ⟨A3,c3,rfl,_,_,_⟩:=own_form ho2
 obtain ⟨hok,hv,hw⟩:=appR_of hrun
 have hap:Appd _ w2 _ _:=⟨hg2,hl2.imp id fun e=>⟨_,e,Nat.le_refl _⟩⟩
 have B2:=hap.blk hga NE.out
 have d2:=B2.cell 2;have d3:=B2.cell 3;have d4:=B2.cell 4;have f2:=B2.frozen 2;have f3:=B2.frozen 3;have f4:=B2.frozen 4
 simp at d2 d3 d4
 have HOK:=Lib.hid hrun;have HO2:=Lib.hid ho2;have HG2:=Lib.hid hg2;have HL2:=Lib.hid hl2;have HAP:=Lib.hid hap;have HB2:=Lib.hid B2;have HI:=Lib.hid hi;have HZ:=Lib.hid hz;have HS1:=Lib.hid hs1;have HBY:=Lib.hid hby;have HOA:=Lib.hid hoa;have HBA:=Lib.hid hba;have HZA:=Lib.hid hza;have HGA:=Lib.hid hga
 clear hrun ho2 hg2 hl2 hap B2 hi hz hs1 hby hoa hba hza hga
 go_enter Tryz.func85,Tryz.ntmps85
 go_wp2_with fail
 go_region
 go_wp2
 go_end0
 refine ⟨rfl,?_⟩
 have hz2:=HAP.out.1.size
 have hzz:w.heap.size+1≤w2.heap.size:=by simpa using hz2
 have hO:Only g w2 (((w2.setCell ⟨g,4,none⟩ (.slice A3 (ss.length+1) c3)).setCell ⟨g,2,none⟩ (.slice none 0 0)).setCell ⟨g,3,none⟩ (.int .u64 0)):=(((Only.refl g w2).set_ (.inl rfl) _).set_ (.inl rfl) _).set_ (.inl rfl) _
 have hB4:=((HB2.out.set_ 4 (.slice A3 (ss.length+1) c3)).set_ 2 (.slice none 0 0)).set_ 3 (.int .u64 0)
 have hb0:Below base w (w.alloc (.cells #[.int .i64 kd,.int .u64 (n:Int),.int .u64 (b:Int),.slice A1 d.length c1] 42)).drew:=((Below.refl base w).alloc (by omega) _).drew
 have hb1:Below base (w.alloc (.cells #[.int .i64 kd,.int .u64 (n:Int),.int .u64 (b:Int),.slice A1 d.length c1] 42)).drew w2:=HAP.out.below HZA.out HOA.out
 have hbw:=hb0.trans hb1
 have keep1:∀ B0 v m ys,w.ownsRow B0 5 1 v m ys→w2.ownsRow B0 5 1 v m ys:=fun B0 v m ys h=>by
  have h':(w.alloc (.cells #[.int .i64 kd,.int .u64 (n:Int),.int .u64 (b:Int),.slice A1 d.length c1] 42)).drew.ownsRow B0 5 1 v m ys:=h.alloc _
  exact HAP.out.kept h' (own_own_ne h' HOA.out (by decide))
 have keep2:∀ B0 v m ys,w.ownsRow B0 5 1 v m ys→(((w2.setCell ⟨g,4,none⟩ (.slice A3 (ss.length+1) c3)).setCell ⟨g,2,none⟩ (.slice none 0 0)).setCell ⟨g,3,none⟩ (.int .u64 0)).ownsRow B0 5 1 v m ys:=fun B0 v m ys h =>
  hO.own (keep1 B0 v m ys h) (own_blk_ne (keep1 B0 v m ys h) HB2.out (by decide))
 have hlt:∀ k,(Value.slice A1 d.length c1).ownBlock=some k→k<w.heap.size:=fun k hk=>(H3.out.lt k hk).2
 refine ⟨⟨h0,.slice none 0 0,.slice A3 (ss.length+1) c3,(((w2.setCell ⟨g,4,none⟩ (.slice A3 (ss.length+1) c3)).setCell ⟨g,2,none⟩ (.slice none 0 0)).setCell ⟨g,3,none⟩ (.int .u64 0)).heap.size,xs ++ [.int .i64 kd,.int .u64 (n:Int),.int .u64 (b:Int),.slice A1 d.length c1],?_,?_,Nat.le_refl _,World.ownsRow_nil _ _ _ 1,?_,?_⟩,?_,keep2⟩
 ·simpa using hB4
 ·have:base≤w2.heap.size:=Nat.le_trans (by omega) hzz
  simpa using this
 ·rw [List.length_append]
  exact hO.own HO2.out (own_blk_ne HO2.out HB2.out (by decide))
 ·refine ShO.snoc (H5.out.map ?_ fun v m ys ho _=>keep2 _ _ _ _ ho) (own_mono (keep2 _ _ _ _ H3.out) h1) (fun k hk=>?_)
  ·have:Bd≤w2.heap.size:=by omega
   simpa using this
  ·have h1:=hlt k hk
   have:k<w2.heap.size:=by omega
   simpa using this
 ·exact hbw.trans (((((Below.refl base w2).setCell h0 _).setCell h0 _).setCell h0 _))
theorem packEnd_no (w:World) (base g b:Nat) (kd:Int) (ss:List Sht) (d:List UInt8) (h:PkS w base g kd b ss 0 d) :
 Calls Tryz.prog 85 #[.pointer (some ⟨g,0,none⟩)] w fun y w'=>y=.returned (.tuple #[])∧PkS w' base g kd b ss 0 []∧Below base w w'∧KeepU8 w w':=by
 obtain ⟨h0,bv,ov,Bd,xs,hB,h1,h2,h3,h4,h5⟩:=h
 have x2:=hB.cell 2;have x3:=hB.cell 3;have f2:=hB.frozen 2;have f3:=hB.frozen 3
 obtain ⟨A1,c1,rfl,_,_,_⟩:=own_form h3
 simp at x2 x3
 have HB:=Lib.hid hB;have H3:=Lib.hid h3;have H4:=Lib.hid h4;have H5:=Lib.hid h5;clear hB h3 h4 h5
 go_enter Tryz.func85,Tryz.ntmps85
 go_wp2
 go_end0
 have hO:Only g w ((w.setCell ⟨g,2,none⟩ (.slice none 0 0)).setCell ⟨g,3,none⟩ (.int .u64 0)):=((Only.refl g w).set_ (.inl rfl) _).set_ (.inl rfl) _
 have hB4:=(HB.out.set_ 2 (.slice none 0 0)).set_ 3 (.int .u64 0)
 refine ⟨rfl,⟨h0,.slice none 0 0,ov,Bd,xs,by simpa using hB4,h1,by simpa using h2,World.ownsRow_nil _ _ _ 1,hO.own H4.out (own_blk_ne H4.out HB.out (by decide)),H5.out.map (Nat.le_refl _) fun v m ys ho _=>hO.own ho (own_blk_ne ho HB.out (by decide))⟩,(((Below.refl base w).setCell h0 _).setCell h0 _),fun B0 v m ys ho=>hO.own ho (own_blk_ne ho HB.out (by decide))⟩
theorem Appd.of_drewN {a b:World} {u v:Value} {j:Nat} (h:Appd (a.drewN j) b u v):Appd a b u v:=⟨⟨h.1.os,h.1.tape,h.1.output,h.1.size,h.1.block⟩,h.2⟩
theorem put_end {w w2:World} {base g b n n' Bd c2:Nat} {A2:Option Addr} {kd:Int} {ss:List Sht} {d k:List UInt8} {v1 ov:Value} {xs:List Value} {z:Int} (h0:base≤g) (hb1:base≤Bd) (hb2:Bd≤w.heap.size)
 (hB:Blk w g 149 #[.int .i64 kd,.int .u64 (b:Int),v1,.int .u64 (n:Int),ov]) (h3:w.ownsRow Bd 5 1 v1 d.length (u8s d)) (h4:w.ownsRow base 42 4 ov ss.length xs) (h5:ShO w base Bd ss xs)
 (ha:Appd w w2 v1 (.slice A2 (d.length+k.length) c2)) (h6:w2.ownsRow Bd 5 1 (.slice A2 (d.length+k.length) c2) (d.length+k.length) (u8s d++u8s k))
 (hB2:Blk w2 g 149 #[.int .i64 kd,.int .u64 (b:Int),v1,.int .u64 (n:Int),ov])
 (hO:Only g w2 ((w2.setCell ⟨g,2,none⟩ (.slice A2 (d.length+k.length) c2)).setCell ⟨g,3,none⟩ (.int .u64 z))) (hz:z=(n':Int)) :
 PkS ((w2.setCell ⟨g,2,none⟩ (.slice A2 (d.length+k.length) c2)).setCell ⟨g,3,none⟩ (.int .u64 z)) base g kd b ss n' (d++k)∧Below base w ((w2.setCell ⟨g,2,none⟩ (.slice A2 (d.length+k.length) c2)).setCell ⟨g,3,none⟩ (.int .u64 z)):=by
 have hz2:=ha.1.size
 have hbel:=(ha.below hb2 h3).mono hb1
 have hB4:=(hB2.set_ 2 (.slice A2 (d.length+k.length) c2)).set_ 3 (.int .u64 z)
 subst hz
 refine ⟨⟨h0,.slice A2 (d.length+k.length) c2,ov,Bd,xs,by simpa using hB4,hb1,by simpa using Nat.le_trans hb2 hz2,?_,?_,?_⟩,(hbel.setCell h0 _).setCell h0 _⟩
 ·rw [u8s_append,List.length_append];exact hO.own h6 (own_blk_ne h6 hB2 (by decide))
 ·have:=ha.kept h4 (own_own_ne h4 h3 (by decide))
  exact hO.own this (own_blk_ne this hB2 (by decide))
 ·refine h5.map (Nat.le_refl _) fun v m ys ho hl=>?_
  have hne:v.ownBlock=none∨v.ownBlock≠v1.ownBlock:=by
   cases hv:v.ownBlock with
   | none=>exact .inl rfl
   | some j=>exact .inr fun e=>by have:=hl j hv;have:=(h3.lt j e.symm).1;omega
  have:=ha.kept ho hne
  exact hO.own this (own_blk_ne this hB2 (by decide))
theorem packPut_app (w:World) (base g b n:Nat) (kd:Int) (ss:List Sht) (d k:List UInt8) (B0:Nat) (A:Option Addr) (c:Nat) (h:PkS w base g kd b ss n d) (hs:w.ownsRow B0 5 1 (.slice A k.length c) k.length (u8s k))
 (hn:n≤1000000) (hd:d.length≤1000000) (hk:k.length≤1000000) (h1:d.length+k.length≤1001) :
 Calls Tryz.prog 83 #[.pointer (some ⟨g,0,none⟩),.slice A k.length c,.bool false] w fun y w'=>y=.returned (.tuple #[])∧PkS w' base g kd b ss (n+1) (d++k)∧Below base w w':=by
 obtain ⟨h0,bv,ov,Bd,xs,hB,hb1,hb2,h3,h4,h5⟩:=h
 obtain ⟨A1,c1,rfl,_,_,_⟩:=own_form h3
 have hne:=own_blk_ne h3 hB (by decide)
 have x2:=hB.cell 2;have x3:=hB.cell 3
 simp at x2 x3
 have hR:=Rd.own hs
 have w1:IntKind.i64.wrap ((d.length:Int)+(k.length:Int))=(d.length:Int)+(k.length:Int):=IntWalk.i64_in _ (by omega)
 have t1:decide (((1001:Int))<(d.length:Int)+(k.length:Int))=false:=decide_eq_false (by omega)
 have HB:=Lib.hid hB;have H3:=Lib.hid h3;have H4:=Lib.hid h4;have H5:=Lib.hid h5;have HR:=Lib.hid hR;have NE:=Lib.hid hne;clear hB h3 h4 h5 hR hne
 go_enter Tryz.func83,Tryz.ntmps83
 go_wp2
 go_quiet ((go_at_call 58;exact qcallS (room_any _)))
 go_wp2_with (at_builtin;refine wpList_appS _ rfl _ _ 27 rfl Bd 5 _ 1 1 info_u8 rfl (by decide) Tryz.underlying27 _ _ _ (own_drewN H3.out _) rfl _ _ _ _ _ (HR.out.drewN _) rfl (u8s_one _) ?_ ?_ ?_ ?_;omega;omega;exact hb2;intro v2 w2 ho2 hb2;obtain ⟨A2,c2,rfl,_,_,_⟩:=own_form ho2;have B2:=hb2.blk (HB.out.drewN _) NE.out;have d2:=B2.cell 2;have d3:=B2.cell 3;have f2:=B2.frozen 2;have f3:=B2.frozen 3;simp at d2 d3;have HO2:=Lib.hid ho2;have HB2:=Lib.hid B2;have HP2:=Lib.hid hb2;clear ho2 B2 hb2)
 go_end0
 have hO:Only g w2 ((w2.setCell ⟨g,2,none⟩ (.slice A2 (d.length+k.length) c2)).setCell ⟨g,3,none⟩ (.int .u64 ((n:Int)+1))):=((Only.refl g w2).set_ (.inl rfl) _).set_ (.inl rfl) _
 exact ⟨rfl,put_end h0 hb1 hb2 HB.out H3.out H4.out H5.out HP2.out.of_drewN HO2.out HB2.out hO (by omega)⟩
set_option maxHeartbeats 400000 in
theorem packPut_cut (w:World) (base g b n:Nat) (kd:Int) (ss:List Sht) (d k:List UInt8) (brk:Bool) (B0:Nat) (A:Option Addr) (c:Nat) (h:PkS w base g kd b ss n d) (hs:w.ownsRow B0 5 1 (.slice A k.length c) k.length (u8s k))
 (hn:n≤1000000) (hd:d.length≤1000000) (hk:k.length≤1000000) (hss:ss.length≤1000000) (h1:brk=true∨1001<d.length+k.length) :
 Calls Tryz.prog 83 #[.pointer (some ⟨g,0,none⟩),.slice A k.length c,.bool brk] w fun y w'=>y=.returned (.tuple #[])∧PkS w' base g kd b (if 0<n then ss ++ [⟨kd,n,b,d⟩] else ss) 1 k∧Below base w w':=by
 have hend:∀ j,Calls Tryz.prog 85 #[.pointer (some ⟨g,0,none⟩)] (w.drewN j) fun y w'=>y=.returned (.tuple #[])∧PkS w' base g kd b (if 0<n then ss ++ [⟨kd,n,b,d⟩] else ss) 0 []∧Below base w w'∧KeepU8 w w':=by
  intro j
  by_cases h0:0<n
  ·rw [if_pos h0];exact (packEnd_yes (w.drewN j) base g b n kd ss d (h.below (belD (belR _) j)) h0 hss hd).mono fun y w' ⟨e,p,q,r⟩=>⟨e,p,⟨q.os,q.tape,q.output,q.size,q.block⟩,r⟩
  ·rw [if_neg h0];obtain rfl:n=0:=by omega
   exact (packEnd_no (w.drewN j) base g b kd ss d (h.below (belD (belR _) j))).mono fun y w' ⟨e,p,q,r⟩=>⟨e,p,⟨q.os,q.tape,q.output,q.size,q.block⟩,r⟩
 generalize (if 0<n then ss ++ [⟨kd,n,b,d⟩] else ss)=ss' at *
 obtain ⟨h0,bv,ov,Bd',xs,hB,hb1',hb2',h3,h4,h5⟩:=h
 obtain ⟨A1,c1,rfl,_,_,_⟩:=own_form h3
 have x2:=hB.cell 2;have x3:=hB.cell 3
 simp at x2 x3
 have w1:IntKind.i64.wrap ((d.length:Int)+(k.length:Int))=(d.length:Int)+(k.length:Int):=IntWalk.i64_in _ (by omega)
 have HB:=Lib.hid hB;have H3:=Lib.hid h3;have H4:=Lib.hid h4;have H5:=Lib.hid h5;have HE:=Lib.hid hend;have HS:=Lib.hid hs;clear hB h3 h4 h5 hend hs
 cases brk with
 | true =>
   go_enter Tryz.func83,Tryz.ntmps83
   go_wp2
   go_quiet (fail)
   go_wp2_with fail
   (with_reducible refine (HE.out _).mono ?_);rintro y w1 ⟨rfl,hp,hbel,hkp⟩
   obtain ⟨_,bv,ov,Bd,xs,hB,hb1,hb2,h3,h4,h5⟩:=hp
   simp only [List.length_nil] at h3
   obtain ⟨A1,c1,rfl,_,_,_⟩:=own_form h3
   have hne:=own_blk_ne h3 hB (by decide)
   have y2:=hB.cell 2;have y3:=hB.cell 3
   simp at y2 y3
   have hR:=Rd.own (hkp _ _ _ _ HS.out)
   have HB1:=Lib.hid hB;have H31:=Lib.hid h3;have H41:=Lib.hid h4;have H51:=Lib.hid h5;have HR:=Lib.hid hR;have NE:=Lib.hid hne;have HBEL:=Lib.hid hbel;have HKP:=Lib.hid hkp;clear hB h3 h4 h5 hR hne hbel hkp
   go_wp2_with (at_builtin;refine wpList_appS _ rfl _ _ 27 rfl Bd 5 _ 1 1 info_u8 rfl (by decide) Tryz.underlying27 _ _ _ H31.out rfl _ _ _ _ _ HR.out rfl (u8s_one _) ?_ ?_ ?_ ?_;omega;omega;exact hb2;intro v2 w2 ho2 hb2;obtain ⟨A2,c2,rfl,_,_,_⟩:=own_form ho2;have B2:=hb2.blk HB1.out NE.out;have d2:=B2.cell 2;have d3:=B2.cell 3;have f2:=B2.frozen 2;have f3:=B2.frozen 3;simp at d2 d3;have HO2:=Lib.hid ho2;have HB2:=Lib.hid B2;have HP2:=Lib.hid hb2;clear ho2 B2 hb2)
   go_end0
   have hO:Only g w2 ((w2.setCell ⟨g,2,none⟩ (.slice A2 (0+k.length) c2)).setCell ⟨g,3,none⟩ (.int .u64 1)):=((Only.refl g w2).set_ (.inl rfl) _).set_ (.inl rfl) _
   have:=put_end (d:=[]) h0 hb1 hb2 HB1.out H31.out H41.out H51.out HP2.out HO2.out HB2.out hO rfl
   exact ⟨rfl,by simpa using this.1,HBEL.out.trans (by simpa using this.2)⟩
 | false =>
   have t1:decide (((1001:Int))<(d.length:Int)+(k.length:Int))=true:=decide_eq_true (by simp at h1;omega)
   go_enter Tryz.func83,Tryz.ntmps83
   go_wp2
   go_quiet ((go_at_call 58;exact qcallS (room_any _)))
   go_wp2_with fail
   (with_reducible refine (HE.out _).mono ?_);rintro y w1 ⟨rfl,hp,hbel,hkp⟩
   obtain ⟨_,bv,ov,Bd,xs,hB,hb1,hb2,h3,h4,h5⟩:=hp
   simp only [List.length_nil] at h3
   obtain ⟨A1,c1,rfl,_,_,_⟩:=own_form h3
   have hne:=own_blk_ne h3 hB (by decide)
   have y2:=hB.cell 2;have y3:=hB.cell 3
   simp at y2 y3
   have hR:=Rd.own (hkp _ _ _ _ HS.out)
   have HB1:=Lib.hid hB;have H31:=Lib.hid h3;have H41:=Lib.hid h4;have H51:=Lib.hid h5;have HR:=Lib.hid hR;have NE:=Lib.hid hne;have HBEL:=Lib.hid hbel;have HKP:=Lib.hid hkp;clear hB h3 h4 h5 hR hne hbel hkp
   go_wp2_with (at_builtin;refine wpList_appS _ rfl _ _ 27 rfl Bd 5 _ 1 1 info_u8 rfl (by decide) Tryz.underlying27 _ _ _ H31.out rfl _ _ _ _ _ HR.out rfl (u8s_one _) ?_ ?_ ?_ ?_;omega;omega;exact hb2;intro v2 w2 ho2 hb2;obtain ⟨A2,c2,rfl,_,_,_⟩:=own_form ho2;have B2:=hb2.blk HB1.out NE.out;have d2:=B2.cell 2;have d3:=B2.cell 3;have f2:=B2.frozen 2;have f3:=B2.frozen 3;simp at d2 d3;have HO2:=Lib.hid ho2;have HB2:=Lib.hid B2;have HP2:=Lib.hid hb2;clear ho2 B2 hb2)
   go_end0
   have hO:Only g w2 ((w2.setCell ⟨g,2,none⟩ (.slice A2 (0+k.length) c2)).setCell ⟨g,3,none⟩ (.int .u64 1)):=((Only.refl g w2).set_ (.inl rfl) _).set_ (.inl rfl) _
   have:=put_end (d:=[]) h0 hb1 hb2 HB1.out H31.out H41.out H51.out HP2.out HO2.out HB2.out hO rfl
   exact ⟨rfl,by simpa using this.1,HBEL.out.trans (by simpa using this.2)⟩
end Go.Proofs.YtfhmaincnlaapaaGreat
namespace Go.Proofs.YtfhmaincnlaapaaGreat
open Go.ChangeShapes Go.WideShapes Go.ChangeAt Go.RowKit
set_option linter.unusedVariables false
abbrev Pst:=List Sht×Nat×List UInt8
def pput (kd:Int) (b:Nat) (st:Pst) (k:List UInt8) (brk:Bool):Pst :=
 if brk=true∨1001<st.2.2.length+k.length then (if 0<st.2.1 then st.1 ++ [⟨kd,st.2.1,b,st.2.2⟩] else st.1,1,k) else (st.1,st.2.1+1,st.2.2++k)
def pend (kd:Int) (b:Nat) (st:Pst):List Sht:=if 0<st.2.1 then st.1 ++ [⟨kd,st.2.1,b,st.2.2⟩] else st.1
theorem packPut_any (w:World) (base g b:Nat) (kd:Int) (st:Pst) (k:List UInt8) (brk:Bool) (B0:Nat) (A:Option Addr) (c:Nat) (h:PkS w base g kd b st.1 st.2.1 st.2.2) (hs:w.ownsRow B0 5 1 (.slice A k.length c) k.length (u8s k))
 (hn:st.2.1≤1000000) (hd:st.2.2.length≤1000000) (hk:k.length≤1000000) (hss:st.1.length≤1000000) :
 Calls Tryz.prog 83 #[.pointer (some ⟨g,0,none⟩),.slice A k.length c,.bool brk] w fun y w'=>y=.returned (.tuple #[])∧PkS w' base g kd b (pput kd b st k brk).1 (pput kd b st k brk).2.1 (pput kd b st k brk).2.2∧Below base w w':=by
 obtain ⟨ss,n,d⟩:=st
 by_cases hc:brk=true∨1001<d.length+k.length
 ·have e:pput kd b (ss,n,d) k brk=(if 0<n then ss ++ [⟨kd,n,b,d⟩] else ss,1,k):=if_pos hc
  rw [e]
  exact packPut_cut w base g b n kd ss d k brk B0 A c h hs hn hd hk hss hc
 ·have e:pput kd b (ss,n,d) k brk=(ss,n+1,d++k):=if_neg hc
  rw [e]
  obtain rfl:brk=false:=by cases brk;rfl;exact absurd (.inl rfl) hc
  exact packPut_app w base g b n kd ss d k B0 A c h hs hn hd hk (by simp at hc;omega)
theorem packEnd_any (w:World) (base g b:Nat) (kd:Int) (st:Pst) (h:PkS w base g kd b st.1 st.2.1 st.2.2) (hss:st.1.length≤1000000) (hd:st.2.2.length≤1000000) :
 Calls Tryz.prog 85 #[.pointer (some ⟨g,0,none⟩)] w fun y w'=>y=.returned (.tuple #[])∧PkS w' base g kd b (pend kd b st) 0 []∧Below base w w':=by
 obtain ⟨ss,n,d⟩:=st
 by_cases h0:0<n
 ·have e:pend kd b (ss,n,d)=ss ++ [⟨kd,n,b,d⟩]:=if_pos h0
  rw [e];exact (packEnd_yes w base g b n kd ss d h h0 hss hd).mono fun y w' ⟨e,p,q,r⟩=>⟨e,p,q⟩
 ·have e:pend kd b (ss,n,d)=ss:=if_neg h0
  obtain rfl:n=0:=by omega
  rw [e];exact (packEnd_no w base g b kd ss d h).mono fun y w' ⟨e,p,q,r⟩=>⟨e,p,q⟩
def nstep (lv:Nat) (st:Pst) (x:Nat×Int):Pst:=pput 4 lv st (encE x) (decide (2≤st.2.1)&&brkB x.1 lv)
def nst (lv:Nat) (l:List (Nat×Int)):Pst:=l.foldl (nstep lv) ([],0,[])
def nodes (lv:Nat) (l:List (Nat×Int)):List Sht:=pend 4 lv (nst lv l)
theorem nst_snoc (lv:Nat) (l:List (Nat×Int)) (x:Nat×Int):nst lv (l ++ [x])=nstep lv (nst lv l) x:=by simp [nst]
theorem nst_take (lv:Nat) (l:List (Nat×Int)) (k:Nat) (h:k<l.length):nst lv (l.take (k+1))=nstep lv (nst lv (l.take k)) l[k]:=by
 rw [List.take_succ_eq_append_getElem h,nst_snoc]
theorem nst_bd (lv:Nat) (l:List (Nat×Int)):(nst lv l).1.length≤l.length∧(nst lv l).2.1≤l.length∧(nst lv l).2.2.length≤1001:=by
 refine snoc_ind (p:=fun l=>(nst lv l).1.length≤l.length∧(nst lv l).2.1≤l.length∧(nst lv l).2.2.length≤1001) (by simp [nst]) (fun l x ih=>?_) l
 rw [nst_snoc,List.length_append,List.length_singleton]
 have he:=encE_len x
 unfold nstep pput
 split
 ·refine ⟨?_,by simp only;omega,by simp only;omega⟩
  simp only
  split
  ·rw [List.length_append,List.length_singleton];omega
  ·omega
 ·rename_i hc
  simp only [not_or,Nat.not_lt] at hc
  refine ⟨by simp only;omega,by simp only;omega,?_⟩
  simp only [List.length_append];omega
end Go.Proofs.YtfhmaincnlaapaaGreat
namespace Go.Proofs.YtfhmaincnlaapaaGreat
set_option linter.unusedVariables false
end Go.Proofs.YtfhmaincnlaapaaGreat
namespace Go.Proofs.YtfhmaincnlaapaaGreat
open Go.ChangeShapes Go.WideShapes Go.ChangeAt Go.RowKit
set_option linter.unusedVariables false
theorem step_appSD {P:Program} {ops:Array Oper} {o:Oper} {a:Act} {K:Act→World→Prop} {Q:Exit→Act→World→Prop} {E:Prop} {W:World} (d:Option Tmp) (hd:o.dst=d) (hgd:o.guard=none) (s x:Operand) (t:TypeId)
 (ho:o.op=.call { callee:=.builtin .append,args:=#[s,x],argTypes:=#[t,t] })
 (base:Nat) (e:TypeId) (z:Value) (size bytes:Nat) (hinf:(P.info? e).map (fun i=>(i.zero,i.size,i.bytes))=some (some z,size,bytes)) (hzs:z.cells.size=size) (hsz:0<size) (ht:P.underlying t=some (.slice e))
 (v:Value) (n:Nat) (xs:List Value) (hown:W.ownsRow base e size v n xs) (B:Nat) (A:Option Addr) (m c:Nat) (news:List Value) (hr:Rd W B size A m news) (hs:a.eval s=v) (hx:a.eval x=.slice A m c) (h1:∀ u∈news,u.oneCell'=true)
 (hbytes:(n+m)*bytes≤140737488355328) (h63:n+m≤140737488355328) (hbase:base≤W.heap.size)
 (h:∀ v' w',w'.ownsRow base e size v' (n+m) (xs++news)→Appd W w' v v'→K (a.put d v') w') :
 if Region.wanted o (yielded ops a.tmps)=true then Oper.wp P o a W K Q else E:=by
 subst hd
 exact step_appS hgd s x t ho base e z size bytes hinf hzs hsz ht v n xs hown B A m c news hr hs hx h1 hbytes h63 hbase h
def namesL (S:Sch):List ByteArray:=S.dims.map Prod.fst++S.ints++S.nums
theorem info_str:(Tryz.prog.info? 9).map (fun i=>(i.zero,i.size,i.bytes))=some (some (.string ⟨#[]⟩),1,16):=by kernel_rfl
theorem strs_one (l:List ByteArray):∀ u∈strs l,u.oneCell'=true:=fun u hu=>by
 obtain ⟨x,_,rfl⟩:=List.mem_map.1 hu;rfl
theorem strs_snoc (l:List ByteArray) (x:ByteArray):strs l ++ [.string x]=strs (l ++ [x]):=by simp [strs]
theorem dims_snoc (l:List (ByteArray×Int)) (k:Nat) (hk:k<l.length):(l.take (k+1)).map Prod.fst=(l.take k).map Prod.fst ++ [l[k].1]:=by
 rw [List.take_succ_eq_append_getElem hk,List.map_append];rfl
theorem Rd.dim {w:World} {B:Nat} {A:Option Addr} {l:List (ByteArray×Int)} (h:Rd w B 2 A l.length (dimC l)) {k:Nat} (hk:k<l.length):∃ a,A=some a∧a.block<B∧w.cell? (a.add (k*2))=some (.string l[k].1)∧w.cell? ⟨(a.add (k*2)).block,(a.add (k*2)).off+1,none⟩=some (.int .i64 l[k].2):=by
 obtain ⟨a,rfl,hb,hc⟩:=h.2 (by omega)
 have key:∀ j,j<2→w.cell? (a.add (k*2+j))=([.string l[k].1,.int .i64 l[k].2]:List Value)[j]?:=fun j hj=>by
  have:=flat_get (fun x:ByteArray×Int=>([.string x.1,.int .i64 x.2]:List Value)) 2 (fun _=>rfl) l k j hk hj
  have hl:j<([.string l[k].1,.int .i64 l[k].2]:List Value).length:=hj
  rw [List.getElem?_eq_getElem hl] at this ⊢
  exact hc _ _ this
 refine ⟨a,rfl,hb,key 0 (by decide),?_⟩
 have:=key 1 (by decide)
 rw [←add_add',add_succ] at this
 exact this
def AllRel (W wr:World) (S:Sch) (v3 v9:Value):Prop :=
 ∃ k:Nat,k≤S.dims.length∧v9=.int .i64 (k:Int)∧wr.ownsRow W.heap.size 9 1 v3 k (strs ((S.dims.take k).map Prod.fst))∧Below W.heap.size W wr
set_option maxRecDepth 20000 in
set_option maxHeartbeats 1000000 in
theorem all_any (w:World) (B:Nat) (v:Value) (S:Sch) (h:SchAt w B v S) (hB:B≤w.heap.size) (h0:S.dims.length≤100) (h1:S.ints.length≤100) (h2:S.nums.length≤100) :
 Calls Tryz.prog 102 #[v] w fun y w'=>∃ v',y=.returned v'∧w'.ownsRow w.heap.size 9 1 v' (namesL S).length (strs (namesL S))∧Below w.heap.size w w':=by
 obtain ⟨A0,c0,A1,c1,A2,c2,A3,c3,rfl,r0,r1,r2,r3,_,_,_,_⟩:=h
 have hw0:=belA (belR w) (.cells #[.slice A0 S.dims.length c0,.slice A1 S.ints.length c1,.slice A2 S.nums.length c2,.slice A3 S.views.length c3] 26)
 have hblk:=Blk.new w 26 #[.slice A0 S.dims.length c0,.slice A1 S.ints.length c1,.slice A2 S.nums.length c2,.slice A3 S.views.length c3]
 have R0:=Lib.hid (r0.below (hw0.mono hB));have R1:=Lib.hid (r1.below (hw0.mono hB));have R2:=Lib.hid (r2.below (hw0.mono hB));have HW0:=Lib.hid hw0;have HBLK:=Lib.hid hblk
 have hz0:w.heap.size<(w.alloc (.cells #[.slice A0 S.dims.length c0,.slice A1 S.ints.length c1,.slice A2 S.nums.length c2,.slice A3 S.views.length c3] 26)).heap.size:=by simp
 clear r0 r1 r2 r3 hw0 hblk
 go_enter Tryz.func102,Tryz.ntmps102
 go_wp2_with fail
 generalize w.alloc (.cells #[.slice A0 S.dims.length c0,.slice A1 S.ints.length c1,.slice A2 S.nums.length c2,.slice A3 S.views.length c3] 26)=W at *
 go_loopw [3,9] (fun v3 v9 wx=>AllRel W wx S v3 v9) (fun _ v9 _=>S.dims.length-(intOf v9).toNat)
 case atStart=>exact ⟨0,by omega,rfl,World.ownsRow_nil W W.heap.size 9 1,belR W⟩
 case round =>
  obtain ⟨k,hk,rfl,ho,hb⟩:=hrel
  have HO:=Lib.hid ho;have HB:=Lib.hid hb;clear ho hb
  by_cases hlt:k<S.dims.length
  ·obtain ⟨a,rfl,hab,x0,x1⟩:=((R0.out.more (show B≤W.heap.size by omega)).below HB.out).dim hlt
   have q1:(0:Int)≤(k:Int):=by omega
   have q2:(k:Int)<(S.dims.length:Int):=by omega
   have hsn:=dims_snoc S.dims k hlt
   generalize S.dims[k]=x at *
   obtain ⟨nm,sz⟩:=x
   simp only at x0 x1 hsn
   have HSN:=Lib.hid hsn;clear hsn
   have hz:=HB.out.size
   have hz3:W.heap.size≤(wr.alloc (.cells #[.string nm,.int .i64 sz] 79)).heap.size:=by simp;omega
   have hxx:Value.slice (some ⟨wr.heap.size+1,0,none⟩) 1 1=.slice (some ⟨(wr.alloc (.cells #[.string nm,.int .i64 sz] 79)).heap.size,0,none⟩) 1 1:=by simp
   have HO2:=Lib.hid (HO.out.alloc (.cells #[.string nm,.int .i64 sz] 79))
   go_wp2_with (at_builtin;refine wpList_app1 (wr.alloc (.cells #[.string nm,.int .i64 sz] 79)) (.string nm) rfl rfl (.tmp 13) (.tmp 16) 23 rfl W.heap.size 9 (.string ⟨#[]⟩) 16 info_str rfl Tryz.underlying23 _ k (strs ((S.dims.take k).map Prod.fst)) HO2.out rfl rfl ?_ ?_ ?_ ?_;omega;omega;exact hz3;intro v2 w2 ho2 hb2;have HO3:=Lib.hid ho2;have HB3:=Lib.hid (hb2.below (B:=W.heap.size) hz3 HO2.out);clear ho2 hb2)
   go_roundw
   case rel=>exact ⟨k+1,by omega,by go_num,by rw [HSN.out,←strs_snoc];exact HO3.out,(HB.out.trans ((belA (belR wr) _).mono hz)).trans HB3.out⟩
   case measure=>simp [intOf];omega
  ·obtain rfl:k=S.dims.length:=by omega
   rw [List.take_length] at HO
   have hz:=HB.out.size
   have k1:=HBLK.out.below HB.out hz0
   have x1:=k1.cell 1;have x2:=k1.cell 2
   simp at x1 x2
   have HR1:=Lib.hid (R1.out.below (HB.out.mono (show B≤W.heap.size by omega)))
   have HR2:=Lib.hid (R2.out.below (HB.out.mono (show B≤W.heap.size by omega)))
   clear k1
   go_wp2_with (first
    | (at_builtin;refine wpList_appS _ rfl (.tmp 19) (.tmp 21) 23 rfl W.heap.size 9 (.string ⟨#[]⟩) 1 16 info_str rfl (by decide) Tryz.underlying23 _ S.dims.length (strs (S.dims.map Prod.fst)) HO.out rfl _ A1 S.ints.length c1 (strs S.ints) HR1.out rfl (strs_one _) ?_ ?_ ?_ ?_;omega;omega;exact hz;intro v2 w2 ho2 hap2;have HO2:=Lib.hid ho2;have HB2:=Lib.hid (HB.out.trans (hap2.below hz HO.out));have hz2:W.heap.size≤w2.heap.size:=HB2.out.size;have k2:=HBLK.out.below HB2.out hz0;have y2:=k2.cell 2;simp at y2;have HR3:=Lib.hid (R2.out.below (HB2.out.mono (show B≤W.heap.size by omega)));clear ho2 hap2 k2)
    | (at_builtin;refine wpList_appS _ rfl (.tmp 23) (.tmp 25) 23 rfl W.heap.size 9 (.string ⟨#[]⟩) 1 16 info_str rfl (by decide) Tryz.underlying23 _ (S.dims.length+S.ints.length) (strs (S.dims.map Prod.fst)++strs S.ints) HO2.out rfl _ A2 S.nums.length c2 (strs S.nums) HR3.out rfl (strs_one _) ?_ ?_ ?_ ?_;omega;omega;exact hz2;intro v3 w3 ho3 hap3;have HO3:=Lib.hid ho3;have HB3:=Lib.hid (HB2.out.trans (hap3.below hz2 HO2.out));clear ho3 hap3))
   go_ret
   have hl:(namesL S).length=S.dims.length+S.ints.length+S.nums.length:=by unfold namesL;rw [List.length_append,List.length_append,List.length_map]
   have hs:strs (namesL S)=strs (S.dims.map Prod.fst)++strs S.ints++strs S.nums:=by unfold namesL strs;rw [List.map_append,List.map_append]
   exact ⟨_,rfl,by rw [hl,hs];exact own_mono HO3.out (Nat.le_of_lt hz0),HW0.out.trans (HB3.out.mono (Nat.le_of_lt hz0))⟩
set_option maxRecDepth 20000 in
set_option maxHeartbeats 1000000 in
theorem refNames_any (w:World) (B:Nat) (v:Value) (S:Sch) (h:SchAt w B v S) (hB:B≤w.heap.size) (h0:S.dims.length≤100) (h1:S.ints.length≤100) (h2:S.nums.length≤100) :
 Calls Tryz.prog 37 #[v] w fun y w'=>∃ v',y=.returned v'∧w'.ownsRow w.heap.size 9 1 v' (namesL S).length (strs (namesL S))∧Below w.heap.size w w':=by
 obtain ⟨A0,c0,A1,c1,A2,c2,A3,c3,rfl,r0,r1,r2,r3,_,_,_,_⟩:=h
 have hw0:=belA (belR w) (.cells #[.slice A0 S.dims.length c0,.slice A1 S.ints.length c1,.slice A2 S.nums.length c2,.slice A3 S.views.length c3] 26)
 have hblk:=Blk.new w 26 #[.slice A0 S.dims.length c0,.slice A1 S.ints.length c1,.slice A2 S.nums.length c2,.slice A3 S.views.length c3]
 have R0:=Lib.hid (r0.below (hw0.mono hB));have R1:=Lib.hid (r1.below (hw0.mono hB));have R2:=Lib.hid (r2.below (hw0.mono hB));have HW0:=Lib.hid hw0;have HBLK:=Lib.hid hblk
 have hz0:w.heap.size<(w.alloc (.cells #[.slice A0 S.dims.length c0,.slice A1 S.ints.length c1,.slice A2 S.nums.length c2,.slice A3 S.views.length c3] 26)).heap.size:=by simp
 clear r0 r1 r2 r3 hw0 hblk
 go_enter Tryz.func37,Tryz.ntmps37
 go_wp2_with fail
 generalize w.alloc (.cells #[.slice A0 S.dims.length c0,.slice A1 S.ints.length c1,.slice A2 S.nums.length c2,.slice A3 S.views.length c3] 26)=W at *
 go_loopw [3,4] (fun v3 v9 wx=>AllRel W wx S v3 v9) (fun _ v9 _=>S.dims.length-(intOf v9).toNat)
 case atStart=>exact ⟨0,by omega,rfl,World.ownsRow_nil W W.heap.size 9 1,belR W⟩
 case round =>
  obtain ⟨k,hk,rfl,ho,hb⟩:=hrel
  have HO:=Lib.hid ho;have HB:=Lib.hid hb;clear ho hb
  have hz:=HB.out.size
  have k1:=HBLK.out.below HB.out hz0
  have z0:=k1.cell 0
  simp at z0
  by_cases hlt:k<S.dims.length
  ·obtain ⟨a,rfl,hab,x0,x1⟩:=((R0.out.more (show B≤W.heap.size by omega)).below HB.out).dim hlt
   have q1:(0:Int)≤(k:Int):=by omega
   have q2:(k:Int)<(S.dims.length:Int):=by omega
   have hsn:=dims_snoc S.dims k hlt
   generalize S.dims[k]=x at *
   obtain ⟨nm,sz⟩:=x
   simp only at x0 x1 hsn
   have HSN:=Lib.hid hsn;clear hsn k1
   go_wp2_with (at_builtin;refine wpList_app1 wr (.string nm) rfl rfl (.tmp 12) (.tmp 19) 23 rfl W.heap.size 9 (.string ⟨#[]⟩) 16 info_str rfl Tryz.underlying23 _ k (strs ((S.dims.take k).map Prod.fst)) HO.out rfl rfl ?_ ?_ ?_ ?_;omega;omega;exact hz;intro v2 w2 ho2 hb2;have HO3:=Lib.hid ho2;have HB3:=Lib.hid (hb2.below (B:=W.heap.size) hz HO.out);clear ho2 hb2)
   go_roundw
   case rel=>exact ⟨k+1,by omega,by go_num,by rw [HSN.out,←strs_snoc];exact HO3.out,HB.out.trans HB3.out⟩
   case measure=>simp [intOf];omega
  ·obtain rfl:k=S.dims.length:=by omega
   rw [List.take_length] at HO
   have hs1:wr.drew.cell? ⟨w.heap.size,1,none⟩=some (.slice A1 S.ints.length c1)∧wr.drew.cell? ⟨w.heap.size,2,none⟩=some (.slice A2 S.nums.length c2):=⟨k1.drew.cell 1,k1.drew.cell 2⟩
   have HR1:=Lib.hid ((R1.out.below (HB.out.mono (show B≤W.heap.size by omega))).drewN 1)
   have HS1:=Lib.hid hs1;clear hs1 k1
   have HOD:Hid (wr.drew.ownsRow W.heap.size 9 1 _ S.dims.length (strs (S.dims.map Prod.fst))):=Lib.hid HO.out
   have HBD:Hid (Below W.heap.size W wr.drew):=Lib.hid HB.out.drew
   have hzd:W.heap.size≤wr.drew.heap.size:=hz
   go_upto_region 6 with (fail)
   go_region_held3 (fun W'=>W'.cell? ⟨w.heap.size,1,none⟩=some (.slice A1 S.ints.length c1)∧W'.cell? ⟨w.heap.size,2,none⟩=some (.slice A2 S.nums.length c2)) (first|(with_reducible exact HS1.out)|(exact HS2.out)|(exact HS3.out))
    (first
     | (refine step_appSD (some 24) (by rfl) (by rfl) (.tmp 21) (.tmp 23) 23 (by rfl) W.heap.size 9 (.string ⟨#[]⟩) 1 16 info_str rfl (by decide) Tryz.underlying23 _ S.dims.length (strs (S.dims.map Prod.fst)) HOD.out _ A1 S.ints.length c1 (strs S.ints) HR1.out (by rfl) (by rfl) (strs_one _) (by omega) (by omega) hzd ?_;intro v2 w2 ho2 hap2;have HO2:=Lib.hid ho2;have HB2:=Lib.hid (HBD.out.trans (hap2.below hzd HOD.out));have hz2:W.heap.size≤w2.heap.size:=HB2.out.size;have k2:=HBLK.out.below HB2.out hz0;have HS2:Hid (w2.cell? ⟨w.heap.size,1,none⟩=some (.slice A1 S.ints.length c1)∧w2.cell? ⟨w.heap.size,2,none⟩=some (.slice A2 S.nums.length c2)):=Lib.hid ⟨k2.cell 1,k2.cell 2⟩;have HR3:=Lib.hid (R2.out.below (HB2.out.mono (show B≤W.heap.size by omega)));clear ho2 hap2 k2)
     | (refine step_appSD (some 27) (by rfl) (by rfl) (.tmp 24) (.tmp 26) 23 (by rfl) W.heap.size 9 (.string ⟨#[]⟩) 1 16 info_str rfl (by decide) Tryz.underlying23 _ (S.dims.length+S.ints.length) (strs (S.dims.map Prod.fst)++strs S.ints) HO2.out _ A2 S.nums.length c2 (strs S.nums) HR3.out (by rfl) (by rfl) (strs_one _) (by omega) (by omega) hz2 ?_;intro v3 w3 ho3 hap3;have HO3:=Lib.hid ho3;have HB3:=Lib.hid (HB2.out.trans (hap3.below hz2 HO2.out));have k3:=HBLK.out.below HB3.out hz0;have HS3:Hid (w3.cell? ⟨w.heap.size,1,none⟩=some (.slice A1 S.ints.length c1)∧w3.cell? ⟨w.heap.size,2,none⟩=some (.slice A2 S.nums.length c2)):=Lib.hid ⟨k3.cell 1,k3.cell 2⟩;clear ho3 hap3 k3))
   go_wp2
   go_ret
   have hl:(namesL S).length=S.dims.length+S.ints.length+S.nums.length:=by unfold namesL;rw [List.length_append,List.length_append,List.length_map]
   have hs:strs (namesL S)=strs (S.dims.map Prod.fst)++strs S.ints++strs S.nums:=by unfold namesL strs;rw [List.map_append,List.map_append]
   exact ⟨_,rfl,by rw [hl,hs];exact own_mono HO3.out (Nat.le_of_lt hz0),HW0.out.trans (HB3.out.mono (Nat.le_of_lt hz0))⟩
def lightB (S:Sch):Bool:=decide (S.dims.length≤100)&&decide (S.ints.length≤100)&&decide (S.nums.length≤100)&&decide (S.views.length≤100)&&(namesL S).all fun x=>decide (x.size≤100)
theorem lightB_no (S:Sch) (h:¬(S.dims.length≤100∧S.ints.length≤100∧S.nums.length≤100∧S.views.length≤100)):lightB S=false:=by
 cases hl:lightB S with
 | false=>rfl
 | true =>
   unfold lightB at hl
   simp only [Bool.and_eq_true,decide_eq_true_iff] at hl
   exact absurd ⟨hl.1.1.1.1,hl.1.1.1.2,hl.1.1.2,hl.1.2⟩ h
set_option maxRecDepth 20000 in
set_option maxHeartbeats 1000000 in
theorem light_any (w:World) (B:Nat) (v:Value) (S:Sch) (h:SchAt w B v S) (hB:B≤w.heap.size) :
 Calls Tryz.prog 9 #[v] w fun y w'=>y=.returned (.bool (lightB S))∧Below w.heap.size w w':=by
 have hh:=h
 obtain ⟨A0,c0,A1,c1,A2,c2,A3,c3,rfl,r0,r1,r2,r3,b0,b1,b2,b3⟩:=h
 have hw0:=belA (belR w) (.cells #[.slice A0 S.dims.length c0,.slice A1 S.ints.length c1,.slice A2 S.nums.length c2,.slice A3 S.views.length c3] 26)
 have hs0:SchAt (w.alloc (.cells #[.slice A0 S.dims.length c0,.slice A1 S.ints.length c1,.slice A2 S.nums.length c2,.slice A3 S.views.length c3] 26)) B (.agg #[.slice A0 S.dims.length c0,.slice A1 S.ints.length c1,.slice A2 S.nums.length c2,.slice A3 S.views.length c3]) S :=
  ⟨A0,c0,A1,c1,A2,c2,A3,c3,rfl,r0.below (hw0.mono hB),r1.below (hw0.mono hB),r2.below (hw0.mono hB),r3.below (hw0.mono hB),b0,b1,b2,b3⟩
 clear r0 r1 r2 r3 hh b0 b1 b2 b3
 have HS:=Lib.hid hs0;have HW0:=Lib.hid hw0;clear hs0 hw0
 have hno:=lightB_no S
 by_cases h0:S.dims.length≤100
 ·by_cases h1:S.ints.length≤100
  ·by_cases h2:S.nums.length≤100
   ·by_cases h3:S.views.length≤100
    ·have hl:lightB S=(namesL S).all fun x=>decide (x.size≤100):=by unfold lightB;rw [decide_eq_true h0,decide_eq_true h1,decide_eq_true h2,decide_eq_true h3];rfl
     have hnl:(namesL S).length≤300:=by unfold namesL;rw [List.length_append,List.length_append,List.length_map];omega
     have hn:=refNames_any _ B _ S HS.out (Nat.le_trans hB (by simp)) h0 h1 h2
     have HL:=Lib.hid hl;have HN:=Lib.hid hn;clear hl hn hno
     generalize namesL S=L at *
     go_enter Tryz.func9,Tryz.ntmps9
     go_wp2_with (go_at_call 37;(with_reducible refine HN.out.mono ?_);rintro y w1 ⟨v1,rfl,ho1,hb1⟩;obtain ⟨A5,c5,rfl,_,_,_⟩:=own_form ho1;have HR1:=Lib.hid (Rd.own ho1);have HB1:=Lib.hid (belT HW0.out hb1);clear ho1 hb1)
     go_loop [4] (fun i=>∃ k:Nat,k≤L.length∧i=.int .i64 (k:Int)∧Hid (∀ j (hj:j<L.length),j<k→L[j].size≤100)) (fun i=>L.length-(intOf i).toNat)
     case atStart=>exact ⟨0,by omega,rfl,fun j _ hj=>by omega⟩
     case round =>
      obtain ⟨k,hk,rfl,HA⟩:=hrel
      by_cases hlt:k<L.length
      ·obtain ⟨a,rfl,hab,x0⟩:=HR1.out.str hlt
       have q1:(0:Int)≤(k:Int):=by omega
       have q2:(k:Int)<(L.length:Int):=by omega
       have hst:=fun (h:L[k].size≤100)=>(show ∀ j (hj:j<L.length),j<k+1→L[j].size≤100 from fun j hj hjk=>by
        by_cases e:j=k
        ·subst e;exact h
        ·exact HA.out j hj (by omega))
       have hbad:¬L[k].size≤100→(L.all fun x=>decide (x.size≤100))=false:=fun h=>by
        rw [List.all_eq_false];exact ⟨_,List.getElem_mem hlt,by rw [decide_eq_false h];decide⟩
       generalize L[k]=x at *
       have HST:=Lib.hid hst;have HBAD:=Lib.hid hbad;clear hst hbad
       by_cases hx:x.size≤100
       ·have hy:=HST.out hx
        have HY:=Lib.hid hy;clear hy
        go_wp2
        go_round
        case rel=>exact ⟨k+1,by omega,by go_num,HY⟩
        case measure=>simp [intOf];omega
       ·have hn:=HBAD.out hx
        have HNO:=Lib.hid hn;clear hn
        go_wp2
        go_ret
        exact ⟨by rw [HL.out,HNO.out];rfl,HB1.out⟩
      ·have hy:(L.all fun x=>decide (x.size≤100))=true:=by
        rw [List.all_eq_true]
        intro x hx
        obtain ⟨j,hj,rfl⟩:=List.getElem_of_mem hx
        exact decide_eq_true (HA.out j hj (by omega))
       have HY:=Lib.hid hy;clear hy
       go_wp2
       go_ret
       exact ⟨by rw [HL.out,HY.out];rfl,HB1.out⟩
    ·have HNO:=Lib.hid (hno (fun h=>h3 h.2.2.2));clear hno
     go_enter Tryz.func9,Tryz.ntmps9
     go_wp2
     go_ret
     exact ⟨by rw [HNO.out];rfl,HW0.out⟩
   ·have HNO:=Lib.hid (hno (fun h=>h2 h.2.2.1));clear hno
    go_enter Tryz.func9,Tryz.ntmps9
    go_wp2
    go_ret
    exact ⟨by rw [HNO.out];rfl,HW0.out⟩
  ·have HNO:=Lib.hid (hno (fun h=>h1 h.2.1));clear hno
   go_enter Tryz.func9,Tryz.ntmps9
   go_wp2
   go_ret
   exact ⟨by rw [HNO.out];rfl,HW0.out⟩
 ·have HNO:=Lib.hid (hno (fun h=>h0 h.1));clear hno
  go_enter Tryz.func9,Tryz.ntmps9
  go_wp2
  go_ret
  exact ⟨by rw [HNO.out];rfl,HW0.out⟩
def KeptK (w w':World):Prop:=∀ h t cs,Blk w h t cs→t≠216→t≠5→Blk w' h t cs
theorem KeptK.refl (w:World):KeptK w w:=fun _ _ _ h _ _=>h
theorem KeptK.trans {a b c:World} (h:KeptK a b) (k:KeptK b c):KeptK a c:=fun g t cs hb h1 h2=>k g t cs (h g t cs hb h1 h2) h1 h2
theorem KeptK.of_below {w w':World} (h:Below w.heap.size w w'):KeptK w w':=fun g t cs hb _ _=>hb.below h hb.lt
theorem KeptK.drewN {a b:World} (h:KeptK a b) (n:Nat):KeptK a (b.drewN n):=fun g t cs hb h1 h2=>h g t cs hb h1 h2
end Go.Proofs.YtfhmaincnlaapaaGreat
