/- Lemmas and walks for the claim: Kb, Kq, Kc, Ga, Sg, Sh, Si. -/
import Derived.Test.YtpmlljbebdidgaaGreatDoorA0
import Derived.Test.YtpmlljbebdidgaaGreatDoorA3
import Derived.Test.YtpmlljbebdidgaaGreatDoorA1
import Derived.Defers
import Derived.Recover
import Derived.Laws.Pointers
import Derived.Test.YtpmlljbebdidgaaGreatDoorA2
import Derived.Deep.RegionHeld3
set_option linter.unusedSimpArgs false
set_option maxRecDepth 100000
set_option maxHeartbeats 4000000
namespace Go.Proofs.YtpmlljbebdidgaaGreatDoor
open Go.RowKit
theorem zlc{W0 w:World}{B:Nat}{b:Bool}{K:Prop}(h0:b=false→Drawn W0 w)(h1:b=true→Below B W0 w∧K):Below B W0 w:=by
 cases b with
 |false=>exact(h0 rfl).below _
 |true=>exact(h1 rfl).1
structure LowF(W0:World)(hz:Bool)(a b g q r B:Nat)(L:Nat→Bool)(V:Nat→Value)(w:World):Prop where
 p0:L 14=false→Drawn W0 w
 p1:L 14=true→Below B W0 w∧Blk w B 87 #[.int .i64 (za8 false q), .int .i64 r]
 c8:L 8=true→sOk false q∧V 19= .int .i64 (za8 false q)
 c12:L 12=true→sOk false r∧V 23= .int .i64 r
 e13:L 13=true→V 24= .agg #[.int .i64 (za8 false q), .int .i64 r]
 e0:L 0=true→V 11= .bool false
 e1:L 1=true→V 12= .bool false
 e2:L 2=true→V 13=undef
 e3:L 3=true→V 14=undef
 e4:L 4=true→V 15= .bool false
 e5:L 5=true→V 16= .int .u64 a
 e6:L 6=true→V 17= .int .u64 g
 e7:L 7=true→V 18= .int .u64 q
 e9:L 9=true→V 20= .int .u64 b
 e10:L 10=true→V 21= .int .u64 g
 e11:L 11=true→V 22= .int .u64 r
theorem zmw(a b g q r:Nat)(hz:Bool)(w:World)(hcom:∀w,Calls Tryz.prog 91 #[.int .u64 a, .int .u64 b] w fun e w'=>e= .returned (.int .u64 (g:Nat))∧Drawn w w')
  (_haz:((a:Int) !=0)=!hz) (hqd:(a:Int)/(g:Int)=(q:Int)) (hrd:(b:Int)/(g:Int)=(r:Int)) (hgn:¬g=0) (hwq:IntKind.u64.wrap (q:Int)=q) (hwr:IntKind.u64.wrap (r:Int)=r):
  Calls Tryz.prog 76 #[.bool false, .int .u64 a, .int .u64 b] w fun e w'=>e=lowE false q r∧Below w.heap.size w w':=by
 have HB:Hid (Below w.heap.size w (w.alloc (.cells #[.int .i64 0, .int .i64 0] 87))):=(zm _ _).alloc lR_ _
 have HK0:Hid (Blk (w.alloc (.cells #[.int .i64 0, .int .i64 0] 87)) w.heap.size 87 #[.int .i64 0, .int .i64 0]):=Blk.new w _ rfl _ _
 go_enter Tryz.func76, Tryz.ntmps76
 go_wp2_with (go_at_call 91;refine(hcom _).mono ?_;rintro e w' ⟨rfl,d,rfl⟩)
 obtain⟨B,hB⟩:∃B,w.heap.size=B:=⟨_,rfl⟩;rw[hB]at HB HK0⊢;obtain⟨W0,hW0⟩:∃W0,(w.alloc (.cells #[.int .i64 0, .int .i64 0] 87)).drewN d=W0:=⟨_,rfl⟩
 replace HB:Hid (Below B w W0):=by subst hW0;exact zcz HB.out d
 have HK:Hid (Blk W0 B 87 #[.int .i64 0, .int .i64 0]):=by subst hW0;exact HK0.out
 have HBw:Hid (∀w1,Below B W0 w1→Below w.heap.size w w1):=fun w1 h1=>by rw[hB];exact HB.out.trans h1
 rw[hW0];clear HK0 hW0 hcom;have hI0:∀V,LowF W0 hz a b g q r B (fun _=>false) V W0.drew:=fun V=>by
  have h0:Drawn W0 W0.drew:=(Drawn.refl W0).drewN 1
  constructor
  all_goals first
   |exact fun _=>h0
   |(intro h;cases h)
 refine zN [11,12,13,14,15,16,17,18,19,20,21,22,23,24] (LowF W0 hz a b g q r B) (by kernel_rfl) (by kernel_rfl) ?_ ?_ ?_
 ·exact hI0 _
 ·intro i o ho L V w1 hi hL hno h K hK;simp only[putAll,zi,zj,zc,ze,zd];rcases i with _|_|_|_|_|_|_|_|_|_|_|_|_|_|_|i
  ·obtain rfl:=sJ ho;clear hL hno
   go_simp;exact hK (zg V 11 _) _ _ (by simp[putAll,zg]) {h with e0:=fun _=>rfl}
  ·obtain rfl:=sJ ho;have e0:=h.e0 (hL ⟨0, .data⟩ (by simp) rfl)
   clear hL hno
   go_simp;exact hK (zg V 12 _) _ _ (by simp[putAll,zg,e0]) {h with e1:=fun _=>rfl}
  ·obtain rfl:=sJ ho;have e1:=h.e1 (hL ⟨1, .guard⟩ (by simp) rfl)
   clear hL hno
   go_simp;refine hK (zg V 13 undef) _ _ (by simp[putAll,zg,e1]) ?_
   exact{h with e2:=fun _=>rfl}
  ·obtain rfl:=sJ ho;have e1:=h.e1 (hL ⟨1, .guard⟩ (by simp) rfl)
   clear hL hno
   go_simp;refine hK (zg V 14 undef) _ _ (by simp[putAll,zg,e1]) ?_
   exact{h with e3:=fun _=>rfl}
  ·obtain rfl:=sJ ho;have e1:=h.e1 (hL ⟨1, .data⟩ (by simp) rfl)
   have e3:=h.e3 (hL ⟨3, .data⟩ (by simp) rfl)
   clear hL hno
   go_simp;exact hK (zg V 15 _) _ _ (by simp[putAll,zg,e1,e3]) {h with e4:=fun _=>rfl}
  ·obtain rfl:=sJ ho;clear hL hno
   go_simp;exact hK (zg V 16 _) _ _ (by simp[putAll,zg]) {h with e5:=fun _=>rfl}
  ·obtain rfl:=sJ ho;clear hL hno
   go_simp;exact hK (zg V 17 _) _ _ (by simp[putAll,zg]) {h with e6:=fun _=>rfl}
  ·obtain rfl:=sJ ho;have e5:=h.e5 (hL ⟨5, .data⟩ (by simp) rfl)
   have e6:=h.e6 (hL ⟨6, .data⟩ (by simp) rfl)
   clear hL hno
   go_simp;exact hK (zg V 18 _) _ _ (by simp[putAll,zg,e5,e6]) {h with e7:=fun _=>rfl}
  ·obtain rfl:=sJ ho;have e4:=h.e4 (hL ⟨4, .data⟩ (by simp) rfl)
   have e7:=h.e7 (hL ⟨7, .data⟩ (by simp) rfl)
   clear hL hno
   go_simp;by_cases hs:sOk false q
   ·refine(zeN false q w1 hs).mono ?_;rintro e w3 ⟨rfl,rfl⟩;refine hK (zg V 19 (.int .i64 (za8 false q))) _ _ (by simp[putAll,zg,e4,e7]) ?_
    exact{h with c8:=fun _=>⟨hs,rfl⟩}
   ·refine(zfd false q w1 hs).mono ?_;rintro e w3 ⟨rfl,rfl⟩;exact⟨rfl,(zfD fun hh=>hs hh.1).symm,HBw.out _ (zlc h.p0 h.p1)⟩
  ·obtain rfl:=sJ ho;clear hL hno
   go_simp;exact hK (zg V 20 _) _ _ (by simp[putAll,zg]) {h with e9:=fun _=>rfl}
  ·obtain rfl:=sJ ho;clear hL hno
   go_simp;exact hK (zg V 21 _) _ _ (by simp[putAll,zg]) {h with e10:=fun _=>rfl}
  ·obtain rfl:=sJ ho;have e9:=h.e9 (hL ⟨9, .data⟩ (by simp) rfl)
   have e10:=h.e10 (hL ⟨10, .data⟩ (by simp) rfl)
   clear hL hno
   go_simp;exact hK (zg V 22 _) _ _ (by simp[putAll,zg,e9,e10]) {h with e11:=fun _=>rfl}
  ·obtain rfl:=sJ ho;have e11:=h.e11 (hL ⟨11, .data⟩ (by simp) rfl)
   clear hL hno
   go_simp;by_cases hs:sOk false r
   ·refine(zeN false r w1 hs).mono ?_;rintro e w3 ⟨rfl,rfl⟩;refine hK (zg V 23 (.int .i64 r)) _ _ (by simp[putAll,zg,e11];rfl) ?_
    exact{h with c12:=fun _=>⟨hs,rfl⟩}
   ·refine(zfd false r w1 hs).mono ?_;rintro e w3 ⟨rfl,rfl⟩;exact⟨rfl,(zfD fun hh=>hs hh.2).symm,HBw.out _ (zlc h.p0 h.p1)⟩
  ·obtain rfl:=sJ ho;obtain⟨-,e8⟩:=h.c8 (hL ⟨8, .data⟩ (by simp) rfl)
   obtain⟨-,e12⟩:=h.c12 (hL ⟨12, .data⟩ (by simp) rfl)
   clear hL hno
   go_simp;exact hK (zg V 24 _) _ _ (by simp[putAll,zg,e8,e12]) {h with e13:=fun _=>rfl}
  ·obtain rfl:=sJ ho;have e13:=h.e13 (hL ⟨13, .data⟩ (by simp) rfl)
   clear hL hno;obtain⟨d,hd⟩:=h.p0 hi;have kb:Blk w1 B 87 #[.int .i64 0, .int .i64 0]:=by subst hd;exact HK.out
   have hbb:Below B W0 w1:=(h.p0 hi).below _
   have f0:=kb.cell 0;have f1:=kb.cell 1;have z0:=kb.frozen 0;have z1:=kb.frozen 1;simp at f0 f1;have kb2:=(kb.set 0 (.int .i64 (za8 false q))).set 1 (.int .i64 r);have bb2:=(hbb.setCell (p:=⟨B,0,none⟩) lR_ (.int .i64 (za8 false q))).setCell (p:=⟨B,1,none⟩) lR_ (.int .i64 r);simp at kb2;clear kb hbb hd
   go_simp;refine hK V _ _ (by simp[putAll,e13]) ?_
   exact{h with p0:=fun hn=>(by cases hn),p1:=fun _=>⟨bb2,kb2⟩}
  ·simp at ho
 ·clear hI0;intro L V w6 hL h;obtain⟨bw,kw⟩:=h.p1 (hL 14 (by simp))
  obtain⟨s8,-⟩:=h.c8 (hL 8 (by simp))
  obtain⟨s12,-⟩:=h.c12 (hL 12 (by simp))
  have c0:=kw.cell 0;have c1:=kw.cell 1;simp at c0 c1;simp only[putAll,zi,zj,zc,ze,zd];clear h hL kw
  go_wp2_with fail;exact bodyPost_ret (v:= .agg #[.int .i64 (za8 false q), .int .i64 r]) (by simp[results, Tryz.results76,go_sem,c0,c1]) rfl ⟨(zgW s8 s12).symm,HBw.out _ bw⟩
structure LowT(W0:World)(hz:Bool)(a b g q r B:Nat)(L:Nat→Bool)(V:Nat→Value)(w:World):Prop where
 p0:L 14=false→Drawn W0 w
 p1:L 14=true→Below B W0 w∧Blk w B 87 #[.int .i64 (za8 (!hz) q), .int .i64 r]
 c8:L 8=true→sOk (!hz) q∧V 19= .int .i64 (za8 (!hz) q)
 c12:L 12=true→sOk false r∧V 23= .int .i64 r
 e13:L 13=true→V 24= .agg #[.int .i64 (za8 (!hz) q), .int .i64 r]
 e0:L 0=true→V 11= .bool true
 e1:L 1=true→V 12= .bool true
 e2:L 2=true→V 13= .int .u64 a
 e3:L 3=true→V 14= .bool (!hz)
 e4:L 4=true→V 15= .bool (!hz)
 e5:L 5=true→V 16= .int .u64 a
 e6:L 6=true→V 17= .int .u64 g
 e7:L 7=true→V 18= .int .u64 q
 e9:L 9=true→V 20= .int .u64 b
 e10:L 10=true→V 21= .int .u64 g
 e11:L 11=true→V 22= .int .u64 r
theorem znU(a b g q r:Nat)(hz:Bool)(w:World)(hcom:∀w,Calls Tryz.prog 91 #[.int .u64 a, .int .u64 b] w fun e w'=>e= .returned (.int .u64 (g:Nat))∧Drawn w w')
  (haz:((a:Int) !=0)=!hz) (hqd:(a:Int)/(g:Int)=(q:Int)) (hrd:(b:Int)/(g:Int)=(r:Int)) (hgn:¬g=0) (hwq:IntKind.u64.wrap (q:Int)=q) (hwr:IntKind.u64.wrap (r:Int)=r):
  Calls Tryz.prog 76 #[.bool true, .int .u64 a, .int .u64 b] w fun e w'=>e=lowE (!hz) q r∧Below w.heap.size w w':=by
 have HB:Hid (Below w.heap.size w (w.alloc (.cells #[.int .i64 0, .int .i64 0] 87))):=(zm _ _).alloc lR_ _
 have HK0:Hid (Blk (w.alloc (.cells #[.int .i64 0, .int .i64 0] 87)) w.heap.size 87 #[.int .i64 0, .int .i64 0]):=Blk.new w _ rfl _ _
 go_enter Tryz.func76, Tryz.ntmps76
 go_wp2_with (go_at_call 91;refine(hcom _).mono ?_;rintro e w' ⟨rfl,d,rfl⟩)
 obtain⟨B,hB⟩:∃B,w.heap.size=B:=⟨_,rfl⟩;rw[hB]at HB HK0⊢;obtain⟨W0,hW0⟩:∃W0,(w.alloc (.cells #[.int .i64 0, .int .i64 0] 87)).drewN d=W0:=⟨_,rfl⟩
 replace HB:Hid (Below B w W0):=by subst hW0;exact zcz HB.out d
 have HK:Hid (Blk W0 B 87 #[.int .i64 0, .int .i64 0]):=by subst hW0;exact HK0.out
 have HBw:Hid (∀w1,Below B W0 w1→Below w.heap.size w w1):=fun w1 h1=>by rw[hB];exact HB.out.trans h1
 rw[hW0];clear HK0 hW0 hcom;have hI0:∀V,LowT W0 hz a b g q r B (fun _=>false) V W0.drew:=fun V=>by
  have h0:Drawn W0 W0.drew:=(Drawn.refl W0).drewN 1
  constructor
  all_goals first
   |exact fun _=>h0
   |(intro h;cases h)
 refine zN [11,12,13,14,15,16,17,18,19,20,21,22,23,24] (LowT W0 hz a b g q r B) (by kernel_rfl) (by kernel_rfl) ?_ ?_ ?_
 ·exact hI0 _
 ·intro i o ho L V w1 hi hL hno h K hK;simp only[putAll,zi,zj,zc,ze,zd];rcases i with _|_|_|_|_|_|_|_|_|_|_|_|_|_|_|i
  ·obtain rfl:=sJ ho;clear hL hno
   go_simp;exact hK (zg V 11 _) _ _ (by simp[putAll,zg]) {h with e0:=fun _=>rfl}
  ·obtain rfl:=sJ ho;have e0:=h.e0 (hL ⟨0, .data⟩ (by simp) rfl)
   clear hL hno
   go_simp;exact hK (zg V 12 _) _ _ (by simp[putAll,zg,e0]) {h with e1:=fun _=>rfl}
  ·obtain rfl:=sJ ho;have e1:=h.e1 (hL ⟨1, .guard⟩ (by simp) rfl)
   clear hL hno
   go_simp;exact hK (zg V 13 _) _ _ (by simp[putAll,zg,e1]) {h with e2:=fun _=>rfl}
  ·obtain rfl:=sJ ho;have e1:=h.e1 (hL ⟨1, .guard⟩ (by simp) rfl)
   have e2:=h.e2 (hL ⟨2, .data⟩ (by simp) rfl)
   clear hL hno
   go_simp;exact hK (zg V 14 _) _ _ (by simp[putAll,zg,e1,e2]) {h with e3:=fun _=>rfl}
  ·obtain rfl:=sJ ho;have e1:=h.e1 (hL ⟨1, .data⟩ (by simp) rfl)
   have e3:=h.e3 (hL ⟨3, .data⟩ (by simp) rfl)
   clear hL hno
   go_simp;exact hK (zg V 15 _) _ _ (by simp[putAll,zg,e1,e3]) {h with e4:=fun _=>rfl}
  ·obtain rfl:=sJ ho;clear hL hno
   go_simp;exact hK (zg V 16 _) _ _ (by simp[putAll,zg]) {h with e5:=fun _=>rfl}
  ·obtain rfl:=sJ ho;clear hL hno
   go_simp;exact hK (zg V 17 _) _ _ (by simp[putAll,zg]) {h with e6:=fun _=>rfl}
  ·obtain rfl:=sJ ho;have e5:=h.e5 (hL ⟨5, .data⟩ (by simp) rfl)
   have e6:=h.e6 (hL ⟨6, .data⟩ (by simp) rfl)
   clear hL hno
   go_simp;exact hK (zg V 18 _) _ _ (by simp[putAll,zg,e5,e6]) {h with e7:=fun _=>rfl}
  ·obtain rfl:=sJ ho;have e4:=h.e4 (hL ⟨4, .data⟩ (by simp) rfl)
   have e7:=h.e7 (hL ⟨7, .data⟩ (by simp) rfl)
   clear hL hno
   go_simp;by_cases hs:sOk (!hz) q
   ·refine(zeN (!hz) q w1 hs).mono ?_;rintro e w3 ⟨rfl,rfl⟩;refine hK (zg V 19 (.int .i64 (za8 (!hz) q))) _ _ (by simp[putAll,zg,e4,e7]) ?_
    exact{h with c8:=fun _=>⟨hs,rfl⟩}
   ·refine(zfd (!hz) q w1 hs).mono ?_;rintro e w3 ⟨rfl,rfl⟩;exact⟨rfl,(zfD fun hh=>hs hh.1).symm,HBw.out _ (zlc h.p0 h.p1)⟩
  ·obtain rfl:=sJ ho;clear hL hno
   go_simp;exact hK (zg V 20 _) _ _ (by simp[putAll,zg]) {h with e9:=fun _=>rfl}
  ·obtain rfl:=sJ ho;clear hL hno
   go_simp;exact hK (zg V 21 _) _ _ (by simp[putAll,zg]) {h with e10:=fun _=>rfl}
  ·obtain rfl:=sJ ho;have e9:=h.e9 (hL ⟨9, .data⟩ (by simp) rfl)
   have e10:=h.e10 (hL ⟨10, .data⟩ (by simp) rfl)
   clear hL hno
   go_simp;exact hK (zg V 22 _) _ _ (by simp[putAll,zg,e9,e10]) {h with e11:=fun _=>rfl}
  ·obtain rfl:=sJ ho;have e11:=h.e11 (hL ⟨11, .data⟩ (by simp) rfl)
   clear hL hno
   go_simp;by_cases hs:sOk false r
   ·refine(zeN false r w1 hs).mono ?_;rintro e w3 ⟨rfl,rfl⟩;refine hK (zg V 23 (.int .i64 r)) _ _ (by simp[putAll,zg,e11];rfl) ?_
    exact{h with c12:=fun _=>⟨hs,rfl⟩}
   ·refine(zfd false r w1 hs).mono ?_;rintro e w3 ⟨rfl,rfl⟩;exact⟨rfl,(zfD fun hh=>hs hh.2).symm,HBw.out _ (zlc h.p0 h.p1)⟩
  ·obtain rfl:=sJ ho;obtain⟨-,e8⟩:=h.c8 (hL ⟨8, .data⟩ (by simp) rfl)
   obtain⟨-,e12⟩:=h.c12 (hL ⟨12, .data⟩ (by simp) rfl)
   clear hL hno
   go_simp;exact hK (zg V 24 _) _ _ (by simp[putAll,zg,e8,e12]) {h with e13:=fun _=>rfl}
  ·obtain rfl:=sJ ho;have e13:=h.e13 (hL ⟨13, .data⟩ (by simp) rfl)
   clear hL hno;obtain⟨d,hd⟩:=h.p0 hi;have kb:Blk w1 B 87 #[.int .i64 0, .int .i64 0]:=by subst hd;exact HK.out
   have hbb:Below B W0 w1:=(h.p0 hi).below _
   have f0:=kb.cell 0;have f1:=kb.cell 1;have z0:=kb.frozen 0;have z1:=kb.frozen 1;simp at f0 f1;have kb2:=(kb.set 0 (.int .i64 (za8 (!hz) q))).set 1 (.int .i64 r);have bb2:=(hbb.setCell (p:=⟨B,0,none⟩) lR_ (.int .i64 (za8 (!hz) q))).setCell (p:=⟨B,1,none⟩) lR_ (.int .i64 r);simp at kb2;clear kb hbb hd
   go_simp;refine hK V _ _ (by simp[putAll,e13]) ?_
   exact{h with p0:=fun hn=>(by cases hn),p1:=fun _=>⟨bb2,kb2⟩}
  ·simp at ho
 ·clear hI0;intro L V w6 hL h;obtain⟨bw,kw⟩:=h.p1 (hL 14 (by simp))
  obtain⟨s8,-⟩:=h.c8 (hL 8 (by simp))
  obtain⟨s12,-⟩:=h.c12 (hL 12 (by simp))
  have c0:=kw.cell 0;have c1:=kw.cell 1;simp at c0 c1;simp only[putAll,zi,zj,zc,ze,zd];clear h hL kw
  go_wp2_with fail;exact bodyPost_ret (v:= .agg #[.int .i64 (za8 (!hz) q), .int .i64 r]) (by simp[results, Tryz.results76,go_sem,c0,c1]) rfl ⟨(zgW s8 s12).symm,HBw.out _ bw⟩
theorem zkq(below:Bool)(a b:Nat)(w:World)(ha:a<18446744073709551616)(hb:b<18446744073709551616)(hb0:0<b):
  Calls Tryz.prog 76 #[.bool below, .int .u64 a, .int .u64 b] w fun e w'=>e=lowE (below&&decide (a≠0)) (a/Nat.gcd a b) (b/Nat.gcd a b)∧Below w.heap.size w w':=by
 have hg:0<Nat.gcd a b:=Nat.gcd_pos_of_pos_right _ hb0
 have haz:((a:Int) !=0)=!(decide (a=0)):=by
  by_cases h:a=0
  ·simp[h]
  ·simp[h]
 have e:decide (a≠0)=!(decide (a=0)):=by by_cases h:a=0<;>simp[h]
 rw[e];cases below with
 |false=>exact zmw a b (Nat.gcd a b) _ _ (decide (a=0)) w (fun w=>zfo a b ha hb w) haz (zbJ _ _).symm (zbJ _ _).symm (by omega) (zdq _ (zct (zaN _ _) ha)) (zdq _ (zct (zaN _ _) hb))
 |true=>exact znU a b (Nat.gcd a b) _ _ (decide (a=0)) w (fun w=>zfo a b ha hb w) haz (zbJ _ _).symm (zbJ _ _).symm (by omega) (zdq _ (zct (zaN _ _) ha)) (zdq _ (zct (zaN _ _) hb))
end Go.Proofs.YtpmlljbebdidgaaGreatDoor
namespace Go.Proofs.YtpmlljbebdidgaaGreatDoor
structure Fr where
  n : Int
  d : Int
def Fr.valid (f : Fr) : Bool := zdH f.n f.d
def Fr.fit (f : Fr) : Prop := fits f.n ∧ fits f.d
theorem Fr.ext_ {f g : Fr} (h : f.n = g.n) (h' : f.d = g.d) : f = g := by cases f; cases g; simp at h h'; subst h h'; rfl
def ze8 (n d : Int) : Fr × Int := if d = 0 then (⟨0, 0⟩, 20) else if (okB (newN n d) && okB (newD n d)) = true then (⟨newN n d, newD n d⟩, 0) else (⟨0, 0⟩, 4)
def mul2 (a b : Fr) : Fr := ⟨newN a.n b.d * newN b.n a.d, newD a.n b.d * newD b.n a.d⟩
def zds (a : Fr) : List Fr → Fr × Int
  | [] => (a, 0)
  | x :: xs => if (okB (mul2 a x).n && okB (mul2 a x).d) = true then zds (mul2 a x) xs else (⟨0, 0⟩, 4)
def mulR (fs : List Fr) : Fr × Int := if fs.all Fr.valid = true then zds ⟨1, 1⟩ fs else (⟨0, 0⟩, 1)
theorem Fr.pos {f : Fr} (h : f.valid = true) : 0 < f.d := (zbV.1 h).1
theorem Fr.cop {f : Fr} (h : f.valid = true) : Nat.Coprime f.n.natAbs f.d.natAbs := (zbV.1 h).2
theorem zfV {a b : Fr} (ha : a.valid = true) (hb : b.valid = true) : (mul2 a b).n * (a.d * b.d) = a.n * b.n * (mul2 a b).d := by
  have h1 := zgn (n := a.n) (d := b.d) (by have := Fr.pos hb; omega)
  have h2 := zgn (n := b.n) (d := a.d) (by have := Fr.pos ha; omega)
  show newN a.n b.d * newN b.n a.d * (a.d * b.d) = a.n * b.n * (newD a.n b.d * newD b.n a.d)
  calc newN a.n b.d * newN b.n a.d * (a.d * b.d) = newN a.n b.d * b.d * (newN b.n a.d * a.d) := by
        rw [zce a.d b.d, ← zam, zam (newN a.n b.d), zce (newN b.n a.d) b.d, ← zam, zam]
    _ = a.n * newD a.n b.d * (b.n * newD b.n a.d) := by rw [h1, h2]
    _ = a.n * b.n * (newD a.n b.d * newD b.n a.d) := by
        rw [zam, ← zam (newD a.n b.d), zce (newD a.n b.d) b.n, zam b.n, ← zam]
theorem zd5 {a b : Fr} (ha : a.valid = true) (hb : b.valid = true) : (mul2 a b).valid = true := by
  have pa := Fr.pos ha;have pb := Fr.pos hb;refine zbV.2 ⟨zb2 (zfU (by omega)) (zfU (by omega)), ?_⟩
  show Nat.gcd (newN a.n b.d * newN b.n a.d).natAbs (newD a.n b.d * newD b.n a.d).natAbs = 1
  rw [Int.natAbs_mul, Int.natAbs_mul];have c1 : Nat.Coprime (newN a.n b.d).natAbs (newD a.n b.d).natAbs := (zbV.1 (zgm (by omega))).2
  have c2 : Nat.Coprime (newN b.n a.d).natAbs (newD b.n a.d).natAbs := (zbV.1 (zgm (by omega))).2
  have dv : ∀ n d : Int, (newN n d).natAbs ∣ n.natAbs ∧ (newD n d).natAbs ∣ d.natAbs := fun n d => by
    rw [zji, zjj]; exact ⟨Nat.div_dvd_of_dvd (zbI _ _), Nat.div_dvd_of_dvd (zbC _ _)⟩
  have c3 : Nat.Coprime (newN a.n b.d).natAbs (newD b.n a.d).natAbs := ((Fr.cop ha).coprime_dvd_left (dv _ _).1).coprime_dvd_right (dv _ _).2
  have c4 : Nat.Coprime (newN b.n a.d).natAbs (newD a.n b.d).natAbs := ((Fr.cop hb).coprime_dvd_left (dv _ _).1).coprime_dvd_right (dv _ _).2
  exact Nat.Coprime.mul_left (Nat.Coprime.mul_right c1 c3) (Nat.Coprime.mul_right c4 c2)
theorem Fr.uniq {f g : Fr} (hf : f.valid = true) (hg : g.valid = true) (h : f.n * g.d = g.n * f.d) : f = g := by
  obtain ⟨h1, h2⟩ := zld hf hg h;exact Fr.ext_ h1 h2
end Go.Proofs.YtpmlljbebdidgaaGreatDoor
namespace Go.Proofs.YtpmlljbebdidgaaGreatDoor
open Go.RowKit
theorem zfp{P:Program}{f:FuncId}{args:Array Value}{w:World}{n:Nat}{v:Value}
  (h:Calls P f args (w.drewN n) fun e w'=>e= .returned v∧Drawn (w.drewN n) w'):Calls P f args (w.drewN n) fun e w''=>e= .returned v∧∃m,w''=w.drewN m:=
 h.mono fun _ _ ⟨he,m,hm⟩=>⟨he,n+m,by rw[hm,World.drewN_drewN]⟩
theorem zdZ{x:Int}(h:fits x):x.natAbs<18446744073709551616:=by unfold fits at h;omega
theorem zmx(n d:Int)(w:World)(hn:fits n)(hd:fits d):
  Calls Tryz.prog 93 #[.agg #[.int .i64 n, .int .i64 d]] w fun e w'=>e= .returned (.bool (zdH n d))∧Below w.heap.size w w':=by
 have b0:Below w.heap.size w (w.alloc (.cells #[.int .i64 n, .int .i64 d] 87)):=(zm _ _).alloc lR_ _
 have hna:=zdZ hn;have hda:=zdZ hd;by_cases h0:d>0
 ·have h0d:decide (d>0)=true:=decide_eq_true h0
  obtain⟨g,hg⟩:∃g,Nat.gcd n.natAbs d.natAbs=g:=⟨_,rfl⟩;have hv:zdH n d=((g:Int)==1):=by
   rw[zav,zbV,hg];simp;omega
  rw[hv];have hcom:=fun w=>zfo n.natAbs d.natAbs hna hda w
  rw[hg]at hcom;clear hg hv h0
  go_enter Tryz.func93, Tryz.ntmps93
  go_wp2_with fail
  go_quiet ((first|(go_at_call 77;exact zbU (zcN _ _ hn))|(go_at_call 77;exact zbU (zcN _ _ hd))|(go_at_call 91;exact zfp (hcom _))))
  go_wp2_with fail
  go_ret;exact⟨rfl,zcz b0 _⟩
 ·have h0d:decide (d>0)=false:=decide_eq_false h0
  have hv:zdH n d=false:=by unfold zdH;simp;omega
  rw[hv];clear hv h0
  go_enter Tryz.func93, Tryz.ntmps93
  go_wp2_with fail
  go_quiet (fail)
  go_wp2_with fail
  go_ret;exact⟨rfl,zcz b0 _⟩
def Fr.cells(f:Fr):List Value:=[.int .i64 f.n, .int .i64 f.d]
def zbg(fs:List Fr):List Value:=fs.flatMap Fr.cells
theorem zdG(f:Fr)(fs:List Fr):zbg (f::fs)=f.cells++zbg fs:=rfl
theorem zf3(fs:List Fr):(zbg fs).length=fs.length*2:=by
 induction fs with
 |nil=>rfl
 |cons a fs ih=>rw[zdG,zx,ih,zaG];simp[Fr.cells];omega
theorem zgl(fs:List Fr):∀(k:Nat) (a:Fr),fs[k]?=some a→∀j u,a.cells[j]?=some u→(zbg fs)[k*2+j]?=some u:=by
 induction fs with
 |nil=>intro k a h;simp at h
 |cons b fs ih=>
  intro k a h j u hu;rw[zdG]
  match k,h with
  |0,h=>
   simp at h
   subst h;have hj:j<b.cells.length:=(zu.1 hu).1;rw[zbA,zaq,zar hj];exact hu
  |k+1,h=>
   rw[zO (by simp[Fr.cells];omega)]
   have e:(k+1)*2+j-b.cells.length=k*2+j:=by simp[Fr.cells];omega
   rw[e];exact ih k a (by simpa using h) j u hu
theorem Rd.fr{w:World}{B:Nat}{A:Option Addr}{fs:List Fr}{k:Nat}(h:Rd w B A (zbg fs))(hx:∀a∈fs,a.fit)(hk:k<fs.length):
  ∃b off a,A=some ⟨b,off,none⟩∧b<B∧a.fit∧w.cell? ⟨b,off+k*2,none⟩=some (.int .i64 a.n)∧w.cell? ⟨b,off+k*2+1,none⟩=some (.int .i64 a.d)∧Hid (fs.drop k=a::fs.drop (k+1))∧Hid (fs[k]?=some a):=by
 rcases h with h|⟨b,off,ha,hb,hc⟩
 ·have:=zf3 fs;rw[h]at this;simp at this;omega
 ·have hg:fs[k]?=some fs[k]:=zk hk
  have at_:∀j u,fs[k].cells[j]?=some u→w.cell? ⟨b,off+(k*2+j),none⟩=some u:=fun j u hu'=>hc (k*2+j) u (zgl fs k fs[k] hg j u hu')
  refine⟨b,off,fs[k],ha,hb,hx _ (zaF _),?_,?_,zah hk,hg⟩
  ·have:=at_ 0 _ rfl;simpa [za4]using this
  ·have:=at_ 1 _ rfl;simpa [za4]using this
theorem zjf(f:Fr)(w:World)(hf:f.fit):Calls Tryz.prog 93 #[.agg #[.int .i64 f.n, .int .i64 f.d]] w fun e w'=>e= .returned (.bool f.valid)∧Below w.heap.size w w':=zmx f.n f.d w hf.1 hf.2
theorem zmy(fs:List Fr)(A:Option Addr)(l c:Nat)(w:World)(hl:fs.length=l)(hx:∀a∈fs,a.fit)(hr:Rd w w.heap.size A (zbg fs))(hm:l≤maxLen):
  Calls Tryz.prog 78 #[.slice A l c] w fun e w'=>e= .returned (.bool (fs.all Fr.valid))∧Below w.heap.size w w':=by
 subst hl;unfold maxLen at hm
 go_enter Tryz.func78, Tryz.ntmps78
 go_wp2_with fail
 go_loopw [7] (fun i wr=>∃k:Nat,k≤fs.length∧i= .int .i64 k∧Below w.heap.size w wr∧Hid (fs.all Fr.valid=(fs.drop k).all Fr.valid)) (fun i _=>fs.length-(intOf i).toNat)
 case atStart=>exact⟨0,zJ _,rfl,zm _ _,rfl⟩
 case round=>
  obtain⟨k,hk,rfl,hb,He⟩:=hrel;by_cases hlt:k<fs.length
  ·obtain⟨b,off,a,rfl,hbl,hf,c0,c1,hd,-⟩:=(hr.below hb lR_).fr hx hlt;have b1:=hb.alloc hb.size (.cells #[.int .i64 a.n, .int .i64 a.d] 87);have k1:=Blk.new wr _ rfl 87 #[.int .i64 a.n, .int .i64 a.d];have hz1:(wr.alloc (.cells #[.int .i64 a.n, .int .i64 a.d] 87)).heap.size=wr.heap.size+1:=by simp
   have hsz:=hb.size;have d0:=k1.cellL 0 rfl;have d1:=k1.cellL 1 rfl;cases hv:a.valid with
   |false=>
    have Hn:Hid (fs.all Fr.valid=false):=by unfold Hid;rw[He.out,hd.out];simp[hv]
    have vc:=fun w=>zjf a w hf
    rw[hv]at vc;clear hd He hv k1
    go_wp2_with (go_at_call 93;refine(vc _).mono ?_;rintro e w' ⟨rfl,hb2⟩)
    go_ret;exact⟨by rw[Hn.out];rfl,b1.trans (hb2.mono (by omega))⟩
   |true=>
    have Hn:Hid (fs.all Fr.valid=(fs.drop (k+1)).all Fr.valid):=by unfold Hid;rw[He.out,hd.out];simp[hv]
    have vc:=fun w=>zjf a w hf
    rw[hv]at vc;clear hd He hv k1
    go_wp2_with (go_at_call 93;refine(vc _).mono ?_;rintro e w' ⟨rfl,hb2⟩)
    go_roundw
    case rel=>exact⟨k+1,by omega,by go_num,b1.trans (hb2.mono (by omega)),Hn⟩
    case measure=>simp[intOf];omega
  ·have hd:fs.drop k=[]:=zS (by omega)
   have Hn:Hid (fs.all Fr.valid=true):=by unfold Hid;rw[He.out,hd];rfl
   clear hd He
   go_wp2_with fail
   go_ret;exact⟨by rw[Hn.out];rfl,hb⟩
def bt(s:ByteArray)(k:Nat):Int:=if h:k<s.size then((s[k]'h).toNat:Int)else 0
theorem zma(s:ByteArray):∀(n:Nat) (h:n<s.size),((s[n]'h).toNat:Int)=bt s n:=fun n h=>by unfold bt;rw[dif_pos h]
def letB(b:Int):Bool:=decide (97≤b)&&decide (b≤122)
def digB(b:Int):Bool:=decide (48≤b)&&decide (b≤57)
def insB(b:Int):Bool:=letB b||digB b||decide (b=95)
def insTo(s:ByteArray):Nat→Nat→Nat
 |0,k=>k
 |f+1,k=>if k<s.size∧insB (bt s k)=true then insTo s f (k+1)else k
def nameB(s:ByteArray):Bool:=letB (bt s 0)&&decide (insTo s s.size 0=s.size)&&decide (s.size≤16)
theorem zhd(b:Int)(w:World):Calls Tryz.prog 97 #[.int .u8 b] w fun e w'=>e= .returned (.bool (letB b))∧w=w':=by
 unfold letB;by_cases h1:97≤b
 ·by_cases h2:b≤122
  ·go_enter Tryz.func97, Tryz.ntmps97
   go_wp2
   go_ret
   first|(simp;omega)|omega
  ·go_enter Tryz.func97, Tryz.ntmps97
   go_wp2
   go_ret
   first|(simp;omega)|omega
 ·go_enter Tryz.func97, Tryz.ntmps97
  go_wp2
  go_ret
  first|(simp;omega)|omega
theorem digit_any(b:Int)(w:World):Calls Tryz.prog 103 #[.int .u8 b] w fun e w'=>e= .returned (.bool (digB b))∧w=w':=by
 unfold digB;by_cases h1:48≤b
 ·by_cases h2:b≤57
  ·go_enter Tryz.func103, Tryz.ntmps103
   go_wp2
   go_ret
   first|(simp;omega)|omega
  ·go_enter Tryz.func103, Tryz.ntmps103
   go_wp2
   go_ret
   first|(simp;omega)|omega
 ·go_enter Tryz.func103, Tryz.ntmps103
  go_wp2
  go_ret
  first|(simp;omega)|omega
theorem inside_any(b:Int)(w:World):Calls Tryz.prog 100 #[.int .u8 b] w fun e w'=>e= .returned (.bool (insB b))∧w=w':=by
 unfold insB;obtain⟨x,hx⟩:∃x,letB b=x:=⟨_,rfl⟩;obtain⟨y,hy⟩:∃y,digB b=y:=⟨_,rfl⟩;rw[hx,hy];have Hx:=Lh hx;have Hy:=Lh hy;clear hx hy
 go_enter Tryz.func100, Tryz.ntmps100
 go_wp2_with fail;refine(zhd b w).mono ?_
 rintro e w1 ⟨rfl,hw1⟩;subst hw1;rw[Hx.out];cases x with
 |true=>
  go_wp2_with fail
  go_ret;simp
 |false=>
  go_wp2_with fail;refine(digit_any b w).mono ?_
  rintro e w2 ⟨rfl,hw2⟩;subst hw2;rw[Hy.out];cases y with
  |true=>
   go_wp2_with fail
   go_ret;simp
  |false=>
   go_wp2_with fail
   go_ret;by_cases h:b=95<;>simp[h]
theorem ziU(g:Nat)(s:ByteArray)(k:Nat)(w:World)(h0:w.cell? ⟨g,0,none⟩=some (.string s))(h1:w.cell? ⟨g,1,none⟩=some (.int .i64 k)):
  Calls Tryz.prog 102 #[.pointer (some ⟨g,0,none⟩)] w fun e w'=>e= .returned (.bool (decide (k<s.size)))∧Drawn w w':=by
 go_enter Tryz.func102, Tryz.ntmps102
 go_wp2
 go_region
 go_wp2
 go_ret;exact⟨rfl,(Drawn.refl w).drewN 1⟩
theorem znD(g:Nat)(s:ByteArray)(w:World)(h0:w.cell? ⟨g,0,none⟩=some (.string s))(h1:w.cell? ⟨g,1,none⟩=some (.int .i64 0)):
  Calls Tryz.prog 98 #[.pointer (some ⟨g,0,none⟩), .int .i64 0] w fun e w'=>e= .returned (.int .u8 (bt s 0))∧Drawn w w':=by
 have hb:=zma s;by_cases hs:0<s.size
 ·have hs2:decide ((s.size:Int)≤0)=false:=decide_eq_false (by omega)
  have hs3:(0:Int)<(s.size:Int):=by omega
  have hs4:¬s=ByteArray.empty:=fun h=>by rw[h]at hs;simp at hs
  go_enter Tryz.func98, Tryz.ntmps98
  go_wp2
  go_region
  go_wp2
  go_region
  go_wp2
  go_ret;exact⟨rfl,(Drawn.refl w).drewN 2⟩
 ·have hs2:s.size=0:=by omega
  have hs3:bt s 0=0:=by unfold bt;rw[dif_neg hs]
  rw[hs3];have hs4:s=ByteArray.empty:=ByteArray.size_eq_zero_iff.1 hs2;subst hs4
  go_enter Tryz.func98, Tryz.ntmps98
  go_wp2
  go_region
  go_wp2
  go_ret;exact⟨rfl,(Drawn.refl w).drewN 1⟩
theorem ziV(s:ByteArray):∀f k,k≤s.size→insTo s f k≤s.size:=by
 intro f
 induction f with
 |zero=>intro k hk;exact hk
 |succ f ih=>
  intro k hk;simp only[insTo];split
  ·exact ih _ (by omega)
  ·exact hk
theorem zkQ(s:ByteArray){k:Nat}(hk:k<s.size):insTo s (s.size-k) k=if insB (bt s k)=true then insTo s (s.size-(k+1)) (k+1)else k:=by
 rw[show s.size-k=(s.size-(k+1))+1 by omega]
 simp only[insTo];by_cases h:insB (bt s k)=true
 ·rw[if_pos ⟨hk,h⟩,if_pos h]
 ·rw[if_neg (fun hc=>h hc.2),if_neg h]
theorem zmb(g:Nat)(s:ByteArray)(w:World)(hg:Blk w g 231 #[.string s, .int .i64 0])(hs:s.size≤maxLen):
  Calls Tryz.prog 99 #[.pointer (some ⟨g,0,none⟩), .func (.func 100) #[] #[]] w fun e w'=>e= .returned (.string (s.extract 0 (insTo s s.size 0)))∧Below g w w':=by
 have hb:=zma s;unfold maxLen at hs;have g1:=hg.cellL 1 rfl;obtain⟨K,hK⟩:∃K,insTo s s.size 0=K:=⟨_,rfl⟩;have hKl:K≤s.size:=by rw[←hK];exact ziV s _ _ (by omega)
 rw[hK];have HK:=Lh hK;clear hK
 go_enter Tryz.func99, Tryz.ntmps99
 go_wp2_with fail;clear g1
 go_loopg [24] s.size (fun gg _ wr=>∃k:Nat,k≤s.size∧gg=s.size-k∧Blk wr g 231 #[.string s, .int .i64 k]∧Hid (insTo s (s.size-k) k=K)∧Below g w wr)
 case atStart=>exact⟨0,by omega,by omega,hg,HK,zm _ _⟩
 case round=>
  clear hg;obtain⟨k,hk,rfl,hg,hi,hbw⟩:=hrel;have g0:=hg.cellL 0 rfl;have g1:=hg.cellL 1 rfl;by_cases hks:k<s.size
  ·have hst:=zkQ s hks;rw[hi.out]at hst;have h1:(0:Int)≤(k:Int):=by omega
   have h2:(k:Int)<(s.size:Int):=by omega
   obtain⟨b,hbk⟩:∃b,bt s k=b:=⟨_,rfl⟩;obtain⟨r,hr⟩:∃r,insB b=r:=⟨_,rfl⟩;rw[hbk,hr]at hst;have Hst:=Lh hst;have hM:=fun d=>ziU g s k (wr.drewN d) g0 g1
   rw[decide_eq_true hks]at hM;have HM:=Lh hM;have hI:=fun d=>inside_any b (wr.drewN d)
   rw[hr]at hI;have HI:=Lh hI;clear hM hI;have Hr:=Lh hr;clear hst hr hi
   go_wp2_with fail
   go_quiet ((first|(go_at_call 102;exact zfp (HM.out _))|(go_at_call 100;exact zbU (HI.out _))))
   generalize hW2:World.drewN wr _=W2;have kg:Blk W2 g 231 #[.string s, .int .i64 k]:=by rw[←hW2];exact hg
   have b2:Below g w W2:=by rw[←hW2];exact Below.drewN hbw _
   have c0:=kg.cellL 0 rfl;have c1:=kg.cellL 1 rfl;clear hg hbw hW2 g0 g1 HM HI hb;cases r with
   |true=>
    have kn:=kg.set 1 (.int .i64 ((k:Int)+1));simp only[zc,ze,zd]at kn;have b3:=b2.setCell (p:=⟨g,1,none⟩) lR_ (.int .i64 ((k:Int)+1));have f1:=kg.frozen 1;have hw:IntKind.i64.wrap ((k:Int)+1)=(k:Int)+1:=IntWalk.i64_in _ (by omega)
    rw[if_pos rfl]at Hst;have HKN:=Lh kn;clear kn kg b2
    go_wp2_with fail
    go_roundg (s.size-(k+1))
    case measure=>omega
    case rel=>exact⟨k+1,by omega,rfl,HKN.out,Hst.out.symm,b3⟩
   |false=>
    obtain rfl:K=k:=by have:=Hst.out;simpa using this
    have h3:(K:Int)≤(s.size:Int):=by omega
    have h4:(0:Int)≤0:=by omega
    go_wp2_with fail
    go_region
    go_wp2
    go_ret;exact⟨rfl,Below.drewN b2 1⟩
  ·obtain rfl:k=s.size:=by omega
   have hM:=fun d=>ziU g s s.size (wr.drewN d) g0 g1
   rw[decide_eq_false (zc1 _)]at hM;have HM:=Lh hM;clear hM;obtain rfl:K=s.size:=by have:=hi.out;rw[zbp]at this;exact this.symm
   go_wp2_with fail
   go_quiet ((go_at_call 102;exact zfp (HM.out _)))
   generalize hW2:World.drewN wr _=W2;have kg:Blk W2 g 231 #[.string s, .int .i64 s.size]:=by rw[←hW2];exact hg
   have b2:Below g w W2:=by rw[←hW2];exact Below.drewN hbw _
   have c0:=kg.cellL 0 rfl;have c1:=kg.cellL 1 rfl;clear hg hbw hW2 g0 g1 HM hb;have h3:(0:Int)≤(s.size:Int):=by omega
   go_wp2_with fail
   go_region
   go_wp2
   go_ret;exact⟨by rw[ByteArray.extract_zero_size];rfl,Below.drewN b2 1⟩
theorem ziW(s:ByteArray)(w:World)(hs:s.size≤maxLen):
  Calls Tryz.prog 87 #[.string s] w fun e w'=>e= .returned (.bool (nameB s))∧Below w.heap.size w w':=by
 have hnil:=hs;unfold maxLen at hs;obtain⟨B,hB⟩:∃B,w.heap.size=B:=⟨_,rfl⟩;rw[hB];have b1:=(zm B w).alloc (by omega) (.cells #[.string s, .int .i64 0] 231)
 have k1:=Blk.new w B hB.symm 231 #[.string s, .int .i64 0];obtain⟨r1,hr1⟩:∃r,letB (bt s 0)=r:=⟨_,rfl⟩;obtain⟨K,hK⟩:∃K,insTo s s.size 0=K:=⟨_,rfl⟩;have hKl:K≤s.size:=by rw[←hK];exact ziV s _ _ (by omega)
 have hxs:(s.extract 0 K).size=K:=by rw[ByteArray.size_extract];omega
 have hres:nameB s=(r1&&decide (K=s.size)&&decide (s.size≤16)):=by unfold nameB;rw[hr1,hK]
 rw[hres];have Hr1:=Lh hr1;have HK:=Lh hK;clear hr1 hK hres
 go_enter Tryz.func87, Tryz.ntmps87
 go_wp2_with fail;generalize hW1:w.alloc (.cells #[.string s, .int .i64 0] 231)=W1 at*
 have c0:=k1.cellL 0 rfl;have c1:=k1.cellL 1 rfl;refine(znD B s W1 c0 c1).mono ?_;rintro e w2 ⟨rfl,hd2⟩;have k2:=k1.below (hd2.below (B+1)) (by omega)
 have b2:=b1.trans (hd2.below _)
 go_wp2_with fail;refine(zhd (bt s 0) w2).mono ?_
 rintro e w3 ⟨rfl,hw3⟩;subst hw3;rw[Hr1.out];clear c0 c1 hd2 k1 b1 hW1;cases r1 with
 |false=>
  go_wp2_with fail
  go_ret;exact⟨by simp,b2⟩
 |true=>
  go_wp2_with fail;refine(zmb B s w2 k2 hnil).mono ?_
  rintro e w4 ⟨rfl,hb4⟩;rw[HK.out];have b4:=b2.trans hb4;by_cases hKs:K=s.size
  ·subst hKs;have he:((s.size:Int)==(s.size:Int))=true:=by simp
   have hd:decide (((s.extract 0 s.size).size:Int)=(s.size:Int))=true:=by rw[hxs];simp
   by_cases h16:s.size≤16
   ·go_wp2_with fail
    go_ret;exact⟨by simp;omega,b4⟩
   ·go_wp2_with fail
    go_ret;exact⟨by simp;omega,b4⟩
  ·have hd:((K:Int)==(s.size:Int))=false:=by simp;omega
   go_wp2_with fail
   go_ret;exact⟨by simp[hKs],b4⟩
theorem zo7{n:Nat}{a:ArcV}(h:a.ok n):∃(f t:Nat) (g k s:Int),a=⟨f,t,g,k,s⟩∧f<n∧t<n∧1≤g∧g≤64∧1≤k∧k≤64∧0≤s∧s≤256:=by
 obtain⟨f,t,g,k,s⟩:=a;obtain⟨h1,h2,h3,h4,h5⟩:=h;simp only at h1 h2 h3 h4 h5;exact⟨f.toNat,t.toNat,g,k,s,by rw[zbG h1,zbG h3],by omega,by omega,h5⟩
theorem zbK{w:World}{B n g c:Nat}{F:Nat→Int}(h:w.ownsRow B 3 1 (.slice (some ⟨g,0,none⟩) n c) n (cellsI (rowF F n))){j:Nat}(hj:j<n):w.cell? ⟨g,j,none⟩=some (.int .i64 (F j)):=by
 rw[h.cellAt j (by omega)]
 simp only[cellsI,zp,zdu F hj]
 rfl
theorem Only.below{X:Nat→Prop}{w w' w'':World}(h:Only X w w')(hb:Below w'.heap.size w' w''):Only X w w'':=h.trans ((zff hb).mono (fun _ hk hX=>absurd hk (by omega)))
end Go.Proofs.YtpmlljbebdidgaaGreatDoor
