/- Lemmas and walks for the claim: Kb, Kq, Kc. -/
import Derived.Test.YtpmlljbebdidgaaGreatDoorA0
import Derived.Test.YtpmlljbebdidgaaGreatDoorA3
import Derived.Test.YtpmlljbebdidgaaGreatDoorA1
import Derived.Defers
import Derived.Recover
import Derived.Laws.Pointers
set_option maxRecDepth 100000
set_option maxHeartbeats 4000000
namespace Go.Proofs.YtpmlljbebdidgaaGreatDoor
open Go.RowKit
theorem lowB{W0 w:World}{B:Nat}{b:Bool}{K:Prop}(h0:b=false→Drawn W0 w)(h1:b=true→Below B W0 w∧K):Below B W0 w:=by
 cases b with
 |false=>exact(h0 rfl).below _
 |true=>exact(h1 rfl).1
structure LowF(W0:World)(hz:Bool)(a b g q r B:Nat)(L:Nat→Bool)(V:Nat→Value)(w:World):Prop where
 p0:L 14=false→Drawn W0 w
 p1:L 14=true→Below B W0 w∧Blk w B 87 #[.int .i64 (sgnI false q), .int .i64 r]
 c8:L 8=true→sOk false q∧V 19= .int .i64 (sgnI false q)
 c12:L 12=true→sOk false r∧V 23= .int .i64 r
 e13:L 13=true→V 24= .agg #[.int .i64 (sgnI false q), .int .i64 r]
 e0:L 0=true→V 11= .bool false
 e1:L 1=true→V 12= .bool false
 e2:L 2=true→V 13=undef
 e3:L 3=true→V 14=undef
 e4:L 4=true→V 15= .bool false
 e5:L 5=true→V 16= .int .u64 a
 e6:L 6=true→V 17= .int .u64 g
 e7:L 7=true→V 18= .int .u64 q
 e9:L 9=true→V 20= .int .u64 b
 e10:L 10=true→V 21= .int .u64 g
 e11:L 11=true→V 22= .int .u64 r
theorem low_false(a b g q r:Nat)(hz:Bool)(w:World)(hcom:∀w,Calls Tryz.prog 91 #[.int .u64 a, .int .u64 b] w fun e w'=>e= .returned (.int .u64 (g:Nat))∧Drawn w w')
  (_haz:((a:Int) !=0)=!hz) (hqd:(a:Int)/(g:Int)=(q:Int)) (hrd:(b:Int)/(g:Int)=(r:Int)) (hgn:¬g=0) (hwq:IntKind.u64.wrap (q:Int)=q) (hwr:IntKind.u64.wrap (r:Int)=r):
  Calls Tryz.prog 76 #[.bool false, .int .u64 a, .int .u64 b] w fun e w'=>e=lowE false q r∧Below w.heap.size w w':=by
 have HB:Hid (Below w.heap.size w (w.alloc (.cells #[.int .i64 0, .int .i64 0] 87))):=(Below.refl _ _).alloc lR_ _
 have HK0:Hid (Blk (w.alloc (.cells #[.int .i64 0, .int .i64 0] 87)) w.heap.size 87 #[.int .i64 0, .int .i64 0]):=Blk.new w _ rfl _ _
 go_enter Tryz.func76, Tryz.ntmps76
 go_wp2_with (go_at_call 91;refine(hcom _).mono ?_;rintro e w' ⟨rfl,d,rfl⟩)
 obtain⟨B,hB⟩:∃B,w.heap.size=B:=⟨_,rfl⟩;rw[hB]at HB HK0⊢;obtain⟨W0,hW0⟩:∃W0,(w.alloc (.cells #[.int .i64 0, .int .i64 0] 87)).drewN d=W0:=⟨_,rfl⟩
 replace HB:Hid (Below B w W0):=by subst hW0;exact below_drewN HB.out d
 have HK:Hid (Blk W0 B 87 #[.int .i64 0, .int .i64 0]):=by subst hW0;exact HK0.out
 have HBw:Hid (∀w1,Below B W0 w1→Below w.heap.size w w1):=fun w1 h1=>by rw[hB];exact HB.out.trans h1
 rw[hW0];clear HK0 hW0 hcom;have hI0:∀V,LowF W0 hz a b g q r B (fun _=>false) V W0.drew:=fun V=>by
  have h0:Drawn W0 W0.drew:=(Drawn.refl W0).drewN 1
  constructor
  all_goals first
   |exact fun _=>h0
   |(intro h;cases h)
 refine wp_region_put3 [11,12,13,14,15,16,17,18,19,20,21,22,23,24] (LowF W0 hz a b g q r B) (by kernel_rfl) (by kernel_rfl) ?_ ?_ ?_
 ·exact hI0 _
 ·intro i o ho L V w1 hi hL hno h K hK;simp only[putAll,List.foldl_cons,List.foldl_nil,List.setIfInBounds_toArray,List.set_cons_zero,List.set_cons_succ];rcases i with _|_|_|_|_|_|_|_|_|_|_|_|_|_|_|i
  ·obtain rfl:=sJ ho;clear hL hno
   go_simp;exact hK (updV V 11 _) _ _ (by simp[putAll,updV]) {h with e0:=fun _=>rfl}
  ·obtain rfl:=sJ ho;have e0:=h.e0 (hL ⟨0, .data⟩ (by simp) rfl)
   clear hL hno
   go_simp;exact hK (updV V 12 _) _ _ (by simp[putAll,updV,e0]) {h with e1:=fun _=>rfl}
  ·obtain rfl:=sJ ho;have e1:=h.e1 (hL ⟨1, .guard⟩ (by simp) rfl)
   clear hL hno
   go_simp;refine hK (updV V 13 undef) _ _ (by simp[putAll,updV,e1]) ?_
   exact{h with e2:=fun _=>rfl}
  ·obtain rfl:=sJ ho;have e1:=h.e1 (hL ⟨1, .guard⟩ (by simp) rfl)
   clear hL hno
   go_simp;refine hK (updV V 14 undef) _ _ (by simp[putAll,updV,e1]) ?_
   exact{h with e3:=fun _=>rfl}
  ·obtain rfl:=sJ ho;have e1:=h.e1 (hL ⟨1, .data⟩ (by simp) rfl)
   have e3:=h.e3 (hL ⟨3, .data⟩ (by simp) rfl)
   clear hL hno
   go_simp;exact hK (updV V 15 _) _ _ (by simp[putAll,updV,e1,e3]) {h with e4:=fun _=>rfl}
  ·obtain rfl:=sJ ho;clear hL hno
   go_simp;exact hK (updV V 16 _) _ _ (by simp[putAll,updV]) {h with e5:=fun _=>rfl}
  ·obtain rfl:=sJ ho;clear hL hno
   go_simp;exact hK (updV V 17 _) _ _ (by simp[putAll,updV]) {h with e6:=fun _=>rfl}
  ·obtain rfl:=sJ ho;have e5:=h.e5 (hL ⟨5, .data⟩ (by simp) rfl)
   have e6:=h.e6 (hL ⟨6, .data⟩ (by simp) rfl)
   clear hL hno
   go_simp;exact hK (updV V 18 _) _ _ (by simp[putAll,updV,e5,e6]) {h with e7:=fun _=>rfl}
  ·obtain rfl:=sJ ho;have e4:=h.e4 (hL ⟨4, .data⟩ (by simp) rfl)
   have e7:=h.e7 (hL ⟨7, .data⟩ (by simp) rfl)
   clear hL hno
   go_simp;by_cases hs:sOk false q
   ·refine(signed_yes false q w1 hs).mono ?_;rintro e w3 ⟨rfl,rfl⟩;refine hK (updV V 19 (.int .i64 (sgnI false q))) _ _ (by simp[putAll,updV,e4,e7]) ?_
    exact{h with c8:=fun _=>⟨hs,rfl⟩}
   ·refine(signed_no false q w1 hs).mono ?_;rintro e w3 ⟨rfl,rfl⟩;exact⟨rfl,(lowE_no fun hh=>hs hh.1).symm,HBw.out _ (lowB h.p0 h.p1)⟩
  ·obtain rfl:=sJ ho;clear hL hno
   go_simp;exact hK (updV V 20 _) _ _ (by simp[putAll,updV]) {h with e9:=fun _=>rfl}
  ·obtain rfl:=sJ ho;clear hL hno
   go_simp;exact hK (updV V 21 _) _ _ (by simp[putAll,updV]) {h with e10:=fun _=>rfl}
  ·obtain rfl:=sJ ho;have e9:=h.e9 (hL ⟨9, .data⟩ (by simp) rfl)
   have e10:=h.e10 (hL ⟨10, .data⟩ (by simp) rfl)
   clear hL hno
   go_simp;exact hK (updV V 22 _) _ _ (by simp[putAll,updV,e9,e10]) {h with e11:=fun _=>rfl}
  ·obtain rfl:=sJ ho;have e11:=h.e11 (hL ⟨11, .data⟩ (by simp) rfl)
   clear hL hno
   go_simp;by_cases hs:sOk false r
   ·refine(signed_yes false r w1 hs).mono ?_;rintro e w3 ⟨rfl,rfl⟩;refine hK (updV V 23 (.int .i64 r)) _ _ (by simp[putAll,updV,e11];rfl) ?_
    exact{h with c12:=fun _=>⟨hs,rfl⟩}
   ·refine(signed_no false r w1 hs).mono ?_;rintro e w3 ⟨rfl,rfl⟩;exact⟨rfl,(lowE_no fun hh=>hs hh.2).symm,HBw.out _ (lowB h.p0 h.p1)⟩
  ·obtain rfl:=sJ ho;obtain⟨-,e8⟩:=h.c8 (hL ⟨8, .data⟩ (by simp) rfl)
   obtain⟨-,e12⟩:=h.c12 (hL ⟨12, .data⟩ (by simp) rfl)
   clear hL hno
   go_simp;exact hK (updV V 24 _) _ _ (by simp[putAll,updV,e8,e12]) {h with e13:=fun _=>rfl}
  ·obtain rfl:=sJ ho;have e13:=h.e13 (hL ⟨13, .data⟩ (by simp) rfl)
   clear hL hno;obtain⟨d,hd⟩:=h.p0 hi;have kb:Blk w1 B 87 #[.int .i64 0, .int .i64 0]:=by subst hd;exact HK.out
   have hbb:Below B W0 w1:=(h.p0 hi).below _
   have f0:=kb.cell 0;have f1:=kb.cell 1;have z0:=kb.frozen 0;have z1:=kb.frozen 1;simp at f0 f1;have kb2:=(kb.set 0 (.int .i64 (sgnI false q))).set 1 (.int .i64 r);have bb2:=(hbb.setCell (p:=⟨B,0,none⟩) lR_ (.int .i64 (sgnI false q))).setCell (p:=⟨B,1,none⟩) lR_ (.int .i64 r);simp at kb2;clear kb hbb hd
   go_simp;refine hK V _ _ (by simp[putAll,e13]) ?_
   exact{h with p0:=fun hn=>(by cases hn),p1:=fun _=>⟨bb2,kb2⟩}
  ·simp at ho
 ·clear hI0;intro L V w6 hL h;obtain⟨bw,kw⟩:=h.p1 (hL 14 (by simp))
  obtain⟨s8,-⟩:=h.c8 (hL 8 (by simp))
  obtain⟨s12,-⟩:=h.c12 (hL 12 (by simp))
  have c0:=kw.cell 0;have c1:=kw.cell 1;simp at c0 c1;simp only[putAll,List.foldl_cons,List.foldl_nil,List.setIfInBounds_toArray,List.set_cons_zero,List.set_cons_succ];clear h hL kw
  go_wp2_with fail;exact bodyPost_ret (v:= .agg #[.int .i64 (sgnI false q), .int .i64 r]) (by simp[results, Tryz.results76,go_sem,c0,c1]) rfl ⟨(lowE_yes s8 s12).symm,HBw.out _ bw⟩
structure LowT(W0:World)(hz:Bool)(a b g q r B:Nat)(L:Nat→Bool)(V:Nat→Value)(w:World):Prop where
 p0:L 14=false→Drawn W0 w
 p1:L 14=true→Below B W0 w∧Blk w B 87 #[.int .i64 (sgnI (!hz) q), .int .i64 r]
 c8:L 8=true→sOk (!hz) q∧V 19= .int .i64 (sgnI (!hz) q)
 c12:L 12=true→sOk false r∧V 23= .int .i64 r
 e13:L 13=true→V 24= .agg #[.int .i64 (sgnI (!hz) q), .int .i64 r]
 e0:L 0=true→V 11= .bool true
 e1:L 1=true→V 12= .bool true
 e2:L 2=true→V 13= .int .u64 a
 e3:L 3=true→V 14= .bool (!hz)
 e4:L 4=true→V 15= .bool (!hz)
 e5:L 5=true→V 16= .int .u64 a
 e6:L 6=true→V 17= .int .u64 g
 e7:L 7=true→V 18= .int .u64 q
 e9:L 9=true→V 20= .int .u64 b
 e10:L 10=true→V 21= .int .u64 g
 e11:L 11=true→V 22= .int .u64 r
theorem low_true(a b g q r:Nat)(hz:Bool)(w:World)(hcom:∀w,Calls Tryz.prog 91 #[.int .u64 a, .int .u64 b] w fun e w'=>e= .returned (.int .u64 (g:Nat))∧Drawn w w')
  (haz:((a:Int) !=0)=!hz) (hqd:(a:Int)/(g:Int)=(q:Int)) (hrd:(b:Int)/(g:Int)=(r:Int)) (hgn:¬g=0) (hwq:IntKind.u64.wrap (q:Int)=q) (hwr:IntKind.u64.wrap (r:Int)=r):
  Calls Tryz.prog 76 #[.bool true, .int .u64 a, .int .u64 b] w fun e w'=>e=lowE (!hz) q r∧Below w.heap.size w w':=by
 have HB:Hid (Below w.heap.size w (w.alloc (.cells #[.int .i64 0, .int .i64 0] 87))):=(Below.refl _ _).alloc lR_ _
 have HK0:Hid (Blk (w.alloc (.cells #[.int .i64 0, .int .i64 0] 87)) w.heap.size 87 #[.int .i64 0, .int .i64 0]):=Blk.new w _ rfl _ _
 go_enter Tryz.func76, Tryz.ntmps76
 go_wp2_with (go_at_call 91;refine(hcom _).mono ?_;rintro e w' ⟨rfl,d,rfl⟩)
 obtain⟨B,hB⟩:∃B,w.heap.size=B:=⟨_,rfl⟩;rw[hB]at HB HK0⊢;obtain⟨W0,hW0⟩:∃W0,(w.alloc (.cells #[.int .i64 0, .int .i64 0] 87)).drewN d=W0:=⟨_,rfl⟩
 replace HB:Hid (Below B w W0):=by subst hW0;exact below_drewN HB.out d
 have HK:Hid (Blk W0 B 87 #[.int .i64 0, .int .i64 0]):=by subst hW0;exact HK0.out
 have HBw:Hid (∀w1,Below B W0 w1→Below w.heap.size w w1):=fun w1 h1=>by rw[hB];exact HB.out.trans h1
 rw[hW0];clear HK0 hW0 hcom;have hI0:∀V,LowT W0 hz a b g q r B (fun _=>false) V W0.drew:=fun V=>by
  have h0:Drawn W0 W0.drew:=(Drawn.refl W0).drewN 1
  constructor
  all_goals first
   |exact fun _=>h0
   |(intro h;cases h)
 refine wp_region_put3 [11,12,13,14,15,16,17,18,19,20,21,22,23,24] (LowT W0 hz a b g q r B) (by kernel_rfl) (by kernel_rfl) ?_ ?_ ?_
 ·exact hI0 _
 ·intro i o ho L V w1 hi hL hno h K hK;simp only[putAll,List.foldl_cons,List.foldl_nil,List.setIfInBounds_toArray,List.set_cons_zero,List.set_cons_succ];rcases i with _|_|_|_|_|_|_|_|_|_|_|_|_|_|_|i
  ·obtain rfl:=sJ ho;clear hL hno
   go_simp;exact hK (updV V 11 _) _ _ (by simp[putAll,updV]) {h with e0:=fun _=>rfl}
  ·obtain rfl:=sJ ho;have e0:=h.e0 (hL ⟨0, .data⟩ (by simp) rfl)
   clear hL hno
   go_simp;exact hK (updV V 12 _) _ _ (by simp[putAll,updV,e0]) {h with e1:=fun _=>rfl}
  ·obtain rfl:=sJ ho;have e1:=h.e1 (hL ⟨1, .guard⟩ (by simp) rfl)
   clear hL hno
   go_simp;exact hK (updV V 13 _) _ _ (by simp[putAll,updV,e1]) {h with e2:=fun _=>rfl}
  ·obtain rfl:=sJ ho;have e1:=h.e1 (hL ⟨1, .guard⟩ (by simp) rfl)
   have e2:=h.e2 (hL ⟨2, .data⟩ (by simp) rfl)
   clear hL hno
   go_simp;exact hK (updV V 14 _) _ _ (by simp[putAll,updV,e1,e2]) {h with e3:=fun _=>rfl}
  ·obtain rfl:=sJ ho;have e1:=h.e1 (hL ⟨1, .data⟩ (by simp) rfl)
   have e3:=h.e3 (hL ⟨3, .data⟩ (by simp) rfl)
   clear hL hno
   go_simp;exact hK (updV V 15 _) _ _ (by simp[putAll,updV,e1,e3]) {h with e4:=fun _=>rfl}
  ·obtain rfl:=sJ ho;clear hL hno
   go_simp;exact hK (updV V 16 _) _ _ (by simp[putAll,updV]) {h with e5:=fun _=>rfl}
  ·obtain rfl:=sJ ho;clear hL hno
   go_simp;exact hK (updV V 17 _) _ _ (by simp[putAll,updV]) {h with e6:=fun _=>rfl}
  ·obtain rfl:=sJ ho;have e5:=h.e5 (hL ⟨5, .data⟩ (by simp) rfl)
   have e6:=h.e6 (hL ⟨6, .data⟩ (by simp) rfl)
   clear hL hno
   go_simp;exact hK (updV V 18 _) _ _ (by simp[putAll,updV,e5,e6]) {h with e7:=fun _=>rfl}
  ·obtain rfl:=sJ ho;have e4:=h.e4 (hL ⟨4, .data⟩ (by simp) rfl)
   have e7:=h.e7 (hL ⟨7, .data⟩ (by simp) rfl)
   clear hL hno
   go_simp;by_cases hs:sOk (!hz) q
   ·refine(signed_yes (!hz) q w1 hs).mono ?_;rintro e w3 ⟨rfl,rfl⟩;refine hK (updV V 19 (.int .i64 (sgnI (!hz) q))) _ _ (by simp[putAll,updV,e4,e7]) ?_
    exact{h with c8:=fun _=>⟨hs,rfl⟩}
   ·refine(signed_no (!hz) q w1 hs).mono ?_;rintro e w3 ⟨rfl,rfl⟩;exact⟨rfl,(lowE_no fun hh=>hs hh.1).symm,HBw.out _ (lowB h.p0 h.p1)⟩
  ·obtain rfl:=sJ ho;clear hL hno
   go_simp;exact hK (updV V 20 _) _ _ (by simp[putAll,updV]) {h with e9:=fun _=>rfl}
  ·obtain rfl:=sJ ho;clear hL hno
   go_simp;exact hK (updV V 21 _) _ _ (by simp[putAll,updV]) {h with e10:=fun _=>rfl}
  ·obtain rfl:=sJ ho;have e9:=h.e9 (hL ⟨9, .data⟩ (by simp) rfl)
   have e10:=h.e10 (hL ⟨10, .data⟩ (by simp) rfl)
   clear hL hno
   go_simp;exact hK (updV V 22 _) _ _ (by simp[putAll,updV,e9,e10]) {h with e11:=fun _=>rfl}
  ·obtain rfl:=sJ ho;have e11:=h.e11 (hL ⟨11, .data⟩ (by simp) rfl)
   clear hL hno
   go_simp;by_cases hs:sOk false r
   ·refine(signed_yes false r w1 hs).mono ?_;rintro e w3 ⟨rfl,rfl⟩;refine hK (updV V 23 (.int .i64 r)) _ _ (by simp[putAll,updV,e11];rfl) ?_
    exact{h with c12:=fun _=>⟨hs,rfl⟩}
   ·refine(signed_no false r w1 hs).mono ?_;rintro e w3 ⟨rfl,rfl⟩;exact⟨rfl,(lowE_no fun hh=>hs hh.2).symm,HBw.out _ (lowB h.p0 h.p1)⟩
  ·obtain rfl:=sJ ho;obtain⟨-,e8⟩:=h.c8 (hL ⟨8, .data⟩ (by simp) rfl)
   obtain⟨-,e12⟩:=h.c12 (hL ⟨12, .data⟩ (by simp) rfl)
   clear hL hno
   go_simp;exact hK (updV V 24 _) _ _ (by simp[putAll,updV,e8,e12]) {h with e13:=fun _=>rfl}
  ·obtain rfl:=sJ ho;have e13:=h.e13 (hL ⟨13, .data⟩ (by simp) rfl)
   clear hL hno;obtain⟨d,hd⟩:=h.p0 hi;have kb:Blk w1 B 87 #[.int .i64 0, .int .i64 0]:=by subst hd;exact HK.out
   have hbb:Below B W0 w1:=(h.p0 hi).below _
   have f0:=kb.cell 0;have f1:=kb.cell 1;have z0:=kb.frozen 0;have z1:=kb.frozen 1;simp at f0 f1;have kb2:=(kb.set 0 (.int .i64 (sgnI (!hz) q))).set 1 (.int .i64 r);have bb2:=(hbb.setCell (p:=⟨B,0,none⟩) lR_ (.int .i64 (sgnI (!hz) q))).setCell (p:=⟨B,1,none⟩) lR_ (.int .i64 r);simp at kb2;clear kb hbb hd
   go_simp;refine hK V _ _ (by simp[putAll,e13]) ?_
   exact{h with p0:=fun hn=>(by cases hn),p1:=fun _=>⟨bb2,kb2⟩}
  ·simp at ho
 ·clear hI0;intro L V w6 hL h;obtain⟨bw,kw⟩:=h.p1 (hL 14 (by simp))
  obtain⟨s8,-⟩:=h.c8 (hL 8 (by simp))
  obtain⟨s12,-⟩:=h.c12 (hL 12 (by simp))
  have c0:=kw.cell 0;have c1:=kw.cell 1;simp at c0 c1;simp only[putAll,List.foldl_cons,List.foldl_nil,List.setIfInBounds_toArray,List.set_cons_zero,List.set_cons_succ];clear h hL kw
  go_wp2_with fail;exact bodyPost_ret (v:= .agg #[.int .i64 (sgnI (!hz) q), .int .i64 r]) (by simp[results, Tryz.results76,go_sem,c0,c1]) rfl ⟨(lowE_yes s8 s12).symm,HBw.out _ bw⟩
theorem low_any(below:Bool)(a b:Nat)(w:World)(ha:a<18446744073709551616)(hb:b<18446744073709551616)(hb0:0<b):
  Calls Tryz.prog 76 #[.bool below, .int .u64 a, .int .u64 b] w fun e w'=>e=lowE (below&&decide (a≠0)) (a/Nat.gcd a b) (b/Nat.gcd a b)∧Below w.heap.size w w':=by
 have hg:0<Nat.gcd a b:=Nat.gcd_pos_of_pos_right _ hb0
 have haz:((a:Int) !=0)=!(decide (a=0)):=by
  by_cases h:a=0
  ·simp[h]
  ·simp[h]
 have e:decide (a≠0)=!(decide (a=0)):=by by_cases h:a=0<;>simp[h]
 rw[e];cases below with
 |false=>exact low_false a b (Nat.gcd a b) _ _ (decide (a=0)) w (fun w=>fcommon_any a b ha hb w) haz (Int.natCast_ediv _ _).symm (Int.natCast_ediv _ _).symm (by omega) (wrapN _ (Nat.lt_of_le_of_lt (Nat.div_le_self _ _) ha)) (wrapN _ (Nat.lt_of_le_of_lt (Nat.div_le_self _ _) hb))
 |true=>exact low_true a b (Nat.gcd a b) _ _ (decide (a=0)) w (fun w=>fcommon_any a b ha hb w) haz (Int.natCast_ediv _ _).symm (Int.natCast_ediv _ _).symm (by omega) (wrapN _ (Nat.lt_of_le_of_lt (Nat.div_le_self _ _) ha)) (wrapN _ (Nat.lt_of_le_of_lt (Nat.div_le_self _ _) hb))
end Go.Proofs.YtpmlljbebdidgaaGreatDoor
namespace Go.Proofs.YtpmlljbebdidgaaGreatDoor
structure Fr where
  n : Int
  d : Int
def Fr.valid (f : Fr) : Bool := validB f.n f.d
def Fr.fit (f : Fr) : Prop := fits f.n ∧ fits f.d
theorem Fr.ext_ {f g : Fr} (h : f.n = g.n) (h' : f.d = g.d) : f = g := by cases f; cases g; simp at h h'; subst h h'; rfl
def newR (n d : Int) : Fr × Int := if d = 0 then (⟨0, 0⟩, 20) else if (okB (newN n d) && okB (newD n d)) = true then (⟨newN n d, newD n d⟩, 0) else (⟨0, 0⟩, 4)
def mul2 (a b : Fr) : Fr := ⟨newN a.n b.d * newN b.n a.d, newD a.n b.d * newD b.n a.d⟩
def mulGo (a : Fr) : List Fr → Fr × Int
  | [] => (a, 0)
  | x :: xs => if (okB (mul2 a x).n && okB (mul2 a x).d) = true then mulGo (mul2 a x) xs else (⟨0, 0⟩, 4)
def mulR (fs : List Fr) : Fr × Int := if fs.all Fr.valid = true then mulGo ⟨1, 1⟩ fs else (⟨0, 0⟩, 1)
theorem Fr.pos {f : Fr} (h : f.valid = true) : 0 < f.d := (validB_iff.1 h).1
theorem Fr.cop {f : Fr} (h : f.valid = true) : Nat.Coprime f.n.natAbs f.d.natAbs := (validB_iff.1 h).2
theorem mul2_worth {a b : Fr} (ha : a.valid = true) (hb : b.valid = true) : (mul2 a b).n * (a.d * b.d) = a.n * b.n * (mul2 a b).d := by
  have h1 := new_worth (n := a.n) (d := b.d) (by have := Fr.pos hb; omega)
  have h2 := new_worth (n := b.n) (d := a.d) (by have := Fr.pos ha; omega)
  show newN a.n b.d * newN b.n a.d * (a.d * b.d) = a.n * b.n * (newD a.n b.d * newD b.n a.d)
  calc newN a.n b.d * newN b.n a.d * (a.d * b.d) = newN a.n b.d * b.d * (newN b.n a.d * a.d) := by
        rw [Int.mul_comm a.d b.d, ← Int.mul_assoc, Int.mul_assoc (newN a.n b.d), Int.mul_comm (newN b.n a.d) b.d, ← Int.mul_assoc, Int.mul_assoc]
    _ = a.n * newD a.n b.d * (b.n * newD b.n a.d) := by rw [h1, h2]
    _ = a.n * b.n * (newD a.n b.d * newD b.n a.d) := by
        rw [Int.mul_assoc, ← Int.mul_assoc (newD a.n b.d), Int.mul_comm (newD a.n b.d) b.n, Int.mul_assoc b.n, ← Int.mul_assoc]
theorem mul2_valid {a b : Fr} (ha : a.valid = true) (hb : b.valid = true) : (mul2 a b).valid = true := by
  have pa := Fr.pos ha;have pb := Fr.pos hb;refine validB_iff.2 ⟨Int.mul_pos (newD_pos (by omega)) (newD_pos (by omega)), ?_⟩
  show Nat.gcd (newN a.n b.d * newN b.n a.d).natAbs (newD a.n b.d * newD b.n a.d).natAbs = 1
  rw [Int.natAbs_mul, Int.natAbs_mul];have c1 : Nat.Coprime (newN a.n b.d).natAbs (newD a.n b.d).natAbs := (validB_iff.1 (new_valid (by omega))).2
  have c2 : Nat.Coprime (newN b.n a.d).natAbs (newD b.n a.d).natAbs := (validB_iff.1 (new_valid (by omega))).2
  have dv : ∀ n d : Int, (newN n d).natAbs ∣ n.natAbs ∧ (newD n d).natAbs ∣ d.natAbs := fun n d => by
    rw [newN_abs, newD_abs]; exact ⟨Nat.div_dvd_of_dvd (Nat.gcd_dvd_left _ _), Nat.div_dvd_of_dvd (Nat.gcd_dvd_right _ _)⟩
  have c3 : Nat.Coprime (newN a.n b.d).natAbs (newD b.n a.d).natAbs := ((Fr.cop ha).coprime_dvd_left (dv _ _).1).coprime_dvd_right (dv _ _).2
  have c4 : Nat.Coprime (newN b.n a.d).natAbs (newD a.n b.d).natAbs := ((Fr.cop hb).coprime_dvd_left (dv _ _).1).coprime_dvd_right (dv _ _).2
  exact Nat.Coprime.mul_left (Nat.Coprime.mul_right c1 c3) (Nat.Coprime.mul_right c4 c2)
theorem Fr.uniq {f g : Fr} (hf : f.valid = true) (hg : g.valid = true) (h : f.n * g.d = g.n * f.d) : f = g := by
  obtain ⟨h1, h2⟩ := valid_uniq hf hg h;exact Fr.ext_ h1 h2
end Go.Proofs.YtpmlljbebdidgaaGreatDoor
namespace Go.Proofs.YtpmlljbebdidgaaGreatDoor
open Go.RowKit
theorem quiet_drawn{P:Program}{f:FuncId}{args:Array Value}{w:World}{n:Nat}{v:Value}
  (h:Calls P f args (w.drewN n) fun e w'=>e= .returned v∧Drawn (w.drewN n) w'):Calls P f args (w.drewN n) fun e w''=>e= .returned v∧∃m,w''=w.drewN m:=
 h.mono fun _ _ ⟨he,m,hm⟩=>⟨he,n+m,by rw[hm,World.drewN_drewN]⟩
theorem natAbs_lt{x:Int}(h:fits x):x.natAbs<18446744073709551616:=by unfold fits at h;omega
theorem valid_any(n d:Int)(w:World)(hn:fits n)(hd:fits d):
  Calls Tryz.prog 93 #[.agg #[.int .i64 n, .int .i64 d]] w fun e w'=>e= .returned (.bool (validB n d))∧Below w.heap.size w w':=by
 have b0:Below w.heap.size w (w.alloc (.cells #[.int .i64 n, .int .i64 d] 87)):=(Below.refl _ _).alloc lR_ _
 have hna:=natAbs_lt hn;have hda:=natAbs_lt hd;by_cases h0:d>0
 ·have h0d:decide (d>0)=true:=decide_eq_true h0
  obtain⟨g,hg⟩:∃g,Nat.gcd n.natAbs d.natAbs=g:=⟨_,rfl⟩;have hv:validB n d=((g:Int)==1):=by
   rw[Bool.eq_iff_iff,validB_iff,hg];simp;omega
  rw[hv];have hcom:=fun w=>fcommon_any n.natAbs d.natAbs hna hda w
  rw[hg]at hcom;clear hg hv h0
  go_enter Tryz.func93, Tryz.ntmps93
  go_wp2_with fail
  go_quiet ((first|(go_at_call 77;exact quiet_left (fsize_any _ _ hn))|(go_at_call 77;exact quiet_left (fsize_any _ _ hd))|(go_at_call 91;exact quiet_drawn (hcom _))))
  go_wp2_with fail
  go_ret;exact⟨rfl,below_drewN b0 _⟩
 ·have h0d:decide (d>0)=false:=decide_eq_false h0
  have hv:validB n d=false:=by unfold validB;simp;omega
  rw[hv];clear hv h0
  go_enter Tryz.func93, Tryz.ntmps93
  go_wp2_with fail
  go_quiet (fail)
  go_wp2_with fail
  go_ret;exact⟨rfl,below_drewN b0 _⟩
def Fr.cells(f:Fr):List Value:=[.int .i64 f.n, .int .i64 f.d]
def cellsF(fs:List Fr):List Value:=fs.flatMap Fr.cells
theorem cellsF_cons(f:Fr)(fs:List Fr):cellsF (f::fs)=f.cells++cellsF fs:=rfl
theorem cellsF_length(fs:List Fr):(cellsF fs).length=fs.length*2:=by
 induction fs with
 |nil=>rfl
 |cons a fs ih=>rw[cellsF_cons,List.length_append,ih,List.length_cons];simp[Fr.cells];omega
theorem cellsF_at(fs:List Fr):∀(k:Nat) (a:Fr),fs[k]?=some a→∀j u,a.cells[j]?=some u→(cellsF fs)[k*2+j]?=some u:=by
 induction fs with
 |nil=>intro k a h;simp at h
 |cons b fs ih=>
  intro k a h j u hu;rw[cellsF_cons]
  match k,h with
  |0,h=>
   simp at h
   subst h;have hj:j<b.cells.length:=(List.getElem?_eq_some_iff.1 hu).1;rw[Nat.zero_mul,Nat.zero_add,List.getElem?_append_left hj];exact hu
  |k+1,h=>
   rw[List.getElem?_append_right (by simp[Fr.cells];omega)]
   have e:(k+1)*2+j-b.cells.length=k*2+j:=by simp[Fr.cells];omega
   rw[e];exact ih k a (by simpa using h) j u hu
theorem Rd.fr{w:World}{B:Nat}{A:Option Addr}{fs:List Fr}{k:Nat}(h:Rd w B A (cellsF fs))(hx:∀a∈fs,a.fit)(hk:k<fs.length):
  ∃b off a,A=some ⟨b,off,none⟩∧b<B∧a.fit∧w.cell? ⟨b,off+k*2,none⟩=some (.int .i64 a.n)∧w.cell? ⟨b,off+k*2+1,none⟩=some (.int .i64 a.d)∧Hid (fs.drop k=a::fs.drop (k+1))∧Hid (fs[k]?=some a):=by
 rcases h with h|⟨b,off,ha,hb,hc⟩
 ·have:=cellsF_length fs;rw[h]at this;simp at this;omega
 ·have hg:fs[k]?=some fs[k]:=List.getElem?_eq_getElem hk
  have at_:∀j u,fs[k].cells[j]?=some u→w.cell? ⟨b,off+(k*2+j),none⟩=some u:=fun j u hu'=>hc (k*2+j) u (cellsF_at fs k fs[k] hg j u hu')
  refine⟨b,off,fs[k],ha,hb,hx _ (List.getElem_mem _),?_,?_,List.drop_eq_getElem_cons hk,hg⟩
  ·have:=at_ 0 _ rfl;simpa [Nat.add_assoc]using this
  ·have:=at_ 1 _ rfl;simpa [Nat.add_assoc]using this
theorem valid_of(f:Fr)(w:World)(hf:f.fit):Calls Tryz.prog 93 #[.agg #[.int .i64 f.n, .int .i64 f.d]] w fun e w'=>e= .returned (.bool f.valid)∧Below w.heap.size w w':=valid_any f.n f.d w hf.1 hf.2
theorem right_any(fs:List Fr)(A:Option Addr)(l c:Nat)(w:World)(hl:fs.length=l)(hx:∀a∈fs,a.fit)(hr:Rd w w.heap.size A (cellsF fs))(hm:l≤maxLen):
  Calls Tryz.prog 78 #[.slice A l c] w fun e w'=>e= .returned (.bool (fs.all Fr.valid))∧Below w.heap.size w w':=by
 subst hl;unfold maxLen at hm
 go_enter Tryz.func78, Tryz.ntmps78
 go_wp2_with fail
 go_loopw [7] (fun i wr=>∃k:Nat,k≤fs.length∧i= .int .i64 k∧Below w.heap.size w wr∧Hid (fs.all Fr.valid=(fs.drop k).all Fr.valid)) (fun i _=>fs.length-(intOf i).toNat)
 case atStart=>exact⟨0,Nat.zero_le _,rfl,Below.refl _ _,rfl⟩
 case round=>
  obtain⟨k,hk,rfl,hb,He⟩:=hrel;by_cases hlt:k<fs.length
  ·obtain⟨b,off,a,rfl,hbl,hf,c0,c1,hd,-⟩:=(hr.below hb lR_).fr hx hlt;have b1:=hb.alloc hb.size (.cells #[.int .i64 a.n, .int .i64 a.d] 87);have k1:=Blk.new wr _ rfl 87 #[.int .i64 a.n, .int .i64 a.d];have hz1:(wr.alloc (.cells #[.int .i64 a.n, .int .i64 a.d] 87)).heap.size=wr.heap.size+1:=by simp
   have hsz:=hb.size;have d0:=k1.cellL 0 rfl;have d1:=k1.cellL 1 rfl;cases hv:a.valid with
   |false=>
    have Hn:Hid (fs.all Fr.valid=false):=by unfold Hid;rw[He.out,hd.out];simp[hv]
    have vc:=fun w=>valid_of a w hf
    rw[hv]at vc;clear hd He hv k1
    go_wp2_with (go_at_call 93;refine(vc _).mono ?_;rintro e w' ⟨rfl,hb2⟩)
    go_ret;exact⟨by rw[Hn.out];rfl,b1.trans (hb2.mono (by omega))⟩
   |true=>
    have Hn:Hid (fs.all Fr.valid=(fs.drop (k+1)).all Fr.valid):=by unfold Hid;rw[He.out,hd.out];simp[hv]
    have vc:=fun w=>valid_of a w hf
    rw[hv]at vc;clear hd He hv k1
    go_wp2_with (go_at_call 93;refine(vc _).mono ?_;rintro e w' ⟨rfl,hb2⟩)
    go_roundw
    case rel=>exact⟨k+1,by omega,by go_num,b1.trans (hb2.mono (by omega)),Hn⟩
    case measure=>simp[intOf];omega
  ·have hd:fs.drop k=[]:=List.drop_eq_nil_of_le (by omega)
   have Hn:Hid (fs.all Fr.valid=true):=by unfold Hid;rw[He.out,hd];rfl
   clear hd He
   go_wp2_with fail
   go_ret;exact⟨by rw[Hn.out];rfl,hb⟩
end Go.Proofs.YtpmlljbebdidgaaGreatDoor
