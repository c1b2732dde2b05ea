/- Lemmas and walks for the claim: Du, Dv, Dw. -/
import Derived.Test.YtpmlljbebdidgaaGreatDoorA0
import Derived.Test.YtpmlljbebdidgaaGreatDoorA19
set_option maxRecDepth 100000
set_option maxHeartbeats 2000000
namespace Go.Proofs.YtpmlljbebdidgaaGreatDoor
open Go.RowKit Go.ChangeShapes
theorem make_tick(I O:List Int)(Ai:Option Addr)(ci:Nat)(Ao:Option Addr)(co:Nat)(ps:List Int)(P:Option Addr)(l c:Nat)(w:World)(ri:Rd w w.heap.size Ai (cellsI I))(ro:Rd w w.heap.size Ao (cellsI O))(ai:∀q,blkOf Ai=some q→q<w.heap.size)(ao:∀q,blkOf Ao=some q→q<w.heap.size)
  (hI:I=[]) (hO:O=[1]) (hl:ps.length=l) (hl2:l=2) (hf:AllFit ps) (hp:Rd w w.heap.size P (cellsI ps)):
  Calls Tryz.prog 83 #[.int .u8 10, .agg #[.slice Ai I.length ci, .slice Ao O.length co, .int .i64 0], .slice P l c] w (MakeOut w I O Ai ci Ao co):=by
 subst hl2;obtain⟨x,y,rfl⟩:∃x y,ps=[x,y]:=by
  match ps,hl with
  |[x,y],_=>exact⟨x,y,rfl⟩
 have hx:fits x:=hf x (by simp)
 have hy:fits y:=hf y (by simp)
 obtain⟨b2,o2,rfl,hb2,d0,d1⟩:∃b o,P=some ⟨b,o,none⟩∧b<w.heap.size∧w.cell? ⟨b,o,none⟩=some (.int .i64 x)∧w.cell? ⟨b,o+1,none⟩=some (.int .i64 y):=by
  rcases hp with h|⟨b,o,hA,hb,hc⟩
  ·cases h
  ·exact⟨b,o,hA,hb,hc 0 _ rfl,hc 1 _ rfl⟩
 have b1:=bA_ w (.cells #[.slice Ai I.length ci, .slice Ao O.length co, .int .i64 0] 185);have k1:=bN_ b1;have z1:(w.alloc (.cells #[.slice Ai I.length ci, .slice Ao O.length co, .int .i64 0] 185)).heap.size=w.heap.size+1:=by simp
 have e0:=(b1.cell (p:=⟨b2,o2,none⟩) hb2).trans d0;have e1:=(b1.cell (p:=⟨b2,o2+1,none⟩) hb2).trans d1;have c0:=k1.cellL 0 rfl;have c1:=k1.cellL 1 rfl;have c2:=k1.cellL 2 rfl;have HRI:=Lh ((ri.below b1 lR_).more b1.size);have HRO:=Lh ((ro.below b1 lR_).more b1.size);have HB:=Lh b1;have Hz:=Lh z1;obtain⟨li,hli⟩:∃l,I.length=l:=⟨_,rfl⟩;obtain⟨lo,hlo⟩:∃l,O.length=l:=⟨_,rfl⟩;rw[hli,hlo]at c0 c1 c2 e0 e1 HB HRI HRO Hz;rw[hli,hlo];have Hli:=Lh hli;have Hlo:=Lh hlo;clear hp ri ro b1 k1 z1 d0 d1 hli hlo hf hl
 go_enter Tryz.func83, Tryz.ntmps83
 go_wp2_with fail;generalize w.alloc (.cells #[.slice Ai li ci, .slice Ao lo co, .int .i64 0] 185)=W1 at*
 go_region
 have b3:=bA_ W1 (.cells #[.slice Ai li ci, .slice Ao lo co, .int .i64 0, .int .i64 x, .int .i64 y] 225);have k3:=bN_ b3;generalize W1.alloc (.cells #[.slice Ai li ci, .slice Ao lo co, .int .i64 0, .int .i64 x, .int .i64 y] 225)=W2 at*;have d3:=Drawn.below W2.heap.size ((Drawn.refl W2).drewN 1);have K:KdM W2 W1.heap.size (.tick x y) I O Ai ci Ao co 0:=by
  refine⟨by rw[Hli.out,Hlo.out];exact k3,(HRI.out.below b3 lR_).more b3.size,(HRO.out.below b3 lR_).more b3.size,⟨hI,hO⟩,⟨hx,hy⟩,fun q hq=>?_⟩
  have:=Hz.out
  rcases hq with hq|hq|hq
  ·have:=ai q hq;omega
  ·have:=ao q hq;omega
  ·exact hq.elim
 have HK:=Lh (K.below d3);have HBB:=Lh (HB.out.trans ((b3.trans (d3.mono b3.size)).mono (by have:=Hz.out;omega)))
 clear b3 k3 d3 K c0 c1 c2 e0 e1
 go_wp2_with fail
 go_ret;exact⟨.tick x y,W1.heap.size,rfl,HK.out,HBB.out,by have:=Hz.out;omega,fun q hq=>hq.elim⟩
theorem make_any(tag:Int)(I O:List Int)(Ai:Option Addr)(ci:Nat)(Ao:Option Addr)(co:Nat)(ps:List Int)(P:Option Addr)(l c:Nat)(w:World)(hs:shapeR tag ps=(I,O,0))(ri:Rd w w.heap.size Ai (cellsI I))(ro:Rd w w.heap.size Ao (cellsI O))(ai:∀q,blkOf Ai=some q→q<w.heap.size)(ao:∀q,blkOf Ao=some q→q<w.heap.size)
  (hl:ps.length=l) (hf:AllFit ps) (hp:Rd w w.heap.size P (cellsI ps)):
  Calls Tryz.prog 83 #[.int .u8 tag, .agg #[.slice Ai I.length ci, .slice Ao O.length co, .int .i64 0], .slice P l c] w (MakeOut w I O Ai ci Ao co):=by
 have ht:1≤tag∧tag≤11:=by
  refine Classical.byContradiction fun hc=>?_
  unfold shapeR at hs;rw[if_pos (by omega)]at hs
  simp at hs
 rcases(show tag=1∨tag=2∨tag=3∨tag=4∨tag=5∨tag=6∨tag=7∨tag=8∨tag=9∨tag=10∨tag=11 by omega)with rfl|rfl|rfl|rfl|rfl|rfl|rfl|rfl|rfl|rfl|rfl
 ·obtain⟨hI,hO,h1,h2⟩:=shape_filter (shape_of hs 1 rfl (by omega))
  exact make_filter I O Ai ci Ao co ps P l c w ri ro ai ao hI hO hl (by omega) hf hp
 ·exact make_up I O Ai ci Ao co _ w ri ro ai ao (shape_up (shape_of hs 2 rfl (by omega)))
 ·exact make_down I O Ai ci Ao co _ w ri ro ai ao (shape_down (shape_of hs 3 rfl (by omega)))
 ·exact make_weave I O Ai ci Ao co _ w ri ro ai ao (shape_weave (shape_of hs 4 rfl (by omega)))
 ·exact make_unweave I O Ai ci Ao co _ w ri ro ai ao (shape_unweave (shape_of hs 5 rfl (by omega)))
 ·exact make_add I O Ai ci Ao co _ w ri ro ai ao (shape_add (shape_of hs 6 rfl (by omega)))
 ·exact make_quot I O Ai ci Ao co _ w ri ro ai ao (shape_quot (shape_of hs 7 rfl (by omega)))
 ·exact make_sum I O Ai ci Ao co _ w ri ro ai ao (shape_sum (shape_of hs 8 rfl (by omega)))
 ·exact make_copies I O Ai ci Ao co _ w ri ro ai ao (shape_copies (shape_of hs 9 rfl (by omega)))
 ·obtain⟨hI,hO,h1⟩:=shape_tick (shape_of hs 10 rfl (by omega))
  exact make_tick I O Ai ci Ao co ps P l c w ri ro ai ao hI hO hl (by omega) hf hp
 ·exact make_drop I O Ai ci Ao co _ w ri ro ai ao (shape_drop (shape_of hs 11 rfl (by omega)))
def NewOut(w:World)(I O:List Int)(e:Ending)(w':World):Prop:=
 ∃(κ:KdV) (bk bb:Nat) (Ai:Option Addr) (ci:Nat) (Ao:Option Addr) (co:Nat),e= .returned (.tuple #[.pointer (some ⟨bb,0,none⟩), .int .i64 0])∧Blk w' bb 187 #[.iface κ.pt (.pointer (some ⟨bk,0,none⟩))]∧KdM w' bk κ I O Ai ci Ao co 0∧Below w.heap.size w w'∧w.heap.size≤bk∧w.heap.size≤bb∧∀q,κ.fx Ai Ao q→w.heap.size≤q∧q<w'.heap.size
theorem actNew_any(tag:Int)(I O:List Int)(ps:List Int)(P:Option Addr)(l c:Nat)(w:World)(hs:shapeR tag ps=(I,O,0))(hl:ps.length=l)(hf:AllFit ps)(hp:Rd w w.heap.size P (cellsI ps))(hm:l≤maxLen):
  Calls Tryz.prog 60 #[.int .u8 tag, .slice P l c] w (NewOut w I O):=by
 have HS:=Lh (shape_any tag ps P l c w hl hf hp hm);rw[hs]at HS;have HP:=Lh hp;have Hs:=Lh hs;have Hl:=Lh hl;clear hs hp hl
 go_enter Tryz.func60, Tryz.ntmps60
 go_wp2_with fail;refine HS.out.mono ?_
 rintro e w2 ⟨Ai,ci,Ao,co,rfl,o1,o2,hb⟩;have HM:=Lh (make_any tag I O Ai ci Ao co ps P l c w2 Hs.out (rd_of_own o1) (rd_of_own o2) (fun q hq=>own_lt' o1 (by cases Ai with|none=>cases hq|some a=>exact hq)) (fun q hq=>own_lt' o2 (by cases Ao with|none=>cases hq|some a=>exact hq)) Hl.out hf ((HP.out.below hb lR_).more hb.size))
 have HFX:Hid (∀q,blkOf Ai=some q∨blkOf Ao=some q→w.heap.size≤q∧q<w2.heap.size):=fun q hq=>by
  rcases hq with hq|hq
  ·exact⟨own_ge o1 (by cases Ai with|none=>cases hq|some a=>exact hq),own_lt' o1 (by cases Ai with|none=>cases hq|some a=>exact hq)⟩
  ·exact⟨own_ge o2 (by cases Ao with|none=>cases hq|some a=>exact hq),own_lt' o2 (by cases Ao with|none=>cases hq|some a=>exact hq)⟩
 have HB:=Lh hb;have Hz:=Lh hb.size;have HM2:Hid (Calls Tryz.prog 83 #[.int .u8 tag, .agg #[.slice Ai I.length ci, .slice Ao O.length co, .int .i64 0], .slice P l c] w2 (MakeOut w2 I O Ai ci Ao co)):=HM.out;generalize I.length=li at*;generalize O.length=lo at*;clear o1 o2 hb HM
 go_wp2_with fail;refine HM2.out.mono ?_
 rintro e w3 ⟨κ,bk,rfl,K,hb3,hbk,hfix⟩;have b4:=bA_ w3 (.cells #[.iface κ.pt (.pointer (some ⟨bk,0,none⟩))] 187);have k4:=bN_ b4;have HK4:=Lh (K.below b4);have HKB:=Lh k4;have HB4:=Lh ((HB.out.trans (hb3.mono Hz.out)).trans (b4.mono (by have:=Hz.out;have:=hb3.size;omega)))
 have Hz3:=Lh hb3.size;have Hfix:=Lh hfix;obtain⟨pt,hpt⟩:∃p,κ.pt=p:=⟨_,rfl⟩;have Hpt:=Lh hpt;rw[hpt];rw[hpt]at HKB HK4 HB4;clear K hb3 b4 k4 hfix hpt
 go_wp2_with fail
 go_ret2;refine⟨κ,bk,w3.heap.size,Ai,ci,Ao,co,rfl,by rw[Hpt.out];exact HKB.out,HK4.out,HB4.out,Nat.le_trans Hz.out hbk,Nat.le_trans Hz.out Hz3.out,fun q hq=>?_⟩
 rcases hq with hq|hq|hq
 ·have:=HFX.out q (.inl hq);exact⟨this.1,Nat.lt_of_lt_of_le this.2 (Nat.le_trans Hz3.out (by simp))⟩
 ·have:=HFX.out q (.inr hq);exact⟨this.1,Nat.lt_of_lt_of_le this.2 (Nat.le_trans Hz3.out (by simp))⟩
 ·exact⟨Nat.le_trans Hz.out (Hfix.out q hq),HK4.out.ex.lt hq⟩
theorem begin_any(bt:Nat)(c0 c1 c2 c4 c5 c6 c7 c8 c9:Value)(I:Option Addr)(li cI:Nat)(w:World)(kb:Blk w bt 125 #[c0,c1,c2, .slice I li cI,c4,c5,c6,c7,c8,c9])(hl:li≤16):
  Calls Tryz.prog 62 #[.pointer (some ⟨bt,0,none⟩)] w fun e w'=>e= .returned (.tuple #[])∧∃g,Blk w' bt 125 #[c0,c1,c2, .slice I li cI,c4, .slice (some ⟨g,0,none⟩) li li, .slice none 0 0, .int .i64 0, .bool false,c9]∧
   Blk w' g 36 (List.replicate li (Value.slice none 0 0)).toArray∧w.heap.size≤g∧Only (fun q=>q=bt) w w':=by
 have hmk:=run_make_row' (P:= Tryz.prog) 27 36 (.slice none 0 0) 24 Tryz.underlying27 info_slice rfl .i64 .i64 li (by omega) (by omega)
 have hbw:=kb.lt;have k3:=kb.cellL 3 rfl;have ba:=bA_ w (.cells (madeCells #[.slice none 0 0] li) 36);have kr:=Blk.new w _ rfl 36 (madeCells #[.slice none 0 0] li);have hz1:(w.alloc (.cells (madeCells #[.slice none 0 0] li) 36)).heap.size=w.heap.size+1:=by simp
 have kt:=kb.below ba hbw;have O0:Only (fun q=>q=bt) w (w.alloc (.cells (madeCells #[.slice none 0 0] li) 36)):=Only.of_below ba
 generalize hW:w.alloc (.cells (madeCells #[.slice none 0 0] li) 36)=W at*;rw[made_nils]at kr;have k5:=kt.set 5 (.slice (some ⟨w.heap.size,0,none⟩) li li);have r5:=kr.far (p:=⟨bt,5,none⟩) (by show w.heap.size≠bt;omega) (.slice (some ⟨w.heap.size,0,none⟩) li li)
 have O5:=O0.setCell ⟨bt,5,none⟩ (.slice (some ⟨w.heap.size,0,none⟩) li li) fun _=>rfl
 have f5:=kt.frozen 5;have e5:=kt.cell 5;simp only[List.setIfInBounds_toArray,List.set_cons_zero,List.set_cons_succ,List.getElem?_toArray,List.getElem?_cons_zero,List.getElem?_cons_succ]at k5 e5;have k6:=k5.set 6 (.slice none 0 0);have r6:=r5.far (p:=⟨bt,6,none⟩) (by show w.heap.size≠bt;omega) (.slice none 0 0)
 have O6:=O5.setCell ⟨bt,6,none⟩ (.slice none 0 0) fun _=>rfl
 have f6:=k5.frozen 6;have e6:=k5.cell 6;simp only[List.setIfInBounds_toArray,List.set_cons_zero,List.set_cons_succ,List.getElem?_toArray,List.getElem?_cons_zero,List.getElem?_cons_succ]at k6 e6;have k7:=k6.set 7 (.int .i64 0);have r7:=r6.far (p:=⟨bt,7,none⟩) (by show w.heap.size≠bt;omega) (.int .i64 0)
 have O7:=O6.setCell ⟨bt,7,none⟩ (.int .i64 0) fun _=>rfl
 have f7:=k6.frozen 7;have e7:=k6.cell 7;simp only[List.setIfInBounds_toArray,List.set_cons_zero,List.set_cons_succ,List.getElem?_toArray,List.getElem?_cons_zero,List.getElem?_cons_succ]at k7 e7;have k8:=k7.set 8 (.bool false);have r8:=r7.far (p:=⟨bt,8,none⟩) (by show w.heap.size≠bt;omega) (.bool false)
 have O8:=O7.setCell ⟨bt,8,none⟩ (.bool false) fun _=>rfl
 have f8:=k7.frozen 8;have e8:=k7.cell 8;simp only[List.setIfInBounds_toArray,List.set_cons_zero,List.set_cons_succ,List.getElem?_toArray,List.getElem?_cons_zero,List.getElem?_cons_succ]at k8 e8;have HK:=Lh k8;have HR:=Lh r8;have HO:=Lh O8;clear kb kr kt ba k5 k6 k7 k8 r5 r6 r7 r8 O0 O5 O6 O7 O8 hz1
 go_enter Tryz.func62, Tryz.ntmps62
 go_wp2_with fail
 go_end0
 exact⟨rfl,w.heap.size,HK.out,HR.out,Nat.le_refl _,HO.out⟩
theorem finish_no(bt:Nat)(c0 c1 c2 c3 c5 c6 c8 c9:Value)(O:Option Addr)(lo cO port:Nat)(w:World)(kb:Blk w bt 125 #[c0,c1,c2,c3, .slice O lo cO,c5,c6, .int .i64 port,c8,c9])(hp:port≠lo):
  Calls Tryz.prog 85 #[.pointer (some ⟨bt,0,none⟩)] w fun e w'=>e= .returned (.tuple #[])∧Drawn w w':=by
 have k4:=kb.cellL 4 rfl;have k7:=kb.cellL 7 rfl;have hd:((port:Int)==(lo:Int))=false:=by simp;omega
 clear kb
 go_enter Tryz.func85, Tryz.ntmps85
 go_wp2_with fail
 go_quiet (fail)
 go_wp2_with fail
 go_end0
 exact⟨rfl,(Drawn.refl w).drewN _⟩
theorem finish_yes(bt:Nat)(c0 c1 c2 c5 c6 c8:Value)(I:Option Addr)(li cI:Nat)(O:Option Addr)(lo cO:Nat)(wh:Int)(w:World)(kb:Blk w bt 125 #[c0,c1,c2, .slice I li cI, .slice O lo cO,c5,c6, .int .i64 lo,c8, .int .i64 wh])(hl:li≤16)(hw:0≤wh∧wh≤4611686018427387904):
  Calls Tryz.prog 85 #[.pointer (some ⟨bt,0,none⟩)] w fun e w'=>e= .returned (.tuple #[])∧∃g,Blk w' bt 125 #[c0,c1,c2, .slice I li cI, .slice O lo cO, .slice (some ⟨g,0,none⟩) li li, .slice none 0 0, .int .i64 0, .bool false, .int .i64 (wh+1)]∧
   Blk w' g 36 (List.replicate li (Value.slice none 0 0)).toArray∧w.heap.size≤g∧Only (fun q=>q=bt) w w':=by
 have k4:=kb.cellL 4 rfl;have k7:=kb.cellL 7 rfl;have k9:=kb.cellL 9 rfl;have f9:=kb.frozen 9;have e1:IntKind.i64.wrap (wh+1)=wh+1:=by rw[IntKind.wrap_i64];omega
 have HK:=Lh kb;clear kb
 go_enter Tryz.func85, Tryz.ntmps85
 go_wp2_with fail
 go_quiet (fail)
 generalize hW2:World.drewN w _=w2;have d2:Drawn w w2:=by rw[←hW2];exact(Drawn.refl _).drewN _
 have k2:=HK.out.below (d2.below w.heap.size) HK.out.lt;have k9:=k2.cellL 9 rfl;have f9:=k2.frozen 9;have k3:=k2.set 9 (.int .i64 (wh+1));simp only[List.setIfInBounds_toArray,List.set_cons_zero,List.set_cons_succ]at k3;have O3:Only (fun q=>q=bt) w (w2.setCell ⟨bt,9,none⟩ (.int .i64 (wh+1))):=(Only.of_below (d2.below _)).setCell _ _ fun _=>rfl
 have hz3:(w2.setCell ⟨bt,9,none⟩ (.int .i64 (wh+1))).heap.size=w.heap.size:=by simp[d2.size]
 have HB:=Lh (begin_any bt _ _ _ _ _ _ _ _ _ I li cI _ k3 hl);have HO:=Lh O3;have Hz:=Lh hz3;clear hW2 d2 k2 k3 O3 hz3 k4 k7 HK
 go_wp2_with fail;refine HB.out.mono ?_
 rintro e w4 ⟨rfl,g,k4,r4,hg,O4⟩;have HK4:=Lh k4;have HR4:=Lh r4;have HO4:=Lh (HO.out.trans O4);have Hg:Hid (w.heap.size≤g):=by rw[←Hz.out];exact hg
 clear k4 r4 O4 hg k9 f9
 go_wp2_with fail
 go_end0
 exact⟨rfl,g,HK4.out,HR4.out,Hg.out,HO4.out⟩
structure RdyA(w0:World)(bt bo lo port:Nat)(T:TypeId)(val:Value)(bb:Bool)(L:Nat→Bool)(V:Nat→Value)(w:World):Prop where
 bel:Below w0.heap.size w0 w
 e10:L 10=true→V 17= .bool bb
 e0:L 0=true→V 7= .pointer (some ⟨bt,0,none⟩)
 e1:L 1=true→V 8= .pointer (some ⟨bt,0,none⟩)
 e2:L 2=true→V 9= .pointer (some ⟨bt,2,none⟩)
 e3:L 3=true→V 10= .slice (some ⟨bo,0,none⟩) lo lo
 e4:L 4=true→V 11= .pointer (some ⟨bt,0,none⟩)
 e5:L 5=true→V 12= .pointer (some ⟨bt,0,none⟩)
 e6:L 6=true→V 13= .pointer (some ⟨bt,7,none⟩)
 e7:L 7=true→V 14= .int .i64 (port:Nat)
 e8:L 8=true→V 15= .pointer (some ⟨bo,port,none⟩)
 e9:L 9=true→V 16= .iface T val
 e11:L 11=true→V 18= .bool (!bb)
 e12:L 12=true→V 2= .bool (!bb)
structure RdyB(w0:World)(bt bf li port:Nat)(I:Option Addr)(cI:Nat)(T:TypeId)(val:Value)(bb:Bool)(L:Nat→Bool)(V:Nat→Value)(w:World):Prop where
 bel:Below w0.heap.size w0 w
 e21:L 21=true→V 40= .bool bb
 e0:L 0=true→V 19= .pointer (some ⟨bt,0,none⟩)
 e1:L 1=true→V 20= .pointer (some ⟨bt,0,none⟩)
 e2:L 2=true→V 21= .pointer (some ⟨bt,7,none⟩)
 e3:L 3=true→V 22= .int .i64 (port:Nat)
 e4:L 4=true→V 23= .pointer (some ⟨bt,0,none⟩)
 e5:L 5=true→V 24= .pointer (some ⟨bt,0,none⟩)
 e6:L 6=true→V 25= .pointer (some ⟨bt,3,none⟩)
 e7:L 7=true→V 26= .slice I li cI
 e8:L 8=true→V 27= .int .i64 (li:Nat)
 e9:L 9=true→V 28= .bool false
 e10:L 10=true→V 29= .bool false
 e11:L 11=true→V 30= .pointer (some ⟨bt,0,none⟩)
 e12:L 12=true→V 31= .pointer (some ⟨bt,0,none⟩)
 e13:L 13=true→V 32= .pointer (some ⟨bt,1,none⟩)
 e14:L 14=true→V 33= .slice (some ⟨bf,0,none⟩) li li
 e15:L 15=true→V 34= .pointer (some ⟨bt,0,none⟩)
 e16:L 16=true→V 35= .pointer (some ⟨bt,0,none⟩)
 e17:L 17=true→V 36= .pointer (some ⟨bt,7,none⟩)
 e18:L 18=true→V 37= .int .i64 (port:Nat)
 e19:L 19=true→V 38= .pointer (some ⟨bf,port,none⟩)
 e20:L 20=true→V 39= .iface T val
 e22:L 22=true→V 41= .bool (!bb)
 e23:L 23=true→V 42= .bool (!bb)
 e24:L 24=true→V 2= .bool (!bb)
theorem ready_gives(bt bo lo port:Nat)(c0 c1 c3 c4 c5 c6 c9:Value)(dst:List Value)(T:TypeId)(val:Value)(fn:FuncId)(bb:Bool)(w:World)(kb:Blk w bt 125 #[c0,c1, .slice (some ⟨bo,0,none⟩) lo lo,c3,c4,c5,c6, .int .i64 port, .bool true,c9])(kt:Blk w bo 157 dst.toArray)(hp:port<lo)(hd:dst[port]?=some (.iface T val))
  (hm:∀w':World,(method 357 T val "pianola/dyn.full").run Tryz.prog w'= .ok (fn,val) w') (hc:∀(args:Array Value) (w':World),(callFunc fn args).run Tryz.prog w'= .ok (.enter fn args) w')
  (hf:∀w':World,Below w.heap.size w w'→Calls Tryz.prog fn #[val] w' fun e w''=>e= .returned (.bool bb)∧Below w'.heap.size w' w''):
  Calls Tryz.prog 65 #[.pointer (some ⟨bt,0,none⟩)] w fun e w'=>e= .returned (.bool (!bb))∧Below w.heap.size w w':=by
 have k8:=kb.cellL 8 rfl;have hp0:(0:Int)≤(port:Int):=by omega
 have hp1:(port:Int)<(lo:Int):=by omega
 have HKB:=Lh kb;have HTO:=Lh kt;have HDs:=Lh hd;have Hm:=Lh hm;have Hc:=Lh hc;have HF:=Lh hf;clear kb kt hd hm hc hf
 go_enter Tryz.func65, Tryz.ntmps65
 go_wp2_with fail;have hI0:∀V,RdyA w bt bo lo port T val bb (fun _=>false) V w.drew:=fun V=>by
  constructor
  all_goals first
   |exact Drawn.below _ ((Drawn.refl w).drewN 1)
   |(intro h;cases h)
 refine wp_region_put3 [7,8,9,10,11,12,13,14,15,16,17,18,2] (RdyA w bt bo lo port T val bb) (by kernel_rfl) (by kernel_rfl) ?_ ?_ ?_
 ·exact hI0 _
 ·intro i o ho L V w1 hi hL hno h K hK;simp only[putAll,List.foldl_cons,List.foldl_nil,List.setIfInBounds_toArray,List.set_cons_zero,List.set_cons_succ];rcases i with _|_|_|_|_|_|_|_|_|_|_|_|_|i
  ·obtain rfl:=sJ ho;clear hL hno
   go_simp;exact hK (updV V 7 _) _ _ (by simp[putAll,updV]) {h with e0:=fun _=>rfl}
  ·obtain rfl:=sJ ho;have e0:=h.e0 (hL ⟨0, .data⟩ (by simp) rfl)
   clear hL hno
   go_simp;exact hK (updV V 8 _) _ _ (by simp[putAll,updV,e0]) {h with e1:=fun _=>rfl}
  ·obtain rfl:=sJ ho;have e1:=h.e1 (hL ⟨1, .data⟩ (by simp) rfl)
   clear hL hno
   go_simp;exact hK (updV V 9 _) _ _ (by simp[putAll,updV,e1]) {h with e2:=fun _=>rfl}
  ·obtain rfl:=sJ ho;have e2:=h.e2 (hL ⟨2, .data⟩ (by simp) rfl)
   have ct:=(HKB.out.below h.bel HKB.out.lt).cellL 2 rfl;clear hL hno
   go_simp;exact hK (updV V 10 _) _ _ (by simp[putAll,updV,e2]) {h with e3:=fun _=>rfl}
  ·obtain rfl:=sJ ho;clear hL hno
   go_simp;exact hK (updV V 11 _) _ _ (by simp[putAll,updV]) {h with e4:=fun _=>rfl}
  ·obtain rfl:=sJ ho;have e4:=h.e4 (hL ⟨4, .data⟩ (by simp) rfl)
   clear hL hno
   go_simp;exact hK (updV V 12 _) _ _ (by simp[putAll,updV,e4]) {h with e5:=fun _=>rfl}
  ·obtain rfl:=sJ ho;have e5:=h.e5 (hL ⟨5, .data⟩ (by simp) rfl)
   clear hL hno
   go_simp;exact hK (updV V 13 _) _ _ (by simp[putAll,updV,e5]) {h with e6:=fun _=>rfl}
  ·obtain rfl:=sJ ho;have e6:=h.e6 (hL ⟨6, .data⟩ (by simp) rfl)
   have ct:=(HKB.out.below h.bel HKB.out.lt).cellL 7 rfl;clear hL hno
   go_simp;exact hK (updV V 14 _) _ _ (by simp[putAll,updV,e6]) {h with e7:=fun _=>rfl}
  ·obtain rfl:=sJ ho;have e3:=h.e3 (hL ⟨3, .data⟩ (by simp) rfl)
   have e7:=h.e7 (hL ⟨7, .data⟩ (by simp) rfl)
   have q1:=hp0;have q2:=hp1;clear hL hno
   go_simp;exact hK (updV V 15 _) _ _ (by simp[putAll,updV,e3,e7]) {h with e8:=fun _=>rfl}
  ·obtain rfl:=sJ ho;have e8:=h.e8 (hL ⟨8, .data⟩ (by simp) rfl)
   have ct:=(HTO.out.below h.bel HTO.out.lt).cell port;rw[List.getElem?_toArray,HDs.out]at ct;clear hL hno
   go_simp;exact hK (updV V 16 _) _ _ (by simp[putAll,updV,e8]) {h with e9:=fun _=>rfl}
  ·obtain rfl:=sJ ho;have e9:=h.e9 (hL ⟨9, .data⟩ (by simp) rfl)
   clear hL hno;have hz:=h.bel.size;have hm:=Hm.out w1;have hc:=Hc.out
   go_simp;refine(HF.out w1 h.bel).mono ?_
   rintro e w3 ⟨rfl,b3⟩;refine hK (updV V 17 (.bool bb)) _ _ (by simp[putAll,updV,e9]) ?_
   exact{h with
    bel:=h.bel.trans (b3.mono hz)
    e10:=fun _=>rfl}
  ·obtain rfl:=sJ ho;have e10:=h.e10 (hL ⟨10, .data⟩ (by simp) rfl)
   clear hL hno
   go_simp;exact hK (updV V 18 _) _ _ (by simp[putAll,updV,e10]) {h with e11:=fun _=>rfl}
  ·obtain rfl:=sJ ho;have e11:=h.e11 (hL ⟨11, .data⟩ (by simp) rfl)
   clear hL hno
   go_simp;exact hK (updV V 2 _) _ _ (by simp[putAll,updV,e11]) {h with e12:=fun _=>rfl}
  ·simp at ho
 ·clear hI0;intro L V w2 hL h;have e12:=h.e12 (hL 12 (by simp))
  have HB:=Lh h.bel;clear h hL;simp only[putAll,List.foldl_cons,List.foldl_nil,List.setIfInBounds_toArray,List.set_cons_zero,List.set_cons_succ,e12];clear e12
  go_wp2_with fail
  go_ret;exact⟨rfl,HB.out⟩
theorem ready_reckon(bt li port:Nat)(c0 c1 c2 c4 c5 c6 c9:Value)(I:Option Addr)(cI:Nat)(w:World)(kb:Blk w bt 125 #[c0,c1,c2, .slice I li cI,c4,c5,c6, .int .i64 port, .bool false,c9])(hp:port=li):
  Calls Tryz.prog 65 #[.pointer (some ⟨bt,0,none⟩)] w fun e w'=>e= .returned (.bool true)∧Below w.heap.size w w':=by
 subst hp;have k8:=kb.cellL 8 rfl;have k7:=kb.cellL 7 rfl;have k3:=kb.cellL 3 rfl;have hq:((port:Int)==(port:Int))=true:=by simp
 clear kb
 go_enter Tryz.func65, Tryz.ntmps65
 go_wp2_with fail
 go_quiet (fail)
 go_wp2_with fail
 go_ret;exact⟨rfl,Drawn.below _ ((Drawn.refl w).drewN _)⟩
theorem ready_takes(bt bf li port:Nat)(c0 c2 c4 c5 c6 c9:Value)(I:Option Addr)(cI:Nat)(src:List Value)(T:TypeId)(val:Value)(fn:FuncId)(bb:Bool)(w:World)(kb:Blk w bt 125 #[c0, .slice (some ⟨bf,0,none⟩) li li,c2, .slice I li cI,c4,c5,c6, .int .i64 port, .bool false,c9])(kt:Blk w bf 159 src.toArray)(hp:port<li)(hd:src[port]?=some (.iface T val))
  (hm:∀w':World,(method 357 T val "pianola/dyn.waits").run Tryz.prog w'= .ok (fn,val) w') (hc:∀(args:Array Value) (w':World),(callFunc fn args).run Tryz.prog w'= .ok (.enter fn args) w')
  (hf:∀w':World,Below w.heap.size w w'→Calls Tryz.prog fn #[val] w' fun e w''=>e= .returned (.bool bb)∧Below w'.heap.size w' w''):
  Calls Tryz.prog 65 #[.pointer (some ⟨bt,0,none⟩)] w fun e w'=>e= .returned (.bool (!bb))∧Below w.heap.size w w':=by
 have k8:=kb.cellL 8 rfl;have hp0:(0:Int)≤(port:Int):=by omega
 have hp1:(port:Int)<(li:Int):=by omega
 have hne:((port:Int)==(li:Int))=false:=by simp;omega
 have HKB:=Lh kb;have HFR:=Lh kt;have HDs:=Lh hd;have Hm:=Lh hm;have Hc:=Lh hc;have HF:=Lh hf;clear kb kt hd hm hc hf
 go_enter Tryz.func65, Tryz.ntmps65
 go_wp2_with fail;have hI0:∀V,RdyB w bt bf li port I cI T val bb (fun _=>false) V w.drew:=fun V=>by
  constructor
  all_goals first
   |exact Drawn.below _ ((Drawn.refl w).drewN 1)
   |(intro h;cases h)
 refine wp_region_put3 [19,20,21,22,23,24,25,26,27,28,29,30,31,32,33,34,35,36,37,38,39,40,41,42,2] (RdyB w bt bf li port I cI T val bb) (by kernel_rfl) (by kernel_rfl) ?_ ?_ ?_
 ·exact hI0 _
 ·intro i o ho L V w1 hi hL hno h K hK;simp only[putAll,List.foldl_cons,List.foldl_nil,List.setIfInBounds_toArray,List.set_cons_zero,List.set_cons_succ];rcases i with _|_|_|_|_|_|_|_|_|_|_|_|_|_|_|_|_|_|_|_|_|_|_|_|_|i
  ·obtain rfl:=sJ ho;clear hL hno
   go_simp;exact hK (updV V 19 _) _ _ (by simp[putAll,updV]) {h with e0:=fun _=>rfl}
  ·obtain rfl:=sJ ho;have e0:=h.e0 (hL ⟨0, .data⟩ (by simp) rfl)
   clear hL hno
   go_simp;exact hK (updV V 20 _) _ _ (by simp[putAll,updV,e0]) {h with e1:=fun _=>rfl}
  ·obtain rfl:=sJ ho;have e1:=h.e1 (hL ⟨1, .data⟩ (by simp) rfl)
   clear hL hno
   go_simp;exact hK (updV V 21 _) _ _ (by simp[putAll,updV,e1]) {h with e2:=fun _=>rfl}
  ·obtain rfl:=sJ ho;have e2:=h.e2 (hL ⟨2, .data⟩ (by simp) rfl)
   have ct:=(HKB.out.below h.bel HKB.out.lt).cellL 7 rfl;clear hL hno
   go_simp;exact hK (updV V 22 _) _ _ (by simp[putAll,updV,e2]) {h with e3:=fun _=>rfl}
  ·obtain rfl:=sJ ho;clear hL hno
   go_simp;exact hK (updV V 23 _) _ _ (by simp[putAll,updV]) {h with e4:=fun _=>rfl}
  ·obtain rfl:=sJ ho;have e4:=h.e4 (hL ⟨4, .data⟩ (by simp) rfl)
   clear hL hno
   go_simp;exact hK (updV V 24 _) _ _ (by simp[putAll,updV,e4]) {h with e5:=fun _=>rfl}
  ·obtain rfl:=sJ ho;have e5:=h.e5 (hL ⟨5, .data⟩ (by simp) rfl)
   clear hL hno
   go_simp;exact hK (updV V 25 _) _ _ (by simp[putAll,updV,e5]) {h with e6:=fun _=>rfl}
  ·obtain rfl:=sJ ho;have e6:=h.e6 (hL ⟨6, .data⟩ (by simp) rfl)
   have ct:=(HKB.out.below h.bel HKB.out.lt).cellL 3 rfl;clear hL hno
   go_simp;exact hK (updV V 26 _) _ _ (by simp[putAll,updV,e6]) {h with e7:=fun _=>rfl}
  ·obtain rfl:=sJ ho;have e7:=h.e7 (hL ⟨7, .data⟩ (by simp) rfl)
   clear hL hno
   go_simp;exact hK (updV V 27 _) _ _ (by simp[putAll,updV,e7]) {h with e8:=fun _=>rfl}
  ·obtain rfl:=sJ ho;have e3:=h.e3 (hL ⟨3, .data⟩ (by simp) rfl)
   have e8:=h.e8 (hL ⟨8, .data⟩ (by simp) rfl)
   have q0:=hne;clear hL hno
   go_simp;exact hK (updV V 28 _) _ _ (by simp[putAll,updV,e3,e8]) {h with e9:=fun _=>rfl}
  ·obtain rfl:=sJ ho;have e9:=h.e9 (hL ⟨9, .data⟩ (by simp) rfl)
   clear hL hno
   go_simp;exact hK (updV V 29 _) _ _ (by simp[putAll,updV,e9]) {h with e10:=fun _=>rfl}
  ·obtain rfl:=sJ ho;have e10:=h.e10 (hL ⟨10, .guard⟩ (by simp) rfl)
   clear hL hno
   go_simp;exact hK (updV V 30 _) _ _ (by simp[putAll,updV,e10]) {h with e11:=fun _=>rfl}
  ·obtain rfl:=sJ ho;have e10:=h.e10 (hL ⟨10, .guard⟩ (by simp) rfl)
   have e11:=h.e11 (hL ⟨11, .data⟩ (by simp) rfl)
   clear hL hno
   go_simp;exact hK (updV V 31 _) _ _ (by simp[putAll,updV,e10,e11]) {h with e12:=fun _=>rfl}
  ·obtain rfl:=sJ ho;have e10:=h.e10 (hL ⟨10, .guard⟩ (by simp) rfl)
   have e12:=h.e12 (hL ⟨12, .data⟩ (by simp) rfl)
   clear hL hno
   go_simp;exact hK (updV V 32 _) _ _ (by simp[putAll,updV,e10,e12]) {h with e13:=fun _=>rfl}
  ·obtain rfl:=sJ ho;have e10:=h.e10 (hL ⟨10, .guard⟩ (by simp) rfl)
   have e13:=h.e13 (hL ⟨13, .data⟩ (by simp) rfl)
   have ct:=(HKB.out.below h.bel HKB.out.lt).cellL 1 rfl;clear hL hno
   go_simp;exact hK (updV V 33 _) _ _ (by simp[putAll,updV,e10,e13]) {h with e14:=fun _=>rfl}
  ·obtain rfl:=sJ ho;have e10:=h.e10 (hL ⟨10, .guard⟩ (by simp) rfl)
   clear hL hno
   go_simp;exact hK (updV V 34 _) _ _ (by simp[putAll,updV,e10]) {h with e15:=fun _=>rfl}
  ·obtain rfl:=sJ ho;have e10:=h.e10 (hL ⟨10, .guard⟩ (by simp) rfl)
   have e15:=h.e15 (hL ⟨15, .data⟩ (by simp) rfl)
   clear hL hno
   go_simp;exact hK (updV V 35 _) _ _ (by simp[putAll,updV,e10,e15]) {h with e16:=fun _=>rfl}
  ·obtain rfl:=sJ ho;have e10:=h.e10 (hL ⟨10, .guard⟩ (by simp) rfl)
   have e16:=h.e16 (hL ⟨16, .data⟩ (by simp) rfl)
   clear hL hno
   go_simp;exact hK (updV V 36 _) _ _ (by simp[putAll,updV,e10,e16]) {h with e17:=fun _=>rfl}
  ·obtain rfl:=sJ ho;have e10:=h.e10 (hL ⟨10, .guard⟩ (by simp) rfl)
   have e17:=h.e17 (hL ⟨17, .data⟩ (by simp) rfl)
   have ct:=(HKB.out.below h.bel HKB.out.lt).cellL 7 rfl;clear hL hno
   go_simp;exact hK (updV V 37 _) _ _ (by simp[putAll,updV,e10,e17]) {h with e18:=fun _=>rfl}
  ·obtain rfl:=sJ ho;have e10:=h.e10 (hL ⟨10, .guard⟩ (by simp) rfl)
   have e14:=h.e14 (hL ⟨14, .data⟩ (by simp) rfl)
   have e18:=h.e18 (hL ⟨18, .data⟩ (by simp) rfl)
   have q1:=hp0;have q2:=hp1;clear hL hno
   go_simp;exact hK (updV V 38 _) _ _ (by simp[putAll,updV,e10,e14,e18]) {h with e19:=fun _=>rfl}
  ·obtain rfl:=sJ ho;have e10:=h.e10 (hL ⟨10, .guard⟩ (by simp) rfl)
   have e19:=h.e19 (hL ⟨19, .data⟩ (by simp) rfl)
   have ct:=(HFR.out.below h.bel HFR.out.lt).cell port;rw[List.getElem?_toArray,HDs.out]at ct;clear hL hno
   go_simp;exact hK (updV V 39 _) _ _ (by simp[putAll,updV,e10,e19]) {h with e20:=fun _=>rfl}
  ·obtain rfl:=sJ ho;have e10:=h.e10 (hL ⟨10, .guard⟩ (by simp) rfl)
   have e20:=h.e20 (hL ⟨20, .data⟩ (by simp) rfl)
   clear hL hno;have hz:=h.bel.size;have hm:=Hm.out w1;have hc:=Hc.out
   go_simp;refine(HF.out w1 h.bel).mono ?_
   rintro e w3 ⟨rfl,b3⟩;refine hK (updV V 40 (.bool bb)) _ _ (by simp[putAll,updV,e10,e20]) ?_
   exact{h with
    bel:=h.bel.trans (b3.mono hz)
    e21:=fun _=>rfl}
  ·obtain rfl:=sJ ho;have e10:=h.e10 (hL ⟨10, .guard⟩ (by simp) rfl)
   have e21:=h.e21 (hL ⟨21, .data⟩ (by simp) rfl)
   clear hL hno
   go_simp;exact hK (updV V 41 _) _ _ (by simp[putAll,updV,e10,e21]) {h with e22:=fun _=>rfl}
  ·obtain rfl:=sJ ho;have e10:=h.e10 (hL ⟨10, .data⟩ (by simp) rfl)
   have e22:=h.e22 (hL ⟨22, .data⟩ (by simp) rfl)
   clear hL hno
   go_simp;exact hK (updV V 42 _) _ _ (by simp[putAll,updV,e10,e22]) {h with e23:=fun _=>rfl}
  ·obtain rfl:=sJ ho;have e23:=h.e23 (hL ⟨23, .data⟩ (by simp) rfl)
   clear hL hno
   go_simp;exact hK (updV V 2 _) _ _ (by simp[putAll,updV,e23]) {h with e24:=fun _=>rfl}
  ·simp at ho
 ·clear hI0;intro L V w2 hL h;have e24:=h.e24 (hL 24 (by simp))
  have HB:=Lh h.bel;clear h hL;simp only[putAll,List.foldl_cons,List.foldl_nil,List.setIfInBounds_toArray,List.set_cons_zero,List.set_cons_succ,e24];clear e24
  go_wp2_with fail
  go_ret;exact⟨rfl,HB.out⟩
end Go.Proofs.YtpmlljbebdidgaaGreatDoor
