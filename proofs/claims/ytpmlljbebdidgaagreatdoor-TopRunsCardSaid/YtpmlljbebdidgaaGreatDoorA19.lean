/- Lemmas and walks for the claim: Dt, Du, Dv. -/
import Derived.Test.YtpmlljbebdidgaaGreatDoorA0
import Derived.Test.YtpmlljbebdidgaaGreatDoorA18
set_option linter.unusedSimpArgs false
set_option maxRecDepth 100000
set_option maxHeartbeats 2000000
namespace Go.Proofs.YtpmlljbebdidgaaGreatDoor
open Go.RowKit Go.ChangeShapes
def ptOf:Value→Nat
 | .pointer (some a)=>a.block
 |_=>0
structure MkI(w0 w1:World)(gc:Nat)(Ai:Option Addr)(li ci:Nat)(Ao:Option Addr)(lo co:Nat)(P:Option Addr)(l c m:Nat)(ps:List Int)(L:Nat→Bool)(V:Nat→Value)(w:World):Prop where
 bel:Below w1.heap.size w1 w
 f2:L 2=true→V 12= .slice (sAddr (V 12)) l (sCap (V 12))∧w.ownsRow w1.heap.size 3 1 (V 12) l (cellsI ps)
 f6:L 6=true→V 16= .slice (some ⟨gbOf (V 16),0,none⟩) m m∧w.ownsRow w1.heap.size 3 1 (V 16) m (cellsI (rowF (fun _=>0) m))
 d7:L 7=true→L 2=true∧L 6=true
 d9:L 9=true→L 8=true
 f7:L 7=true→V 17= .agg #[.slice Ai li ci, .slice Ao lo co, .int .i64 0,V 12,V 16]
 f8:L 8=true→V 18= .pointer (some ⟨ptOf (V 18),0,none⟩)∧w1.heap.size≤ptOf (V 18)∧Blk w (ptOf (V 18)) 202 #[.slice Ai li ci, .slice Ao lo co, .int .i64 0,V 12,V 16]
 f9:L 9=true→V 19= .iface 200 (V 18)
 f10:L 10=true→V 6=V 19
 e0:L 0=true→V 10= .agg #[.slice Ai li ci, .slice Ao lo co, .int .i64 0]
 e1:L 1=true→V 11= .slice P l c
 e3:L 3=true→V 13= .slice P l c
 e4:L 4=true→V 14= .int .i64 (l:Nat)
 e5:L 5=true→V 15= .int .i64 (m:Nat)
theorem zjJ(I O:List Int)(Ai:Option Addr)(ci:Nat)(Ao:Option Addr)(co:Nat)(ps:List Int)(P:Option Addr)(l c:Nat)(w:World)(ri:Rd w w.heap.size Ai (cellsI I))(ro:Rd w w.heap.size Ao (cellsI O))(ai:∀q,blkOf Ai=some q→q<w.heap.size)(ao:∀q,blkOf Ao=some q→q<w.heap.size)
  (hI:I=[1]) (hO:O=[1]) (hl:ps.length=l) (hl1:1≤l∧l≤16) (hf:AllFit ps) (hp:Rd w w.heap.size P (cellsI ps)):
  Calls Tryz.prog 83 #[.int .u8 1, .agg #[.slice Ai I.length ci, .slice Ao O.length co, .int .i64 0], .slice P l c] w (zb3 w I O Ai ci Ao co):=by
 obtain⟨m,hm⟩:∃m,l=m+1:=⟨l-1,by omega⟩
 have hmk:=run_make_row' (P:= Tryz.prog) 36 3 (.int .i64 0) 8 Tryz.underlying36 zas rfl .i64 .i64 m (by omega) (by omega)
 have Hmk:=Lh hmk;have hlm:(l:Int)-1=(m:Int):=by omega
 have hlw:IntKind.i64.wrap (m:Int)=(m:Int):=by rw[IntKind.wrap_i64];omega
 have b1:=bA_ w (.cells #[.slice Ai I.length ci, .slice Ao O.length co, .int .i64 0] 185);have k1:=bN_ b1;obtain⟨W1,hW1⟩:=wN_ b1;obtain⟨gc,hgc0⟩:∃g,w.heap.size=g:=⟨_,rfl⟩;have hz1:W1.heap.size=gc+1:=by rw[←hW1,←hgc0];simp
 have HP:Hid (Rd W1 W1.heap.size P (cellsI ps)):=by rw[←hW1];exact(hp.below b1 lR_).more b1.size
 have HRI:Hid (Rd W1 W1.heap.size Ai (cellsI I)):=by rw[←hW1];exact(ri.below b1 lR_).more b1.size
 have HRO:Hid (Rd W1 W1.heap.size Ao (cellsI O)):=by rw[←hW1];exact(ro.below b1 lR_).more b1.size
 rw[hW1]at b1 k1;have c0:=k1.cellL 0 rfl;have c1:=k1.cellL 1 rfl;have c2:=k1.cellL 2 rfl;rw[hgc0]at c0 c1 c2;obtain⟨li,hli⟩:∃l,I.length=l:=⟨_,rfl⟩;obtain⟨lo,hlo⟩:∃l,O.length=l:=⟨_,rfl⟩;rw[hli]at c0;rw[hlo]at c1;have HC0:=Lh c0;have HC1:=Lh c1;have HC2:=Lh c2;have Hl:=Lh hl;rw[hli,hlo]at hW1;have HW1:=Lh hW1;have HB1:=Lh b1;have Hgc:=Lh hgc0;have Hli:=Lh hli;have Hlo:=Lh hlo;have hgc:gc<W1.heap.size:=by omega
 have Hz1:=Lh hz1;have Hm:=Lh hm;rw[hli,hlo];clear hmk b1 k1 c0 c1 c2 hW1 hgc0 hz1 hp ri ro hl hli hlo hm
 go_enter Tryz.func83, Tryz.ntmps83
 go_wp2_with fail
 try rw[HW1.out]
 try rw[Hgc.out]
 have hI0:∀V,MkI w W1 gc Ai li ci Ao lo co P l c m ps (fun _=>false) V W1.drew:=fun V=>by
  constructor
  all_goals first
   |exact Drawn.below _ ((Drawn.refl W1).drewN 1)
   |(intro h;cases h)
 refine zN [10,11,12,13,14,15,16,17,18,19,6] (MkI w W1 gc Ai li ci Ao lo co P l c m ps) (by kernel_rfl) (by kernel_rfl) ?_ ?_ ?_
 ·exact hI0 _
 ·intro i o ho L V w1 hi hL hno h K hK;simp only[putAll,zi,zj,zc,ze,zd];rcases i with _|_|_|_|_|_|_|_|_|_|_|i
  ·obtain rfl:=sJ ho;have ct0:=(h.bel.cell (p:=⟨gc,0,none⟩) hgc).trans HC0.out;have ct1:=(h.bel.cell (p:=⟨gc,1,none⟩) hgc).trans HC1.out;have ct2:=(h.bel.cell (p:=⟨gc,2,none⟩) hgc).trans HC2.out;clear hL hno
   go_simp;exact hK (zg V 10 _) _ _ (by simp[putAll,zg]) {h with e0:=fun _=>rfl}
  ·obtain rfl:=sJ ho;clear hL hno
   go_simp;exact hK (zg V 11 _) _ _ (by simp[putAll,zg]) {h with e1:=fun _=>rfl}
  ·obtain rfl:=sJ ho;have e1:=h.e1 (hL ⟨1, .data⟩ (by simp) rfl)
   have l7:=hno 7 (by kernel_rfl)
   have l8:=hno 8 (by kernel_rfl)
   have l9:=hno 9 (by kernel_rfl)
   clear hL hno;have hz:=h.bel.size;have hr:=(HP.out.below h.bel lR_).more hz
   go_simp;refine(zf6 ps P l c w1 Hl.out hr (by omega)).mono ?_
   rintro e w3 ⟨A3,c3,rfl,o3,b3⟩;refine hK (zg V 12 (.slice A3 l c3)) _ _ (by simp[putAll,zg,e1]) ?_
   exact{h with
    bel:=h.bel.trans (b3.mono hz)
    f2:=fun _=>⟨rfl,World.ownsRow.mono o3 hz⟩
    f6:=fun hl=>⟨(h.f6 hl).1,own_below (h.f6 hl).2 b3⟩
    f7:=nX_ l7
    d7:=nX_ l7
    f8:=nX_ l8
    d9:=nX_ l9}
  ·obtain rfl:=sJ ho;clear hL hno
   go_simp;exact hK (zg V 13 _) _ _ (by simp[putAll,zg]) {h with e3:=fun _=>rfl}
  ·obtain rfl:=sJ ho;have e3:=h.e3 (hL ⟨3, .data⟩ (by simp) rfl)
   clear hL hno
   go_simp;exact hK (zg V 14 _) _ _ (by simp[putAll,zg,e3]) {h with e4:=fun _=>rfl}
  ·obtain rfl:=sJ ho;have e4:=h.e4 (hL ⟨4, .data⟩ (by simp) rfl)
   have q1:=hlm;have q2:=hlw;clear hL hno
   go_simp;exact hK (zg V 15 _) _ _ (by simp[putAll,zg,e4]) {h with e5:=fun _=>rfl}
  ·obtain rfl:=sJ ho;have e5:=h.e5 (hL ⟨5, .data⟩ (by simp) rfl)
   have l7:=hno 7 (by kernel_rfl)
   have l8:=hno 8 (by kernel_rfl)
   have l9:=hno 9 (by kernel_rfl)
   clear hL hno;have hz:=h.bel.size;have hmk:=Hmk.out;have hb:=bA_ w1 (.cells (madeCells #[.int .i64 0] m) 3);have hnew:(w1.alloc (.cells (madeCells #[.int .i64 0] m) 3)).ownsRow w1.heap.size 3 1 (.slice (some ⟨w1.heap.size,0,none⟩) m m) m (cellsI (rowF (fun _=>0) m)):=by rw[zez];exact zbL w1 _ rfl 3 _ m (by rw[cellsI_length,zaS]) (by unfold maxLen;omega)
   go_simp;refine hK (zg V 16 (.slice (some ⟨w1.heap.size,0,none⟩) m m)) _ _ (by simp[putAll,zg,e5]) ?_
   exact{h with
    bel:=h.bel.trans (hb.mono hz)
    f2:=fun hl=>⟨(h.f2 hl).1,own_below (h.f2 hl).2 hb⟩
    f6:=fun _=>⟨rfl,World.ownsRow.mono hnew hz⟩
    f7:=nX_ l7
    d7:=nX_ l7
    f8:=nX_ l8
    d9:=nX_ l9}
  ·obtain rfl:=sJ ho;have e0:=h.e0 (hL ⟨0, .data⟩ (by simp) rfl)
   have l2:L 2=true:=hL ⟨2, .data⟩ (by simp) rfl
   have l6:L 6=true:=hL ⟨6, .data⟩ (by simp) rfl
   have h2:=(h.f2 l2).1;have h6:=(h.f6 (hL ⟨6, .data⟩ (by simp) rfl)).1
   generalize sAddr (V 12)=A3 at h2;generalize sCap (V 12)=c3 at h2;generalize gbOf (V 16)=g6 at h6;clear hL hno
   go_simp;refine hK (zg V 17 (.agg #[.slice Ai li ci, .slice Ao lo co, .int .i64 0, .slice A3 l c3, .slice (some ⟨g6,0,none⟩) m m])) _ _ (by simp[putAll,zg,e0,h2,h6]) ?_
   exact{h with d7:=fun _=>⟨l2,l6⟩,f7:=fun _=>by show Value.agg _= .agg #[.slice Ai li ci, .slice Ao lo co, .int .i64 0,V 12,V 16];rw[h2,h6]}
  ·obtain rfl:=sJ ho;have h7:=h.f7 (hL ⟨7, .data⟩ (by simp) rfl)
   have l9:=hno 9 (by kernel_rfl)
   have l2:L 2=true:=h.d7 (hL ⟨7, .data⟩ (by simp) rfl)|>.1
   have l6:L 6=true:=h.d7 (hL ⟨7, .data⟩ (by simp) rfl)|>.2
   have h2:=h.f2 l2;have h6:=h.f6 l6;have H2:=Lh h2;have H6:=Lh h6;generalize sAddr (V 12)=A3 at h2;generalize sCap (V 12)=c3 at h2;generalize gbOf (V 16)=g6 at h6;have h21:=h2.1;have h61:=h6.1;rw[h21,h61]at h7;clear hL hno h2 h6;have hz:=h.bel.size;have hb:=bA_ w1 (.cells #[.slice Ai li ci, .slice Ao lo co, .int .i64 0, .slice A3 l c3, .slice (some ⟨g6,0,none⟩) m m] 202);have kb:=bN_ hb
   go_simp;refine hK (zg V 18 (.pointer (some ⟨w1.heap.size,0,none⟩))) _ _ (by simp[putAll,zg,h7,h21,h61]) ?_
   exact{h with
    bel:=h.bel.trans (hb.mono hz)
    f2:=fun hl=>⟨(h.f2 hl).1,own_below (h.f2 hl).2 hb⟩
    f6:=fun hl=>⟨(h.f6 hl).1,own_below (h.f6 hl).2 hb⟩
    d9:=nX_ l9
    f9:=nX_ l9
    f8:=fun _=>⟨rfl,hz,by show Blk _ _ _ #[.slice Ai li ci, .slice Ao lo co, .int .i64 0,V 12,V 16];rw[h21,h61];exact kb⟩}
  ·obtain rfl:=sJ ho;have l8:L 8=true:=hL ⟨8, .data⟩ (by simp) rfl
   have h8:=(h.f8 l8).1;have l10:=hno 10 (by kernel_rfl)
   generalize ptOf (V 18)=g8 at h8;clear hL hno
   go_simp;refine hK (zg V 19 (.iface 200 (.pointer (some ⟨g8,0,none⟩)))) _ _ (by simp[putAll,zg,h8]) ?_
   exact{h with d9:=fun _=>l8,f9:=fun _=>by show Value.iface _ _= .iface _ (V 18);rw[h8],f10:=nX_ l10}
  ·obtain rfl:=sJ ho;have h9:=h.f9 (hL ⟨9, .data⟩ (by simp) rfl)
   have h8:=(h.f8 (h.d9 (hL ⟨9, .data⟩ (by simp) rfl))).1
   generalize ptOf (V 18)=g8 at h8;rw[h8]at h9;clear hL hno
   go_simp;refine hK (zg V 6 (.iface 200 (.pointer (some ⟨g8,0,none⟩)))) _ _ (by simp[putAll,zg,h9,h8]) ?_
   exact{h with f10:=fun _=>h9.symm}
  ·simp at ho
 ·clear hI0;intro L V w2 hL h;have h2:=h.f2 (hL 2 (by simp))
  have h6:=h.f6 (hL 6 (by simp))
  have h8:=h.f8 (hL 8 (by simp))
  have e10:=(h.f10 (hL 10 (by simp))).trans (h.f9 (hL 9 (by simp)))
  have hb:=h.bel;clear h hL;generalize ptOf (V 18)=g8 at h8;generalize sAddr (V 12)=A3 at h2;generalize sCap (V 12)=c3 at h2;generalize gbOf (V 16)=g6 at h6;obtain⟨x2,o2⟩:=h2;obtain⟨x6,o6⟩:=h6;obtain⟨x8,hz8,k8⟩:=h8;rw[x2]at o2 k8;rw[x6]at o6 k8;rw[x8]at e10;have hz:=hb.size;have hw1:=Hz1.out;have K:KdM w2 g8 (.filter A3 c3 ps (some ⟨g6,0,none⟩) m (rowF (fun _=>0) m)) I O Ai ci Ao co 0:=by
   refine⟨?_,(HRI.out.below hb lR_).more hz,(HRO.out.below hb lR_).more hz,⟨hI,hO,by rw[Hl.out,zaS,Hm.out],by rw[zaS];have:=Hm.out;omega⟩,⟨rd_of_own o2,hf,rd_of_own o6,fun y hy=>?_⟩,fun q hq=>?_⟩
   ·have e:(KdV.filter A3 c3 ps (some ⟨g6,0,none⟩) m (rowF (fun _=>0) m)).extra=[.slice A3 l c3, .slice (some ⟨g6,0,none⟩) m m]:=by simp[KdV.extra,Hl.out,zaS]
    rw[e,Hli.out,Hlo.out];exact k8
   ·obtain⟨j,-,rfl⟩:=zY.1 hy;unfold fits;omega
   ·rcases hq with hq|hq|⟨-,hq⟩|⟨-,hq⟩
    ·have:=ai q hq;have:=Hgc.out;omega
    ·have:=ao q hq;have:=Hgc.out;omega
    ·intro hc;subst hc;have hk:=own_block o2 (b:=q) (by cases A3 with|none=>cases hq|some a=>exact hq)
     obtain⟨cs,hk⟩:=hk;exact absurd (zaP hk k8) (by decide)
    ·intro hc;subst hc;obtain⟨cs,hk⟩:=own_block o6 (b:=q) (by exact hq)
     exact absurd (zaP hk k8) (by decide)
  have hfix:∀q,KdV.fix (.filter A3 c3 ps (some ⟨g6,0,none⟩) m (rowF (fun _=>0) m)) q→w.heap.size≤q:=fun q hq=>by
   have:=Hgc.out
   rcases hq with⟨-,hq⟩|⟨-,hq⟩
   ·have:=own_ge o2 (k:=q) (by cases A3 with|none=>cases hq|some a=>exact hq)
    omega
   ·have:=own_ge o6 (k:=q) hq
    omega
  have HK:=Lh K;have HF:=Lh hfix;have HBB:=Lh (HB1.out.trans (hb.mono (by have:=Hgc.out;omega)))
  have Hz8:=Lh hz8;simp only[putAll,zi,zj,zc,ze,zd,e10];clear x2 x6 x8 o2 o6 k8 e10 hb K hfix hz hz8 hw1
  go_wp2_with fail
  go_ret;exact⟨_,g8,rfl,HK.out,HBB.out,by have:=Hz8.out;have:=Hz1.out;have:=Hgc.out;omega,HF.out⟩
theorem zlR(I O:List Int)(Ai:Option Addr)(ci:Nat)(Ao:Option Addr)(co:Nat)(ps:List Int)(P:Option Addr)(l c:Nat)(w:World)(ri:Rd w w.heap.size Ai (cellsI I))(ro:Rd w w.heap.size Ao (cellsI O))(ai:∀q,blkOf Ai=some q→q<w.heap.size)(ao:∀q,blkOf Ao=some q→q<w.heap.size)
  (hI:I=[]) (hO:O=[1]) (hl:ps.length=l) (hl2:l=2) (hf:AllFit ps) (hp:Rd w w.heap.size P (cellsI ps)):
  Calls Tryz.prog 83 #[.int .u8 10, .agg #[.slice Ai I.length ci, .slice Ao O.length co, .int .i64 0], .slice P l c] w (zb3 w I O Ai ci Ao co):=by
 subst hl2;obtain⟨x,y,rfl⟩:∃x y,ps=[x,y]:=by
  match ps,hl with
  |[x,y],_=>exact⟨x,y,rfl⟩
 have hx:fits x:=hf x (by simp)
 have hy:fits y:=hf y (by simp)
 obtain⟨b2,o2,rfl,hb2,d0,d1⟩:∃b o,P=some ⟨b,o,none⟩∧b<w.heap.size∧w.cell? ⟨b,o,none⟩=some (.int .i64 x)∧w.cell? ⟨b,o+1,none⟩=some (.int .i64 y):=by
  rcases hp with h|⟨b,o,hA,hb,hc⟩
  ·cases h
  ·exact⟨b,o,hA,hb,hc 0 _ rfl,hc 1 _ rfl⟩
 have b1:=bA_ w (.cells #[.slice Ai I.length ci, .slice Ao O.length co, .int .i64 0] 185);have k1:=bN_ b1;have z1:(w.alloc (.cells #[.slice Ai I.length ci, .slice Ao O.length co, .int .i64 0] 185)).heap.size=w.heap.size+1:=by simp
 have e0:=(b1.cell (p:=⟨b2,o2,none⟩) hb2).trans d0;have e1:=(b1.cell (p:=⟨b2,o2+1,none⟩) hb2).trans d1;have c0:=k1.cellL 0 rfl;have c1:=k1.cellL 1 rfl;have c2:=k1.cellL 2 rfl;have HRI:=Lh ((ri.below b1 lR_).more b1.size);have HRO:=Lh ((ro.below b1 lR_).more b1.size);have HB:=Lh b1;have Hz:=Lh z1;obtain⟨li,hli⟩:∃l,I.length=l:=⟨_,rfl⟩;obtain⟨lo,hlo⟩:∃l,O.length=l:=⟨_,rfl⟩;rw[hli,hlo]at c0 c1 c2 e0 e1 HB HRI HRO Hz;rw[hli,hlo];have Hli:=Lh hli;have Hlo:=Lh hlo;clear hp ri ro b1 k1 z1 d0 d1 hli hlo hf hl
 go_enter Tryz.func83, Tryz.ntmps83
 go_wp2_with fail;generalize w.alloc (.cells #[.slice Ai li ci, .slice Ao lo co, .int .i64 0] 185)=W1 at*
 go_region
 have b3:=bA_ W1 (.cells #[.slice Ai li ci, .slice Ao lo co, .int .i64 0, .int .i64 x, .int .i64 y] 225);have k3:=bN_ b3;generalize W1.alloc (.cells #[.slice Ai li ci, .slice Ao lo co, .int .i64 0, .int .i64 x, .int .i64 y] 225)=W2 at*;have d3:=Drawn.below W2.heap.size ((Drawn.refl W2).drewN 1);have K:KdM W2 W1.heap.size (.tick x y) I O Ai ci Ao co 0:=by
  refine⟨by rw[Hli.out,Hlo.out];exact k3,(HRI.out.below b3 lR_).more b3.size,(HRO.out.below b3 lR_).more b3.size,⟨hI,hO⟩,⟨hx,hy⟩,fun q hq=>?_⟩
  have:=Hz.out
  rcases hq with hq|hq|hq
  ·have:=ai q hq;omega
  ·have:=ao q hq;omega
  ·exact hq.elim
 have HK:=Lh (K.below d3);have HBB:=Lh (HB.out.trans ((b3.trans (d3.mono b3.size)).mono (by have:=Hz.out;omega)))
 clear b3 k3 d3 K c0 c1 c2 e0 e1
 go_wp2_with fail
 go_ret;exact⟨.tick x y,W1.heap.size,rfl,HK.out,HBB.out,by have:=Hz.out;omega,fun q hq=>hq.elim⟩
theorem znj(tag:Int)(I O:List Int)(Ai:Option Addr)(ci:Nat)(Ao:Option Addr)(co:Nat)(ps:List Int)(P:Option Addr)(l c:Nat)(w:World)(hs:shapeR tag ps=(I,O,0))(ri:Rd w w.heap.size Ai (cellsI I))(ro:Rd w w.heap.size Ao (cellsI O))(ai:∀q,blkOf Ai=some q→q<w.heap.size)(ao:∀q,blkOf Ao=some q→q<w.heap.size)
  (hl:ps.length=l) (hf:AllFit ps) (hp:Rd w w.heap.size P (cellsI ps)):
  Calls Tryz.prog 83 #[.int .u8 tag, .agg #[.slice Ai I.length ci, .slice Ao O.length co, .int .i64 0], .slice P l c] w (zb3 w I O Ai ci Ao co):=by
 have ht:1≤tag∧tag≤11:=by
  refine zdb fun hc=>?_
  unfold shapeR at hs;rw[if_pos (by omega)]at hs
  simp at hs
 rcases(show tag=1∨tag=2∨tag=3∨tag=4∨tag=5∨tag=6∨tag=7∨tag=8∨tag=9∨tag=10∨tag=11 by omega)with rfl|rfl|rfl|rfl|rfl|rfl|rfl|rfl|rfl|rfl|rfl
 ·obtain⟨hI,hO,h1,h2⟩:=ziE (zb4 hs 1 rfl (by omega))
  exact zjJ I O Ai ci Ao co ps P l c w ri ro ai ao hI hO hl (by omega) hf hp
 ·exact make_up I O Ai ci Ao co _ w ri ro ai ao (zng (zb4 hs 2 rfl (by omega)))
 ·exact zlO I O Ai ci Ao co _ w ri ro ai ao (zkC (zb4 hs 3 rfl (by omega)))
 ·exact zkF I O Ai ci Ao co _ w ri ro ai ao (zjH (zb4 hs 4 rfl (by omega)))
 ·exact ziG I O Ai ci Ao co _ w ri ro ai ao (zij (zb4 hs 5 rfl (by omega)))
 ·exact znh I O Ai ci Ao co _ w ri ro ai ao (zlM (zb4 hs 6 rfl (by omega)))
 ·exact zlP I O Ai ci Ao co _ w ri ro ai ao (zkD (zb4 hs 7 rfl (by omega)))
 ·exact zni I O Ai ci Ao co _ w ri ro ai ao (zlN (zb4 hs 8 rfl (by omega)))
 ·exact zjI I O Ai ci Ao co _ w ri ro ai ao (ziF (zb4 hs 9 rfl (by omega)))
 ·obtain⟨hI,hO,h1⟩:=zkE (zb4 hs 10 rfl (by omega))
  exact zlR I O Ai ci Ao co ps P l c w ri ro ai ao hI hO hl (by omega) hf hp
 ·exact zlQ I O Ai ci Ao co _ w ri ro ai ao (shape_drop (zb4 hs 11 rfl (by omega)))
def zpd(w:World)(I O:List Int)(e:Ending)(w':World):Prop:=
 ∃(κ:KdV) (bk bb:Nat) (Ai:Option Addr) (ci:Nat) (Ao:Option Addr) (co:Nat),e= .returned (.tuple #[.pointer (some ⟨bb,0,none⟩), .int .i64 0])∧Blk w' bb 187 #[.iface κ.pt (.pointer (some ⟨bk,0,none⟩))]∧KdM w' bk κ I O Ai ci Ao co 0∧Below w.heap.size w w'∧w.heap.size≤bk∧w.heap.size≤bb∧∀q,κ.fx Ai Ao q→w.heap.size≤q∧q<w'.heap.size
theorem actNew_any(tag:Int)(I O:List Int)(ps:List Int)(P:Option Addr)(l c:Nat)(w:World)(hs:shapeR tag ps=(I,O,0))(hl:ps.length=l)(hf:AllFit ps)(hp:Rd w w.heap.size P (cellsI ps))(hm:l≤maxLen):
  Calls Tryz.prog 60 #[.int .u8 tag, .slice P l c] w (zpd w I O):=by
 have HS:=Lh (shape_any tag ps P l c w hl hf hp hm);rw[hs]at HS;have HP:=Lh hp;have Hs:=Lh hs;have Hl:=Lh hl;clear hs hp hl
 go_enter Tryz.func60, Tryz.ntmps60
 go_wp2_with fail;refine HS.out.mono ?_
 rintro e w2 ⟨Ai,ci,Ao,co,rfl,o1,o2,hb⟩;have HM:=Lh (znj tag I O Ai ci Ao co ps P l c w2 Hs.out (rd_of_own o1) (rd_of_own o2) (fun q hq=>own_lt' o1 (by cases Ai with|none=>cases hq|some a=>exact hq)) (fun q hq=>own_lt' o2 (by cases Ao with|none=>cases hq|some a=>exact hq)) Hl.out hf ((HP.out.below hb lR_).more hb.size))
 have HFX:Hid (∀q,blkOf Ai=some q∨blkOf Ao=some q→w.heap.size≤q∧q<w2.heap.size):=fun q hq=>by
  rcases hq with hq|hq
  ·exact⟨own_ge o1 (by cases Ai with|none=>cases hq|some a=>exact hq),own_lt' o1 (by cases Ai with|none=>cases hq|some a=>exact hq)⟩
  ·exact⟨own_ge o2 (by cases Ao with|none=>cases hq|some a=>exact hq),own_lt' o2 (by cases Ao with|none=>cases hq|some a=>exact hq)⟩
 have HB:=Lh hb;have Hz:=Lh hb.size;have HM2:Hid (Calls Tryz.prog 83 #[.int .u8 tag, .agg #[.slice Ai I.length ci, .slice Ao O.length co, .int .i64 0], .slice P l c] w2 (zb3 w2 I O Ai ci Ao co)):=HM.out;generalize I.length=li at*;generalize O.length=lo at*;clear o1 o2 hb HM
 go_wp2_with fail;refine HM2.out.mono ?_
 rintro e w3 ⟨κ,bk,rfl,K,hb3,hbk,hfix⟩;have b4:=bA_ w3 (.cells #[.iface κ.pt (.pointer (some ⟨bk,0,none⟩))] 187);have k4:=bN_ b4;have HK4:=Lh (K.below b4);have HKB:=Lh k4;have HB4:=Lh ((HB.out.trans (hb3.mono Hz.out)).trans (b4.mono (by have:=Hz.out;have:=hb3.size;omega)))
 have Hz3:=Lh hb3.size;have Hfix:=Lh hfix;obtain⟨pt,hpt⟩:∃p,κ.pt=p:=⟨_,rfl⟩;have Hpt:=Lh hpt;rw[hpt];rw[hpt]at HKB HK4 HB4;clear K hb3 b4 k4 hfix hpt
 go_wp2_with fail
 go_ret2;refine⟨κ,bk,w3.heap.size,Ai,ci,Ao,co,rfl,by rw[Hpt.out];exact HKB.out,HK4.out,HB4.out,zy Hz.out hbk,zy Hz.out Hz3.out,fun q hq=>?_⟩
 rcases hq with hq|hq|hq
 ·have:=HFX.out q (.inl hq);exact⟨this.1,zP this.2 (zy Hz3.out (by simp))⟩
 ·have:=HFX.out q (.inr hq);exact⟨this.1,zP this.2 (zy Hz3.out (by simp))⟩
 ·exact⟨zy Hz.out (Hfix.out q hq),HK4.out.ex.lt hq⟩
theorem zhR(bt:Nat)(c0 c1 c2 c4 c5 c6 c7 c8 c9:Value)(I:Option Addr)(li cI:Nat)(w:World)(kb:Blk w bt 125 #[c0,c1,c2, .slice I li cI,c4,c5,c6,c7,c8,c9])(hl:li≤16):
  Calls Tryz.prog 62 #[.pointer (some ⟨bt,0,none⟩)] w fun e w'=>e= .returned (.tuple #[])∧∃g,Blk w' bt 125 #[c0,c1,c2, .slice I li cI,c4, .slice (some ⟨g,0,none⟩) li li, .slice none 0 0, .int .i64 0, .bool false,c9]∧
   Blk w' g 36 (List.replicate li (Value.slice none 0 0)).toArray∧w.heap.size≤g∧Only (fun q=>q=bt) w w':=by
 have hmk:=run_make_row' (P:= Tryz.prog) 27 36 (.slice none 0 0) 24 Tryz.underlying27 zd1 rfl .i64 .i64 li (by omega) (by omega)
 have hbw:=kb.lt;have k3:=kb.cellL 3 rfl;have ba:=bA_ w (.cells (madeCells #[.slice none 0 0] li) 36);have kr:=Blk.new w _ rfl 36 (madeCells #[.slice none 0 0] li);have hz1:(w.alloc (.cells (madeCells #[.slice none 0 0] li) 36)).heap.size=w.heap.size+1:=by simp
 have kt:=kb.below ba hbw;have O0:Only (fun q=>q=bt) w (w.alloc (.cells (madeCells #[.slice none 0 0] li) 36)):=Only.of_below ba
 generalize hW:w.alloc (.cells (madeCells #[.slice none 0 0] li) 36)=W at*;rw[zf7]at kr;have k5:=kt.set 5 (.slice (some ⟨w.heap.size,0,none⟩) li li);have r5:=kr.far (p:=⟨bt,5,none⟩) (by show w.heap.size≠bt;omega) (.slice (some ⟨w.heap.size,0,none⟩) li li)
 have O5:=O0.setCell ⟨bt,5,none⟩ (.slice (some ⟨w.heap.size,0,none⟩) li li) fun _=>rfl
 have f5:=kt.frozen 5;have e5:=kt.cell 5;simp only[zc,ze,zd,zC,zI,zT]at k5 e5;have k6:=k5.set 6 (.slice none 0 0);have r6:=r5.far (p:=⟨bt,6,none⟩) (by show w.heap.size≠bt;omega) (.slice none 0 0)
 have O6:=O5.setCell ⟨bt,6,none⟩ (.slice none 0 0) fun _=>rfl
 have f6:=k5.frozen 6;have e6:=k5.cell 6;simp only[zc,ze,zd,zC,zI,zT]at k6 e6;have k7:=k6.set 7 (.int .i64 0);have r7:=r6.far (p:=⟨bt,7,none⟩) (by show w.heap.size≠bt;omega) (.int .i64 0)
 have O7:=O6.setCell ⟨bt,7,none⟩ (.int .i64 0) fun _=>rfl
 have f7:=k6.frozen 7;have e7:=k6.cell 7;simp only[zc,ze,zd,zC,zI,zT]at k7 e7;have k8:=k7.set 8 (.bool false);have r8:=r7.far (p:=⟨bt,8,none⟩) (by show w.heap.size≠bt;omega) (.bool false)
 have O8:=O7.setCell ⟨bt,8,none⟩ (.bool false) fun _=>rfl
 have f8:=k7.frozen 8;have e8:=k7.cell 8;simp only[zc,ze,zd,zC,zI,zT]at k8 e8;have HK:=Lh k8;have HR:=Lh r8;have HO:=Lh O8;clear kb kr kt ba k5 k6 k7 k8 r5 r6 r7 r8 O0 O5 O6 O7 O8 hz1
 go_enter Tryz.func62, Tryz.ntmps62
 go_wp2_with fail
 go_end0
 exact⟨rfl,w.heap.size,HK.out,HR.out,zF _,HO.out⟩
theorem zf9(bt:Nat)(c0 c1 c2 c3 c5 c6 c8 c9:Value)(O:Option Addr)(lo cO port:Nat)(w:World)(kb:Blk w bt 125 #[c0,c1,c2,c3, .slice O lo cO,c5,c6, .int .i64 port,c8,c9])(hp:port≠lo):
  Calls Tryz.prog 85 #[.pointer (some ⟨bt,0,none⟩)] w fun e w'=>e= .returned (.tuple #[])∧Drawn w w':=by
 have k4:=kb.cellL 4 rfl;have k7:=kb.cellL 7 rfl;have hd:((port:Int)==(lo:Int))=false:=by simp;omega
 clear kb
 go_enter Tryz.func85, Tryz.ntmps85
 go_wp2_with fail
 go_quiet (fail)
 go_wp2_with fail
 go_end0
 exact⟨rfl,(Drawn.refl w).drewN _⟩
theorem zg0(bt:Nat)(c0 c1 c2 c5 c6 c8:Value)(I:Option Addr)(li cI:Nat)(O:Option Addr)(lo cO:Nat)(wh:Int)(w:World)(kb:Blk w bt 125 #[c0,c1,c2, .slice I li cI, .slice O lo cO,c5,c6, .int .i64 lo,c8, .int .i64 wh])(hl:li≤16)(hw:0≤wh∧wh≤4611686018427387904):
  Calls Tryz.prog 85 #[.pointer (some ⟨bt,0,none⟩)] w fun e w'=>e= .returned (.tuple #[])∧∃g,Blk w' bt 125 #[c0,c1,c2, .slice I li cI, .slice O lo cO, .slice (some ⟨g,0,none⟩) li li, .slice none 0 0, .int .i64 0, .bool false, .int .i64 (wh+1)]∧
   Blk w' g 36 (List.replicate li (Value.slice none 0 0)).toArray∧w.heap.size≤g∧Only (fun q=>q=bt) w w':=by
 have k4:=kb.cellL 4 rfl;have k7:=kb.cellL 7 rfl;have k9:=kb.cellL 9 rfl;have f9:=kb.frozen 9;have e1:IntKind.i64.wrap (wh+1)=wh+1:=by rw[IntKind.wrap_i64];omega
 have HK:=Lh kb;clear kb
 go_enter Tryz.func85, Tryz.ntmps85
 go_wp2_with fail
 go_quiet (fail)
 generalize hW2:World.drewN w _=w2;have d2:Drawn w w2:=by rw[←hW2];exact(Drawn.refl _).drewN _
 have k2:=HK.out.below (d2.below w.heap.size) HK.out.lt;have k9:=k2.cellL 9 rfl;have f9:=k2.frozen 9;have k3:=k2.set 9 (.int .i64 (wh+1));simp only[zc,ze,zd]at k3;have O3:Only (fun q=>q=bt) w (w2.setCell ⟨bt,9,none⟩ (.int .i64 (wh+1))):=(Only.of_below (d2.below _)).setCell _ _ fun _=>rfl
 have hz3:(w2.setCell ⟨bt,9,none⟩ (.int .i64 (wh+1))).heap.size=w.heap.size:=by simp[d2.size]
 have HB:=Lh (zhR bt _ _ _ _ _ _ _ _ _ I li cI _ k3 hl);have HO:=Lh O3;have Hz:=Lh hz3;clear hW2 d2 k2 k3 O3 hz3 k4 k7 HK
 go_wp2_with fail;refine HB.out.mono ?_
 rintro e w4 ⟨rfl,g,k4,r4,hg,O4⟩;have HK4:=Lh k4;have HR4:=Lh r4;have HO4:=Lh (HO.out.trans O4);have Hg:Hid (w.heap.size≤g):=by rw[←Hz.out];exact hg
 clear k4 r4 O4 hg k9 f9
 go_wp2_with fail
 go_end0
 exact⟨rfl,g,HK4.out,HR4.out,Hg.out,HO4.out⟩
end Go.Proofs.YtpmlljbebdidgaaGreatDoor
