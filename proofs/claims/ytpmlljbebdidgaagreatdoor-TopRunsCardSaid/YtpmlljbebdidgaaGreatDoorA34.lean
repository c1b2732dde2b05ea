/- Lemmas and walks for the claim: Gl, Fc. -/
import Derived.Test.YtpmlljbebdidgaaGreatDoorA0
import Derived.Test.YtpmlljbebdidgaaGreatDoorA27
import Derived.Test.YtpmlljbebdidgaaGreatDoorA7
import Derived.Test.YtpmlljbebdidgaaGreatDoorA1
set_option linter.unusedSimpArgs false
set_option maxRecDepth 100000
set_option maxHeartbeats 4000000
namespace Go.Proofs.YtpmlljbebdidgaaGreatDoor
open Go.RowKit
theorem zhi{xs:List Int}{k:Nat}(hk:k<xs.length):(cellsI xs)[k]?=some (.int .i64 (xs.getD k 0)):=by
 rw[zz,zk hk];simp[cellsI,hk]
theorem zmm(W:World)(x y:Array Value)(t:TypeId):Blk ((W.alloc (.cells x t)).alloc (.cells y t)).drew W.heap.size t x∧Blk ((W.alloc (.cells x t)).alloc (.cells y t)).drew (W.heap.size+1) t y∧Below W.heap.size W ((W.alloc (.cells x t)).alloc (.cells y t)).drew:=by
 have b1:=bA_ W (.cells x t);have b2:=b1.alloc b1.size (.cells y t);have k1:=(Blk.new W _ rfl t x).alloc (.cells y t);have k2:=Blk.new (W.alloc (.cells x t)) (W.heap.size+1) (by simp) t y
 have d:=Drawn.below ((W.alloc (.cells x t)).alloc (.cells y t)).heap.size ((Drawn.refl ((W.alloc (.cells x t)).alloc (.cells y t))).drewN 1);exact⟨k1.below d k1.lt,k2.below d k2.lt,Below.drewN b2 1⟩
structure PuN(W1:World)(m gn ga nA k:Nat)(Ak:Option Addr)(ck:Nat)(ars:List Value)(nf np nt nq nS:Nat)(eS:Option Addr)(ec ro lo co ri li ci:Nat)(xo xi:List Int)(gv kv:Int)(L:Nat→Bool)(V:Nat→Value)(w:World):Prop where
 bel:Below m W1 w
 siz:m≤w.heap.size
 bn:L 23=false→Blk w gn 30 #[.int .i64 nA, .slice Ak k ck]
 bn2:L 23=true→Blk w gn 30 #[.int .i64 nA,V 84]
 o0:L 21=false→w.ownsRow m 76 5 (.slice Ak k ck) k ars
 o1:L 21=true→w.ownsRow m 76 5 (V 84) (k+1) (ars++[.int .i64 nf, .int .i64 nt, .int .i64 gv, .int .i64 kv, .int .i64 (nS:Int)])
 a21:L 21=true→V 84= .slice (sAddr (V 84)) (k+1) (sCap (V 84))
 l23:L 23=true→L 21=true
 bx:Blk w ga 69 #[.int .i64 nf, .int .i64 np, .int .i64 nt, .int .i64 nq, .slice eS nS ec]
 rwO:w.ownsRow m 3 1 (.slice (some ⟨ro,0,none⟩) lo co) lo (cellsI xo)
 rwI:w.ownsRow m 3 1 (.slice (some ⟨ri,0,none⟩) li ci) li (cellsI xi)
 b20:L 20=true→L 21=false→V 83= .slice (some ⟨gbOf (V 83),0,none⟩) 1 1∧Rd w w.heap.size (some ⟨gbOf (V 83),0,none⟩) [.int .i64 nf, .int .i64 nt, .int .i64 gv, .int .i64 kv, .int .i64 (nS:Int)]
 e0:L 0=true→V 63= .pointer (some ⟨gn,1,none⟩)
 e1:L 1=true→V 64= .slice Ak k ck
 e2:L 2=true→V 65= .pointer (some ⟨ga,0,none⟩)
 e3:L 3=true→V 66= .int .i64 nf
 e4:L 4=true→V 67= .pointer (some ⟨ga,2,none⟩)
 e5:L 5=true→V 68= .int .i64 nt
 e6:L 6=true→V 69= .slice (some ⟨ro,0,none⟩) lo co
 e7:L 7=true→V 70= .pointer (some ⟨ga,1,none⟩)
 e8:L 8=true→V 71= .int .i64 np
 e9:L 9=true→V 72= .pointer (some ⟨ro,np,none⟩)
 e10:L 10=true→V 73= .int .i64 gv
 e11:L 11=true→V 74= .slice (some ⟨ri,0,none⟩) li ci
 e12:L 12=true→V 75= .pointer (some ⟨ga,3,none⟩)
 e13:L 13=true→V 76= .int .i64 nq
 e14:L 14=true→V 77= .pointer (some ⟨ri,nq,none⟩)
 e15:L 15=true→V 78= .int .i64 kv
 e16:L 16=true→V 79= .pointer (some ⟨ga,4,none⟩)
 e17:L 17=true→V 80= .slice eS nS ec
 e18:L 18=true→V 81= .int .i64 (nS:Int)
 e19:L 19=true→V 82= .agg #[.int .i64 nf, .int .i64 nt, .int .i64 gv, .int .i64 kv, .int .i64 (nS:Int)]
 e22:L 22=true→V 85= .pointer (some ⟨gn,1,none⟩)
theorem zh3(g:zB)(w:World)(hg:g.good w w.heap.size):
  Calls Tryz.prog 5 #[.agg #[.string g.nm, .slice g.aA g.acts.length g.cA, .slice g.aE g.edges.length g.cE, .slice g.aI g.ins.length g.cI, .slice g.aO g.outs.length g.cO]] w fun e w'=>∃(n:Int) (A:Option Addr) (l c:Nat),e= .returned (.tuple #[.agg #[.int .i64 n, .slice A l c], .int .i64 (checkG g)])∧Below w.heap.size w w'∧
   (checkG g=0→n=g.acts.length∧l=g.edges.length∧w'.ownsRow w.heap.size 76 5 (.slice A l c) l (cellsA (garcs g))):=by
 obtain⟨i1,hi1,z1,hz1,hx1,hx2,hx3⟩:=zie;obtain⟨B0,hB0⟩:∃b,w.heap.size=b:=⟨_,rfl⟩;rw[hB0]at hg⊢;obtain⟨E,hE⟩:∃E,checkG g=E:=⟨_,rfl⟩;rw[hE];have b1:=(zm B0 w).alloc (by omega) (.cells #[.string g.nm, .slice g.aA g.acts.length g.cA, .slice g.aE g.edges.length g.cE, .slice g.aI g.ins.length g.cI, .slice g.aO g.outs.length g.cO] 26)
 have k1:=Blk.new w B0 hB0.symm 26 #[.string g.nm, .slice g.aA g.acts.length g.cA, .slice g.aE g.edges.length g.cE, .slice g.aI g.ins.length g.cI, .slice g.aO g.outs.length g.cO];have zz1:(w.alloc (.cells #[.string g.nm, .slice g.aA g.acts.length g.cA, .slice g.aE g.edges.length g.cE, .slice g.aI g.ins.length g.cI, .slice g.aO g.outs.length g.cO] 26)).heap.size=B0+1:=by simp;omega
 obtain⟨Wa,hWa⟩:∃W,w.alloc (.cells #[.string g.nm, .slice g.aA g.acts.length g.cA, .slice g.aE g.edges.length g.cE, .slice g.aI g.ins.length g.cI, .slice g.aO g.outs.length g.cO] 26)=W:=⟨_,rfl⟩;rw[hWa]at b1 k1 zz1;obtain⟨gR,hgR0⟩:∃b,B0+1=b:=⟨_,rfl⟩;rw[hgR0]at zz1;have hgR:B0≤gR:=by omega
 have b2:=b1.alloc (by omega) (.cells #[.int .i64 0, .slice none 0 0] 30)
 have kG:=k1.alloc (.cells #[.int .i64 0, .slice none 0 0] 30);have kR:=Blk.new Wa gR zz1.symm 30 #[.int .i64 0, .slice none 0 0];have z2:(Wa.alloc (.cells #[.int .i64 0, .slice none 0 0] 30)).heap.size=gR+1:=by simp;omega
 obtain⟨W1,hW1⟩:∃W,Wa.alloc (.cells #[.int .i64 0, .slice none 0 0] 30)=W:=⟨_,rfl⟩;rw[hW1]at b2 kG kR z2;obtain⟨m,hm⟩:∃b,gR+1=b:=⟨_,rfl⟩;rw[hm]at z2;have hg1:g.good W1 m:=(hg.below b2 lR_).more (by omega)
 have hg2:g.good W1 W1.heap.size:=hg1.more (by omega)
 have g0:=kG.cellL 0 rfl;have g1:=kG.cellL 1 rfl;have g2:=kG.cellL 2 rfl;have g3:=kG.cellL 3 rfl;have g4:=kG.cellL 4 rfl;have HG:=Lh hg1;have HG2:=Lh hg2;have HKG:=Lh kG;have HKR:=Lh kR;have HB2:=Lh b2;have HE:=Lh hE;have hgRm:gR<m:=by omega
 have hgGm:B0<m:=by omega
 clear hE hg b1 k1 b2 kG kR hg1 hg2
 go_enter Tryz.func5, Tryz.ntmps5
 go_wp2_with fail
 try rw[hWa]
 try rw[hW1]
 refine(zhh g W1 HG2.out).mono ?_;rw[HE.out,z2];rintro e w2 ⟨rfl,hb2⟩;clear g0 g1 g2 g3 g4 hWa hW1;have HBw:=Lh hb2;have hz2:=hb2.size;by_cases hE0:E=0
 ·subst hE0;obtain⟨nA,hnA⟩:∃n,g.acts.length=n:=⟨_,rfl⟩;obtain⟨nE,hnE⟩:∃n,g.edges.length=n:=⟨_,rfl⟩;have K2:=HKG.out.below hb2 hgGm;have y1:=K2.cellL 1 rfl;have y2:=K2.cellL 2 rfl;rw[hnA]at y1;rw[hnE]at y2;have b3:=hb2.alloc (by omega) (.cells #[.int .i64 nA, .slice none 0 0] 30)
  have k3:=Blk.new w2 _ rfl 30 #[.int .i64 nA, .slice none 0 0];have HB3:=Lh b3;have HK3:=Lh k3;have HnA:=Lh hnA;have HnE:=Lh hnE;clear K2 b3 k3 hnA hnE hb2 HBw
  go_upto_region 5 with fail;obtain⟨gn,hgn⟩:∃b,w2.heap.size=b:=⟨_,rfl⟩;obtain⟨W3,hW3⟩:∃W,w2.alloc (.cells #[.int .i64 nA, .slice none 0 0] 30)=W:=⟨_,rfl⟩;rw[hW3]at HB3 HK3;rw[hgn]at HK3
  try rw[hW3]
  try rw[hgn]
  have K3:=HKG.out.below HB3.out hgGm;have y3:=K3.cellL 2 rfl;rw[HnE.out]at y3;have hgnm:m≤gn:=by omega
  clear K3 hW3 hgn y1 y2
  go_wp2_with fail;clear y3
  obtain⟨aE,haE⟩:∃a,g.aE=a:=⟨_,rfl⟩;rw[haE];have HaE:=Lh haE;clear haE
  go_loopw [29] (fun i wr=>∃(k:Nat) (A:Option Addr) (c:Nat),k≤nE∧i= .int .i64 k∧Below m W1 wr∧Blk wr gn 30 #[.int .i64 nA, .slice A k c]∧wr.ownsRow m 76 5 (.slice A k c) k (cellsA ((garcs g).take k))) (fun i _=>nE-(intOf i).toNat)
  case atStart=>exact⟨0,none,0,zJ _,rfl,HB3.out,HK3.out,zr _ _ _ _⟩
  case round=>
   clear HB3 HK3;obtain⟨k,Ak,ck,hk,rfl,hbw,hkn,ho⟩:=hrel;by_cases hkE:k<nE
   ·have h3:(0:Int)≤(k:Int):=by omega
    have h4:(k:Int)<(nE:Int):=by omega
    have G:=HG.out.below hbw lR_;obtain⟨ab,ao,e,hA,hab,hxk,hxc⟩:=G.rE.flat (f:=GEdg.cells) (n:=5) (by omega) (fun _=>rfl) (k:=k) (by rw[HnE.out];exact hkE)
    have c0:=hxc 0 _ rfl;have c1:=hxc 1 _ rfl;have c2:=hxc 2 _ rfl;have c3:=hxc 3 _ rfl;have c4:=hxc 4 _ rfl;rw[zab]at c0;obtain⟨x,y,hx,hy,f1,f2,t1,t2,p1,p2,q1,q2,hst⟩:=zcx HE.out (zv hxk);have ge:=HG.out.gE e (zv hxk);obtain⟨arc,harc⟩:∃a,garcOf g e=a:=⟨_,rfl⟩;have hark:(garcs g).take (k+1)=(garcs g).take k++[arc]:=by
     unfold garcs;rw[←harc,zan,zp,hxk]
     rfl
    obtain⟨ef,efp,et,etp,est,eS,ec⟩:=e;simp only at c0 c1 c2 c3 c4 hx hy f1 f2 t1 t2 p1 p2 q1 q2 hst;obtain⟨nf,rfl⟩:∃n:Nat,ef=n:=⟨ef.toNat,by omega⟩
    obtain⟨np,rfl⟩:∃n:Nat,efp=n:=⟨efp.toNat,by omega⟩
    obtain⟨nt,rfl⟩:∃n:Nat,et=n:=⟨et.toNat,by omega⟩
    obtain⟨nq,rfl⟩:∃n:Nat,etp=n:=⟨etp.toNat,by omega⟩
    rw[zE]at hx hy;rw[HnA.out]at f2 t2;have hav:arc=⟨nf,nt,(outsOf x).getD np 0,(insOf y).getD nq 0,est.length⟩:=by
     rw[←harc];unfold garcOf zdp zed;simp only[zE,hx,hy,zai,zbs]
    have gx:=HG.out.gA x (zv hx);have gy:=HG.out.gA y (zv hy);obtain⟨bb,bo,x',hAA,hbb,hx',xcs⟩:=G.rA.flat (f:=ActV.cells) (n:=3) (by omega) (fun _=>rfl) (k:=nf) (by rw[HnA.out];omega)
    obtain rfl:x'=x:=zq (hx'.symm.trans hx);obtain⟨bb2,bo2,y',hAA2,-,hy',ycs⟩:=G.rA.flat (f:=ActV.cells) (n:=3) (by omega) (fun _=>rfl) (k:=nt) (by rw[HnA.out];omega)
    obtain rfl:y'=y:=zq (hy'.symm.trans hy);obtain⟨rfl,rfl⟩:bb2=bb∧bo2=bo:=by have q:=hAA.symm.trans hAA2;simp at q;exact⟨q.1.symm,q.2.symm⟩
    have ba:=bA_ wr (.cells #[.int .i64 nf, .int .i64 np, .int .i64 nt, .int .i64 nq, .slice eS est.length ec] 69);have kx:=bN_ ba;have hmw:=hbw.size;have hbw2:=hbw.trans (ba.mono (by omega))
    have hkn2:=hkn.below ba hkn.lt;have ho2:=own_below ho ba;have KG2:=HKG.out.below hbw2 hgGm;have a0:=ba.cell (p:=⟨bb2,bo2+nf*3+0,none⟩) (by show bb2<_;omega)
    have a1:=ba.cell (p:=⟨bb2,bo2+nf*3+1,none⟩) (by show bb2<_;omega)
    have a2:=ba.cell (p:=⟨bb2,bo2+nf*3+2,none⟩) (by show bb2<_;omega)
    have b0:=ba.cell (p:=⟨bb2,bo2+nt*3+0,none⟩) (by show bb2<_;omega)
    have b1:=ba.cell (p:=⟨bb2,bo2+nt*3+1,none⟩) (by show bb2<_;omega)
    have b2:=ba.cell (p:=⟨bb2,bo2+nt*3+2,none⟩) (by show bb2<_;omega)
    rw[xcs 0 _ rfl,zab]at a0;rw[xcs 1 _ rfl]at a1;rw[xcs 2 _ rfl]at a2;rw[ycs 0 _ rfl,zab]at b0;rw[ycs 1 _ rfl]at b1;rw[ycs 2 _ rfl]at b2;obtain⟨ga,hga⟩:∃g,wr.heap.size=g:=⟨_,rfl⟩;obtain⟨W2,hW2⟩:∃W,wr.alloc (.cells #[.int .i64 nf, .int .i64 np, .int .i64 nt, .int .i64 nq, .slice eS est.length ec] 69)=W:=⟨_,rfl⟩;rw[hW2]at kx hbw2 hkn2 ho2 KG2 a0 a1 a2 b0 b1 b2;rw[hga]at kx;have y1:=KG2.cellL 1 rfl;have x0:=kx.cellL 0 rfl;have x2:=kx.cellL 2 rfl;rw[HnA.out,hAA]at y1;have h5:(0:Int)≤(nf:Int):=by omega
    have h6:(0:Int)≤(nt:Int):=by omega
    have hltg:=kx.lt;have hltn:=hkn2.lt;have hlB:=KG2.lt;have hlb:bb2<W2.heap.size:=by have:=hbw2.size;omega
    have Hgx:=Lh gx;have Hgy:=Lh gy;have Hbw2:=Lh hbw2;have Hkn2:=Lh hkn2;have Ho2:=Lh ho2;have Hkx:=Lh kx;have Hav:=Lh hav;have Hark:=Lh hark;clear hAA gx gy hx' hy' xcs ycs hAA2 ba kx hbw hbw2 hkn hkn2 ho ho2 KG2 G hxc ge harc hav hark hx hy;rw[HaE.out]at hA;subst hA
    go_upto_region 8 with fail
    try rw[hW2]
    try rw[hga]
    clear hW2 hga c0 c1 c2 c3 c4
    go_cut [8,9] (fun s8 s9 wx=>∃b8 b9:Nat,s8= .pointer (some ⟨b8,0,none⟩)∧s9= .pointer (some ⟨b9,0,none⟩)∧Blk wx b8 72 #[.string x'.nm, .int .u8 x'.tag, .slice x'.P x'.ps.length x'.c]∧Blk wx b9 72 #[.string y'.nm, .int .u8 y'.tag, .slice y'.P y'.ps.length y'.c]∧Below W2.heap.size W2 wx)
    case first=>
     go_region
     ·go_wp2
      go_meet;obtain⟨q1,q2,q3⟩:=zmm W2 #[.string x'.nm, .int .u8 x'.tag, .slice x'.P x'.ps.length x'.c] #[.string y'.nm, .int .u8 y'.tag, .slice y'.P y'.ps.length y'.c] 72
      exact⟨_,_,rfl,rfl,q1,q2,q3⟩
     ·go_wp2
      go_meet;obtain⟨q1,q2,q3⟩:=zmm W2 #[.string y'.nm, .int .u8 y'.tag, .slice y'.P y'.ps.length y'.c] #[.string x'.nm, .int .u8 x'.tag, .slice x'.P x'.ps.length x'.c] 72
      exact⟨_,_,rfl,rfl,q2,q1,q3⟩
    case rest=>
     obtain⟨b8,b9,rfl,rfl,k8,k9,hb8⟩:=hcut;clear a0 a1 a2 b0 b1 b2 y1 x0 x2;have v1:=k8.cellL 1 rfl;have v2:=k8.cellL 2 rfl;have hzm:m≤wc.heap.size:=by have:=Hbw2.out.size;have:=hb8.size;omega
     have hb9:=Hbw2.out.trans (hb8.mono (by have:=Hbw2.out.size;omega))
     have Hkn3:=Lh (Hkn2.out.below hb8 hltn);have Hkx3:=Lh (Hkx.out.below hb8 hltg);have Ho3:=Lh (own_below Ho2.out hb8);have HRx:=Lh (((Hgx.out.below hb9 lR_).more hzm).rd);have HRy:=Lh (((Hgy.out.below hb9 lR_).more hzm).rd);have Hb9:=Lh hb9;have Hk9:=Lh k9;clear Hbw2 Hkn2 Hkx Ho2 hb8 hb9 k8 k9
     go_wp2_with fail;refine(shape_any x'.tag x'.ps x'.P x'.ps.length x'.c wc rfl Hgx.out.fit HRx.out Hgx.out.len).mono ?_
     rintro e w5 ⟨Ai,ci0,Ao,co,rfl,-,oO,hb5⟩;obtain⟨ro,hro⟩:∃r,Ao=some ⟨r,0,none⟩:=by
      have q:=zbi oO (by show 0<(outsOf x').length;omega)
      exact q
     subst hro;have k95:=Hk9.out.below hb5 Hk9.out.lt;have v1:=k95.cellL 1 rfl;have v2:=k95.cellL 2 rfl;have Hkn5:=Lh (Hkn3.out.below hb5 Hkn3.out.lt);have Hkx5:=Lh (Hkx3.out.below hb5 Hkx3.out.lt);have Ho5:=Lh (own_below Ho3.out hb5);have HRy5:=Lh ((HRy.out.below hb5 lR_).more hb5.size);have Hb5:=Lh (Hb9.out.trans (hb5.mono hzm));have HoO:=Lh (World.ownsRow.mono oO hzm);have hz5:=hb5.size;clear Hkn3 Hkx3 Ho3 HRx HRy Hb9 Hk9 oO hb5 k95
     go_wp2_with fail;refine(shape_any y'.tag y'.ps y'.P y'.ps.length y'.c w5 rfl Hgy.out.fit HRy5.out Hgy.out.len).mono ?_
     rintro e w6 ⟨Aj,ci,Ap,cp,rfl,oI,-,hb6⟩;obtain⟨ri,hri⟩:∃r,Aj=some ⟨r,0,none⟩:=by
      have q:=zbi oI (by show 0<(insOf y').length;omega)
      exact q
     subst hri;have Hkn6:=Lh (Hkn5.out.below hb6 Hkn5.out.lt);have Hkx6:=Lh (Hkx5.out.below hb6 Hkx5.out.lt);have Ho6:=Lh (own_below Ho5.out hb6);have HoO6:=Lh (own_below HoO.out hb6);have HoI6:=Lh (World.ownsRow.mono oI (show m≤w5.heap.size by omega))
     have Hb6:=Lh (Hb5.out.trans (hb6.mono (by omega)))
     have hz6:=hb6.size;clear Hkn5 Hkx5 Ho5 HRy5 Hb5 HoO oI hb6 v1 v2;have hgv:=zhi (xs:=outsOf x') (k:=np) (by omega)
     have hkv:=zhi (xs:=insOf y') (k:=nq) (by omega)
     change np<((shapeR x'.tag x'.ps).2.1.length:Int)at p2;change nq<((shapeR y'.tag y'.ps).1.length:Int)at q2;obtain⟨xo,hxo⟩:∃l,(shapeR x'.tag x'.ps).2.1=l:=⟨_,rfl⟩;obtain⟨xi,hxi⟩:∃l,(shapeR y'.tag y'.ps).1=l:=⟨_,rfl⟩;obtain⟨gv,hgv0⟩:∃v,(outsOf x').getD np 0=v:=⟨_,rfl⟩;obtain⟨kv,hkv0⟩:∃v,(insOf y').getD nq 0=v:=⟨_,rfl⟩;have hav:=Hav.out;rw[hgv0]at hgv hav;rw[hkv0]at hkv hav;change (cellsI (shapeR x'.tag x'.ps).2.1)[np]?=_ at hgv;change (cellsI (shapeR y'.tag y'.ps).1)[nq]?=_ at hkv;rw[hxo]at hgv HoO6 p2⊢;rw[hxi]at hkv HoI6 q2⊢;obtain⟨lo,hlo⟩:∃n,xo.length=n:=⟨_,rfl⟩;obtain⟨li,hli⟩:∃n,xi.length=n:=⟨_,rfl⟩;obtain⟨nS,hnS⟩:∃n,est.length=n:=⟨_,rfl⟩;rw[hlo]at HoO6 p2⊢;rw[hli]at HoI6 q2⊢;rw[hnS]at Hkx6 hav;obtain⟨ars,hars⟩:∃l,cellsA ((garcs g).take k)=l:=⟨_,rfl⟩;rw[hars]at Ho6;have Hgv:=Lh hgv;have Hkv:=Lh hkv;have Hav6:=Lh hav;have Hars:=Lh hars;have HgnM:=Lh hgnm;have hl1:=(zdo (zdD HE.out).1).2.2.2.1;have hkl:k<96:=by have:=HnE.out;omega
     clear hgv hkv hav Hav hxo hxi hgv0 hkv0 hlo hli hnS hars hl1;have h7:(0:Int)≤(np:Int):=by omega
     have h8:(0:Int)≤(nq:Int):=by omega
     go_wp2_with fail;have hI0:∀V,PuN W1 m gn ga nA k Ak ck ars nf np nt nq nS eS ec ro lo co ri li ci xo xi gv kv (fun _=>false) V w6.drew:=fun V=>by
      have d:=Drawn.below w6.heap.size ((Drawn.refl w6).drewN 1);have q1:=Hb6.out.trans (d.mono (by omega))
      have q2:m≤w6.drew.heap.size:=zy (by omega) d.size
      have q3:=Hkn6.out.below d Hkn6.out.lt;have q4:=own_below Ho6.out d;have q5:=Hkx6.out.below d Hkx6.out.lt;have q6:=own_below HoO6.out d;have q7:=own_below HoI6.out d;constructor
      all_goals first
       |exact q1
       |exact q2
       |exact q5
       |exact q6
       |exact q7
       |exact fun _=>q3
       |exact fun _=>q4
       |(intro h;cases h)
     refine zN [63,64,65,66,67,68,69,70,71,72,73,74,75,76,77,78,79,80,81,82,83,84,85] (PuN W1 m gn ga nA k Ak ck ars nf np nt nq nS eS ec ro lo co ri li ci xo xi gv kv) (by kernel_rfl) (by kernel_rfl) ?_ ?_ ?_
     ·exact hI0 _
     ·intro i o ho L V w1 hi hL hno h K hK;rcases i with _|_|_|_|_|_|_|_|_|_|_|_|_|_|_|_|_|_|_|_|_|_|_|_|i
      ·obtain rfl:=sJ ho;simp only[putAll,zi,zj,zc,ze,zd];clear hL hno
       go_simp;exact hK (zg V 63 _) _ _ (by simp[putAll,zg]) {h with e0:=fun _=>rfl}
      ·obtain rfl:=sJ ho;simp only[putAll,zi,zj,zc,ze,zd];have e0:=h.e0 (hL ⟨0, .data⟩ (by simp) rfl)
       have l21:=hno 21 (by kernel_rfl)
       have l23:L 23=false:=by
        cases h23:L 23 with
        |false=>rfl
        |true=>exact (by cases ((h.l23 h23).symm.trans l21))
       have xt:=(h.bn l23).cellL 1 rfl;clear hL hno
       go_simp;exact hK (zg V 64 _) _ _ (by simp[putAll,zg,e0]) {h with e1:=fun _=>rfl}
      ·obtain rfl:=sJ ho;simp only[putAll,zi,zj,zc,ze,zd];clear hL hno
       go_simp;exact hK (zg V 65 _) _ _ (by simp[putAll,zg]) {h with e2:=fun _=>rfl}
      ·obtain rfl:=sJ ho;simp only[putAll,zi,zj,zc,ze,zd];have e2:=h.e2 (hL ⟨2, .data⟩ (by simp) rfl)
       have xt:=h.bx.cellL 0 rfl;clear hL hno
       go_simp;exact hK (zg V 66 _) _ _ (by simp[putAll,zg,e2]) {h with e3:=fun _=>rfl}
      ·obtain rfl:=sJ ho;simp only[putAll,zi,zj,zc,ze,zd];clear hL hno
       go_simp;exact hK (zg V 67 _) _ _ (by simp[putAll,zg]) {h with e4:=fun _=>rfl}
      ·obtain rfl:=sJ ho;simp only[putAll,zi,zj,zc,ze,zd];have e4:=h.e4 (hL ⟨4, .data⟩ (by simp) rfl)
       have xt:=h.bx.cellL 2 rfl;clear hL hno
       go_simp;exact hK (zg V 68 _) _ _ (by simp[putAll,zg,e4]) {h with e5:=fun _=>rfl}
      ·obtain rfl:=sJ ho;simp only[putAll,zi,zj,zc,ze,zd];clear hL hno
       go_simp;exact hK (zg V 69 _) _ _ (by simp[putAll,zg]) {h with e6:=fun _=>rfl}
      ·obtain rfl:=sJ ho;simp only[putAll,zi,zj,zc,ze,zd];clear hL hno
       go_simp;exact hK (zg V 70 _) _ _ (by simp[putAll,zg]) {h with e7:=fun _=>rfl}
      ·obtain rfl:=sJ ho;simp only[putAll,zi,zj,zc,ze,zd];have e7:=h.e7 (hL ⟨7, .data⟩ (by simp) rfl)
       have xt:=h.bx.cellL 1 rfl;clear hL hno
       go_simp;exact hK (zg V 71 _) _ _ (by simp[putAll,zg,e7]) {h with e8:=fun _=>rfl}
      ·obtain rfl:=sJ ho;simp only[putAll,zi,zj,zc,ze,zd];have e6:=h.e6 (hL ⟨6, .data⟩ (by simp) rfl)
       have e8:=h.e8 (hL ⟨8, .data⟩ (by simp) rfl)
       clear hL hno
       go_simp;exact hK (zg V 72 _) _ _ (by simp[putAll,zg,e6,e8]) {h with e9:=fun _=>rfl}
      ·obtain rfl:=sJ ho;simp only[putAll,zi,zj,zc,ze,zd];have e9:=h.e9 (hL ⟨9, .data⟩ (by simp) rfl)
       have xt:w1.cell? ⟨ro,np,none⟩=some (.int .i64 gv):=by rw[h.rwO.cellAt np (by omega)];exact Hgv.out
       clear hL hno
       go_simp;exact hK (zg V 73 _) _ _ (by simp[putAll,zg,e9]) {h with e10:=fun _=>rfl}
      ·obtain rfl:=sJ ho;simp only[putAll,zi,zj,zc,ze,zd];clear hL hno
       go_simp;exact hK (zg V 74 _) _ _ (by simp[putAll,zg]) {h with e11:=fun _=>rfl}
      ·obtain rfl:=sJ ho;simp only[putAll,zi,zj,zc,ze,zd];clear hL hno
       go_simp;exact hK (zg V 75 _) _ _ (by simp[putAll,zg]) {h with e12:=fun _=>rfl}
      ·obtain rfl:=sJ ho;simp only[putAll,zi,zj,zc,ze,zd];have e12:=h.e12 (hL ⟨12, .data⟩ (by simp) rfl)
       have xt:=h.bx.cellL 3 rfl;clear hL hno
       go_simp;exact hK (zg V 76 _) _ _ (by simp[putAll,zg,e12]) {h with e13:=fun _=>rfl}
      ·obtain rfl:=sJ ho;simp only[putAll,zi,zj,zc,ze,zd];have e11:=h.e11 (hL ⟨11, .data⟩ (by simp) rfl)
       have e13:=h.e13 (hL ⟨13, .data⟩ (by simp) rfl)
       clear hL hno
       go_simp;exact hK (zg V 77 _) _ _ (by simp[putAll,zg,e11,e13]) {h with e14:=fun _=>rfl}
      ·obtain rfl:=sJ ho;simp only[putAll,zi,zj,zc,ze,zd];have e14:=h.e14 (hL ⟨14, .data⟩ (by simp) rfl)
       have xt:w1.cell? ⟨ri,nq,none⟩=some (.int .i64 kv):=by rw[h.rwI.cellAt nq (by omega)];exact Hkv.out
       clear hL hno
       go_simp;exact hK (zg V 78 _) _ _ (by simp[putAll,zg,e14]) {h with e15:=fun _=>rfl}
      ·obtain rfl:=sJ ho;simp only[putAll,zi,zj,zc,ze,zd];clear hL hno
       go_simp;exact hK (zg V 79 _) _ _ (by simp[putAll,zg]) {h with e16:=fun _=>rfl}
      ·obtain rfl:=sJ ho;simp only[putAll,zi,zj,zc,ze,zd];have e16:=h.e16 (hL ⟨16, .data⟩ (by simp) rfl)
       have xt:=h.bx.cellL 4 rfl;clear hL hno
       go_simp;exact hK (zg V 80 _) _ _ (by simp[putAll,zg,e16]) {h with e17:=fun _=>rfl}
      ·obtain rfl:=sJ ho;simp only[putAll,zi,zj,zc,ze,zd];have e17:=h.e17 (hL ⟨17, .data⟩ (by simp) rfl)
       clear hL hno
       go_simp;exact hK (zg V 81 _) _ _ (by simp[putAll,zg,e17]) {h with e18:=fun _=>rfl}
      ·obtain rfl:=sJ ho;simp only[putAll,zi,zj,zc,ze,zd];have e3:=h.e3 (hL ⟨3, .data⟩ (by simp) rfl)
       have e5:=h.e5 (hL ⟨5, .data⟩ (by simp) rfl)
       have e10:=h.e10 (hL ⟨10, .data⟩ (by simp) rfl)
       have e15:=h.e15 (hL ⟨15, .data⟩ (by simp) rfl)
       have e18:=h.e18 (hL ⟨18, .data⟩ (by simp) rfl)
       clear hL hno
       go_simp;exact hK (zg V 82 _) _ _ (by simp[putAll,zg,e3,e5,e10,e15,e18]) {h with e19:=fun _=>rfl}
      ·obtain rfl:=sJ ho;have e19:=h.e19 (hL ⟨19, .data⟩ (by simp) rfl)
       have l21:=hno 21 (by kernel_rfl)
       clear hL hno;simp only[putAll,zi,zj,zc,ze,zd];have hb:=bA_ w1 (.cells #[.int .i64 nf, .int .i64 nt, .int .i64 gv, .int .i64 kv, .int .i64 (nS:Int)] 76);have hnew:=zal w1 _ rfl 76 [.int .i64 nf, .int .i64 nt, .int .i64 gv, .int .i64 kv, .int .i64 (nS:Int)];have hmz:=h.siz
       go_simp;refine hK (zg V 83 (.slice (some ⟨w1.heap.size,0,none⟩) 1 1)) _ _ (by simp[putAll,zg,e19]) ?_
       exact{h with
        bel:=h.bel.trans (hb.mono hmz)
        siz:=by have:=hb.size;omega
        bn:=fun hn=>(h.bn hn).below hb (h.bn hn).lt
        o0:=fun hn=>own_below (h.o0 hn) hb
        o1:=nX_ l21
        bn2:=fun hn=>(by cases ((h.l23 hn).symm.trans l21))
        bx:=h.bx.below hb h.bx.lt
        rwO:=own_below h.rwO hb
        rwI:=own_below h.rwI hb
        b20:=fun _ _=>⟨rfl,hnew.more (by simp)⟩}
      ·obtain rfl:=sJ ho;have e1:=h.e1 (hL ⟨1, .data⟩ (by simp) rfl)
       have hq:=h.b20 (hL ⟨20, .data⟩ (by simp) rfl) hi
       have e20:V 83=_:=hq.1
       have l21:L 21=false:=hi
       clear hL hno;have l23:L 23=false:=by
        cases h23:L 23 with
        |false=>rfl
        |true=>exact (by cases ((h.l23 h23).symm.trans l21))
       have O:=h.o0 hi;have hmz:=h.siz;refine zaQ rfl (.tmp 64) (.tmp 83) 28 rfl m 76 i1 z1 5 40 Tryz.underlying28 hi1 hz1 hx1 hx2 hx3 (by decide) (.slice Ak k ck) k _ (by simp[putAll,Act.eval,e1]) O w1.heap.size (some ⟨gbOf (V 83),0,none⟩) 1 1 [.int .i64 nf, .int .i64 nt, .int .i64 gv, .int .i64 kv, .int .i64 (nS:Int)] (by simp[putAll,Act.eval];exact e20) rfl hq.2 (by intro u hu;simp at hu;rcases hu with rfl|rfl|rfl|rfl|rfl<;>rfl) (by unfold maxLen;omega) (by omega) hmz ?_
       intro v' w2 o2 g2 hv2;have ha9:=zdg o2;have hty:∀{base n:Nat} {v:Value} {xs:List Value},w1.ownsRow base 3 1 v n xs→w2.ownsRow base 3 1 v n xs:=fun hr=>by
        rcases hb:Value.ownBlock _ with _|b
        ·exact hr.kept g2 (.inl hb)
        ·exact hr.kept g2 (.inr fun hc=>by
          obtain⟨cs,h1⟩:=own_block hr hb;obtain⟨cs',h2⟩:=own_block O (hc.symm.trans hb);exact absurd (zaP h2 h1) (by decide))
       refine hK (zg V 84 v') _ _ (by simp[putAll,Act.put,zg]) ?_
       exact{h with
        bel:=h.bel.grown g2 hmz fun b hb=>own_ge O hb
        siz:=zy hmz g2.size
        bn:=fun hn=>(h.bn l23).grown g2 (own_ne O (h.bn l23) (by decide))
        bn2:=nX_ l23
        o0:=nT_
        o1:=fun _=>o2
        a21:=fun _=>ha9
        l23:=fun _=>rfl
        bx:=h.bx.grown g2 (own_ne O h.bx (by decide))
        rwO:=hty h.rwO
        rwI:=hty h.rwI
        b20:=fun _ hn=>(by cases hn)}
      ·obtain rfl:=sJ ho;simp only[putAll,zi,zj,zc,ze,zd];clear hL hno
       go_simp;exact hK (zg V 85 _) _ _ (by simp[putAll,zg]) {h with e22:=fun _=>rfl}
      ·obtain rfl:=sJ ho;have e22:=h.e22 (hL ⟨22, .data⟩ (by simp) rfl)
       have l21:L 21=true:=hL ⟨21, .data⟩ (by simp) rfl
       clear hL hno;simp only[putAll,zi,zj,zc,ze,zd];have B:=h.bn hi;have xt:=B.cellL 1 rfl;have fr:=B.frozen 1;have e9:=h.a21 l21;have hgnm:=HgnM.out;have O:=zap (h.o1 l21) B (by decide) 1 (V 84)
       have P1:=B.set 1 (V 84);simp only[zc,ze,zd]at P1;have P2:=h.bx.setOther B (by decide) 1 (V 84)
       have P3:=zap h.rwO B (by decide) 1 (V 84)
       have P4:=zap h.rwI B (by decide) 1 (V 84)
       have P5:=h.bel.setCell (p:=⟨gn,1,none⟩) hgnm (V 84);have P6:m≤(w1.setCell ⟨gn,1,none⟩ (V 84)).heap.size:=by have:=h.siz;simpa using this
       generalize sAddr (V 84)=A9 at e9;generalize sCap (V 84)=c9 at e9;have hv:w1.setCell ⟨gn,1,none⟩ (V 84)=w1.setCell ⟨gn,1,none⟩ (.slice A9 (k+1) c9):=by rw[e9]
       rw[hv]at O P1 P2 P3 P4 P5 P6;clear hv B
       go_simp;refine hK V _ _ (by simp[putAll,e22,e9]) ?_
       exact{h with
        bel:=P5
        siz:=P6
        bn:=nT_
        bn2:=fun _=>P1
        o0:=fun hn=>(by cases (hn.symm.trans l21))
        o1:=fun _=>O
        l23:=fun _=>l21
        bx:=P2
        rwO:=P3
        rwI:=P4
        b20:=fun _ hn=>(by cases (hn.symm.trans l21))}
      ·simp at ho
     ·clear hI0;intro L V w7 hL h;have P1:=h.bn2 (hL 23 (by simp))
      have P2:=h.o1 (hL 21 (by simp))
      have P3:=h.a21 (hL 21 (by simp))
      have P4:=h.bel;clear h hL;simp only[putAll,zi,zj,zc,ze,zd];rw[P3]at P1 P2;have P5:cellsA ((garcs g).take (k+1))=ars++[.int .i64 nf, .int .i64 nt, .int .i64 gv, .int .i64 kv, .int .i64 (nS:Int)]:=by
       rw[Hark.out,←Hars.out,Hav6.out];unfold cellsA;rw[List.flatMap_append]
       rfl
      rw[←P5]at P2;have HP1:=Lh P1;have HP2:=Lh P2;have HP4:=Lh P4;generalize sAddr (V 84)=A9 at*;generalize sCap (V 84)=c9 at*;clear P1 P2 P3 P4 P5
      go_wp2_with fail
      go_roundw
      case rel=>exact⟨k+1,A9,c9,by omega,by go_num,HP4.out,HP1.out,HP2.out⟩
      case measure=>simp[intOf];omega
   ·obtain rfl:k=nE:=by omega
    have kR2:=HKR.out.below hbw hgRm;have p0:=kR2.cellL 0 rfl;have p1:=kR2.cellL 1 rfl;have f0:=kR2.frozen 0;have f1:=kR2.frozen 1;have n0:=hkn.cellL 0 rfl;have n1:=hkn.cellL 1 rfl;have q4:=(kR2.set 0 (.int .i64 nA)).set 1 (.slice Ak k ck);simp only[zc,ze,zd]at q4;have s0:=q4.cellL 0 rfl;have s1:=q4.cellL 1 rfl;have HB:=Lh (((HB2.out.trans (hbw.mono (by omega))).setCell (p:=⟨gR,0,none⟩) hgR (.int .i64 nA)).setCell (p:=⟨gR,1,none⟩) hgR (.slice Ak k ck))
    have hfull:(garcs g).take k=garcs g:=zL (by rw[zdi,HnE.out];exact zF _)
    rw[hfull]at ho;have ho2:=zap (zap ho kR2 (by decide) 0 (.int .i64 nA)) (kR2.set 0 (.int .i64 nA)) (by decide) 1 (.slice Ak k ck)
    have HO:=Lh (World.ownsRow.mono ho2 (show B0≤m by omega))
    clear kR2 q4 hbw ho ho2 hkn
    go_wp2_with fail;refine bodyPost_ret (v:= .tuple #[.agg #[.int .i64 nA, .slice Ak k ck], .int .i64 0]) (by simp[results, Tryz.results5,go_sem,s0,s1]) rfl ?_
    exact⟨_,_,_,_,rfl,HB.out,by rw[HnA.out],HnE.out.symm,HO.out⟩
 ·have hne:(E !=0)=true:=by simpa using hE0
  have kR2:=HKR.out.below hb2 hgRm;have p0:=kR2.cellL 0 rfl;have p1:=kR2.cellL 1 rfl;have f0:=kR2.frozen 0;have f1:=kR2.frozen 1;have q4:=(kR2.set 0 (.int .i64 0)).set 1 (.slice none 0 0);simp only[zc,ze,zd]at q4;have s0:=q4.cellL 0 rfl;have s1:=q4.cellL 1 rfl;have HB:=Lh (((HB2.out.trans (hb2.mono (by omega))).setCell (p:=⟨gR,0,none⟩) hgR (.int .i64 0)).setCell (p:=⟨gR,1,none⟩) hgR (.slice none 0 0))
  clear kR2 q4 hb2 HBw
  go_wp2_with fail;refine bodyPost_ret (v:= .tuple #[.agg #[.int .i64 0, .slice none 0 0], .int .i64 E]) (by simp[results, Tryz.results5,go_sem,s0,s1]) rfl ?_
  exact⟨_,_,_,_,rfl,HB.out,fun h=>absurd h hE0⟩
def upN(up:List Int)(v:Nat):Nat:=(up[v]?.getD 0).toNat
def zeJ(up:List Int):Nat→Nat→Nat
 |0,v=>v
 |f+1,v=>if upN up v<v then zeJ up f (upN up v)else v
def root(up:List Int)(v:Nat):Nat:=zeJ up v v
def zgd(up:List Int):Prop:=∀(v:Nat) (x:Int),up[v]?=some x→0≤x∧x≤v
theorem zkJ(up:List Int):∀(f v:Nat),v≤f→zeJ up f v=zeJ up v v:=by
 intro f
 induction f using Nat.strongRecOn with
 |ind f ih=>
  intro v hv
  match f,v with
  |0,0=>rfl
  |f+1,0=>
   rw[zeJ,zeJ,if_neg (by omega)]
  |f+1,v+1=>
   rw[zeJ,zeJ];by_cases h:upN up (v+1)<v+1
   ·rw[if_pos h,if_pos h,ih f (by omega) _ (by omega)]
    rcases zcf v f with hlt|hge
    ·rw[ih v (by omega) _ (by omega)]
    ·obtain rfl:v=f:=by omega
     rw[ih v (by omega) _ (by omega)]
   ·rw[if_neg h,if_neg h]
theorem zcp(up:List Int)(v:Nat):root up v=if upN up v<v then root up (upN up v)else v:=by
 unfold root
 match v with
 |0=>rw[if_neg (by omega)];rfl
 |v+1=>
  rw[zeJ];by_cases h:upN up (v+1)<v+1
  ·rw[if_pos h,if_pos h,zkJ up v _ (by omega)]
  ·rw[if_neg h,if_neg h]
theorem zpg{up:List Int}{v:Nat}{x:Int}(h:up[v]?=some x):upN up v=x.toNat:=by unfold upN;rw[h];rfl
theorem zfA(up:List Int):∀v,root up v≤v:=by
 intro v
 induction v using Nat.strongRecOn with
 |ind v ih=>
  rw[zcp];by_cases h:upN up v<v
  ·rw[if_pos h];exact zy (ih _ h) (by omega)
  ·rw[if_neg h];exact zF _
theorem zev(up:List Int):∀v,root up (root up v)=root up v:=by
 intro v
 induction v using Nat.strongRecOn with
 |ind v ih=>
  by_cases h:upN up v<v
  ·have e:root up v=root up (upN up v):=by rw[zcp up v,if_pos h]
   rw[e];exact ih _ h
  ·have e:root up v=v:=by rw[zcp up v,if_neg h]
   rw[e];exact e
theorem zgd.fit{up:List Int}(h:zgd up)(hl:up.length≤32):AllFit up:=by
 intro x hx;obtain⟨v,hv⟩:=List.mem_iff_getElem?.1 hx;have hvl:=(zu.1 hv).1
 have:=h v x hv
 unfold fits;omega
theorem zgO(up:List Int)(v:Nat)(A:Option Addr)(n c B Bx:Nat)(w:World)(hbox:w.cell? ⟨Bx,0,none⟩=some (.slice A n c))(hn:up.length=n)(hr:Rd w B A (cellsI up))(hg:zgd up)(hl:n≤32)(hv:v<n):
  Calls Tryz.prog 49 #[.int .i64 v, .pointer (some ⟨Bx,0,none⟩)] w fun e w'=>e= .returned (.int .i64 (root up v:Nat))∧w=w':=by
 subst hn;have hf:=hg.fit hl
 go_enter Tryz.func49, Tryz.ntmps49
 go_wp2
 go_loop [0] (fun s=>∃k:Nat,s= .int .i64 k∧k<up.length∧Hid (root up v=root up k)) (fun s=>(intOf s).toNat)
 case atStart=>exact⟨v,rfl,hv,rfl⟩
 case round=>
  obtain⟨k,rfl,hk,Hk⟩:=hrel;obtain⟨b,off,x,rfl,hb,hxk,hc,hd,hxx⟩:=hr.at_ hf hk;obtain⟨hx0,hx1⟩:=hg k x hxx.out;have hu:=zpg hxx.out;by_cases hlt:x<k
  ·have h1:(x !=(k:Int))=true:=by simp;omega
   have Hk2:Hid (root up v=root up x.toNat):=by unfold Hid;rw[Hk.out,zcp up k,hu,if_pos (by omega)]
   obtain⟨y,rfl⟩:∃y:Nat,x=y:=⟨x.toNat,by omega⟩
   clear hd hxx Hk hu
   go_wp2
   go_round
   case rel=>exact⟨y,rfl,by omega,by simpa using Hk2⟩
   case measure=>simp[intOf];omega
  ·obtain rfl:x=k:=by omega
   have h1:((k:Int) !=(k:Int))=false:=by simp
   have Hk2:Hid (root up v=k):=by unfold Hid;rw[Hk.out,zcp up k,hu,if_neg (by omega)]
   clear hd hxx Hk hu
   go_wp2
   go_ret;exact⟨by rw[Hk2.out];rfl,rfl⟩
def selfs(n:Nat):List Int:=(List.range n).map fun v:Nat=>(v:Int)
theorem zcI(n:Nat):(selfs n).length=n:=by simp[selfs]
theorem ziN{n v:Nat}(h:v<n):(selfs n)[v]?=some (v:Int):=by simp[selfs,h]
theorem zg5(n:Nat):zgd (selfs n):=fun v x h=>by
 have hv:=(zu.1 h).1;rw[zcI]at hv;rw[ziN hv]at h;cases h;omega
theorem zkK(n k:Nat)(hk:k<n):(selfs k++List.replicate (n-k) (0:Int)).set k k=selfs (k+1)++List.replicate (n-(k+1)) 0:=by
 obtain⟨d,rfl⟩:∃d,n=k+1+d:=⟨n-(k+1),by omega⟩
 have e1:k+1+d-k=d+1:=by omega
 have e2:k+1+d-(k+1)=d:=by omega
 rw[e1,e2,zc8,List.set_append_right _ _ (by rw[zcI];omega),zcI,zbp,ze]
 simp[selfs,zaO]
end Go.Proofs.YtpmlljbebdidgaaGreatDoor
