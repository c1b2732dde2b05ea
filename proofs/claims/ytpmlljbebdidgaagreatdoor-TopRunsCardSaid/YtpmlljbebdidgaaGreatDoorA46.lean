/- Lemmas and walks for the claim: Jh, Jj. -/
import Derived.Test.YtpmlljbebdidgaaGreatDoorA0
import Derived.Test.YtpmlljbebdidgaaGreatDoorA45
import Derived.Test.YtpmlljbebdidgaaGreatDoorA44
import Derived.Deep.RegionHeld3
import Derived.Test.YtpmlljbebdidgaaGreatDoorA33
set_option linter.unusedSimpArgs false
set_option maxRecDepth 100000
set_option maxHeartbeats 4000000
namespace Go.Proofs.YtpmlljbebdidgaaGreatDoor
open Go.RowKit
theorem zgT{g:zB}{w:World}(hg:g.good w w.heap.size)(hc:checkG g=0){v:Nat}(hv:v<g.acts.length):∃ga oa y,g.aA=some ⟨ga,oa,none⟩∧ga<w.heap.size∧g.acts[v]?=some y∧w.cell? ⟨ga,oa+v*3+1,none⟩=some (.int .u8 y.tag)∧w.cell? ⟨ga,oa+v*3+2,none⟩=some (.slice y.P y.ps.length y.c)∧
  ∀w',Below w.heap.size w w'→Calls Tryz.prog 39 #[.int .u8 y.tag, .slice y.P y.ps.length y.c] w' (ShapeOut (insOf y) (outsOf y) 0 w'):=by
 obtain⟨ga,oa,y,e,hb,hy,hcell⟩:=Rd.flat (f:=ActV.cells) (n:=3) (by omega) (fun _=>rfl) hg.rA hv
 refine⟨ga,oa,y,e,hb,hy,hcell 1 _ rfl,hcell 2 _ rfl,fun w' hw=>?_⟩
 have h0:=zeM g.acts [] (zdD hc).2.1 y (zac hy);refine zoV y.tag y.ps (insOf y) (outsOf y) y.P y.ps.length y.c w' (zh7 ?_) rfl (((hg.gA y (zac hy)).rd.below hw lR_).more hw.size);unfold insOf outsOf;rw[←h0]
theorem znP(g:zB)(x:PrtV)(i:Nat)(w:World)(hg:g.good w w.heap.size)(hc:checkG g=0)(hx:g.ins[i]?=some x):Calls Tryz.prog 12 #[.agg #[.string g.nm, .slice g.aA g.acts.length g.cA, .slice g.aE g.edges.length g.cE, .slice g.aI g.ins.length g.cI, .slice g.aO g.outs.length g.cO], .agg #[.string x.nm, .int .i64 x.a, .int .i64 x.p]] w fun e w'=>e= .returned (.int .i64 (rI g x.a.toNat x.p.toNat))∧Below w.heap.size w w':=by
 obtain⟨y,hy0,h1,h2,h3,h4⟩:=zet hc hx;obtain⟨v,hv⟩:∃v:Nat,x.a=v:=⟨x.a.toNat,by omega⟩
 obtain⟨p,hp⟩:∃p:Nat,x.p=p:=⟨x.p.toNat,by omega⟩
 rw[hv]at hy0 h2⊢;rw[hp]at h4⊢;rw[zE]at hy0⊢;rw[zE];obtain⟨ga,oa,y',hga,hgb,hy,ct,cp,hOf⟩:=zgT hg hc (v:=v) (by omega)
 obtain rfl:=zq (hy0.symm.trans hy);obtain⟨r,hr⟩:=zG (l:=insOf y) (i:=p) (by omega)
 rw[(zeW hy0 hr).1];have hlp:p<(insOf y).length:=zao hr;obtain⟨nI,hnI⟩:∃n,(insOf y).length=n:=⟨_,rfl⟩;obtain⟨nA,hnA⟩:∃n,g.acts.length=n:=⟨_,rfl⟩;rw[hnI]at hlp;rw[hnA]at h2⊢;rw[hga];have b1:=bA_ w (.cells #[.string g.nm, .slice (some ⟨ga,oa,none⟩) nA g.cA, .slice g.aE g.edges.length g.cE, .slice g.aI g.ins.length g.cI, .slice g.aO g.outs.length g.cO] 26);have k1:=bN_ b1;have z1:(w.alloc (.cells #[.string g.nm, .slice (some ⟨ga,oa,none⟩) nA g.cA, .slice g.aE g.edges.length g.cE, .slice g.aI g.ins.length g.cI, .slice g.aO g.outs.length g.cO] 26)).heap.size=w.heap.size+1:=by simp
 obtain⟨W1,hW1⟩:=wN_ b1;rw[hW1]at b1 k1 z1;have bx:=bA_ W1 (.cells #[.string x.nm, .int .i64 v, .int .i64 p] 53);have k2:=bN_ bx;obtain⟨W2,hW2⟩:=wN_ bx;rw[hW2]at bx k2;rw[z1]at k2;have k1':=k1.below bx k1.lt;have b2:=b1.trans (bx.mono b1.size)
 go_enter Tryz.func12, Tryz.ntmps12
 go_upto_region 1 with fail
 try rw[hW1]
 try rw[hW2]
 try rw[z1]
 obtain⟨B,hB⟩:∃B,w.heap.size=B:=⟨_,rfl⟩;obtain⟨B1,hB1⟩:∃B1,B+1=B1:=⟨_,rfl⟩;have hz2:=b2.size;have d0:=(b2.cell (p:=⟨ga,oa+v*3+1,none⟩) hgb).trans ct;have d1:=(b2.cell (p:=⟨ga,oa+v*3+2,none⟩) hgb).trans cp;have HOf:Hid (∀w',Below W2.heap.size W2 w'→Calls Tryz.prog 39 #[.int .u8 y.tag, .slice y.P y.ps.length y.c] w' (ShapeOut (insOf y) (outsOf y) 0 w')):=Lh fun w' hb=>hOf w' (b2.trans (hb.mono b2.size))
 have Hr:=Lh hr;have HnI:=Lh hnI;have HB2:=Lh b2;rw[hB]at k1' k2 hgb⊢;rw[hB1]at k2⊢;have HK2:=Lh k2;have g1:=k1'.cellL 1 rfl;have g2:=k2.cellL 1 rfl;have l1:=k1'.lt;have l2:=k2.lt;have lg:ga<W2.heap.size:=by omega
 have hv0:(0:Int)≤(v:Int):=by omega
 clear hg hc hx hy0 hy h1 h3 h4 hv hp hga ct cp hOf hr hnI hnA b1 k1 z1 hW1 bx k2 hW2 k1' b2 hB1 hgb hz2
 go_cut [5] (fun s5 wx=>∃(A:Option Addr) (c:Nat),s5= .slice A nI c∧Rd wx wx.heap.size A (cellsI (insOf y))∧Below W2.heap.size W2 wx)
 case first=>
  go_region_held3 (fun w'=>w'.cell? ⟨B,1,none⟩=some (.slice (some ⟨ga,oa,none⟩) nA g.cA)∧w'.cell? ⟨B1,1,none⟩=some (.int .i64 v)∧w'.cell? ⟨ga,oa+v*3+1,none⟩=some (.int .u8 y.tag)∧w'.cell? ⟨ga,oa+v*3+2,none⟩=some (.slice y.P y.ps.length y.c)) (go_keep) (first|(go_at_call 39;refine(HOf.out _ (Below.drewN (zm _ _) 1)).mono ?_;rintro e' w4 ⟨A1,c1,A2,c2,rfl,o1,o2,b4⟩;have q0:w4.cell? ⟨B,1,none⟩=some (.slice (some ⟨ga,oa,none⟩) nA g.cA):=(b4.cell (p:=⟨B,1,none⟩) (by simp;omega)).trans (by simp[*]);have q1:w4.cell? ⟨B1,1,none⟩=some (.int .i64 v):=(b4.cell (p:=⟨B1,1,none⟩) (by simp;omega)).trans (by simp[*]);have q2:w4.cell? ⟨ga,oa+v*3+1,none⟩=some (.int .u8 y.tag):=(b4.cell (p:=⟨ga,oa+v*3+1,none⟩) (by simp;omega)).trans (by simp[*]);have q3:w4.cell? ⟨ga,oa+v*3+2,none⟩=some (.slice y.P y.ps.length y.c):=(b4.cell (p:=⟨ga,oa+v*3+2,none⟩) (by simp;omega)).trans (by simp[*])))
  go_wp2
  go_meet;exact⟨A1,c1,by rw[HnI.out],rd_of_own o1,(Below.drewN (zm _ W2) 1).trans b4⟩
 case rest=>
  obtain⟨A,c,rfl,hR,hb3⟩:=hcut;have k3:=HK2.out.below hb3 HK2.out.lt;have s2:=k3.cellL 2 rfl;obtain⟨b,o,rfl,-,hcell⟩:=zdF hR (by rw[cellsI_length,HnI.out];omega)
  have s3:=hcell p _ (zcs Hr.out);have hp0:(0:Int)≤(p:Int):=by omega
  have hp1:(p:Int)<(nI:Int):=by omega
  have HB3:=Lh (HB2.out.trans (hb3.mono HB2.out.size));have HBB:=Lh hB;clear hR hcell hb3 k3 g1 g2 d0 d1 HK2 hB
  go_wp2_with fail
  go_ret;exact⟨rfl,HBB.out▸HB3.out⟩
theorem zla{tag:Int}{ps I O:List Int}(h:zb9 tag ps I O):I.length≤16∧O.length≤16:=by
 cases h<;>simp<;>omega
theorem zou{g:zB}(hc:checkG g=0){v:Nat}{y:ActV}(hy:g.acts[v]?=some y):(insOf y).length≤16∧(outsOf y).length≤16∧(∀k,k≤(insOf y).length→0≤tot (rI g v) k∧tot (rI g v) k≤64*k)∧(∀k,k≤(outsOf y).length→0≤tot (rO g v) k∧tot (rO g v) k≤64*k):=by
 have h0:=zeM g.acts [] (zdD hc).2.1 y (zac hy);have hs:=zla (zh7 (tag:=y.tag) (ps:=y.ps) (I:=insOf y) (O:=outsOf y) (by unfold insOf outsOf;rw[←h0]))
 have key:∀(l:List Int) (f:Nat→Int),(∀p x,l[p]?=some x→f p=x)→(∀x∈l,1≤x∧x≤64)→∀k,k≤l.length→0≤tot f k∧tot f k≤64*k:=fun l f hf hx k=>by
  induction k with
  |zero=>exact fun _=>⟨zaT _,zaT _⟩
  |succ k ih=>
   intro hk;obtain⟨x,hxk⟩:=zG (l:=l) (i:=k) (by omega)
   have h1:=ih (by omega)
   have h2:=hx x (zac hxk);have h3:=hf k x hxk;show 0≤tot f k+f k∧tot f k+f k≤64*((k+1:Nat):Int)
   omega
 exact⟨hs.1,hs.2,key _ _ (fun p x hp=>(zeW hy hp).1) (shape_rate y.tag y.ps).1,key _ _ (fun p x hp=>(zgS hy hp).1) (shape_rate y.tag y.ps).2⟩
theorem zov{g:zB}{v:Nat}{y:ActV}(hy:g.acts[v]?=some y):sz g v=1+tot (rI g v) (insOf y).length+tot (rO g v) (outsOf y).length:=by
 unfold sz;rw[zhm hy,zhH hy]
theorem zpv{g:zB}(hc:checkG g=0){v:Nat}(hv:v<g.acts.length):1≤sz g v∧sz g v≤2049:=by
 obtain⟨y,hy⟩:=zG hv;obtain⟨h1,h2,h3,h4⟩:=zou hc hy;have h3:=h3 _ lR_;have h4:=h4 _ lR_;rw[zov hy];omega
theorem zmu{g:zB}(hc:checkG g=0){R:Nat→Nat}(hR:∀v,v<g.acts.length→R v≤4096):∀k,k≤g.acts.length→0≤tot (fun v=>sz g v*(R v:Nat)) k∧tot (fun v=>sz g v*(R v:Nat)) k≤8392704*k:=by
 intro k
 induction k with
 |zero=>exact fun _=>⟨zaT _,zaT _⟩
 |succ k ih=>
  intro hk;have h1:=ih (by omega)
  have h2:=zpv hc (v:=k) (by omega)
  have h3:=hR k (by omega)
  have h4:sz g k*(R k:Nat)≤2049*4096:=zaC h2.2 (by omega) (by omega) (by omega)
  have h5:=zak (show 0≤sz g k by omega) (zbc (R k))
  show 0≤tot (fun v=>sz g v*(R v:Nat)) k+sz g k*(R k:Nat)∧tot (fun v=>sz g v*(R v:Nat)) k+sz g k*(R k:Nat)≤8392704*((k+1:Nat):Int)
  omega
theorem znQ(g:zB)(rs:List Int)(R:Nat→Nat)(A:Option Addr)(c:Nat)(w:World)(hg:g.good w w.heap.size)(hc:checkG g=0)(hl:rs.length=g.acts.length)(hR:∀v,v<g.acts.length→rs[v]?=some ((R v:Nat):Int)∧R v≤4096)(hA:Rd w w.heap.size A (cellsI rs))(hn:0<g.acts.length∧g.acts.length≤32):
  Calls Tryz.prog 15 #[.agg #[.string g.nm, .slice g.aA g.acts.length g.cA, .slice g.aE g.edges.length g.cE, .slice g.aI g.ins.length g.cI, .slice g.aO g.outs.length g.cO], .slice A g.acts.length c] w fun e w'=>e= .returned (.int .i64 (allS g R))∧Below w.heap.size w w':=by
 obtain⟨ra,ro,rfl,hrb,hrc⟩:=zdF hA (by rw[cellsI_length];omega)
 obtain⟨ga,oa,y0,hga,hgb,-,-,-,-⟩:=zgT hg hc (v:=0) hn.1;have hAll:=zmu hc fun v hv=>(hR v hv).2
 have HSz:=Lh fun v (y:ActV) (hy:g.acts[v]?=some y)=>zou hc hy
 have HAR:=Lh fun v (hv:v<g.acts.length)=>zgT hg hc hv
 unfold allS;obtain⟨nA,hnA⟩:∃n,g.acts.length=n:=⟨_,rfl⟩;rw[hnA]at hn hR hAll HAR⊢;rw[hga];have b1:=bA_ w (.cells #[.string g.nm, .slice (some ⟨ga,oa,none⟩) nA g.cA, .slice g.aE g.edges.length g.cE, .slice g.aI g.ins.length g.cI, .slice g.aO g.outs.length g.cO] 26);have k1:=bN_ b1;obtain⟨W1,hW1⟩:=wN_ b1;rw[hW1]at b1 k1;have HR:=Lh hR;have HAll:=Lh hAll;have Hrc:=Lh hrc;have Hga:=Lh hga;have HB1:=Lh b1;have HKG:=Lh k1;have HnA:=Lh hnA;clear hR hAll hrc hg hc hl hA b1 k1 hnA hga
 go_enter Tryz.func15, Tryz.ntmps15
 go_upto_region 1 with fail
 try rw[hW1]
 obtain⟨B,hB⟩:∃B,w.heap.size=B:=⟨_,rfl⟩
 try rw[hB]
 rw[hB]at HKG;have HBB:=Lh hB;clear hW1 hB
 go_wp2_with fail
 go_loopw [5,6,7,8,9,10,11,12] (fun n i _ _ _ _ _ _ wr=>∃k:Nat,k≤nA∧i= .int .i64 k∧n= .int .i64 (tot (fun v=>sz g v*(R v:Nat)) k)∧Below B w wr∧Blk wr B 26 #[.string g.nm, .slice (some ⟨ga,oa,none⟩) nA g.cA, .slice g.aE g.edges.length g.cE, .slice g.aI g.ins.length g.cI, .slice g.aO g.outs.length g.cO]) (fun _ i _ _ _ _ _ _ _=>nA-(intOf i).toNat)
 case atStart=>exact⟨0,zJ _,rfl,rfl,HBB.out▸HB1.out,HKG.out⟩
 case round=>
  clear HKG;obtain⟨k,hk,rfl,rfl,hb,kb⟩:=hrel
  rename World=>Wo
  rw[←HBB.out]at hb;have g1:=kb.cellL 1 rfl;by_cases hkn:k<nA
  ·obtain⟨ga',oa',y,e,-,hy,ct,cp,hOf⟩:=HAR.out k hkn;rw[Hga.out]at e;obtain⟨rfl,rfl⟩:ga=ga'∧oa=oa':=by injection e with e;injection e with e1 e2 e3;exact⟨e1,e2⟩
   obtain⟨hI16,hO16,hIs,hOs⟩:=HSz.out k y hy;have hsz:=zov hy;have hS:=HAll.out k hk;have hS1:=HAll.out (k+1) hkn;obtain⟨hrk,hr4⟩:=HR.out k hkn;have cr:=(hb.cell (p:=⟨ra,ro+k,none⟩) hrb).trans (Hrc.out k _ (zcs hrk));have d0:=(hb.cell (p:=⟨ga,oa+k*3+1,none⟩) hgb).trans ct;have d1:=(hb.cell (p:=⟨ga,oa+k*3+2,none⟩) hgb).trans cp;have hzz:=hb.size;have HOf:Hid (∀w',Below Wo.heap.size Wo w'→Calls Tryz.prog 39 #[.int .u8 y.tag, .slice y.P y.ps.length y.c] w' (ShapeOut (insOf y) (outsOf y) 0 w')):=Lh fun w' hb'=>hOf w' (hb.trans (hb'.mono hb.size))
   have hri:∀p r,(insOf y)[p]?=some r→rI g k p=r:=fun p r hp=>(zeW hy hp).1
   have hro:∀p r,(outsOf y)[p]?=some r→rO g k p=r:=fun p r hp=>(zgS hy hp).1
   obtain⟨I,hI⟩:∃l,insOf y=l:=⟨_,rfl⟩;obtain⟨O,hO⟩:∃l,outsOf y=l:=⟨_,rfl⟩;rw[hI,hO]at HOf;rw[hI]at hIs hI16 hri hsz;rw[hO]at hOs hO16 hro hsz;obtain⟨nI,hnI⟩:∃n,I.length=n:=⟨_,rfl⟩;obtain⟨nO,hnO⟩:∃n,O.length=n:=⟨_,rfl⟩;rw[hnI]at hIs hI16 hsz;rw[hnO]at hOs hO16 hsz;have Hsz:=Lh hsz;have HIs:=Lh hIs;have HOs:=Lh hOs;have HnI:=Lh hnI;have HnO:=Lh hnO;have Hri:=Lh hri;have Hro:=Lh hro;have HS:=Lh hS;have HS1:=Lh hS1;obtain⟨T,hT⟩:∃T,tot (fun v=>sz g v*(R v:Nat)) k=T:=⟨_,rfl⟩
   have HT:=Lh hT;rw[hT];have hk1:(k:Int)<(nA:Int):=by omega
   have hk0:(0:Int)≤(k:Int):=by omega
   have lb:=kb.lt;have lg:ga<Wo.heap.size:=by omega
   have Hb:=Lh hb;have HKb:=Lh kb;have Hcr:=Lh cr;clear hb kb hIs hOs hsz hri hro hS hS1 hnI hnO hI hO hT hy hOf ct cp e hrk cr
   go_upto_region 5 with fail
   go_cut [7,8,9] (fun s7 s8 _ wx=>∃(A1:Option Addr) (c1:Nat) (A2:Option Addr) (c2:Nat),s7= .slice A1 nI c1∧s8= .slice A2 nO c2∧Rd wx wx.heap.size A1 (cellsI I)∧Rd wx wx.heap.size A2 (cellsI O)∧Below Wo.heap.size Wo wx)
   case first=>
    go_region_held3 (fun w'=>w'.cell? ⟨B,1,none⟩=some (.slice (some ⟨ga,oa,none⟩) nA g.cA)∧w'.cell? ⟨ga,oa+k*3+1,none⟩=some (.int .u8 y.tag)∧w'.cell? ⟨ga,oa+k*3+2,none⟩=some (.slice y.P y.ps.length y.c)) (go_keep) (first|(go_at_call 39;refine(HOf.out _ (Below.drewN (zm _ _) 1)).mono ?_;rintro e' w4 ⟨A1,c1,A2,c2,rfl,o1,o2,b4⟩;have q0:w4.cell? ⟨B,1,none⟩=some (.slice (some ⟨ga,oa,none⟩) nA g.cA):=(b4.cell (p:=⟨B,1,none⟩) (by simp;omega)).trans (by simp[*]);have q1:w4.cell? ⟨ga,oa+k*3+1,none⟩=some (.int .u8 y.tag):=(b4.cell (p:=⟨ga,oa+k*3+1,none⟩) (by simp;omega)).trans (by simp[*]);have q2:w4.cell? ⟨ga,oa+k*3+2,none⟩=some (.slice y.P y.ps.length y.c):=(b4.cell (p:=⟨ga,oa+k*3+2,none⟩) (by simp;omega)).trans (by simp[*])))
    go_wp2
    go_meet;exact⟨A1,c1,A2,c2,by rw[HnI.out],by rw[HnO.out],rd_of_own o1,rd_of_own o2,(Below.drewN (zm _ Wo) 1).trans b4⟩
   case rest=>
    obtain⟨A1,c1,A2,c2,rfl,rfl,r1,r2,hb3⟩:=hcut;have HR1:=Lh r1;have HR2:=Lh r2;have HB3:=Lh hb3;have hz3:=hb3.size;clear r1 r2 hb3 g1 d0 d1
    go_wp2_with fail
    go_loopw [10,11] (fun o i wx=>∃j:Nat,j≤nI∧i= .int .i64 j∧o= .int .i64 (1+tot (rI g k) j)∧wx=wc) (fun _ i _=>nI-(intOf i).toNat)
    case atStart=>exact⟨0,zJ _,rfl,rfl,rfl⟩
    case round=>
     obtain⟨j,hj,rfl,rfl,hw⟩:=hrel;subst hw;have q1:=HIs.out j hj;by_cases hjn:j<nI
     ·have q2:=HIs.out (j+1) hjn;obtain⟨x,hx⟩:=zG (l:=I) (i:=j) (by rw[HnI.out];exact hjn)
      obtain⟨b,o,rfl,-,hcell⟩:=zdF HR1.out (by rw[cellsI_length,HnI.out];omega)
      have cx:=hcell j _ (zcs hx);have ex:=Hri.out j x hx;have et:1+tot (rI g k) (j+1)=1+tot (rI g k) j+x:=by rw[←ex];show 1+(tot (rI g k) j+rI g k j)=_;omega
      have ew:IntKind.i64.wrap (1+tot (rI g k) j+x)=1+tot (rI g k) j+x:=IntWalk.i64_in _ (by omega)
      have j1:(j:Int)<(nI:Int):=by omega
      have j0:(0:Int)≤(j:Int):=by omega
      have Het:=Lh et;clear hcell hx ex et q1 q2;generalize tot (rI g k) j=tt at*
      go_wp2_with fail
      go_roundw
      case rel=>exact⟨j+1,by omega,by go_num,by rw[Het.out],trivial⟩
      case measure=>simp[intOf];omega
     ·obtain rfl:j=nI:=by omega
      have HQ:=Lh q1;have j1:¬((j:Int)<(j:Int)):=by omega
      clear q1
      go_wp2_with fail
      go_loopw [10,12] (fun o i wx=>∃j2:Nat,j2≤nO∧i= .int .i64 j2∧o= .int .i64 (1+tot (rI g k) j+tot (rO g k) j2)∧wx=wr) (fun _ i _=>nO-(intOf i).toNat)
      case atStart=>exact⟨0,zJ _,rfl,by show Value.int .i64 _= .int .i64 (_+0);rw[Int.add_zero],rfl⟩
      case round=>
       obtain⟨j2,hj2,rfl,rfl,hw⟩:=hrel;subst hw;have q0:=HQ.out;have q1:=HOs.out j2 hj2;by_cases hjn:j2<nO
       ·have q2:=HOs.out (j2+1) hjn;obtain⟨x,hx⟩:=zG (l:=O) (i:=j2) (by rw[HnO.out];exact hjn)
        obtain⟨b,o,rfl,-,hcell⟩:=zdF HR2.out (by rw[cellsI_length,HnO.out];omega)
        have cx:=hcell j2 _ (zcs hx);have ex:=Hro.out j2 x hx;have et:1+tot (rI g k) j+tot (rO g k) (j2+1)=1+tot (rI g k) j+tot (rO g k) j2+x:=by rw[←ex];show 1+tot (rI g k) j+(tot (rO g k) j2+rO g k j2)=_;omega
        have ew:IntKind.i64.wrap (1+tot (rI g k) j+tot (rO g k) j2+x)=1+tot (rI g k) j+tot (rO g k) j2+x:=IntWalk.i64_in _ (by omega)
        have j3:(j2:Int)<(nO:Int):=by omega
        have j4:(0:Int)≤(j2:Int):=by omega
        have Het:=Lh et;clear hcell hx ex et q1 q2 q0;generalize tot (rI g k) j=tt at*;generalize tot (rO g k) j2=tu at*
        go_wp2_with fail
        go_roundw
        case rel=>exact⟨j2+1,by omega,by go_num,by rw[Het.out],trivial⟩
        case measure=>simp[intOf];omega
       ·obtain rfl:j2=nO:=by omega
        have j3:¬((j2:Int)<(j2:Int)):=by omega
        have cr2:=(HB3.out.cell (p:=⟨ra,ro+k,none⟩) (show ra<Wo.heap.size by omega)).trans Hcr.out
        rw[←Hsz.out];have e1:T+sz g k*(R k:Nat)=tot (fun v=>sz g v*(R v:Nat)) (k+1):=by rw[←HT.out];rfl
        have s1:=HS.out;have s2:=HS1.out;rw[HT.out]at s1;rw[←e1]at s2;have e0:=zak (show 0≤sz g k by rw[Hsz.out];omega) (zbc (R k))
        obtain⟨sk,hsk⟩:∃s,sz g k=s:=⟨_,rfl⟩;rw[hsk]at e0 e1 s2⊢;have w1:IntKind.i64.wrap (sk*((R k:Nat):Int))=sk*((R k:Nat):Int):=IntWalk.i64_in _ (by omega)
        have w2:IntKind.i64.wrap (T+sk*((R k:Nat):Int))=T+sk*((R k:Nat):Int):=IntWalk.i64_in _ (by omega)
        have HE1:=Lh e1;clear q0 q1 e0 e1 s1 s2 hsk;generalize R k=rk at*
        go_wp2_with fail
        go_roundw
        case rel=>exact⟨k+1,by omega,by go_num,by rw[←HE1.out],HBB.out▸Hb.out.trans (HB3.out.mono hzz),HKb.out.below HB3.out HKb.out.lt⟩
        case measure=>simp[intOf];omega
  ·obtain rfl:k=nA:=by omega
   have hk1:¬((k:Int)<(k:Int)):=by omega
   have Hb:=Lh hb;clear hb kb
   go_wp2_with fail
   go_ret;exact⟨rfl,HBB.out▸Hb.out⟩
structure StK(W8:World)(B:Nat)(s:SM)(na:Nat)(ars:List ArcV)(F:Nat→Int)(w:World):Prop where
 on:Only (fun k=>k=s.gt∨k=s.gf) W8 w
 tk:w.ownsRow B 3 1 (.slice (some ⟨s.gt,0,none⟩) ars.length ars.length) ars.length (cellsI (rowF (tokI ars F) ars.length))
 fr:w.ownsRow B 3 1 (.slice (some ⟨s.gf,0,none⟩) na na) na (cellsI (rowF F na))
theorem StK.st{W8 w:World}{B:Nat}{s:SM}{na:Nat}{ars:List ArcV}{F:Nat→Int}(h:StK W8 B s na ars F w)(h0:St W8 B s na ars fun _=>0):St w B s na ars F:=
 h0.only h.on (fun _ h1 h2 _ hx=>hx.elim h1 h2) h.tk h.fr
theorem StK.below{W8 w w':World}{B:Nat}{s:SM}{na:Nat}{ars:List ArcV}{F:Nat→Int}(h:StK W8 B s na ars F w)(hb:Below w.heap.size w w'):StK W8 B s na ars F w':=
 ⟨h.on.below hb,own_below h.tk hb,own_below h.fr hb⟩
theorem StK.next{X:Nat→Prop}{W8 w w':World}{B:Nat}{s:SM}{na:Nat}{ars:List ArcV}{F F':Nat→Int}(h:StK W8 B s na ars F w)(ho:Only X w w')(hX:∀k,k<W8.heap.size→X k→k=s.gt∨k=s.gf)
  (tk:w'.ownsRow B 3 1 (.slice (some ⟨s.gt,0,none⟩) ars.length ars.length) ars.length (cellsI (rowF (tokI ars F') ars.length))) (fr:w'.ownsRow B 3 1 (.slice (some ⟨s.gf,0,none⟩) na na) na (cellsI (rowF F' na))):StK W8 B s na ars F' w':=
 ⟨⟨ho.os.trans h.on.os,ho.tape.trans h.on.tape,ho.output.trans h.on.output,zy h.on.size ho.size,fun k hk hx=>(ho.block k (zP hk h.on.size) fun hxx=>hx (hX k hk hxx)).trans (h.on.block k hk hx)⟩,tk,fr⟩
structure zgk(W7 W8:World)(s:SM)(na:Nat)(ars:List ArcV)(l:List Int)(A:Option Addr)(c:Nat)(j:Nat)(w:World):Prop where
 st:StK W8 W7.heap.size s na ars (cntF l j) w
 cp:w.ownsRow W8.heap.size 3 1 (.slice A ars.length c) ars.length (cellsI (rowF (capF ars l j) ars.length))
 bel:Below W7.heap.size W7 w
 gt:s.gt<W8.heap.size∧s.gf<W8.heap.size
 lo:W7.heap.size≤s.gt∧W7.heap.size≤s.gf∧W7.heap.size≤W8.heap.size
def zgV(ars:List ArcV)(l:List Int)(j q:Nat):Nat→Int:=fun a=>if a<q then capF ars l (j+1) a else capF ars l j a
structure zeD(W7 W8:World)(Bn:Nat)(s:SM)(na:Nat)(ars:List ArcV)(l:List Int)(A:Option Addr)(c:Nat)(An:Option Addr)(cn:Nat)(j q:Nat)(w:World):Prop where
 st:StK W8 W7.heap.size s na ars (cntF l (j+1)) w
 cp:w.ownsRow W8.heap.size 3 1 (.slice A ars.length c) ars.length (cellsI (rowF (zgV ars l j q) ars.length))
 nw:w.ownsRow Bn 3 1 (.slice An ars.length cn) ars.length (cellsI (rowF (tokI ars (cntF l (j+1))) ars.length))
 bel:Below W7.heap.size W7 w
 gt:s.gt<W8.heap.size∧s.gf<W8.heap.size
 lo:W7.heap.size≤s.gt∧W7.heap.size≤s.gf∧W7.heap.size≤W8.heap.size
 ab:∀b,blkOf A=some b→b<Bn
theorem zgk.alloc{W7 W8 w w':World}{s:SM}{na:Nat}{ars:List ArcV}{l:List Int}{A:Option Addr}{c j:Nat}(h:zgk W7 W8 s na ars l A c j w)(hb:Below w.heap.size w w'):zgk W7 W8 s na ars l A c j w':=
 {h with
  st:=h.st.below hb
  cp:=own_below h.cp hb
  bel:=h.bel.trans (hb.mono h.bel.size)}
theorem zgk.fire{W7 W8 w w1 w':World}{s:SM}{na:Nat}{ars:List ArcV}{l:List Int}{A:Option Addr}{c j v:Nat}{An:Option Addr}{cn:Nat}(h:zgk W7 W8 s na ars l A c j w)(hv:l[j]?=some (v:Int))(hS:St w1 W7.heap.size s na ars (bump (cntF l j) v))(ho:Only (fun k=>k=s.gt∨k=s.gf) w w1)
  (hn:w'.ownsRow w1.heap.size 3 1 (.slice An ars.length cn) ars.length (cellsI (rowF (tokI ars (bump (cntF l j) v)) ars.length))) (hb':Below w1.heap.size w1 w'):zeD W7 W8 w1.heap.size s na ars l A c An cn j 0 w':=by
 rw[zmv hv]at hS hn;have e:rowF (zgV ars l j 0) ars.length=rowF (capF ars l j) ars.length:=zaV fun a _=>if_neg (zau a)
 have hlo:=h.lo;have hgt:=h.gt;have hc:=zae h.cp ho fun b hb hx=>by
  have:=(h.cp.lt b hb).1
  omega
 have hb1:Below W7.heap.size W7 w1:=h.bel.trans (ho.belowM h.bel.size fun b hb hx=>by omega)
 exact⟨(h.st.next ho (fun _ _ hx=>hx) hS.tok hS.fir).below hb',by rw[e];exact own_below hc hb',hn,hb1.trans (hb'.mono hb1.size),hgt,hlo,fun b hb=>(hc.lt b (by cases A with|none=>cases hb|some a=>exact hb)).2⟩
theorem zeD.cells{W7 W8 w:World}{Bn:Nat}{s:SM}{na:Nat}{ars:List ArcV}{l:List Int}{A:Option Addr}{c:Nat}{An:Option Addr}{cn:Nat}{j q:Nat}(h:zeD W7 W8 Bn s na ars l A c An cn j q w)(hq:q<ars.length):
  ∃ga gn,A=some ⟨ga,0,none⟩∧An=some ⟨gn,0,none⟩∧w.cell? ⟨ga,q,none⟩=some (.int .i64 (capF ars l j q))∧w.cell? ⟨gn,q,none⟩=some (.int .i64 (tokI ars (cntF l (j+1)) q))∧w.frozen? ⟨ga,q,none⟩=false:=by
 obtain⟨ga,rfl⟩:=zbi h.cp (by omega)
 obtain⟨gn,rfl⟩:=zbi h.nw (by omega)
 have key:∀(g:Nat) (F:Nat→Int),Rd w w.heap.size (some ⟨g,0,none⟩) (cellsI (rowF F ars.length))→w.cell? ⟨g,q,none⟩=some (.int .i64 (F q)):=fun g F hr=>by
  obtain⟨b,o,e,-,hc⟩:=zdF hr (by rw[cellsI_length,zaS];omega)
  injection e with e
  injection e with e1 e2
  subst e1 e2
  have:=hc q _ (zcs (zdu F hq))
  rwa [zaq]at this
 refine⟨ga,gn,rfl,rfl,?_,key gn _ (rd_of_own h.nw),h.cp.frozenAt q⟩;rw[key ga _ (rd_of_own h.cp)];unfold zgV;rw[if_neg (zc1 q)]
theorem zeD.store{W7 W8 w:World}{Bn:Nat}{s:SM}{na:Nat}{ars:List ArcV}{l:List Int}{ga c:Nat}{An:Option Addr}{cn:Nat}{j q:Nat}(h:zeD W7 W8 Bn s na ars l (some ⟨ga,0,none⟩) c An cn j q w)(hq:q<ars.length):
  zeD W7 W8 Bn s na ars l (some ⟨ga,0,none⟩) c An cn j (q+1) (w.setCell ⟨ga,q,none⟩ (.int .i64 (max (capF ars l j q) (tokI ars (cntF l (j+1)) q)))):=by
 have st:=(h.cp.stored q (.int .i64 (max (capF ars l j q) (tokI ars (cntF l (j+1)) q)))).1;have ho:=zbl w ⟨ga,q,none⟩ (.int .i64 (max (capF ars l j q) (tokI ars (cntF l (j+1)) q)));obtain⟨a1,a2⟩:=h.cp.lt ga rfl;have hab:=h.ab ga rfl;have hgt:=h.gt;have hlo:=h.lo;rw[zcP,zdU]at st;have e:upd (zgV ars l j q) q (max (capF ars l j q) (tokI ars (cntF l (j+1)) q))=zgV ars l j (q+1):=by
  funext a
  unfold zgV;by_cases ha:a=q
  ·subst ha;rw[zaW,if_pos (by omega)]
   rfl
  ·rw[zaI ha];by_cases h2:a<q
   ·rw[if_pos h2,if_pos (by omega)]
   ·rw[if_neg h2,if_neg (by omega)]
 rw[e]at st;refine⟨h.st.next ho (fun k hk hx=>?_) (zae h.st.tk ho fun b hb hx=>?_) (zae h.st.fr ho fun b hb hx=>?_),st,zae h.nw ho fun b hb hx=>?_,h.bel.trans (ho.belowM h.bel.size fun b hb hx=>?_),hgt,hlo,h.ab⟩
 ·have hx:k=ga:=hx
  omega
 ·have hx:b=ga:=hx
  injection hb with hb
  have hb:s.gt=b:=hb
  omega
 ·have hx:b=ga:=hx
  injection hb with hb
  have hb:s.gf=b:=hb
  omega
 ·have hx:b=ga:=hx
  have:=(h.nw.lt b hb).1
  omega
 ·have hx:b=ga:=hx
  omega
theorem zeD.below{W7 W8 w w':World}{Bn:Nat}{s:SM}{na:Nat}{ars:List ArcV}{l:List Int}{A:Option Addr}{c:Nat}{An:Option Addr}{cn:Nat}{j q:Nat}(h:zeD W7 W8 Bn s na ars l A c An cn j q w)(hb:Below w.heap.size w w'):zeD W7 W8 Bn s na ars l A c An cn j q w':=
 {h with
  st:=h.st.below hb
  cp:=own_below h.cp hb
  nw:=own_below h.nw hb
  bel:=h.bel.trans (hb.mono h.bel.size)}
theorem zeD.fin{W7 W8 w:World}{Bn:Nat}{s:SM}{na:Nat}{ars:List ArcV}{l:List Int}{A:Option Addr}{c:Nat}{An:Option Addr}{cn:Nat}{j:Nat}(h:zeD W7 W8 Bn s na ars l A c An cn j ars.length w):zgk W7 W8 s na ars l A c (j+1) w:=by
 have e:rowF (zgV ars l j ars.length) ars.length=rowF (capF ars l (j+1)) ars.length:=zaV fun a ha=>if_pos (zM.1 ha)
 exact⟨h.st,by rw[←e];exact h.cp,h.bel,h.gt,h.lo⟩
structure zfS(B:Nat)(v:Value)(rows:List RowV)(w:World):Prop where
 own:w.ownsRow B 36 1 v rows.length (rows.map RowV.val)
 ok:∀r∈rows,Rd w w.heap.size r.A (cellsI r.xs)∧AllFit r.xs∧r.xs.length*8≤140737488351232
 ne:∀r∈rows,∀q,blkOf r.A=some q→v.ownBlock≠some q∧q<w.heap.size
theorem zfS.below{B:Nat}{v:Value}{rows:List RowV}{w w':World}(h:zfS B v rows w)(hb:Below w.heap.size w w'):zfS B v rows w':=
 ⟨own_below h.own hb,fun r hr=>⟨((h.ok r hr).1.below hb lR_).more hb.size,(h.ok r hr).2⟩,fun r hr q hq=>⟨(h.ne r hr q hq).1,zP (h.ne r hr q hq).2 hb.size⟩⟩
theorem zfS.push{B:Nat}{v v':Value}{rows:List RowV}{w w':World}{r:RowV}{k:Nat}(h:zfS B v rows w)(hk:rows.length=k)(hr:Rd w w.heap.size r.A (cellsI r.xs))(hf:AllFit r.xs)(hl:r.xs.length*8≤140737488351232)(hn:∀q,blkOf r.A=some q→v.ownBlock≠some q∧q<w.heap.size)
  (hg:w.grownBy w' v.ownBlock) (ho:w'.ownsRow B 36 1 v' (k+1) (rows.map RowV.val++[r.val])) (hv:v'.ownBlock=v.ownBlock∨v'.ownBlock=some w.heap.size):zfS B v' (rows++[r]) w':=by
 subst hk;have hO:Only (fun k=>v.ownBlock=some k) w w':=⟨hg.os,hg.tape,hg.output,hg.size,fun k hk hX=>hg.block k hk fun hc=>hX hc.symm⟩
 have key:∀s:RowV,Rd w w.heap.size s.A (cellsI s.xs)→(∀q,blkOf s.A=some q→v.ownBlock≠some q∧q<w.heap.size)→Rd w' w'.heap.size s.A (cellsI s.xs)∧∀q,blkOf s.A=some q→v'.ownBlock≠some q∧q<w'.heap.size:=fun s hs hn=>by
  refine⟨Rd.onlyT hs hO fun q hq hx=>(hn q hq).1 hx,fun q hq=>⟨fun hc=>?_,zP (hn q hq).2 hg.size⟩⟩
  rcases hv with hv|hv
  ·exact(hn q hq).1 (hv▸hc)
  ·rw[hv]at hc;injection hc with hc
   have:=(hn q hq).2
   omega
 refine⟨by rw[zx,zad];exact ho,fun s hs=>?_,fun s hs=>?_⟩
 ·rcases zaZ.1 hs with h1|h1
  ·exact⟨(key s (h.ok s h1).1 (h.ne s h1)).1,(h.ok s h1).2⟩
  ·rw[zW]at h1;subst h1;exact⟨(key s hr hn).1,hf,hl⟩
 ·rcases zaZ.1 hs with h1|h1
  ·exact(key s (h.ok s h1).1 (h.ne s h1)).2
  ·rw[zW]at h1;subst h1;exact(key s hr hn).2
theorem zfS.fed{B:Nat}{A:Option Addr}{n c:Nat}{rows:List RowV}{w:World}(h:zfS B (.slice A n c) rows w)(hn:rows.length=n):FdM w w.heap.size A rows:=by
 subst hn;exact⟨rd_of_own h.own,h.ok⟩
def ziw(g:zB)(R:Nat→Nat)(rows:List RowV):Prop:=∀(i:Nat) (r:RowV) (x:PrtV),rows[i]?=some r→g.ins[i]?=some x→(r.xs.length:Int)=rI g x.a.toNat x.p.toNat*(R x.a.toNat:Nat)
theorem ziw.snoc{g:zB}{R:Nat→Nat}{rows:List RowV}{k:Nat}{r:RowV}{x:PrtV}(h:ziw g R rows)(hk:rows.length=k)(hx:g.ins[k]?=some x)(hr:(r.xs.length:Int)=rI g x.a.toNat x.p.toNat*(R x.a.toNat:Nat)):ziw g R (rows++[r]):=by
 intro i r' x' hi hx';by_cases hik:i<k
 ·rw[zar (by omega)]at hi
  exact h i r' x' hi hx'
 ·have hl:=zao hi;rw[zx,hk]at hl;obtain rfl:i=k:=by simp at hl;omega
  rw[zO (by omega),hk,zbp]at hi
  obtain rfl:=zq hi;obtain rfl:=zq (hx.symm.trans hx');exact hr
structure ze7(W w:World)(g:zB)(L:Nat)(ni:Nat→Int)(V0:RigV)(N:Nat)(V:RigV)(ρ:Nat→Tg):Prop where
 m:RigM w ρ V
 b:V.bnd N
 j:RunJ g L ni V0 N V
 fx:∀b,b<W.heap.size→ρ b= .fix
 bel:Below W.heap.size W w
theorem ze7.at_{W wa w:World}{g:zB}{L:Nat}{ni:Nat→Int}{V0 V V':RigV}{N N':Nat}{ρ ρ':Nat→Tg}(h:ze7 W wa g L ni V0 N V ρ)(ha:zeo (RunJ g L ni V0) V ρ wa N' V' ρ' w):ze7 W w g L ni V0 N' V' ρ':=
 ⟨ha.m,ha.b,ha.j,fun b hb=>(ha.v.tag b (by have:=h.bel.size;omega)).trans (h.fx b hb),h.bel.trans (ha.v.below h.fx h.bel.size)⟩
theorem ze7.below{W w w':World}{g:zB}{L:Nat}{ni:Nat→Int}{V0 V:RigV}{N:Nat}{ρ:Nat→Tg}(h:ze7 W w g L ni V0 N V ρ)(hb:Below w.heap.size w w'):ze7 W w' g L ni V0 N V ρ:=
 ⟨h.m.below hb,h.b,h.j,h.fx,h.bel.trans (hb.mono h.bel.size)⟩
theorem ze7.met{W w:World}{g:zB}{L:Nat}{ni:Nat→Int}{V0 V:RigV}{N:Nat}{ρ:Nat→Tg}(h:ze7 W w g L ni V0 N V ρ){caps:List Int}(h0:zlb g caps V0):RunQ g caps ni V:=h0.met ⟨h.m.shp,N,h.j⟩
theorem RunQ.whole{g:zB}{caps:List Int}{ni:Nat→Int}{V:RigV}(Q:RunQ g caps ni V){R:Nat→Nat}(h:allS g R≤doneS g R V){rs:List Int}(hR:∀v,v<g.acts.length→rs[v]?=some ((R v:Nat):Int)):∀(k f:Nat) (r:Int),(V.tasks.map (·.wh))[k]?=some f→rs[k]?=some r→r≤(f:Nat):=by
 intro k f r hf hr;rw[zp]at hf;cases ht:V.tasks[k]? with
 |none=>rw[ht]at hf;cases hf
 |some t=>
  rw[ht]at hf;obtain rfl:=zq hf;have hk:k<g.acts.length:=by rw[←Q.G.len];exact zao ht
  obtain rfl:=zq ((hR k hk).symm.trans hr)
  have:=((Q.G.at_ Q.sh ht).wh (R k)).2 (zms h hk)
  exact_mod_cast this
theorem zj1{g:zB}{caps:List Int}{V:RigV}{ni:Nat→Int}(Q:RunQ g caps ni V)(R:Nat→Nat):0≤doneS g R V:=by
 unfold doneS;refine zdr fun v hv=>?_
 have h1:=Q.dn0 hv;have h2:=zak (show 0≤sz g v by have:=(zi7 g v).2.2;omega) (zbc (R v))
 show 0≤min _ _
 omega
end Go.Proofs.YtpmlljbebdidgaaGreatDoor
