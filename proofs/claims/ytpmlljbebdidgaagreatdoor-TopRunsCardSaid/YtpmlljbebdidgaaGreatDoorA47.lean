/- Lemmas and walks for the claim: Jk. -/
import Derived.Test.YtpmlljbebdidgaaGreatDoorA0
import Derived.Test.YtpmlljbebdidgaaGreatDoorA43
import Derived.Test.YtpmlljbebdidgaaGreatDoorA46
import Derived.Test.YtpmlljbebdidgaaGreatDoorA9
import Derived.Deep.CutBlock
import Derived.Deep.RegionWith
set_option linter.unusedSimpArgs false
set_option maxRecDepth 100000
set_option maxHeartbeats 40000000
namespace Go.Proofs.YtpmlljbebdidgaaGreatDoor
open Go.RowKit
theorem zj2{n:Nat}{ars:List ArcV}(hc:checkF n ars=0)(hb:¬Big n (cR n ars))(he:∀a∈ars,evA (cR n ars) a=true):
  (rowN n fun v=>(cR n ars v:Int)).length=n∧(rowN n fun v=>(cR n ars v:Int)).all zcy=true∧ars.all (zcG (rowN n fun v=>(cR n ars v:Int)))=true:=by
 refine⟨zcA _ _,zU.2 fun x hx=>?_,zU.2 fun a ha=>?_⟩
 ·obtain⟨v,hv,rfl⟩:=zY.1 hx;have hv:=zM.1 hv;have h1:=zhN hb hv;have h2:=(zjB hc).ri.pos v;unfold zcy;rw[decide_eq_true_eq];omega
 ·have h1:=he a ha;have ha2:=(zjB hc).arc a ha;unfold evA at h1;unfold zcG repAt;rw[decide_eq_true_eq]at h1⊢;rw[zem (by omega),zem (by omega)]
  exact h1
theorem znT{rs:List Int}(h:rs.all zcy=true):AllFit rs:=by
 intro x hx
 have:=zU.1 h x hx
 unfold zcy at this;rw[decide_eq_true_eq]at this;unfold fits;omega
structure StR(w:World)(g:zB)(gG gn na:Nat)(ars:List ArcV)(A:Option Addr)(c:Nat)(H:Option Addr)(rows:List RowV):Prop where
 kg:Blk w gG 26 #[.string g.nm, .slice g.aA g.acts.length g.cA, .slice g.aE g.edges.length g.cE, .slice g.aI g.ins.length g.cI, .slice g.aO g.outs.length g.cO]
 kn:Blk w gn 30 #[.int .i64 na, .slice A ars.length c]
 rA:Rd w w.heap.size A (cellsA ars)
 gd:g.good w w.heap.size
 fd:FdM w w.heap.size H rows
 tab:Tab w
theorem StR.below{w w':World}{g:zB}{gG gn na:Nat}{ars:List ArcV}{A:Option Addr}{c:Nat}{H:Option Addr}{rows:List RowV}(h:StR w g gG gn na ars A c H rows)(hb:Below w.heap.size w w'):StR w' g gG gn na ars A c H rows:=
 ⟨h.kg.below hb h.kg.lt,h.kn.below hb h.kn.lt,(h.rA.below hb lR_).more hb.size,(h.gd.below hb lR_).more hb.size,(h.fd.below hb lR_).more hb.size,h.tab.below hb h.tab.pos⟩
theorem zoX{w:World}{B:Nat}{H:Option Addr}{rows:List RowV}(h:FdM w B H rows){k:Nat}{r:RowV}(hr:rows[k]?=some r):∃b o,H=some ⟨b,o,none⟩∧b<B∧w.cell? ⟨b,o+k,none⟩=some r.val:=by
 rcases h.row with hrow|⟨b,off,hA,hb,hcell⟩
 ·have h1:=congrArg List.length hrow;rw[zA,zaD]at h1
  have:=zao hr
  omega
 ·exact⟨b,off,hA,hb,hcell k _ (zbj RowV.val hr)⟩
theorem zj3(g:zB)(rows:List RowV)(H:Option Addr)(lF cF:Nat)(w:World)(hg:g.good w w.heap.size)(hlF:rows.length=lF)(hF:FdM w w.heap.size H rows)(hT:Tab w):
  Calls Tryz.prog 3 #[.agg #[.string g.nm, .slice g.aA g.acts.length g.cA, .slice g.aE g.edges.length g.cE, .slice g.aI g.ins.length g.cI, .slice g.aO g.outs.length g.cO], .slice H lF cF] w fun e w'=>e= .returned (.bool true)∧Below w.heap.size w w':=by
 obtain⟨B,hB⟩:∃B,w.heap.size=B:=⟨_,rfl⟩;have b1:=bA_ w (.cells #[.string g.nm, .slice g.aA g.acts.length g.cA, .slice g.aE g.edges.length g.cE, .slice g.aI g.ins.length g.cI, .slice g.aO g.outs.length g.cO] 26);have k0':=Blk.new w _ rfl 26 #[.string g.nm, .slice g.aA g.acts.length g.cA, .slice g.aE g.edges.length g.cE, .slice g.aI g.ins.length g.cI, .slice g.aO g.outs.length g.cO];obtain⟨W1,hW1⟩:=wN_ b1;rw[hW1]at b1 k0';have hg1:g.good W1 W1.heap.size:=(hg.below b1 lR_).more b1.size;have hf1:FdM W1 W1.heap.size H rows:=(hF.below b1 lR_).more b1.size;have ht1:Tab W1:=hT.below b1 hT.pos
 go_enter Tryz.func3, Tryz.ntmps3
 go_upto_region 1 with fail
 try rw[hW1]
 rw[hB]at b1 k0'
 try rw[hB]
 have HBB:=Lh hB;have hz1:B≤W1.heap.size:=by have:=b1.size;omega
 have c0:=k0'.cellL 0 rfl;have c1:=k0'.cellL 1 rfl;have c2:=k0'.cellL 2 rfl;have c3:=k0'.cellL 3 rfl;have c4:=k0'.cellL 4 rfl;have HG1:=Lh hg1;have HF1:=Lh hf1;have HT1:=Lh ht1;have HB1:=Lh b1;have HKG1:=Lh k0';have HlF:=Lh hlF;clear hg hF hT hg1 hf1 ht1 b1 k0' hW1 hB hlF
 go_wp2_with fail;refine(zh3 g W1 HG1.out).mono ?_
 rintro e w2 ⟨n,A,l,c,rfl,hb2,h⟩;obtain⟨E,hE⟩:∃E,checkG g=E:=⟨_,rfl⟩;rw[hE]at h⊢;have hz2:B≤w2.heap.size:=by have:=hb2.size;omega
 have b2:=HB1.out.trans (hb2.mono hz1);have hb3:=bA_ w2 (.cells #[.int .i64 n, .slice A l c] 30);have k3:=bN_ hb3;have b13:=hb2.trans (hb3.mono hb2.size);have b3:=b2.trans (hb3.mono hz2);clear c0 c1 c2 c3 c4 HB1 b2
 go_upto_region 2 with fail;obtain⟨W3,hW3⟩:=wN_ hb3;obtain⟨gn,hgn⟩:∃g,w2.heap.size=g:=⟨_,rfl⟩;rw[hW3]at hb3 k3 b3 b13;rw[hgn]at k3
 try rw[hW3]
 try rw[hgn]
 have hz3:B≤W3.heap.size:=by have:=b3.size;have:=HBB.out;omega
 have HB3:=Lh b3;have HB13:=Lh b13;have HT3:=Lh (HT1.out.below b13 HT1.out.pos);clear hW3 b3 b13;by_cases hE0:E=0
 ·subst hE0;obtain⟨hn,hl,ho⟩:=h rfl;have hck:=zkY hE;have hal:=zdi g;obtain⟨ars,hars⟩:∃a,garcs g=a:=⟨_,rfl⟩;rw[hars]at ho hck hal;obtain⟨na,hna⟩:∃k,g.acts.length=k:=⟨_,rfl⟩;rw[hna]at hn hck;subst hn;rw[←hal]at hl;subst hl;obtain⟨m',hm',hN⟩:=netOk_of hck;obtain rfl:na=m':=by omega
  have hx:∀a∈ars,a.fit:=fun a ha=>by
   obtain⟨h1,h2,h3,h4,h5,h6,h7,h8,h9,h10⟩:=hN.ok a ha
   have:=hN.n32
   refine⟨?_,?_,?_,?_,?_⟩<;>unfold fits<;>omega
  have hmA:ars.length≤maxLen:=by have:=hN.l96;unfold maxLen;omega
  have ST3:StR W3 g B gn na ars A c H rows:=⟨HKG1.out.below HB13.out HKG1.out.lt,k3,((rd_of_own ho).below hb3 lR_).more hb3.size,(HG1.out.below HB13.out lR_).more HB13.out.size,(HF1.out.below HB13.out lR_).more HB13.out.size,HT3.out⟩
  have HSV:=Lh (zih na ars A ars.length c W3 rfl hx ST3.rA hmA HT3.out);have n0:=k3.cellL 0 rfl;have n1:=k3.cellL 1 rfl;have HS3:=Lh ST3;have HN:=Lh hN;have Hck:=Lh hck;have HX:=Lh hx;have HckG:=Lh hE;have Hna:=Lh hna;have Hal:=Lh hal;have HArs:Hid (garcs g=ars):=hars;clear h hm' hna hal ho hE k3 ST3 hN hck hx HT3 HB13 hgn HG1 HF1 HT1 HKG1 hars hb3 hb2
  go_wp2_with fail;refine HSV.out.mono ?_
  rintro e w4 ⟨vd,reps,cyc,k,Ar,cr,Ac,cc,rfl,hs,-,-,oR,oC,hb4⟩;have hk0:k=0:=by
   rcases hs with⟨hc,-⟩|⟨-,h,-⟩
   ·exact absurd Hck.out hc
   ·exact h
  subst hk0;have hz4:B≤w4.heap.size:=by have:=hb4.size;omega
  have ST4:=HS3.out.below hb4;have b4:=HB3.out.trans (hb4.mono hz3);have hb5:=bA_ w4 (.cells #[.int .u8 vd, .slice Ar reps.length cr, .slice Ac cyc.length cc] 39);have kb:=bN_ hb5;have ST5:=ST4.below hb5;have rR5:=((rd_of_own oR).below hb5 lR_).more hb5.size;have b5:=b4.trans (hb5.mono hz4);clear HSV n0 n1 oR oC ST4 b4 hb4 HS3 HB3
  go_upto_region 5 with fail;obtain⟨W5,hW5⟩:=wN_ hb5;obtain⟨gb,hgb⟩:∃g,w4.heap.size=g:=⟨_,rfl⟩;rw[hW5]at hb5 kb ST5 rR5 b5;rw[hgb]at kb
  try rw[hW5]
  try rw[hgb]
  have hz5:B≤W5.heap.size:=by have:=b5.size;have:=HBB.out;omega
  have n0:=ST5.kn.cellL 0 rfl;have n1:=ST5.kn.cellL 1 rfl;have r0:=kb.cellL 0 rfl;have r1:=kb.cellL 1 rfl;have HB5:=Lh b5;have HS5:=Lh ST5;have HR5:=Lh rR5;have HKB:=Lh kb;clear b5 ST5 rR5 hb5 hW5 hgb kb hz4;rcases hs with⟨hc,-⟩|⟨-,-,m',hm',hcase⟩
  ·exact absurd Hck.out hc
  obtain rfl:na=m':=by omega
  clear hm';rcases hcase with⟨-,rfl,rfl,rfl⟩|⟨-,rfl,rfl,-⟩|⟨hbig,hev,rfl,rfl,rfl⟩
  ·clear HR5 HKB n0 n1 r1
   go_wp2_with fail;refine(zcw W5 HS5.out.tab).mono ?_
   rintro e w99 ⟨rfl,hb99⟩;have B99:=Lh (HB5.out.trans (hb99.mono hz5));clear hb99
   go_wp2_with fail
   go_ret;exact⟨rfl,HBB.out.symm▸B99.out⟩
  ·clear HR5 HKB n0 n1 r1
   go_wp2_with fail;refine(zcw W5 HS5.out.tab).mono ?_
   rintro e w99 ⟨rfl,hb99⟩;have B99:=Lh (HB5.out.trans (hb99.mono hz5));clear hb99
   go_wp2_with fail
   go_ret;exact⟨rfl,HBB.out.symm▸B99.out⟩
  ·obtain⟨hlen,hall,heven⟩:=zj2 Hck.out hbig hev;obtain⟨rs,hrs⟩:∃l,rowN na (fun v=>(cR na ars v:Int))=l:=⟨_,rfl⟩
   rw[hrs]at hlen hall heven HR5 HKB r1⊢;have hfr:=znT hall;obtain⟨nr,hnr⟩:∃n,rs.length=n:=⟨_,rfl⟩;rw[hnr]at HKB r1⊢;have hmr:nr≤maxLen:=by have:=HN.out.n32;unfold maxLen;omega
   have HRU:=Lh (zhr na ars A ars.length c rs Ar nr cr [] none 0 0 W5 rfl HX.out HS5.out.rA hmA hnr hfr HR5.out hmr rfl (fun _ h=>(by cases h)) (.inl rfl) (by omega))
   have Hall:=Lh hall;have Hlen:=Lh hlen;have Hnr:=Lh hnr;have h32:=HN.out.n32;clear hbig hev hall heven hfr hmr hmA hlen hrs hnr
   go_wp2_with fail;refine HRU.out.mono ?_
   rintro e w6 ⟨lv,sv,rfl,ol,os,hb6⟩;obtain⟨a1,ha1⟩:∃a,ansF (pickS ars (na:Int).toNat rs []) na ars rs []=a:=⟨_,rfl⟩;obtain⟨e1,he1⟩:∃a,wrongF na ars rs []=a:=⟨_,rfl⟩;rw[ha1]at ol os;rw[he1];obtain⟨ll,hll⟩:∃x,a1.1=x:=⟨_,rfl⟩;rw[hll]at ol;obtain⟨Al,cl,rfl,_⟩:=zH ol;obtain⟨As,cs,rfl,_⟩:=zH os;have hz6:B≤w6.heap.size:=by have:=hb6.size;omega
   have b6:=HB5.out.trans (hb6.mono hz5);obtain⟨nl,hnl⟩:∃n,ll.length=n:=⟨_,rfl⟩;obtain⟨ns,hns⟩:∃n,a1.2.length=n:=⟨_,rfl⟩;rw[hnl,hns];have hb7:=bA_ w6 (.cells #[.slice Al nl cl, .slice As ns cs] 44);have kp:=bN_ hb7;have ST7:=(HS5.out.below hb6).below hb7;have rR7:=(((HR5.out.below hb6 lR_).more hb6.size).below hb7 lR_).more hb7.size;have rL7:=((rd_of_own ol).below hb7 lR_).more hb7.size;have kb7:=(HKB.out.below hb6 HKB.out.lt).below hb7 (HKB.out.below hb6 HKB.out.lt).lt;have b7:=b6.trans (hb7.mono hz6);have Ha1:=Lh ha1;have He1:=Lh he1;have Hns:=Lh hns;have Hnl:=Lh hnl;have Hll:=Lh hll;clear HRU n0 n1 r0 r1 ol os b6 hb6 HS5 HB5 HR5 HKB ha1 he1 hnl hns hll
   go_upto_region 8 with fail;obtain⟨W7,hW7⟩:∃W,w6.alloc (.cells #[.slice Al nl cl, .slice As ns cs] 44)=W:=⟨_,rfl⟩;obtain⟨gp,hgp⟩:∃g,w6.heap.size=g:=⟨_,rfl⟩;rw[hW7]at hb7 kp ST7 rR7 rL7 kb7 b7;rw[hgp]at kp
   try rw[hW7]
   try rw[hgp]
   have hz7:B≤W7.heap.size:=by have:=b7.size;have:=HBB.out;omega
   have n0:=ST7.kn.cellL 0 rfl;have n1:=ST7.kn.cellL 1 rfl;have p1:=kp.cellL 1 rfl;have HB7:=Lh b7;have HS7:=Lh ST7;have HR7:=Lh rR7;have HL7:=Lh rL7;have HKB7:=Lh kb7;have HKP7:=Lh kp;clear hW7 hgp hb7 kp ST7 rR7 rL7 kb7 b7;by_cases he0:e1=0
   ·subst he0;by_cases hs0:ns=0
    ·subst hs0;obtain⟨hfl,hrow,hnod,hpos,h2k⟩:=zmq He1.out (zaL (by rw[Ha1.out];exact Hns.out))
     have hfl:=(hfl 0).1;rw[Ha1.out,Hll.out]at hfl hrow hnod hpos h2k;rw[show zcr rs 0 (fun _=>0)=fun _=>0 from by funext u;simp[zcr]]at hfl
     rw[Hnl.out]at hpos h2k;obtain⟨bl,ol,rfl,hbl,hlc⟩:=zdF HL7.out (by rw[cellsI_length,Hnl.out];exact hpos)
     have Hfl:=Lh hfl;have Hrow:=Lh hrow;have Hnod:=Lh hnod;have Hlc:=Lh hlc;have HNW:=Lh (zhp na A c ars W7 Hck.out HN.out HS7.out.rA);clear hfl hrow hnod hlc
     go_wp2_with fail;refine HNW.out.mono ?_
     rintro e w8 ⟨s,rfl,hS8,hb8,hgs⟩;obtain⟨u1,u2⟩:=hS8.tok.lt s.gt rfl;obtain⟨u3,u4⟩:=hS8.fir.lt s.gf rfl;have HS8:=Lh hS8;have HB8:=Lh hb8;have hz8:=hb8.size;have HCN:=Lh (zho na ars (fun _=>0) W7.heap.size s w8 HN.out hS8)
     clear n0 n1 p1 hS8 hb8 HNW
     go_wp2_with fail;refine HCN.out.mono ?_
     rintro e w9 ⟨Ac,cc,rfl,oc,hb9⟩;have e0:cntF ll 0=fun _=>0:=by funext u;unfold cntF;simp
     have hC0:zgk W7 w8 s na ars ll Ac cc 0 w9:=⟨StK.below (F:=cntF ll 0) ⟨Only.refl _ _,by rw[e0];exact HS8.out.tok,by rw[e0];exact HS8.out.fir⟩ hb9,by show w9.ownsRow _ _ _ _ _ (cellsI (rowF (tokI ars (cntF ll 0)) ars.length));rw[e0];exact oc,HB8.out.trans (hb9.mono hz8),⟨u2,u4⟩,u1,u3,hz8⟩
     have HC0:=Lh hC0;clear e0 hC0 oc hb9 HCN
     go_wp2_with fail
     go_loopw [14,15,16] (fun i _ _ wr=>∃j:Nat,j≤nl∧i= .int .i64 j∧zgk W7 w8 s na ars ll Ac cc j wr) (fun i _ _ _=>nl-(intOf i).toNat)
     case atStart=>exact⟨0,zJ _,rfl,HC0.out⟩
     case round=>
      clear HC0;obtain⟨j,hj,rfl,hcs⟩:=hrel;have p0:=(HKP7.out.below hcs.bel HKP7.out.lt).cellL 0 rfl;by_cases hjn:j<nl
      ·obtain⟨x,hx⟩:=zG (l:=ll) (i:=j) (by rw[Hnl.out];exact hjn)
       have hnd:=zU.1 Hnod.out x (zac hx);rw[decide_eq_true_eq]at hnd;obtain⟨v,rfl⟩:∃v:Nat,x=v:=⟨x.toNat,by omega⟩
       have hm:=zgU ll (fun _=>0) Hfl.out j _ hx
       rw[show(fun u=>(0:Int)+cntF ll j u)=cntF ll j from by funext u;rw[Int.zero_add]]at hm
       have hvn:v<na:=by omega
       have cx:=(hcs.bel.cell (p:=⟨bl,ol+j,none⟩) hbl).trans (Hlc.out j _ (zcs hx));have ba:=bA_ wr (.cells #[.int .i64 (v:Nat)] 3);have CS1:=hcs.alloc ba;have S1:=CS1.st.st HS8.out;have r1:=zal wr _ rfl 3 [Value.int .i64 (v:Nat)];have hzr:=hcs.st.on.size;have hF1:∀u,u<na→0≤cntF ll j u∧cntF ll j u+1≤1000000:=fun u _=>by
        have h1:=List.count_le_length (a:=(u:Int)) (l:=ll.take j);rw[zaH]at h1;unfold cntF;omega
       have j0:(0:Int)≤(j:Int):=by omega
       have j1:(j:Int)<(nl:Int):=by omega
       have HCS:=Lh CS1;have HS1:=Lh S1;have Hr1:=Lh r1;have HF1:=Lh hF1;have Hm:=Lh hm;have Hx:=Lh hx;clear hcs CS1 S1 r1 hF1 hm hx ba hnd
       go_wp2_with fail;refine(zjn [(v:Int)] (some ⟨wr.heap.size,0,none⟩) 1 1 na ars (cntF ll j) W7.heap.size s _ rfl (fun x hx=>by simp at hx;subst hx;unfold fits;omega) ((Hr1.out).more (by simp)) (by simp only[blkOf];intro hc;injection hc with hc;omega) (by simp only[blkOf];intro hc;injection hc with hc;omega) HN.out HF1.out HS1.out).mono ?_
       rintro e w10 ⟨rfl,S10,O10⟩;obtain⟨hf1,hf2⟩:=zjs Hm.out;rw[hf2]at S10;rw[hf1];have HCN2:=Lh (zho na ars (bump (cntF ll j) v) W7.heap.size s w10 HN.out S10);have HS10:=Lh S10;have HO10:=Lh O10;clear S10 O10 cx p0 hf1 hf2 HS1 Hr1
       go_wp2_with fail;refine HCN2.out.mono ?_
       rintro e w11 ⟨An,cn,rfl,on,hb11⟩;have HCI:=Lh (HCS.out.fire Hx.out HS10.out HO10.out on hb11);obtain⟨Bn,hBn⟩:∃b,w10.heap.size=b:=⟨_,rfl⟩;rw[hBn]at HCI;clear on hb11 HCN2 HCS HS10 HO10 hBn
       go_wp2_with fail
       go_loopw [16] (fun a wx=>∃q:Nat,q≤ars.length∧a= .int .i64 q∧zeD W7 w8 Bn s na ars ll Ac cc An cn j q wx) (fun a _=>ars.length-(intOf a).toNat)
       case atStart=>exact⟨0,zJ _,rfl,HCI.out⟩
       case round=>
        clear HCI;obtain⟨q,hq,rfl,hci⟩:=hrel;by_cases hqn:q<ars.length
        ·obtain⟨ga,gn',rfl,rfl,x1,x2,fz⟩:=hci.cells hqn;have l96:=HN.out.l96;have q0:(0:Int)≤(q:Int):=by omega
         have q1:(q:Int)<(ars.length:Int):=by omega
         have HST:=Lh (hci.store hqn);clear hci;obtain⟨X1,hX1⟩:∃x,capF ars ll j q=x:=⟨_,rfl⟩;obtain⟨X2,hX2⟩:∃x,tokI ars (cntF ll (j+1)) q=x:=⟨_,rfl⟩;rw[hX1]at x1 HST;rw[hX2]at x2 HST;clear hX1 hX2
         go_wp2
         go_region
         go_wp2
         go_roundw
         case rel=>exact⟨q+1,by omega,by go_num,HST.out.below (Drawn.below _ ⟨1,rfl⟩)⟩
         case measure=>simp[intOf];omega
        ·obtain rfl:q=ars.length:=by omega
         have q1:¬((ars.length:Int)<(ars.length:Int)):=by omega
         have HCS:=Lh hci.fin;clear hci
         go_wp2_with fail
         go_roundw
         case rel=>exact⟨j+1,by omega,by go_num,HCS.out⟩
         case measure=>simp[intOf];omega
      ·obtain rfl:j=nl:=by omega
       have j1:¬((j:Int)<(j:Int)):=by omega
       rename World=>W9
       have ST9:=HS7.out.below hcs.bel;have R9:Rd W9 W9.heap.size Ar (cellsI rs):=(HR7.out.below hcs.bel lR_).more hcs.bel.size;have KB9:=HKB7.out.below hcs.bel HKB7.out.lt;have CP9:=rd_of_own hcs.cp;have b9:=HB7.out.trans (hcs.bel.mono hz7);have hz9:B≤W9.heap.size:=by have:=hcs.bel.size;omega
       obtain⟨ra,ro,rfl,hrb,hrc⟩:=zdF R9 (by rw[cellsI_length,Hlen.out];have:=HN.out.pos;omega)
       have hR:∀u,u<na→rs[u]?=some ((ll.count (u:Int):Nat):Int):=fun u hu=>by
        rw[←Hrow.out,zdu _ hu]
        rfl
       have hR4:∀u:Nat,ll.count (u:Int)≤2048:=fun u=>by have:=List.count_le_length (a:=(u:Int)) (l:=ll);rw[Hnl.out]at this;omega
       obtain⟨nI,hnI⟩:∃n,g.ins.length=n:=⟨_,rfl⟩;have hnI16:nI≤16:=by have:=(zdo (za6 HckG.out).1).2.2.2.2.1;rw[hnI]at this;exact this
       have HST9:=Lh ST9;have HKB9:=Lh KB9;have HCP9:=Lh CP9;have HB9:=Lh b9;have Hrc:=Lh hrc;have HR:=Lh hR;have HR4:=Lh hR4;have HnI:=Lh hnI;clear hcs ST9 R9 KB9 CP9 b9 hrc hR hR4 hnI
       go_wp2_with fail;obtain⟨is_,his,hsz0,hsz1,hsz2⟩:=info_parts zd1
       go_loopw [17,18,19,20,21,22] (fun lv sv i _ _ _ wr=>∃(k:Nat) (AL:Option Addr) (cL:Nat) (rowsL:List RowV) (sm:Nat),k≤nI∧i= .int .i64 k∧lv= .slice AL k cL∧sv= .int .i64 (sm:Nat)∧sm≤131072*k∧rowsL.length=k∧ziw g (fun u=>ll.count (u:Int)) rowsL∧zfS W9.heap.size (.slice AL k cL) rowsL wr∧Below W9.heap.size W9 wr) (fun _ _ i _ _ _ _=>nI-(intOf i).toNat)
       case atStart=>exact⟨0,none,0,[],0,zJ _,rfl,rfl,rfl,zF _,rfl,fun i r x hi=>(by simp at hi),⟨zr _ _ _ _,fun r hr=>(by cases hr),fun r hr=>(by cases hr)⟩,zm _ _⟩
       case round=>
        obtain⟨k,AL,cL,rowsL,sm,hk,rfl,rfl,rfl,hsm,hrl,hwl,hlm,hbw⟩:=hrel;have STw:=HST9.out.below hbw;have g0:=STw.kg.cellL 0 rfl;have g1:=STw.kg.cellL 1 rfl;have g2:=STw.kg.cellL 2 rfl;have g3:=STw.kg.cellL 3 rfl;have g4:=STw.kg.cellL 4 rfl;rw[HnI.out]at g3;by_cases hkn:k<nI
        ·obtain⟨gi,oi,x,hgi,hgib,hx,hxc⟩:=Rd.flat (f:=PrtV.cells) (n:=3) (by omega) (fun _=>rfl) STw.gd.rI (k:=k) (by rw[HnI.out];exact hkn)
         rw[hgi]at g3;obtain⟨y,hy0,h1,h2,h3,h4⟩:=zet HckG.out hx;obtain⟨nm,a,p⟩:=x;have x0:=hxc 0 _ rfl;rw[zab]at x0;have x1:=hxc 1 _ rfl;have x2:=hxc 2 _ rfl;have h1:0≤a:=h1;have h3:0≤p:=h3;obtain⟨v,rfl⟩:∃v:Nat,a=v:=⟨a.toNat,by omega⟩
         obtain⟨p,rfl⟩:∃q:Nat,p=q:=⟨p.toNat,by omega⟩
         have hy0:g.acts[v]?=some y:=hy0
         have h2:(v:Int)<g.acts.length:=h2
         have h4:(p:Int)<(insOf y).length:=h4
         have hvn:v<na:=by rw[Hna.out]at h2;omega
         obtain⟨rr,hrr⟩:=zG (l:=insOf y) (i:=p) (by omega)
         obtain⟨r1,r2,r3⟩:=zfN hrr (shape_rate y.tag y.ps).1;have eri:=(zeW hy0 r1).1;obtain⟨rn,hrn⟩:∃n,rr.toNat=n:=⟨_,rfl⟩;rw[hrn]at r2 r3 eri;obtain⟨rv,hrv⟩:∃n,ll.count (v:Int)=n:=⟨_,rfl⟩;have hrv4:rv≤2048:=by rw[←hrv];exact HR4.out v
         have hrs:=HR.out v hvn;rw[hrv]at hrs;have cr1:=(hbw.cell (p:=⟨ra,ro+v,none⟩) hrb).trans (Hrc.out v _ (zcs hrs));have kb1:=(HKB9.out.below hbw HKB9.out.lt).cellL 1 rfl;have lb1:=(HKB9.out.below hbw HKB9.out.lt).lt;have lg1:=STw.kg.lt;have lr1:ra<wr.heap.size:=by have:=hbw.size;omega
         have hx':g.ins[k]?=some ⟨nm,(v:Int),(p:Int)⟩:=hx
         have HRt:Hid (∀w',Below wr.heap.size wr w'→Calls Tryz.prog 12 #[.agg #[.string g.nm, .slice g.aA g.acts.length g.cA, .slice g.aE g.edges.length g.cE, .slice g.aI g.ins.length g.cI, .slice g.aO g.outs.length g.cO], .agg #[.string nm, .int .i64 (v:Nat), .int .i64 (p:Nat)]] w' fun e w''=>e= .returned (.int .i64 (rn:Nat))∧Below w'.heap.size w' w''):=Lh fun w' hb=>by
          have h:=znP g ⟨nm,(v:Int),(p:Int)⟩ k w' ((STw.gd.below hb lR_).more hb.size) HckG.out hx';rw[show rI g ((v:Int)).toNat ((p:Int)).toNat=(rn:Nat)from eri]at h
          exact h
         rw[hgi,HnI.out]at HRt;have ba:=bA_ wr (.cells #[.string nm, .int .i64 (v:Nat), .int .i64 (p:Nat)] 53);have kx:=bN_ ba;have hmul:(rv:Int)*(rn:Int)=((rv*rn:Nat):Int):=(zax _ _).symm;have hmle:rv*rn≤2048*64:=zdx hrv4 r3;obtain⟨wn,hwn⟩:∃n,rv*rn=n:=⟨_,rfl⟩;rw[hwn]at hmul hmle;have hwr:IntKind.i64.wrap ((rv:Int)*(rn:Int))=(rv:Int)*(rn:Int):=IntWalk.i64_in _ (by omega)
         have hwant:∀r:RowV,r.xs.length=wn→(r.xs.length:Int)=rI g v p*(ll.count (v:Int):Nat):=fun r hr=>by
          rw[hr,eri,hrv,←hwn,zaK];exact zax _ _
         have HWant:=Lh hwant;have Hhx:=Lh hx';have HSTw:=Lh STw;have Hlm:=Lh hlm;have Hwl:=Lh hwl;have Hrl:=Lh hrl;have Hbw:=Lh hbw;have HBa:=Lh ba;have Hmul:=Lh hmul;have k0:(0:Int)≤(k:Int):=by omega
         have k1:(k:Int)<(nI:Int):=by omega
         have v0:(0:Int)≤(v:Int):=by omega
         have v1:(v:Int)<(nr:Int):=by have:=Hlen.out;have:=Hnr.out;omega
         clear STw hgi hx hxc hy0 h1 h2 h3 h4 hrr r1 r2 eri hrn hrv hrs hx' hmul hwn hwant hlm hwl hrl hbw ba
         go_upto_region 31 with fail;obtain⟨W10,hW10⟩:∃W,wr.alloc (.cells #[.string nm, .int .i64 (v:Nat), .int .i64 (p:Nat)] 53)=W:=⟨_,rfl⟩;obtain⟨xb,hxb⟩:∃b,wr.heap.size=b:=⟨_,rfl⟩;rw[hW10]at kx HBa;rw[hxb]at kx
         try rw[hW10]
         try rw[hxb]
         have hz10:=HBa.out.size;have hxl:=kx.lt;have e0:=(HBa.out.cell (p:=⟨gb,1,none⟩) lb1).trans kb1;have e2:=(HBa.out.cell (p:=⟨ra,ro+v,none⟩) lr1).trans cr1;have e3:=(HBa.out.cell (p:=⟨B,0,none⟩) lg1).trans g0;have e4:=(HBa.out.cell (p:=⟨B,1,none⟩) lg1).trans g1;have e5:=(HBa.out.cell (p:=⟨B,2,none⟩) lg1).trans g2;have e6:=(HBa.out.cell (p:=⟨B,3,none⟩) lg1).trans g3;have e7:=(HBa.out.cell (p:=⟨B,4,none⟩) lg1).trans g4;have e1:=kx.cellL 1 rfl;have e8:=kx.cellL 0 rfl;have e9:=kx.cellL 2 rfl;have hgb9:gb<W10.heap.size:=by omega
         have hgB9:B<W10.heap.size:=by omega
         have hra9:ra<W10.heap.size:=by omega
         have HRt2:=Lh fun w' (hb:Below W10.heap.size W10 w')=>HRt.out w' (HBa.out.trans (hb.mono HBa.out.size))
         clear g0 g1 g2 g3 g4 x0 x1 x2 kb1 cr1 lb1 lg1 lr1 hgib hW10 hxb kx HRt
         go_cut [21] (fun s21 wx=>s21= .int .i64 (wn:Nat)∧Below W10.heap.size W10 wx)
         case first=>
          go_region_held3 (fun w'=>w'.cell? ⟨gb,1,none⟩=some (.slice (some ⟨ra,ro,none⟩) nr cr)∧w'.cell? ⟨xb,1,none⟩=some (.int .i64 (v:Nat))∧w'.cell? ⟨ra,ro+v,none⟩=some (.int .i64 (rv:Nat))∧w'.cell? ⟨B,0,none⟩=some (.string g.nm)∧w'.cell? ⟨B,1,none⟩=some (.slice g.aA g.acts.length g.cA)∧w'.cell? ⟨B,2,none⟩=some (.slice g.aE g.edges.length g.cE)∧w'.cell? ⟨B,3,none⟩=some (.slice (some ⟨gi,oi,none⟩) nI g.cI)∧w'.cell? ⟨B,4,none⟩=some (.slice g.aO g.outs.length g.cO)∧w'.cell? ⟨xb,0,none⟩=some (.string nm)∧w'.cell? ⟨xb,2,none⟩=some (.int .i64 (p:Nat))) (go_keep) (first|(go_at_call 12;refine(HRt2.out _ (Below.drewN (zm _ _) 1)).mono ?_;rintro e' w4 ⟨rfl,b4⟩;have q0:w4.cell? ⟨gb,1,none⟩=some (.slice (some ⟨ra,ro,none⟩) nr cr):=(b4.cell (p:=⟨gb,1,none⟩) (by simp;omega)).trans (by simp[*]);have q1:w4.cell? ⟨xb,1,none⟩=some (.int .i64 (v:Nat)):=(b4.cell (p:=⟨xb,1,none⟩) (by simp;omega)).trans (by simp[*]);have q2:w4.cell? ⟨ra,ro+v,none⟩=some (.int .i64 (rv:Nat)):=(b4.cell (p:=⟨ra,ro+v,none⟩) (by simp;omega)).trans (by simp[*]);have q3:w4.cell? ⟨B,0,none⟩=some (.string g.nm):=(b4.cell (p:=⟨B,0,none⟩) (by simp;omega)).trans (by simp[*]);have q4:w4.cell? ⟨B,1,none⟩=some (.slice g.aA g.acts.length g.cA):=(b4.cell (p:=⟨B,1,none⟩) (by simp;omega)).trans (by simp[*]);have q5:w4.cell? ⟨B,2,none⟩=some (.slice g.aE g.edges.length g.cE):=(b4.cell (p:=⟨B,2,none⟩) (by simp;omega)).trans (by simp[*]);have q6:w4.cell? ⟨B,3,none⟩=some (.slice (some ⟨gi,oi,none⟩) nI g.cI):=(b4.cell (p:=⟨B,3,none⟩) (by simp;omega)).trans (by simp[*]);have q7:w4.cell? ⟨B,4,none⟩=some (.slice g.aO g.outs.length g.cO):=(b4.cell (p:=⟨B,4,none⟩) (by simp;omega)).trans (by simp[*]);have q8:w4.cell? ⟨xb,0,none⟩=some (.string nm):=(b4.cell (p:=⟨xb,0,none⟩) (by simp;omega)).trans (by simp[*]);have q9:w4.cell? ⟨xb,2,none⟩=some (.int .i64 (p:Nat)):=(b4.cell (p:=⟨xb,2,none⟩) (by simp;omega)).trans (by simp[*])))
          go_wp2
          go_meet;exact⟨by rw[Hmul.out],(Below.drewN (zm _ W10) 1).trans b4⟩
         case rest=>
          obtain⟨rfl,hb11⟩:=hcut;have bw11:=Hbw.out.trans ((HBa.out.trans (hb11.mono HBa.out.size)).mono Hbw.out.size);have lm11:=(Hlm.out.below HBa.out).below hb11;have HL11:=Lh lm11;have HBW:=Lh bw11;clear e0 e1 e2 e3 e4 e5 e6 e7 e8 e9 hb11 lm11 bw11
          go_upto_if 144 with fail
          go_cut [22] (fun s22 wx=>wx=wc∧∃(Ax:Option Addr) (lx cx:Nat) (xs:List Int),s22= .slice Ax lx cx∧xs.length=lx∧AllFit xs∧Rd wx wx.heap.size Ax (cellsI xs)∧lx*8≤140737488351232)
          case first=>
           by_cases hkF:k<lF
           ·obtain⟨r,hr⟩:=zG (l:=rows) (i:=k) (by rw[HlF.out];exact hkF)
            have FW:=(HST9.out.fd.below HBW.out lR_).more HBW.out.size;obtain⟨rr,rf,rl⟩:=FW.ok r (zac hr);obtain⟨fb,fo,hH,-,hfc⟩:=zoX FW hr;unfold RowV.val at hfc;have kF:(k:Int)<(lF:Int):=by omega
            have Hrr:=Lh rr;have Hrf:=Lh rf;subst hH;clear FW rr rf hr
            go_wp2_with fail
            go_meet;exact⟨rfl,r.A,r.xs.length,r.c,r.xs,rfl,rfl,Hrf.out,Hrr.out,rl⟩
           ·have kF:¬((k:Int)<(lF:Int)):=by omega
            go_wp2_with fail
            go_meet;exact⟨rfl,none,0,0,[],rfl,rfl,fun _ h=>(by cases h), .inl rfl,by omega⟩
          case rest=>
           obtain⟨rfl,Ax,lx,cx,xs,rfl,hlx,hxf,hxr,hx8⟩:=hcut;have HEN:=Lh (zk9 xs Ax lx cx wn _ hlx hxf hxr hx8 (by omega))
           clear hlx hxf hxr hx8
           go_wp2_with fail;refine HEN.out.mono ?_
           rintro e w12 ⟨A',c',ys,rfl,hyl,hyf,hyr,hb12,hyb⟩;have lm12:=HL11.out.below hb12;have ba2:=bA_ w12 (.cells #[.slice A' wn c'] 36);have lm13:=lm12.below ba2;have o2':=lm13.own;rw[Hrl.out]at o2';have rr2:=zal w12 _ rfl 36 [Value.slice A' wn c'];have bw13:=HBW.out.trans ((hb12.trans (ba2.mono hb12.size)).mono HBW.out.size);have hzw:=bw13.size;have hfresh:∀q,blkOf A'=some q→(Value.slice AL k cL).ownBlock≠some q∧q<(w12.alloc (.cells #[.slice A' wn c'] 36)).heap.size:=fun q hq=>by
            constructor
            ·intro hc;have h1:=(HL11.out.own.lt q hc).2;have h2:=(hyb q hq).1;omega
            ·exact zP (hyb q hq).2 ba2.size
           have hrow13:Rd (w12.alloc (.cells #[.slice A' wn c'] 36)) (w12.alloc (.cells #[.slice A' wn c'] 36)).heap.size A' (cellsI ys):=(hyr.below ba2 lR_).more ba2.size
           have HL13:=Lh lm13;have HBW13:=Lh bw13;have Hfresh:=Lh hfresh;have Hrow13:=Lh hrow13;have Hyl:=Lh hyl;have Hyf:=Lh hyf;clear HEN hyl hyf hyr hb12 hyb lm12 ba2 lm13 bw13 hfresh hrow13;have hAPP:=fun op rest o a Q h1 h2 h3 h4 K=>zR (P:= Tryz.prog) (ops:=op) (rest:=rest) (o:=o) (a:=a) (Q:=Q) _ h1 (.tmp 149) (.tmp 153) 27 h2 W9.heap.size 36 is_ (.slice none 0 0) 1 24 Tryz.underlying27 his hsz0 hsz1 hsz2 rfl (by decide) (.slice AL k cL) k (rowsL.map RowV.val) h3 o2' _ (some ⟨w12.heap.size,0,none⟩) 1 1 [Value.slice A' wn c'] h4 rfl rr2 (fun u hu=>by simp at hu;subst hu;rfl) (by unfold maxLen;omega) (by omega) hzw K
           go_wp2_with (at_builtin;refine hAPP _ _ _ _ _ ?_ ?_ ?_ ?_ ?_;rfl;rfl;rfl;rfl)
           intro v' w14 o14 g14 h14;obtain⟨AL',cL',rfl,_⟩:=zH o14;have lm14:=HL13.out.push (r:=⟨A',c',ys⟩) Hrl.out Hrow13.out Hyf.out (by rw[Hyl.out];omega) Hfresh.out g14 (by show World.ownsRow _ _ _ _ _ _ (_++[Value.slice A' ys.length c']);rw[Hyl.out];exact o14) (by rw[show(w12.alloc (.cells #[.slice A' wn c'] 36)).heap.size=w12.heap.size+1 from by simp];exact h14)
           have wl14:=Hwl.out.snoc (r:=⟨A',c',ys⟩) Hrl.out Hhx.out (HWant.out _ Hyl.out);have bw14:=HBW13.out.grown g14 HBW13.out.size fun q hq=>own_ge o2' hq
           have hl14:(rowsL++[(⟨A',c',ys⟩:RowV)]).length=k+1:=by rw[zx,Hrl.out];rfl
           have hsw:IntKind.i64.wrap ((sm:Int)+(wn:Int))=((sm+wn:Nat):Int):=by rw[IntKind.wrap_i64];omega
           have HL14:=Lh lm14;have HW14:=Lh wl14;have HB14:=Lh bw14;have Hl14:=Lh hl14;clear hAPP o14 g14 h14 lm14 wl14 bw14 hl14 o2' rr2
           go_wp2_with fail
           go_roundw
           case rel=>exact⟨k+1,AL',cL',_,sm+wn,by omega,by go_num,rfl,rfl,by omega,Hl14.out,HW14.out,HL14.out,HB14.out⟩
           case measure=>simp[intOf];omega
        ·obtain rfl:k=nI:=by omega
         have k1:¬((k:Int)<(k:Int)):=by omega
         have Hlm:=Lh hlm;have Hwl:=Lh hwl;have Hrl:=Lh hrl;have Hbw:=Lh hbw
         rename World=>W15
         have hcl:(rowF (capF ars ll j) ars.length).length=ars.length:=zaS _ _
         have hcin:∀c∈rowF (capF ars ll j) ars.length,0≤c∧c≤256+64*2048:=fun c hc=>by
          obtain⟨a,ha,rfl⟩:=zY.1 hc;exact zoW HN.out (m:=2048) (by rw[Hnl.out];exact h2k) (zM.1 ha) j
         obtain⟨caps,hcaps⟩:∃l,rowF (capF ars ll j) ars.length=l:=⟨_,rfl⟩;have CP15:=(HCP9.out.below hbw lR_).more hbw.size;rw[hcaps]at hcl hcin CP15;have HRG:=Lh (zkk g caps Ac ars.length cc rowsL AL k cL W15 STw.gd HckG.out hcl (fun c hc=>by have:=hcin c hc;unfold fits;omega) CP15 hrl (hlm.fed hrl))
         rw[HnI.out]at HRG;have Hcaps:=Lh hcaps;have Hcl:=Lh hcl;have Hcin:=Lh hcin;have HLn:=Lh hrl;have Hwl:=Lh hwl;clear hlm hwl hrl hbw STw hcl hcin CP15 hcaps
         go_wp2_with fail;refine HRG.out.mono ?_
         rintro e w16 ⟨hb16,hcase⟩;rcases hcase with⟨-,hbad⟩|⟨V0,ρ0,rfl,hJ⟩
         ·exact absurd ⟨Hcl.out.trans Hal.out,fun c hc=>(Hcin.out c hc).1⟩ hbad
         obtain rfl:na=nr:=by rw[←Hlen.out,Hnr.out]
         have b16:=Hbw.out.trans (hb16.mono Hbw.out.size);have ST16:=HST9.out.below b16;have KB16:=HKB9.out.below b16 HKB9.out.lt;have g0:=ST16.kg.cellL 0 rfl;have g1:=ST16.kg.cellL 1 rfl;have g2:=ST16.kg.cellL 2 rfl;have g3:=ST16.kg.cellL 3 rfl;have g4:=ST16.kg.cellL 4 rfl;have kb1:=KB16.cellL 1 rfl;have RS16:Rd w16 w16.heap.size (some ⟨ra,ro,none⟩) (cellsI rs):= .inr ⟨ra,ro,rfl,by have:=b16.size;omega,fun i u hu=>(b16.cell (p:=⟨ra,ro+i,none⟩) hrb).trans (Hrc.out i u hu)⟩
         have hRg:∀v,v<g.acts.length→rs[v]?=some ((ll.count (v:Int):Nat):Int)∧ll.count (v:Int)≤4096:=fun v hv=>⟨HR.out v (by rw[←Hna.out];exact hv),by have:=HR4.out v;omega⟩
         have HWK:=Lh (znQ g rs (fun u=>ll.count (u:Int)) (some ⟨ra,ro,none⟩) cr w16 ST16.gd HckG.out (Hlen.out.trans Hna.out.symm) hRg RS16 (by rw[Hna.out];exact⟨HN.out.pos,h32⟩))
         have hall:=zmu HckG.out (R:=fun u=>ll.count (u:Int)) (fun v hv=>(hRg v hv).2) g.acts.length lR_
         have hall:0≤allS g (fun u=>ll.count (u:Int))∧allS g (fun u=>ll.count (u:Int))≤8392704*(g.acts.length:Nat):=hall
         rw[Hna.out]at HWK hall;rw[Hna.out]at g1;obtain⟨T,hT⟩:∃T,allS g (fun u=>ll.count (u:Int))=T:=⟨_,rfl⟩
         rw[hT]at HWK hall;have HTT:=Lh hT;have hsw:IntKind.i64.wrap ((sm:Int)+T)=(sm:Int)+T:=IntWalk.i64_in _ (by omega)
         have HJ:=Lh hJ;have HB16:=Lh (HB9.out.trans (b16.mono hz9));have HST16:=Lh ST16;have HKB16:=Lh KB16;have HRS16:=Lh RS16;clear hRg hT hJ b16 ST16 KB16 RS16 hb16 HRG
         go_wp2_with fail;refine HWK.out.mono ?_
         rintro e w17 ⟨rfl,hb17⟩;have J17:=HJ.out.below hb17;have hlen17:∀(i:Nat) (x:PrtV),g.ins[i]?=some x→((fedOf rowsL i).length:Int)=rI g x.a.toNat x.p.toNat*(ll.count (x.a.toNat:Int):Nat):=fun i x hx=>by
          obtain⟨r,hr⟩:=zG (l:=rowsL) (i:=i) (by rw[HLn.out,←HnI.out];exact zao hx)
          unfold fedOf;rw[hr];exact Hwl.out i r x hr hx
         have hmax17:∀i,i<g.ins.length→(fedOf rowsL i).length≤131072:=fun i hi=>by
          obtain⟨x,hx⟩:=zG hi;have h1:=hlen17 i x hx;obtain⟨y,hy0,-,-,h3,h4⟩:=zet HckG.out hx;obtain⟨rr,hrr⟩:=zG (l:=insOf y) (i:=x.p.toNat) (by omega)
          have h2:=(shape_rate y.tag y.ps).1 rr (zac hrr);rw[(zeW hy0 hrr).1]at h1;have h5:rr*((ll.count (x.a.toNat:Int):Nat):Int)≤64*2048:=zaC h2.2 (by have:=HR4.out x.a.toNat;omega) (zbc _) (by omega)
          omega
         have RJ0:=J17.run hmax17;obtain⟨ni,hni⟩:∃f:Nat→Int,(fun j=>((fedOf rowsL j).length:Int))=f:=⟨_,rfl⟩
         rw[hni]at RJ0;have LP:ListP g caps ni (fun u=>ll.count (u:Int)) ll.length (fun i u=>(ll.take i).count (u:Int)):=by
          refine znS HckG.out ?_ ?_ (fun e c he hc=>?_) fun i x hx=>?_
          ·rw[HArs.out,Hna.out];exact Hfl.out
          ·rw[Hna.out];exact Hnod.out
          ·rw[←Hcaps.out,zdu _ (by rw[Hal.out];exact he)]at hc
           obtain rfl:=zq hc;rw[HArs.out,Hnl.out];exact zaT _
          ·rw[←hni];exact Int.le_of_eq (hlen17 i x hx).symm
         have R0:=J17.rig0 HckG.out;have hP:∀V,MetP (RunJ g 131072 ni V0) V→RunQ g caps ni V:=fun V h=>R0.met h
         have hR0:ze7 W15 w17 g 131072 ni V0 0 V0 ρ0:=⟨J17.rig,J17.bnd,RJ0,J17.fx,J17.bel⟩
         have hS0:0≤doneS g (fun u=>ll.count (u:Int)) V0:=zj1 (hR0.met R0) _
         have hRJ:RigJ (RunJ g 131072 ni V0) 17592186046464:=znR HckG.out (by omega) lR_
         have hfull:=J17.full HckG.out;have htl:V0.tasks.length=na:=J17.tl.trans Hna.out;obtain⟨rg,hrg⟩:∃b,V0.rg=b:=⟨_,rfl⟩;rw[hrg];obtain⟨st,hst⟩:∃x,(sm:Int)+T=x:=⟨_,rfl⟩;rw[hst]at hsw;have hTst:T≤st∧0≤st∧st≤131072*16+8392704*32:=by omega
         have HLP:=Lh LP;have HR00:=Lh R0;have HP:=Lh hP;have HS0:=Lh hS0;have HRR:=Lh hR0;have HRJ:=Lh hRJ;have Hfull:=Lh hfull;have Htl:=Lh htl;have Hrg:=Lh hrg;have HST:=Lh hTst;have hz15:=Hbw.out.size;clear J17 hlen17 hmax17 RJ0 hni LP R0 hP hR0 hS0 hRJ hfull htl hrg hb17 HJ HWK g0 g1 g2 g3 g4 kb1 hTst hall
         go_upto_block 6 with fail
         clear hst hsw
         go_cut [24] (fun _ wx=>∃(N:Nat) (V:RigV) (ρ:Nat→Tg),ze7 W15 wx g 131072 ni V0 N V ρ∧(65536≤st∨0≤V.failed∨T≤doneS g (fun u=>ll.count (u:Int)) V))
         case first=>
          go_wp2_with fail
          go_loopw [24] (fun i wr=>∃(q D:Nat) (V:RigV) (ρ:Nat→Tg),q≤64∧i= .int .i64 (D:Nat)∧Hid (D=1024*q)∧ze7 W15 wr g 131072 ni V0 (q*(1024*na)) V ρ∧(D:Int)≤doneS g (fun u=>ll.count (u:Int)) V) (fun i _=>65536-(intOf i).toNat)
          case atStart=>exact⟨0,0,V0,ρ0,zJ _,rfl,Lh rfl,by rw[zbA];exact HRR.out,HS0.out⟩
          case round=>
           clear HRR HS0;obtain⟨q,D,Vq,ρq,hq,rfl,HD,hR,hd⟩:=hrel;have hst:=HST.out;have hD:=HD.out;by_cases hq1:(D:Int)<st
           ·by_cases hq2:D<65536
            ·have hq3:(D:Int)<65536:=by omega
             have hq64:q<64:=by omega
             have hfq:=hR.j.2.2.full Hfull.out;have erg:Vq.rg=rg:=hR.j.2.2.rg.trans Hrg.out;have elen:Vq.tasks.length=na:=hR.j.2.2.len.trans Htl.out;have hqn:q*(1024*na)≤63*(1024*32):=zdx (by omega) (Nat.mul_le_mul_left _ h32)
             have HRN:=Lh (zfZ _ _ HRJ.out Vq ρq (q*(1024*na)) wr hR.m hfq hR.b hR.j (by omega) na elen (by omega) 1024 (by omega) (by omega))
             rw[erg]at HRN;have hdn:=(hR.met HR00.out);have hdn0:∀u,u<g.acts.length→0≤dn g Vq u:=fun u hu=>hdn.dn0 hu
             have Hdn:=Lh hdn0;have HRq:=Lh hR;have HdD:=Lh hd;clear hR hd hst hD hfq erg elen hqn hdn hdn0
             go_wp2_with fail;refine HRN.out.mono ?_
             rintro e w18 ⟨d,V1,ρ1,rfl,hat,hrnd⟩;have hR1:=HRq.out.at_ hat;rw[←Hna.out]at hrnd;obtain⟨-,hgo⟩:=HLP.out.goes HP.out HckG.out (by omega) Hdn.out hrnd
             rw[HTT.out]at hgo;have erg1:V1.rg=rg:=hR1.j.2.2.rg.trans Hrg.out;have elen1:V1.tasks.length=na:=hR1.j.2.2.len.trans Htl.out;have hf1:=hR1.j.2.2.full Hfull.out;have HR1:=Lh hR1;have Hgo:=Lh hgo;clear hat hrnd HRN HRq;by_cases hd0:d=0
             ·subst hd0;have Hfin:=Lh (show 65536≤st∨0≤V1.failed∨T≤doneS g (fun u=>ll.count (u:Int)) V1 from by
               rcases hgo with h|h|⟨-,h⟩
               ·exact .inr (.inl h)
               ·exact .inr (.inr h)
               ·exact absurd rfl h)
              clear hR1 hgo erg1 elen1 hf1
              go_wp2_with fail
              go_meet;exact⟨_,V1,ρ1,HR1.out,Hfin.out⟩
             ·have hdd:((d:Int)==0)=false:=by simp;omega
              obtain⟨whs,hwhs⟩:∃l,V1.tasks.map (·.wh)=l:=⟨_,rfl⟩;have hwl:whs.length=na:=by rw[←hwhs,zA];exact elen1
              obtain⟨Y,hY⟩:∃Y:Bool,Y=true↔∀(k f:Nat) (r:Int),whs[k]?=some f→rs[k]?=some r→r≤(f:Nat):=by
               haveI:=Classical.propDecidable (∀(k f:Nat) (r:Int),whs[k]?=some f→rs[k]?=some r→r≤(f:Nat))
               exact⟨decide (∀(k f:Nat) (r:Int),whs[k]?=some f→rs[k]?=some r→r≤(f:Nat)),decide_eq_true_iff⟩
              obtain⟨hv,hhv⟩:∃x:Int,(if 0≤V1.failed then 3 else if(V1.rdys V1.tasks.length).length=0 then 5 else 0)=x:=⟨_,rfl⟩;have b918:=Hbw.out.trans (hR1.bel.mono hz15);have HFI:Hid (∀w',Below w18.heap.size w18 w'→Calls Tryz.prog 18 #[.pointer (some ⟨rg,0,none⟩)] w' fun e w''=>∃A c,e= .returned (.slice A na c)∧Rd w'' w''.heap.size A (cellsN whs)∧Below w'.heap.size w' w''):=fun w' hb=>by
               have h1:=zeY V1 ρ1 w' (hR1.m.below hb) (by omega)
               rw[erg1,elen1,hwhs]at h1;exact h1
              have HHL:Hid (∀w',Below w18.heap.size w18 w'→Calls Tryz.prog 19 #[.pointer (some ⟨rg,0,none⟩)] w' fun e w''=>e= .returned (.int .u8 hv)∧Below w'.heap.size w' w''):=fun w' hb=>by
               have h1:=zfi V1 ρ1 w' (hR1.m.below hb) hf1 (by omega)
               rw[erg1,hhv]at h1;exact h1
              have HWH:Hid (∀w' A c,Below w18.heap.size w18 w'→Rd w' w'.heap.size A (cellsN whs)→Calls Tryz.prog 17 #[.slice A na c, .slice (some ⟨ra,ro,none⟩) na cr] w' fun e w''=>e= .returned (.bool Y)∧Below w'.heap.size w' w''):=fun w' A c hb hr=>by
               have b9':=b918.trans (hb.mono b918.size);refine(zh8 whs rs A (some ⟨ra,ro,none⟩) na c cr w' hwl Hlen.out hr (.inr ⟨ra,ro,rfl,by have:=b9'.size;omega,fun i u hu=>(b9'.cell (p:=⟨ra,ro+i,none⟩) hrb).trans (Hrc.out i u hu)⟩) ⟨HN.out.pos,h32⟩).mono ?_
               rintro e w'' ⟨y,rfl,hy,hb2⟩;obtain rfl:y=Y:=zav.2 (hy.trans hY.symm);exact⟨rfl,hb2⟩
              have kbw:=HKB9.out.below b918 HKB9.out.lt;have c1:=kbw.cellL 1 rfl;have hlt18:=kbw.lt;have hwhole:T≤doneS g (fun u=>ll.count (u:Int)) V1→Y=true:=fun hT=>hY.2 (by
               rw[←hwhs];exact(hR1.met HR00.out).whole (R:=fun u=>ll.count (u:Int)) (by rw[HTT.out];exact hT) fun v hv=>HR.out v (by rw[←Hna.out];exact hv))
              have hnext:Y=false→hv≠3→(D:Int)+1024≤doneS g (fun u=>ll.count (u:Int)) V1:=fun hy h3=>by
               rcases hgo with h|h|⟨h,-⟩
               ·rw[if_pos h]at hhv;exact absurd hhv.symm h3
               ·rw[hwhole h]at hy;cases hy
               ·have:=HdD.out
                omega
              have Hnext:=Lh hnext;have hTw:=Lh (HST9.out.tab.below b918 HST9.out.tab.pos);have B18:=Lh (HB9.out.trans (b918.mono hz9));have hz18:B≤w18.heap.size:=by have:=b918.size;omega
              clear hwhs hwl hY hhv b918 kbw hwhole hnext hR1 hgo erg1 elen1 hf1
              go_upto_region 45 with fail
              go_cut [191] (fun s wx=>s= .bool (Y||(hv==3))∧Below w18.heap.size w18 wx)
              case first=>
               cases Y with
               |true=>
                first|go_region_with (first|(go_at_call 18;refine(HFI.out _ (Below.drewN (zm _ _) 1)).mono ?_;rintro e' w11 ⟨A9,c9,rfl,r9,b11⟩;have f0:w11.cell? ⟨gb,1,none⟩=some (.slice (some ⟨ra,ro,none⟩) na cr):=(b11.cell (p:=⟨gb,1,none⟩) (by simp;omega)).trans (by simp[*]);have B11:=(Below.drewN (zm w18.heap.size w18) 1).trans b11)|(go_at_call 17;refine(HWH.out _ A9 c9 B11 r9).mono ?_;rintro e' w12 ⟨rfl,b12⟩;have B12:=B11.trans (b12.mono B11.size)))|fail
                all_goals go_wp2_with fail
                all_goals go_meet
                all_goals exact⟨rfl,B12⟩
               |false=>
                go_region_with (first|(go_at_call 18;refine(HFI.out _ (Below.drewN (zm _ _) 1)).mono ?_;rintro e' w11 ⟨A9,c9,rfl,r9,b11⟩;have f0:w11.cell? ⟨gb,1,none⟩=some (.slice (some ⟨ra,ro,none⟩) na cr):=(b11.cell (p:=⟨gb,1,none⟩) (by simp;omega)).trans (by simp[*]);have B11:=(Below.drewN (zm w18.heap.size w18) 1).trans b11)|(go_at_call 17;refine(HWH.out _ A9 c9 B11 r9).mono ?_;rintro e' w12 ⟨rfl,b12⟩;have B12:=B11.trans (b12.mono B11.size))|(go_at_call 19;refine(HHL.out _ B12).mono ?_;rintro e' w13 ⟨rfl,b13⟩;have B13:=B12.trans (b13.mono B12.size)))
                all_goals go_wp2_with fail
                all_goals go_meet
                all_goals exact⟨rfl,B13⟩
              case rest=>
               obtain⟨rfl,hb19⟩:=hcut;by_cases hyz:(Y||(hv==3))=true
               ·rw[hyz];have B19:=Lh (B18.out.trans (hb19.mono hz18));have T19:=Lh (hTw.out.below hb19 hTw.out.pos);have hz19:B≤wc.heap.size:=by have:=hb19.size;omega
                clear hb19 c1
                go_wp2_with fail;refine(zcw wc T19.out).mono ?_
                rintro e w99 ⟨rfl,hb99⟩;have B99:=Lh (B19.out.trans (hb99.mono hz19));clear hb99
                go_wp2_with fail
                go_ret;exact⟨rfl,HBB.out.symm▸B99.out⟩
               ·have hyz:(Y||(hv==3))=false:=by simpa using hyz
                rw[hyz];have hy0:Y=false:=by cases Y<;>simp at hyz⊢
                have hv0:hv≠3:=by rw[hy0]at hyz;simpa using hyz
                have Hdn2:=Lh (Hnext.out hy0 hv0);have HR2:=Lh (HR1.out.below hb19);have HD2:Hid (D+1024=1024*(q+1)):=Lh (by have:=HD.out;omega)
                clear hyz hy0 hv0 hb19 c1
                go_wp2_with fail
                go_roundw
                case rel=>exact⟨q+1,D+1024,V1,ρ1,by omega,by go_num,HD2,by rw[zdL,zdM];exact HR2.out,by have:=Hdn2.out;omega⟩
                case measure=>simp[intOf];omega
            ·have hq3:¬((D:Int)<65536):=by omega
             have HRq:=Lh hR;have Hfin:=Lh (show 65536≤st∨0≤Vq.failed∨T≤doneS g (fun u=>ll.count (u:Int)) Vq from .inl (by omega))
             clear hR hd hst hD
             go_wp2_with fail
             go_meet;exact⟨_,Vq,ρq,HRq.out,Hfin.out⟩
           ·have HRq:=Lh hR;have Hfin:=Lh (show 65536≤st∨0≤Vq.failed∨T≤doneS g (fun u=>ll.count (u:Int)) Vq from .inr (.inr (by omega)))
            clear hR hd hst hD
            go_wp2_with fail
            go_meet;exact⟨_,Vq,ρq,HRq.out,Hfin.out⟩
         case rest=>
          obtain⟨N,V,ρ,hR,hfin⟩:=hcut;have erg:V.rg=rg:=hR.j.2.2.rg.trans Hrg.out;have elen:V.tasks.length=na:=hR.j.2.2.len.trans Htl.out;have hf1:=hR.j.2.2.full Hfull.out;obtain⟨whs,hwhs⟩:∃l,V.tasks.map (·.wh)=l:=⟨_,rfl⟩;have hwl:whs.length=na:=by rw[←hwhs,zA];exact elen
          obtain⟨Y,hY⟩:∃Y:Bool,Y=true↔∀(k f:Nat) (r:Int),whs[k]?=some f→rs[k]?=some r→r≤(f:Nat):=by
           haveI:=Classical.propDecidable (∀(k f:Nat) (r:Int),whs[k]?=some f→rs[k]?=some r→r≤(f:Nat))
           exact⟨decide (∀(k f:Nat) (r:Int),whs[k]?=some f→rs[k]?=some r→r≤(f:Nat)),decide_eq_true_iff⟩
          obtain⟨hv,hhv⟩:∃x:Int,(if 0≤V.failed then 3 else if(V.rdys V.tasks.length).length=0 then 5 else 0)=x:=⟨_,rfl⟩;have b918:=Hbw.out.trans (hR.bel.mono hz15);have HFI:Hid (∀w',Below wc.heap.size wc w'→Calls Tryz.prog 18 #[.pointer (some ⟨rg,0,none⟩)] w' fun e w''=>∃A c,e= .returned (.slice A na c)∧Rd w'' w''.heap.size A (cellsN whs)∧Below w'.heap.size w' w''):=fun w' hb=>by
           have h1:=zeY V ρ w' (hR.m.below hb) (by omega)
           rw[erg,elen,hwhs]at h1;exact h1
          have HHL:Hid (∀w',Below wc.heap.size wc w'→Calls Tryz.prog 19 #[.pointer (some ⟨rg,0,none⟩)] w' fun e w''=>e= .returned (.int .u8 hv)∧Below w'.heap.size w' w''):=fun w' hb=>by
           have h1:=zfi V ρ w' (hR.m.below hb) hf1 (by omega)
           rw[erg,hhv]at h1;exact h1
          have HWH:Hid (∀w' A c,Below wc.heap.size wc w'→Rd w' w'.heap.size A (cellsN whs)→Calls Tryz.prog 17 #[.slice A na c, .slice (some ⟨ra,ro,none⟩) na cr] w' fun e w''=>e= .returned (.bool Y)∧Below w'.heap.size w' w''):=fun w' A c hb hr=>by
           have b9':=b918.trans (hb.mono b918.size);refine(zh8 whs rs A (some ⟨ra,ro,none⟩) na c cr w' hwl Hlen.out hr (.inr ⟨ra,ro,rfl,by have:=b9'.size;omega,fun i u hu=>(b9'.cell (p:=⟨ra,ro+i,none⟩) hrb).trans (Hrc.out i u hu)⟩) ⟨HN.out.pos,h32⟩).mono ?_
           rintro e w'' ⟨y,rfl,hy,hb2⟩;obtain rfl:y=Y:=zav.2 (hy.trans hY.symm);exact⟨rfl,hb2⟩
          have tabc:=HST9.out.tab.below b918 HST9.out.tab.pos;have HAW:Hid (∀w',Below wc.heap.size wc w'→Calls Tryz.prog 6 #[] w' fun e w''=>e= .returned (.bool true)∧Below w'.heap.size w' w''):=fun w' hb=>zcw w' (tabc.below hb tabc.pos)
          have kbw:=HKB9.out.below b918 HKB9.out.lt;have c1:=kbw.cellL 1 rfl;have hlt18:=kbw.lt;have hwhole:T≤doneS g (fun u=>ll.count (u:Int)) V→Y=true:=fun hT=>hY.2 (by
           rw[←hwhs];exact(hR.met HR00.out).whole (R:=fun u=>ll.count (u:Int)) (by rw[HTT.out];exact hT) fun v hv=>HR.out v (by rw[←Hna.out];exact hv))
          have hthree:¬(65536≤st)→Y=false→hv=3:=fun h1 hy=>by
           rcases hfin with h|h|h
           ·exact absurd h h1
           ·rw[if_pos h]at hhv;exact hhv.symm
           ·rw[hwhole h]at hy;cases hy
          have Hthree:=Lh hthree;have B18:=Lh (HB9.out.trans (b918.mono hz9));have hz18:B≤wc.heap.size:=by have:=b918.size;omega
          clear hwhs hwl hY hhv b918 kbw hwhole hthree hR hfin erg elen hf1 tabc HRR HS0;by_cases hG:65536≤st
          ·have hG1:decide (st≥65536)=true:=decide_eq_true hG
           have hst:=HST.out;clear Hthree
           go_upto_region 47 with fail
           first|go_region_with (first|(go_at_call 6;refine(HAW.out _ (Below.drewN (zm wc.heap.size wc) 1)).mono ?_;rintro e' w14 ⟨rfl,b14⟩;have B14:=(Below.drewN (zm wc.heap.size wc) 1).trans (b14.mono (Below.drewN (zm wc.heap.size wc) 1).size)))|fail
           all_goals go_wp2_with fail
           all_goals go_ret
           all_goals exact⟨rfl,HBB.out.symm▸B18.out.trans (B14.mono hz18)⟩
          ·have hG1:decide (st≥65536)=false:=decide_eq_false hG
           cases Y with
           |true=>
            clear Hthree
            go_upto_region 47 with fail
            first|go_region_with (first|(go_at_call 18;refine(HFI.out _ (Below.drewN (zm _ _) 1)).mono ?_;rintro e' w11 ⟨A9,c9,rfl,r9,b11⟩;have f0:w11.cell? ⟨gb,1,none⟩=some (.slice (some ⟨ra,ro,none⟩) na cr):=(b11.cell (p:=⟨gb,1,none⟩) (by simp;omega)).trans (by simp[*]);have B11:=(Below.drewN (zm wc.heap.size wc) 1).trans b11)|(go_at_call 17;refine(HWH.out _ A9 c9 B11 r9).mono ?_;rintro e' w12 ⟨rfl,b12⟩;have B12:=B11.trans (b12.mono B11.size))|(go_at_call 6;refine(HAW.out _ B12).mono ?_;rintro e' w14 ⟨rfl,b14⟩;have B14:=B12.trans (b14.mono B12.size)))|fail
            all_goals go_wp2_with fail
            all_goals go_ret
            all_goals exact⟨rfl,HBB.out.symm▸B18.out.trans (B14.mono hz18)⟩
           |false=>
            obtain rfl:=Hthree.out hG rfl;clear Hthree
            go_upto_region 47 with fail
            first|go_region_with (first|(go_at_call 18;refine(HFI.out _ (Below.drewN (zm _ _) 1)).mono ?_;rintro e' w11 ⟨A9,c9,rfl,r9,b11⟩;have f0:w11.cell? ⟨gb,1,none⟩=some (.slice (some ⟨ra,ro,none⟩) na cr):=(b11.cell (p:=⟨gb,1,none⟩) (by simp;omega)).trans (by simp[*]);have B11:=(Below.drewN (zm wc.heap.size wc) 1).trans b11)|(go_at_call 17;refine(HWH.out _ A9 c9 B11 r9).mono ?_;rintro e' w12 ⟨rfl,b12⟩;have B12:=B11.trans (b12.mono B11.size))|(go_at_call 19;refine(HHL.out _ B12).mono ?_;rintro e' w13 ⟨rfl,b13⟩;have B13:=B12.trans (b13.mono B12.size))|(go_at_call 6;refine(HAW.out _ B13).mono ?_;rintro e' w14 ⟨rfl,b14⟩;have B14:=B13.trans (b14.mono B13.size)))|fail
            all_goals go_wp2_with fail
            all_goals go_ret
            all_goals exact⟨rfl,HBB.out.symm▸B18.out.trans (B14.mono hz18)⟩
    ·have hq1:((ns:Int)==0)=false:=by simp;omega
     clear n0 n1
     go_wp2_with fail;refine(zcw W7 HS7.out.tab).mono ?_
     rintro e w99 ⟨rfl,hb99⟩;have B99:=Lh (HB7.out.trans (hb99.mono hz7));clear hb99
     go_wp2_with fail
     go_ret;exact⟨rfl,HBB.out.symm▸B99.out⟩
   ·have hq0:(e1==0)=false:=by simp;exact he0
    clear n0 n1 p1
    go_wp2_with fail;refine(zcw W7 HS7.out.tab).mono ?_
    rintro e w99 ⟨rfl,hb99⟩;have B99:=Lh (HB7.out.trans (hb99.mono hz7));clear hb99
    go_wp2_with fail
    go_ret;exact⟨rfl,HBB.out.symm▸B99.out⟩
 ·have hq0:(E==0)=false:=by simp;exact hE0
  clear h hb3 k3 hb2
  go_wp2_with fail;refine(zcw W3 HT3.out).mono ?_
  rintro e w99 ⟨rfl,hb99⟩;have B99:=Lh (HB3.out.trans (hb99.mono hz3));clear hb99
  go_wp2_with fail
  go_ret;exact⟨rfl,HBB.out.symm▸B99.out⟩
end Go.Proofs.YtpmlljbebdidgaaGreatDoor
