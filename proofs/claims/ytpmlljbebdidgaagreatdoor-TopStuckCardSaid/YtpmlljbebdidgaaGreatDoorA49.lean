/- Lemmas and walks for the claim: Ev. -/
import Derived.Test.YtpmlljbebdidgaaGreatDoorA0
import Derived.Test.YtpmlljbebdidgaaGreatDoorA48
import Derived.Test.YtpmlljbebdidgaaGreatDoorA32
set_option maxRecDepth 100000
set_option maxHeartbeats 40000000
namespace Go.Proofs.YtpmlljbebdidgaaGreatDoor
open Go.RowKit
theorem steady_reps{n:Nat}{ars:List ArcV}(hc:checkF n ars=0)(hb:¬Big n (cR n ars))(he:∀a∈ars,evA (cR n ars) a=true):
  (rowN n fun v=>(cR n ars v:Int)).length=n∧(rowN n fun v=>(cR n ars v:Int)).all repB=true∧ars.all (evenB (rowN n fun v=>(cR n ars v:Int)))=true:=by
 refine⟨rowN_length _ _,List.all_eq_true.2 fun x hx=>?_,List.all_eq_true.2 fun a ha=>?_⟩
 ·obtain⟨v,hv,rfl⟩:=List.mem_map.1 hx;have hv:=List.mem_range.1 hv;have h1:=not_big hb hv;have h2:=(ctx_at hc).ri.pos v;unfold repB;rw[decide_eq_true_eq];omega
 ·have h1:=he a ha;have ha2:=(ctx_at hc).arc a ha;unfold evA at h1;unfold evenB repAt;rw[decide_eq_true_eq]at h1⊢;rw[rowN_at (by omega),rowN_at (by omega)]
  exact h1
theorem reps_fit{rs:List Int}(h:rs.all repB=true):AllFit rs:=by
 intro x hx
 have:=List.all_eq_true.1 h x hx
 unfold repB at this;rw[decide_eq_true_eq]at this;unfold fits;omega
structure StS(w:World)(g:GraV)(o:OvV)(gG gO gn na:Nat)(ars:List ArcV)(A:Option Addr)(c:Nat)(Q:Option Addr)(ps:List Int):Prop where
 kg:Blk w gG 26 #[.string g.nm, .slice g.aA g.acts.length g.cA, .slice g.aE g.edges.length g.cE, .slice g.aI g.ins.length g.cI, .slice g.aO g.outs.length g.cO]
 ko:Blk w gO 65 #[.slice o.A0 o.caps.length o.k0, .slice o.A1 o.rows.length o.k1, .slice o.A2 o.scr.length o.k2]
 kn:Blk w gn 30 #[.int .i64 na, .slice A ars.length c]
 rA:Rd w w.heap.size A (cellsA ars)
 rQ:Rd w w.heap.size Q (cellsI ps)
 gd:g.good w w.heap.size
 od:o.good w w.heap.size
 tab:Tab w
theorem StS.below{w w':World}{g:GraV}{o:OvV}{gG gO gn na:Nat}{ars:List ArcV}{A:Option Addr}{c:Nat}{Q:Option Addr}{ps:List Int}(h:StS w g o gG gO gn na ars A c Q ps)(hb:Below w.heap.size w w'):StS w' g o gG gO gn na ars A c Q ps:=
 ⟨h.kg.below hb h.kg.lt,h.ko.below hb h.ko.lt,h.kn.below hb h.kn.lt,(h.rA.below hb lR_).more hb.size,(h.rQ.below hb lR_).more hb.size,(h.gd.below hb lR_).more hb.size,(h.od.below hb lR_).more hb.size,h.tab.below hb h.tab.pos⟩
structure RunS(W w:World)(g:GraV)(F:Nat→Int)(vs:List Nat)(V0:RigV)(N:Nat)(V:RigV)(ρ:Nat→Tg):Prop where
 m:RigM w ρ V
 s:V0.same V
 b:V.bnd N
 j:LawJ g 17592186043904 F vs N V
 fx:∀b,b<W.heap.size→ρ b= .fix
 bel:Below W.heap.size W w
theorem RunS.at_{W wa w:World}{g:GraV}{F:Nat→Int}{vs:List Nat}{V0 V V':RigV}{N N':Nat}{ρ ρ':Nat→Tg}(h:RunS W wa g F vs V0 N V ρ)(ha:RigAt (LawJ g 17592186043904 F vs) V ρ wa N' V' ρ' w):RunS W w g F vs V0 N' V' ρ':=
 ⟨ha.m,h.s.trans ha.s,ha.b,ha.j,fun b hb=>(ha.v.tag b (by have:=h.bel.size;omega)).trans (h.fx b hb),h.bel.trans (ha.v.below h.fx h.bel.size)⟩
theorem RunS.below{W w w':World}{g:GraV}{F:Nat→Int}{vs:List Nat}{V0 V:RigV}{N:Nat}{ρ:Nat→Tg}(h:RunS W w g F vs V0 N V ρ)(hb:Below w.heap.size w w'):RunS W w' g F vs V0 N V ρ:=
 ⟨h.m.below hb,h.s,h.b,h.j,h.fx,h.bel.trans (hb.mono h.bel.size)⟩
theorem RunS.other{W w w':World}{g:GraV}{F:Nat→Int}{vs:List Nat}{V0 V:RigV}{N:Nat}{ρ:Nat→Tg}(h:RunS W w g F vs V0 N V ρ)(hb:Below w.heap.size w w'):∃ρ',RunS W w' g F vs V0 N V ρ'∧∀b,w.heap.size≤b→ρ' b= .fix:=by
 refine⟨fun b=>if b<w.heap.size then ρ b else .fix,⟨h.m.other hb fun b hb1=>if_pos hb1,h.s,h.b,h.j,fun b hb1=>?_,h.bel.trans (hb.mono h.bel.size)⟩,fun b hb1=>if_neg (by omega)⟩
 have:=h.bel.size
 show(if b<w.heap.size then ρ b else .fix)=_
 rw[if_pos (by omega)]
 exact h.fx b hb1
theorem RunS.held{W w:World}{g:GraV}{F:Nat→Int}{vs:List Nat}{V0 V:RigV}{N:Nat}{ρ:Nat→Tg}{rs:List Int}(h:RunS W w g F vs V0 N V ρ){v:Nat}(hv:v∈vs)(hn:v<g.acts.length)(hr:rs.length=g.acts.length)(hlt:F v<repAt rs v):∃f r,(V.tasks.map (·.wh))[v]?=some f∧rs[v]?=some r∧(f:Int)<r:=by
 obtain⟨t,ht⟩:=get_of_lt (l:=V.tasks) (i:=v) (by rw[h.j.G.len];exact hn)
 obtain⟨r,hr2⟩:=get_of_lt (l:=rs) (i:=v) (by omega)
 refine⟨t.wh,r,map_get (fun t:TkV=>t.wh) ht,hr2,?_⟩
 have h1:=h.j.held v hv;rw[φ_at ht]at h1;unfold repAt at hlt;rw[Int.toNat_natCast,hr2]at hlt;have hlt:F v<r:=hlt;split at h1<;>omega
structure AskA(w0:World)(rg na:Nat)(whs:List Nat)(gb:Nat)(Ar:Option Addr)(nr cr:Nat)(L:Nat→Bool)(V:Nat→Value)(w:World):Prop where
 bel:Below w0.heap.size w0 w
 f1:L 1=true→V 84= .slice (sAddr (V 84)) na (sCap (V 84))∧Rd w w.heap.size (sAddr (V 84)) (cellsN whs)
 e4:L 4=true→V 87= .bool false
 e0:L 0=true→V 83= .pointer (some ⟨rg,0,none⟩)
 e2:L 2=true→V 85= .pointer (some ⟨gb,1,none⟩)
 e3:L 3=true→V 86= .slice Ar nr cr
structure AskB(w0:World)(rg na:Nat)(whs:List Nat)(gb:Nat)(Ar:Option Addr)(nr cr:Nat)(L:Nat→Bool)(V:Nat→Value)(w:World):Prop where
 bel:Below w0.heap.size w0 w
 f1:L 1=true→V 95= .slice (sAddr (V 95)) na (sCap (V 95))∧Rd w w.heap.size (sAddr (V 95)) (cellsN whs)
 e4:L 4=true→V 98= .bool false
 e0:L 0=true→V 94= .pointer (some ⟨rg,0,none⟩)
 e2:L 2=true→V 96= .pointer (some ⟨gb,1,none⟩)
 e3:L 3=true→V 97= .slice Ar nr cr
theorem topStuck_any(g:GraV)(ps:List Int)(Q:Option Addr)(q cq:Nat)(o:OvV)(w:World)(hg:g.good w w.heap.size)
  (hps:ps.length=q) (hlcq:q≤cq) (hfp:AllFit ps) (hrp:Rd w w.heap.size Q (cellsI ps)) (hzq:cq*8≤140737488351232) (hov:o.good w w.heap.size) (hT:Tab w):
  Calls Tryz.prog 4 #[.agg #[.string g.nm, .slice g.aA g.acts.length g.cA, .slice g.aE g.edges.length g.cE, .slice g.aI g.ins.length g.cI, .slice g.aO g.outs.length g.cO], .slice Q q cq, .agg #[.slice o.A0 o.caps.length o.k0, .slice o.A1 o.rows.length o.k1, .slice o.A2 o.scr.length o.k2]] w fun e w'=>e= .returned (.bool true)∧Below w.heap.size w w':=by
 subst hps;obtain⟨B,hB⟩:∃B,w.heap.size=B:=⟨_,rfl⟩;have b0:=bA_ w (.cells #[.string g.nm, .slice g.aA g.acts.length g.cA, .slice g.aE g.edges.length g.cE, .slice g.aI g.ins.length g.cI, .slice g.aO g.outs.length g.cO] 26);have k0:=bN_ b0;have z0:(w.alloc (.cells #[.string g.nm, .slice g.aA g.acts.length g.cA, .slice g.aE g.edges.length g.cE, .slice g.aI g.ins.length g.cI, .slice g.aO g.outs.length g.cO] 26)).heap.size=w.heap.size+1:=by simp
 obtain⟨Wg,hWg⟩:=wN_ b0;rw[hWg]at b0 k0 z0;have b1:=b0.alloc (by omega) (.cells #[.slice o.A0 o.caps.length o.k0, .slice o.A1 o.rows.length o.k1, .slice o.A2 o.scr.length o.k2] 65)
 have bo:=bA_ Wg (.cells #[.slice o.A0 o.caps.length o.k0, .slice o.A1 o.rows.length o.k1, .slice o.A2 o.scr.length o.k2] 65);have k1:=bN_ bo;have k0':=k0.below bo k0.lt;obtain⟨W1,hW1⟩:=wN_ bo;rw[hW1]at b1 k1 k0';have hg1:g.good W1 W1.heap.size:=(hg.below b1 lR_).more b1.size;have hq1:Rd W1 W1.heap.size Q (cellsI ps):=(hrp.below b1 lR_).more b1.size;have ho1:o.good W1 W1.heap.size:=(hov.below b1 lR_).more b1.size;have ht1:Tab W1:=hT.below b1 hT.pos;clear b0 k0 bo
 go_enter Tryz.func4, Tryz.ntmps4
 go_upto_region 1 with fail
 try rw[hWg]
 try rw[hW1]
 rw[z0]at k1
 try rw[z0]
 rw[hB]at b1 k1 k0'
 try rw[hB]
 have HBB:=Lh hB;have hz1:B≤W1.heap.size:=by have:=b1.size;omega
 have c0:=k0'.cellL 0 rfl;have c1:=k0'.cellL 1 rfl;have c2:=k0'.cellL 2 rfl;have c3:=k0'.cellL 3 rfl;have c4:=k0'.cellL 4 rfl;have HG1:=Lh hg1;have HQ1:=Lh hq1;have HO1:=Lh ho1;have HT1:=Lh ht1;have HB1:=Lh b1;have HKG1:=Lh k0';have HKO1:=Lh k1;obtain⟨gO,hgO⟩:∃b,B+1=b:=⟨_,rfl⟩
 try rw[hgO]
 rw[hgO]at HKO1;clear hg hrp hov hT hg1 hq1 ho1 ht1 b1 k1 k0' hW1 hWg hB z0 hgO
 go_wp2_with fail;refine(netOf_any g W1 HG1.out).mono ?_
 rintro e w2 ⟨n,A,l,c,rfl,hb2,h⟩;obtain⟨E,hE⟩:∃E,checkG g=E:=⟨_,rfl⟩;rw[hE]at h⊢;have hz2:B≤w2.heap.size:=by have:=hb2.size;omega
 have b2:=HB1.out.trans (hb2.mono hz1);have hb3:=bA_ w2 (.cells #[.int .i64 n, .slice A l c] 30);have k3:=bN_ hb3;have b13:=hb2.trans (hb3.mono hb2.size);have b3:=b2.trans (hb3.mono hz2);clear c0 c1 c2 c3 c4 HB1 b2
 go_upto_region 2 with fail;obtain⟨W3,hW3⟩:=wN_ hb3;obtain⟨gn,hgn⟩:∃g,w2.heap.size=g:=⟨_,rfl⟩;rw[hW3]at hb3 k3 b3 b13;rw[hgn]at k3
 try rw[hW3]
 try rw[hgn]
 have hz3:B≤W3.heap.size:=by have:=b3.size;have:=HBB.out;omega
 have HB3:=Lh b3;have HB13:=Lh b13;have HT3:=Lh (HT1.out.below b13 HT1.out.pos);clear hW3 b3 b13;by_cases hE0:E=0
 ·subst hE0;obtain⟨hn,hl,ho⟩:=h rfl;have hck:=checkG_net hE;have hal:=garcs_length g;obtain⟨ars,hars⟩:∃a,garcs g=a:=⟨_,rfl⟩;rw[hars]at ho hck hal;obtain⟨na,hna⟩:∃k,g.acts.length=k:=⟨_,rfl⟩;rw[hna]at hn hck;subst hn;rw[←hal]at hl;subst hl;obtain⟨m',hm',hN⟩:=netOk_of hck;obtain rfl:na=m':=by omega
  have hx:∀a∈ars,a.fit:=fun a ha=>by
   obtain⟨h1,h2,h3,h4,h5,h6,h7,h8,h9,h10⟩:=hN.ok a ha
   have:=hN.n32
   refine⟨?_,?_,?_,?_,?_⟩<;>unfold fits<;>omega
  have hmA:ars.length≤maxLen:=by have:=hN.l96;unfold maxLen;omega
  have ST3:StS W3 g o B gO gn na ars A c Q ps:=⟨HKG1.out.below HB13.out HKG1.out.lt,HKO1.out.below HB13.out HKO1.out.lt,k3,((rd_of_own ho).below hb3 lR_).more hb3.size,(HQ1.out.below HB13.out lR_).more HB13.out.size,(HG1.out.below HB13.out lR_).more HB13.out.size,(HO1.out.below HB13.out lR_).more HB13.out.size,HT3.out⟩
  have HSV:=Lh (solve_any na ars A ars.length c W3 rfl hx ST3.rA hmA HT3.out);have n0:=k3.cellL 0 rfl;have n1:=k3.cellL 1 rfl;have HS3:=Lh ST3;have HN:=Lh hN;have Hck:=Lh hck;have HX:=Lh hx;have HckG:=Lh hE;have Hna:=Lh hna;have HArs:Hid (garcs g=ars):=hars;clear h hm' hna hal ho hE k3 ST3 hN hck hx HT3 HB13 hgn HG1 HQ1 HO1 HT1 HKG1 HKO1 hars hb3 hb2
  go_wp2_with fail;refine HSV.out.mono ?_
  rintro e w4 ⟨vd,reps,cyc,k,Ar,cr,Ac,cc,rfl,hs,-,-,oR,oC,hb4⟩;have hk0:k=0:=by
   rcases hs with⟨hc,-⟩|⟨-,h,-⟩
   ·exact absurd Hck.out hc
   ·exact h
  subst hk0;have hz4:B≤w4.heap.size:=by have:=hb4.size;omega
  have ST4:=HS3.out.below hb4;have b4:=HB3.out.trans (hb4.mono hz3);have hb5:=bA_ w4 (.cells #[.int .u8 vd, .slice Ar reps.length cr, .slice Ac cyc.length cc] 39);have kb:=bN_ hb5;have ST5:=ST4.below hb5;have rR5:=((rd_of_own oR).below hb5 lR_).more hb5.size;have b5:=b4.trans (hb5.mono hz4);clear HSV n0 n1 oR oC ST4 b4 hb4 HS3 HB3
  go_upto_region 5 with fail;obtain⟨W5,hW5⟩:=wN_ hb5;obtain⟨gb,hgb⟩:∃g,w4.heap.size=g:=⟨_,rfl⟩;rw[hW5]at hb5 kb ST5 rR5 b5;rw[hgb]at kb
  try rw[hW5]
  try rw[hgb]
  have hz5:B≤W5.heap.size:=by have:=b5.size;have:=HBB.out;omega
  have n0:=ST5.kn.cellL 0 rfl;have n1:=ST5.kn.cellL 1 rfl;have r0:=kb.cellL 0 rfl;have r1:=kb.cellL 1 rfl;have HB5:=Lh b5;have HS5:=Lh ST5;have HR5:=Lh rR5;have HKB:=Lh kb;clear b5 ST5 rR5 hb5 hW5 hgb kb hz4;rcases hs with⟨hc,-⟩|⟨-,-,m',hm',hcase⟩
  ·exact absurd Hck.out hc
  obtain rfl:na=m':=by omega
  clear hm';rcases hcase with⟨-,rfl,rfl,rfl⟩|⟨-,rfl,rfl,-⟩|⟨hbig,hev,rfl,rfl,rfl⟩
  ·clear HR5 HKB n0 n1 r1
   go_wp2_with fail;refine(awake24_any W5 HS5.out.tab).mono ?_
   rintro e w99 ⟨rfl,hb99⟩;have B99:=Lh (HB5.out.trans (hb99.mono hz5));clear hb99
   go_wp2_with fail
   go_ret;exact⟨rfl,HBB.out.symm▸B99.out⟩
  ·clear HR5 HKB n0 n1 r1
   go_wp2_with fail;refine(awake24_any W5 HS5.out.tab).mono ?_
   rintro e w99 ⟨rfl,hb99⟩;have B99:=Lh (HB5.out.trans (hb99.mono hz5));clear hb99
   go_wp2_with fail
   go_ret;exact⟨rfl,HBB.out.symm▸B99.out⟩
  ·obtain⟨hlen,hall,heven⟩:=steady_reps Hck.out hbig hev;obtain⟨rs,hrs⟩:∃l,rowN na (fun v=>(cR na ars v:Int))=l:=⟨_,rfl⟩
   rw[hrs]at hlen hall heven HR5 HKB r1⊢;have hfr:=reps_fit hall;obtain⟨nr,hnr⟩:∃n,rs.length=n:=⟨_,rfl⟩;rw[hnr]at HKB r1⊢;have hmr:nr≤maxLen:=by have:=HN.out.n32;unfold maxLen;omega
   have HRU:=Lh (simRun_any na ars A ars.length c rs Ar nr cr ps Q ps.length cq W5 rfl HX.out HS5.out.rA hmA hnr hfr HR5.out hmr rfl hfp HS5.out.rQ (by omega))
   have Hall:=Lh hall;have Hlen:=Lh hlen;have Hnr:=Lh hnr;have Hfr:=Lh hfr;have h32:=HN.out.n32;clear hbig hev hall heven hfr hmr hmA hfp hlen hrs hnr hlcq hzq
   go_wp2_with fail;refine HRU.out.mono ?_
   rintro e w6 ⟨lv,sv,rfl,ol,os,hb6⟩;obtain⟨a1,ha1⟩:∃a,ansF (pickS ars (na:Int).toNat rs ps) na ars rs ps=a:=⟨_,rfl⟩;obtain⟨e1,he1⟩:∃a,wrongF na ars rs ps=a:=⟨_,rfl⟩;rw[ha1]at ol os;rw[he1];obtain⟨Al,cl,rfl,_⟩:=own_slice ol;obtain⟨As,cs,rfl,_⟩:=own_slice os;have hz6:B≤w6.heap.size:=by have:=hb6.size;omega
   have b6:=HB5.out.trans (hb6.mono hz5);obtain⟨nl,hnl⟩:∃n,a1.1.length=n:=⟨_,rfl⟩;obtain⟨ns,hns⟩:∃n,a1.2.length=n:=⟨_,rfl⟩;rw[hnl,hns];have hb7:=bA_ w6 (.cells #[.slice Al nl cl, .slice As ns cs] 44);have kp:=bN_ hb7;have ST7:=(HS5.out.below hb6).below hb7;have rR7:=(((HR5.out.below hb6 lR_).more hb6.size).below hb7 lR_).more hb7.size;have kb7:=(HKB.out.below hb6 HKB.out.lt).below hb7 (HKB.out.below hb6 HKB.out.lt).lt;have b7:=b6.trans (hb7.mono hz6);have Ha1:=Lh ha1;have He1:=Lh he1;have Hns:=Lh hns;clear HRU n0 n1 r0 r1 ol os b6 hb6 HS5 HB5 HR5 HKB ha1 he1 hnl hns
   go_upto_region 8 with fail;obtain⟨W7,hW7⟩:=wN_ hb7;obtain⟨gp,hgp⟩:∃g,w6.heap.size=g:=⟨_,rfl⟩;rw[hW7]at hb7 kp ST7 rR7 kb7 b7;rw[hgp]at kp
   try rw[hW7]
   try rw[hgp]
   have hz7:B≤W7.heap.size:=by have:=b7.size;have:=HBB.out;omega
   have c0:=ST7.kg.cellL 0 rfl;have c1:=ST7.kg.cellL 1 rfl;have c2:=ST7.kg.cellL 2 rfl;have c3:=ST7.kg.cellL 3 rfl;have c4:=ST7.kg.cellL 4 rfl;have o0:=ST7.ko.cellL 0 rfl;have o1:=ST7.ko.cellL 1 rfl;have HRG:=Lh (rig_any g o.caps o.A0 o.caps.length o.k0 o.rows o.A1 o.rows.length o.k1 W7 ST7.gd HckG.out rfl ST7.od.f0 ST7.od.r0 rfl ST7.od.fed);have HB7:=Lh b7;have HS7:=Lh ST7;have HR7:=Lh rR7;have HKB7:=Lh kb7;have HKP7:=Lh kp;clear hW7 hgp hb7 kp ST7 rR7 kb7 b7
   go_wp2_with fail;refine HRG.out.mono ?_
   rintro e w8 ⟨hb8,hcase⟩;have hz8:B≤w8.heap.size:=by have:=hb8.size;omega
   have kp8:=HKP7.out.below hb8 HKP7.out.lt;have p1:=kp8.cellL 1 rfl;have HB8:=Lh (HB7.out.trans (hb8.mono hz7));have HT8:=Lh (HS7.out.tab.below hb8 HS7.out.tab.pos);clear c0 c1 c2 c3 c4 o0 o1 HRG hb8 kp8 HKP7;by_cases he0:e1=0
   ·subst he0;rcases hcase with⟨rfl,-⟩|⟨V0,ρ0,rfl,hJ⟩
    ·by_cases hs0:ns=0
     ·subst hs0
      go_wp2_with fail;refine(awake24_any w8 HT8.out).mono ?_
      rintro e w99 ⟨rfl,hb99⟩;have B99:=Lh (HB8.out.trans (hb99.mono hz8));clear hb99
      go_wp2_with fail
      go_ret;exact⟨rfl,HBB.out.symm▸B99.out⟩
     ·have hq1:((ns:Int)==0)=false:=by simp;omega
      go_wp2_with fail;refine(awake24_any w8 HT8.out).mono ?_
      rintro e w99 ⟨rfl,hb99⟩;have B99:=Lh (HB8.out.trans (hb99.mono hz8));clear hb99
      go_wp2_with fail
      go_ret;exact⟨rfl,HBB.out.symm▸B99.out⟩
    ·by_cases hs0:ns=0
     ·subst hs0
      go_wp2_with fail;refine(awake24_any w8 HT8.out).mono ?_
      rintro e w99 ⟨rfl,hb99⟩;have B99:=Lh (HB8.out.trans (hb99.mono hz8));clear hb99
      go_wp2_with fail
      go_ret;exact⟨rfl,HBB.out.symm▸B99.out⟩
     ·have hq1:((ns:Int)==0)=false:=by simp;omega
      have hne:(ansF (pickS ars (na:Int).toNat rs ps) na ars rs ps).2≠[]:=fun hn=>by
       rw[Ha1.out]at hn
       have:=Hns.out
       rw[hn]at this;exact hs0 this.symm
      obtain⟨F,vs,-,hV,hlt⟩:=home_blocks He1.out hne;have hVg:HeldV g.acts.length (garcs g) F vs:=by rw[Hna.out,HArs.out];exact hV
      have hRJ:RigJ (LawJ g 17592186043904 F vs) 17592186046464:=lawJ_rig HckG.out hVg (by omega) lR_
      have hfl:∀j,j<g.ins.length→(fedOf o.rows j).length≤17592186043904:=fun j _=>by
       unfold fedOf;cases hr:o.rows[j]? with
       |none=>exact Nat.zero_le _
       |some r=>
        have:=(HS7.out.od.fed.ok r (get_mem hr)).2.2
        show r.xs.length≤_
        omega
      have hR0:RunS W7 w8 g F vs V0 0 V0 ρ0:=⟨hJ.rig,RigV.same.refl _,hJ.bnd,hJ.law hfl fun v hv=>(hV.fired v hv).1,hJ.fx,hJ.bel⟩
      have hfull:=hJ.full HckG.out;have htl:V0.tasks.length=na:=hJ.tl.trans Hna.out;obtain⟨v0,hv0⟩:∃v,v∈vs:=⟨vs[0]'hV.ne,List.getElem_mem _⟩;have hvn:=hV.lt v0 hv0;have hvlt:=hlt v0 hv0;obtain⟨rg,hrg⟩:∃b,V0.rg=b:=⟨_,rfl⟩;rw[hrg];have HR0:=Lh hR0;have HRJ:=Lh hRJ;have Hfull:=Lh hfull;have Htl:=Lh htl;have Hrg:=Lh hrg;have Hv0:=Lh hv0;have Hvlt:=Lh hvlt;have hls:o.scr.length≤17592186043904:=by have:=HS7.out.od.z2;omega
      obtain⟨lS,hlS⟩:∃n,o.scr.length=n:=⟨_,rfl⟩;rw[hlS]at hls;have HlS:=Lh hlS;obtain⟨na16,hna16⟩:∃n,16*na=n:=⟨_,rfl⟩;have hna512:na16≤512:=by omega
      have Hna16:=Lh hna16;clear hne hV hlt hVg hRJ hfl hR0 hfull htl hv0 hvlt hJ hrg hlS hna16
      go_wp2_with fail;clear p1 hq1
      go_loopw [14] (fun i wr=>∃(k:Nat) (V:RigV) (ρ:Nat→Tg),k≤lS∧i= .int .i64 k∧RunS W7 wr g F vs V0 k V ρ) (fun i _=>lS-(intOf i).toNat)
      case atStart=>exact⟨0,V0,ρ0,Nat.zero_le _,rfl,HR0.out⟩
      case round=>
       clear HR0;obtain⟨k,Vk,ρk,hk,rfl,hR⟩:=hrel;have ST:=HS7.out.below hR.bel;have o2:=ST.ko.cellL 2 rfl;rw[HlS.out]at o2;by_cases hkS:k<lS
       ·have h0:(0:Int)≤(k:Int):=by omega
        have h1:(k:Int)<(lS:Int):=by omega
        obtain⟨x,hx⟩:=get_of_lt (l:=o.scr) (i:=k) (by rw[HlS.out];exact hkS)
        have hxf:=ST.od.f2 x (get_mem hx);obtain⟨sb,so,hSA,hcx⟩:∃b off,o.A2=some ⟨b,off,none⟩∧wr.cell? ⟨b,off+k,none⟩=some (.int .i64 x):=by
         rcases ST.od.r2 with hr|⟨b,off,hA,-,hcell⟩
         ·have h1:=congrArg List.length hr;rw[cellsI_length,List.length_nil,HlS.out]at h1;omega
         ·exact⟨b,off,hA,hcell k _ (by simp[cellsI,hx])⟩
        rw[hSA]at o2;have ba:=bA_ wr (.cells #[.int .i64 x] 3);have rx:=rd_alloc wr _ rfl 3 (cellsI [x]);have hsz:(wr.alloc (.cells #[.int .i64 x] 3)).heap.size=wr.heap.size+1:=by simp
        obtain⟨ρa,hRa,hfa⟩:=hR.other ba;have HPL:=Lh (rigPlay_any _ _ HRJ.out Vk ρa k (wr.alloc (.cells #[.int .i64 x] 3)) hRa.m (hRa.s.full Hfull.out) hRa.b hRa.j (by omega) (by rw[hRa.s.len,Htl.out];omega) [x] (some ⟨wr.heap.size,0,none⟩) 1 1 rfl (fun y hy=>by simp at hy;subst hy;exact hxf) (rx.more (by rw[hsz];exact Nat.le_refl _)) (fun b hb=>hfa b (by injection hb with hb;exact Nat.le_of_eq hb)) (by omega) (by omega))
        have erg:Vk.rg=rg:=hRa.s.rg.trans Hrg.out
        rw[erg]at HPL;have HRa:=Lh hRa;clear hR ST hx ba rx hsz hfa hRa hSA
        go_wp2_with fail;refine HPL.out.mono ?_
        rintro e w10 ⟨r,V1,ρ1,rfl,hat⟩;have hR1:=HRa.out.at_ hat;have erg1:V1.rg=rg:=hR1.s.rg.trans Hrg.out;have hlen1:V1.tasks.length=na:=hR1.s.len.trans Htl.out;obtain⟨f,r,hf1,hr1,hfr⟩:=hR1.held Hv0.out (by rw[Hna.out];exact hvn) (by rw[Hlen.out,Hna.out]) Hvlt.out
        obtain⟨whs,hwhs⟩:∃l,V1.tasks.map (·.wh)=l:=⟨_,rfl⟩;rw[hwhs]at hf1;have hwl:whs.length=na:=by rw[←hwhs,List.length_map];exact hlen1
        have HFI:Hid (∀w',Below w10.heap.size w10 w'→Calls Tryz.prog 18 #[.pointer (some ⟨rg,0,none⟩)] w' fun e w''=>∃A c,e= .returned (.slice A na c)∧Rd w'' w''.heap.size A (cellsN whs)∧Below w'.heap.size w' w''):=fun w' hb=>by
         have h1:=rigFired_any V1 ρ1 w' (hR1.m.below hb) (by omega)
         rw[erg1,hlen1,hwhs]at h1;exact h1
        have STw:=HS7.out.below hR1.bel;have HKB:=Lh (HKB7.out.below hR1.bel HKB7.out.lt);have hRr:=(HR7.out.below hR1.bel lR_).more hR1.bel.size;have HWH:Hid (∀w' A c,Below w10.heap.size w10 w'→Rd w' w'.heap.size A (cellsN whs)→Calls Tryz.prog 17 #[.slice A na c, .slice Ar nr cr] w' fun e w''=>e= .returned (.bool false)∧Below w'.heap.size w' w''):=fun w' A c hb hr=>
         whole_no whs rs A Ar na nr c cr w' hwl Hnr.out hr ((hRr.below hb lR_).more hb.size) v0 f r hf1 hr1 hfr (by omega)
        have HR1:=Lh hR1;clear hat hR1 erg1 hlen1 hf1 hr1 hfr hwhs hwl STw hRr HPL HRa erg
        go_wp2_with fail;obtain⟨W0,hW0⟩:∃W,w10=W:=⟨_,rfl⟩
        subst hW0;have hI0:∀V,AskA w10 rg na whs gb Ar nr cr (fun _=>false) V w10.drew:=fun V=>by
         have b0:=Below.drewN (Below.refl w10.heap.size w10) 1;constructor
         all_goals first
          |exact b0
          |(intro h;cases h)
        refine wp_region_put3 [83,84,85,86,87] (AskA w10 rg na whs gb Ar nr cr) (by kernel_rfl) (by kernel_rfl) ?_ ?_ ?_
        ·exact hI0 _
        ·intro i o ho L V w1 hi hL hno h K hK;simp only[putAll,List.foldl_cons,List.foldl_nil,List.setIfInBounds_toArray,List.set_cons_zero,List.set_cons_succ];rcases i with _|_|_|_|_|i
         ·obtain rfl:=sJ ho;clear hL hno
          go_simp;exact hK (updV V 83 _) _ _ (by simp[putAll,updV]) {h with e0:=fun _=>rfl}
         ·obtain rfl:=sJ ho;have e0:=h.e0 (hL ⟨0, .data⟩ (by simp) rfl)
          have l4:=hno 4 (by kernel_rfl)
          clear hL hno;have hz:=h.bel.size;have HFc:=Lh (HFI.out w1 h.bel)
          go_simp;refine HFc.out.mono ?_
          rintro e w3 ⟨A9,c9,rfl,r9,hb9⟩;refine hK (updV V 84 (.slice A9 na c9)) _ _ (by simp[putAll,updV,e0]) ?_
          exact{h with
           bel:=h.bel.trans (hb9.mono hz)
           f1:=fun _=>⟨rfl,r9⟩
           e4:=nX_ l4}
         ·obtain rfl:=sJ ho;clear hL hno
          go_simp;exact hK (updV V 85 _) _ _ (by simp[putAll,updV]) {h with e2:=fun _=>rfl}
         ·obtain rfl:=sJ ho;have e2:=h.e2 (hL ⟨2, .data⟩ (by simp) rfl)
          have ct:=(HKB.out.below h.bel HKB.out.lt).cellL 1 rfl;clear hL hno
          go_simp;exact hK (updV V 86 _) _ _ (by simp[putAll,updV,e2]) {h with e3:=fun _=>rfl}
         ·obtain rfl:=sJ ho;have h1:=h.f1 (hL ⟨1, .data⟩ (by simp) rfl)
          have e3:=h.e3 (hL ⟨3, .data⟩ (by simp) rfl)
          clear hL hno;obtain⟨A9,hA9⟩:∃a,sAddr (V 84)=a:=⟨_,rfl⟩;obtain⟨c9,hc9⟩:∃a,sCap (V 84)=a:=⟨_,rfl⟩;rw[hA9,hc9]at h1;obtain⟨e1,r1⟩:=h1;have HA9:=Lh hA9;have Hc9:=Lh hc9;have He1:=Lh e1;have Hr1:=Lh r1;clear hA9 hc9 r1;have hz:=h.bel.size;have HWc:=Lh (HWH.out w1 A9 c9 h.bel Hr1.out)
          go_simp;refine HWc.out.mono ?_
          rintro e w3 ⟨rfl,hb9⟩;refine hK (updV V 87 (.bool false)) _ _ (by simp[putAll,updV,e1,e3]) ?_
          exact{h with
           bel:=h.bel.trans (hb9.mono hz)
           f1:=fun _=>⟨by show V 84= .slice (sAddr (V 84)) na (sCap (V 84));rw[HA9.out,Hc9.out];exact He1.out,by show Rd w3 w3.heap.size (sAddr (V 84)) _;rw[HA9.out];exact(Hr1.out.below hb9 lR_).more hb9.size⟩
           e4:=fun _=>rfl}
         ·simp at ho
        ·clear hI0;intro L V w11 hL h;have e87:=h.e4 (hL 4 (by simp))
         have hb:=h.bel;clear h hL;simp only[putAll,List.foldl_cons,List.foldl_nil,List.setIfInBounds_toArray,List.set_cons_zero,List.set_cons_succ];simp only[e87];clear e87;have HR2:=Lh (HR1.out.below hb);clear hb o2 hcx
         go_wp2_with fail
         go_roundw
         case rel=>exact⟨k+1,V1,ρ1,by omega,by go_num,HR2.out⟩
         case measure=>simp[intOf];omega
       ·obtain rfl:lS=k:=by omega
        have HR:=Lh hR;clear hR ST
        go_wp2_with fail;clear o2
        go_loopw [15] (fun i wr=>∃(j:Nat) (V:RigV) (ρ:Nat→Tg),j≤4∧i= .int .i64 j∧RunS W7 wr g F vs V0 (lS+j*na16) V ρ) (fun i _=>4-(intOf i).toNat)
        case atStart=>exact⟨0,Vk,ρk,Nat.zero_le _,rfl,by rw[Nat.zero_mul,Nat.add_zero];exact HR.out⟩
        case round=>
         clear HR;obtain⟨j,Vj,ρj,hj,rfl,hR⟩:=hrel;by_cases hj4:j<4
         ·have h1:(j:Int)<4:=by omega
          have hjn:j*na16≤3*512:=Nat.mul_le_mul (by omega) hna512
          have HRN:=Lh (rigRounds_any _ _ HRJ.out Vj ρj (lS+j*na16) wr hR.m (hR.s.full Hfull.out) hR.b hR.j (by omega) na (hR.s.len.trans Htl.out) (by omega) 16 (by omega) (by rw[Hna16.out];omega))
          have erg:Vj.rg=rg:=hR.s.rg.trans Hrg.out
          rw[erg]at HRN;have HRa:=Lh hR;clear hR
          go_wp2_with fail;refine HRN.out.mono ?_
          rintro e w10 ⟨d,V1,ρ1,rfl,hat,-⟩;have hR1:=HRa.out.at_ hat;have erg1:V1.rg=rg:=hR1.s.rg.trans Hrg.out;have hlen1:V1.tasks.length=na:=hR1.s.len.trans Htl.out;obtain⟨f,r,hf1,hr1,hfr⟩:=hR1.held Hv0.out (by rw[Hna.out];exact hvn) (by rw[Hlen.out,Hna.out]) Hvlt.out
          obtain⟨whs,hwhs⟩:∃l,V1.tasks.map (·.wh)=l:=⟨_,rfl⟩;rw[hwhs]at hf1;have hwl:whs.length=na:=by rw[←hwhs,List.length_map];exact hlen1
          have HFI:Hid (∀w',Below w10.heap.size w10 w'→Calls Tryz.prog 18 #[.pointer (some ⟨rg,0,none⟩)] w' fun e w''=>∃A c,e= .returned (.slice A na c)∧Rd w'' w''.heap.size A (cellsN whs)∧Below w'.heap.size w' w''):=fun w' hb=>by
           have h1:=rigFired_any V1 ρ1 w' (hR1.m.below hb) (by omega)
           rw[erg1,hlen1,hwhs]at h1;exact h1
          have HKB:=Lh (HKB7.out.below hR1.bel HKB7.out.lt);have hRr:=(HR7.out.below hR1.bel lR_).more hR1.bel.size;have HWH:Hid (∀w' A c,Below w10.heap.size w10 w'→Rd w' w'.heap.size A (cellsN whs)→Calls Tryz.prog 17 #[.slice A na c, .slice Ar nr cr] w' fun e w''=>e= .returned (.bool false)∧Below w'.heap.size w' w''):=fun w' A c hb hr=>
           whole_no whs rs A Ar na nr c cr w' hwl Hnr.out hr ((hRr.below hb lR_).more hb.size) v0 f r hf1 hr1 hfr (by omega)
          have hRn:RunS W7 w10 g F vs V0 (lS+(j+1)*na16) V1 ρ1:=by
           have e1:lS+(j+1)*na16=lS+j*na16+16*na:=by rw[Hna16.out,Nat.add_mul,Nat.one_mul];omega
           rw[e1];exact hR1
          have HR1:=Lh hRn;clear hat hR1 erg1 hlen1 hf1 hr1 hfr hwhs hwl hRr HRN HRa erg hRn hjn
          go_wp2_with fail;have hI0:∀V,AskB w10 rg na whs gb Ar nr cr (fun _=>false) V w10.drew:=fun V=>by
           have b0:=Below.drewN (Below.refl w10.heap.size w10) 1;constructor
           all_goals first
            |exact b0
            |(intro h;cases h)
          refine wp_region_put3 [94,95,96,97,98] (AskB w10 rg na whs gb Ar nr cr) (by kernel_rfl) (by kernel_rfl) ?_ ?_ ?_
          ·exact hI0 _
          ·intro i o ho L V w1 hi hL hno h K hK;simp only[putAll,List.foldl_cons,List.foldl_nil,List.setIfInBounds_toArray,List.set_cons_zero,List.set_cons_succ];rcases i with _|_|_|_|_|i
           ·obtain rfl:=sJ ho;clear hL hno
            go_simp;exact hK (updV V 94 _) _ _ (by simp[putAll,updV]) {h with e0:=fun _=>rfl}
           ·obtain rfl:=sJ ho;have e0:=h.e0 (hL ⟨0, .data⟩ (by simp) rfl)
            have l4:=hno 4 (by kernel_rfl)
            clear hL hno;have hz:=h.bel.size;have HFc:=Lh (HFI.out w1 h.bel)
            go_simp;refine HFc.out.mono ?_
            rintro e w3 ⟨A9,c9,rfl,r9,hb9⟩;refine hK (updV V 95 (.slice A9 na c9)) _ _ (by simp[putAll,updV,e0]) ?_
            exact{h with
             bel:=h.bel.trans (hb9.mono hz)
             f1:=fun _=>⟨rfl,r9⟩
             e4:=nX_ l4}
           ·obtain rfl:=sJ ho;clear hL hno
            go_simp;exact hK (updV V 96 _) _ _ (by simp[putAll,updV]) {h with e2:=fun _=>rfl}
           ·obtain rfl:=sJ ho;have e2:=h.e2 (hL ⟨2, .data⟩ (by simp) rfl)
            have ct:=(HKB.out.below h.bel HKB.out.lt).cellL 1 rfl;clear hL hno
            go_simp;exact hK (updV V 97 _) _ _ (by simp[putAll,updV,e2]) {h with e3:=fun _=>rfl}
           ·obtain rfl:=sJ ho;have h1:=h.f1 (hL ⟨1, .data⟩ (by simp) rfl)
            have e3:=h.e3 (hL ⟨3, .data⟩ (by simp) rfl)
            clear hL hno;obtain⟨A9,hA9⟩:∃a,sAddr (V 95)=a:=⟨_,rfl⟩;obtain⟨c9,hc9⟩:∃a,sCap (V 95)=a:=⟨_,rfl⟩;rw[hA9,hc9]at h1;obtain⟨e1,r1⟩:=h1;have HA9:=Lh hA9;have Hc9:=Lh hc9;have He1:=Lh e1;have Hr1:=Lh r1;clear hA9 hc9 r1;have hz:=h.bel.size;have HWc:=Lh (HWH.out w1 A9 c9 h.bel Hr1.out)
            go_simp;refine HWc.out.mono ?_
            rintro e w3 ⟨rfl,hb9⟩;refine hK (updV V 98 (.bool false)) _ _ (by simp[putAll,updV,e1,e3]) ?_
            exact{h with
             bel:=h.bel.trans (hb9.mono hz)
             f1:=fun _=>⟨by show V 95= .slice (sAddr (V 95)) na (sCap (V 95));rw[HA9.out,Hc9.out];exact He1.out,by show Rd w3 w3.heap.size (sAddr (V 95)) _;rw[HA9.out];exact(Hr1.out.below hb9 lR_).more hb9.size⟩
             e4:=fun _=>rfl}
           ·simp at ho
          ·clear hI0;intro L V w11 hL h;have e87:=h.e4 (hL 4 (by simp))
           have hb:=h.bel;clear h hL;simp only[putAll,List.foldl_cons,List.foldl_nil,List.setIfInBounds_toArray,List.set_cons_zero,List.set_cons_succ];simp only[e87];clear e87;have HR2:=Lh (HR1.out.below hb);clear hb
           go_wp2_with fail
           go_roundw
           case rel=>exact⟨j+1,V1,ρ1,by omega,by go_num,HR2.out⟩
           case measure=>simp[intOf];omega
         ·obtain rfl:4=j:=by omega
          have hbw:=HB7.out.trans (hR.bel.mono hz7);have HBw:=Lh hbw;have HTw:=Lh (HS7.out.tab.below hR.bel HS7.out.tab.pos);have hzw:B≤wr.heap.size:=by have:=hR.bel.size;omega
          clear hR hbw
          go_wp2_with fail;refine(awake24_any wr HTw.out).mono ?_
          rintro e w99 ⟨rfl,hb99⟩;have B99:=Lh (HBw.out.trans (hb99.mono hzw));clear hb99
          go_wp2_with fail
          go_ret;exact⟨rfl,HBB.out.symm▸B99.out⟩
   ·have hq0:(e1==0)=false:=by simp;exact he0
    rcases hcase with⟨rfl,-⟩|⟨V0,ρ0,rfl,hJ⟩
    ·go_wp2_with fail;refine(awake24_any w8 HT8.out).mono ?_
     rintro e w99 ⟨rfl,hb99⟩;have B99:=Lh (HB8.out.trans (hb99.mono hz8));clear hb99
     go_wp2_with fail
     go_ret;exact⟨rfl,HBB.out.symm▸B99.out⟩
    ·clear hJ
     go_wp2_with fail;refine(awake24_any w8 HT8.out).mono ?_
     rintro e w99 ⟨rfl,hb99⟩;have B99:=Lh (HB8.out.trans (hb99.mono hz8));clear hb99
     go_wp2_with fail
     go_ret;exact⟨rfl,HBB.out.symm▸B99.out⟩
 ·have hq0:(E==0)=false:=by simp;exact hE0
  clear h hb3 k3 hb2
  go_wp2_with fail;refine(awake24_any W3 HT3.out).mono ?_
  rintro e w99 ⟨rfl,hb99⟩;have B99:=Lh (HB3.out.trans (hb99.mono hz3));clear hb99
  go_wp2_with fail
  go_ret;exact⟨rfl,HBB.out.symm▸B99.out⟩
end Go.Proofs.YtpmlljbebdidgaaGreatDoor
