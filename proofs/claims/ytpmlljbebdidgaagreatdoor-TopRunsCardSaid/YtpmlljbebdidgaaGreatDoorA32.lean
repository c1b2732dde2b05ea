/- Lemmas and walks for the claim: Eo. -/
import Derived.Test.YtpmlljbebdidgaaGreatDoorA0
import Derived.Test.YtpmlljbebdidgaaGreatDoorA31
set_option linter.unusedSimpArgs false
set_option maxRecDepth 100000
set_option maxHeartbeats 40000000
namespace Go.Proofs.YtpmlljbebdidgaaGreatDoor
open Go.RowKit
structure TkB(w0 w:World)(x:ActV)(z bb bk:Nat)(κ:KdV)(Ai:Option Addr)(ci:Nat)(Ao:Option Addr)(co:Nat):Prop where
 bel:Below w0.heap.size w0 w
 zw:w0.heap.size≤z
 kb:Blk w bb 187 #[.iface κ.pt (.pointer (some ⟨bk,0,none⟩))]
 kd:KdM w bk κ (insOf x) (outsOf x) Ai ci Ao co 0
 nb:w0.heap.size≤bb
 nk:w0.heap.size≤bk
 lb:bb<z
 lk:bk<z
 fx:∀q,κ.fx Ai Ao q→w0.heap.size≤q∧q<z
theorem TkB.only{X:Nat→Prop}{w0 w w':World}{x:ActV}{z bb bk:Nat}{κ:KdV}{Ai:Option Addr}{ci:Nat}{Ao:Option Addr}{co:Nat}(h:TkB w0 w x z bb bk κ Ai ci Ao co)(ho:Only X w w')(hX:∀q,X q→z≤q):TkB w0 w' x z bb bk κ Ai ci Ao co:=
 {h with
  bel:=h.bel.trans (ho.belowM h.bel.size fun b hb hx=>by have:=hX b hx;have:=h.zw;omega)
  kb:=h.kb.only ho fun hx=>by have:=hX _ hx;have:=h.lb;omega
  kd:=h.kd.only ho (fun hx=>by have:=hX _ hx;have:=h.lk;omega) fun q hq hx=>by have:=hX _ hx;have:=(h.fx q hq).2;omega}
def zpf(w:World)(g:zB)(caps:List Int)(e:Ending)(w':World):Prop:=
 Below w.heap.size w w'∧((e= .returned (.tuple #[.pointer none, .int .i64 240])∧¬(caps.length=g.edges.length∧∀c∈caps,0≤c))∨
  ∃V ρ,e= .returned (.tuple #[.pointer (some ⟨V.rg,0,none⟩), .int .i64 0])∧NewJ w w' w.heap.size g caps V.rg g.acts.length g.edges.length g.ins.length g.outs.length (inI g g.ins.length) (zcQ g g.outs.length) V ρ∧caps.length=g.edges.length∧∀c∈caps,0≤c)
theorem rigNew_any(g:zB)(caps:List Int)(C:Option Addr)(lC cC:Nat)(w:World)(hg:g.good w w.heap.size)(hcg:checkG g=0)(hlC:caps.length=lC)(hCf:AllFit caps)(hC:Rd w w.heap.size C (cellsI caps)):
  Calls Tryz.prog 41 #[.agg #[.string g.nm, .slice g.aA g.acts.length g.cA, .slice g.aE g.edges.length g.cE, .slice g.aI g.ins.length g.cI, .slice g.aO g.outs.length g.cO], .slice C lC cC] w (zpf w g caps):=by
 obtain⟨ip,hip,pz0,pz1,pz2⟩:=info_parts zle;obtain⟨ic,hic,cz0,cz1,cz2⟩:=info_parts zib;obtain⟨iq,hiq,qz0,qz1,qz2⟩:=info_parts zlf;obtain⟨B0,hB0⟩:∃b,w.heap.size=b:=⟨_,rfl⟩;rw[hB0]at hg hC;have b1:=(zm B0 w).alloc (by omega) (.cells #[.string g.nm, .slice g.aA g.acts.length g.cA, .slice g.aE g.edges.length g.cE, .slice g.aI g.ins.length g.cI, .slice g.aO g.outs.length g.cO] 26)
 have k1:=Blk.new w B0 hB0.symm 26 #[.string g.nm, .slice g.aA g.acts.length g.cA, .slice g.aE g.edges.length g.cE, .slice g.aI g.ins.length g.cI, .slice g.aO g.outs.length g.cO];have z1:(w.alloc (.cells #[.string g.nm, .slice g.aA g.acts.length g.cA, .slice g.aE g.edges.length g.cE, .slice g.aI g.ins.length g.cI, .slice g.aO g.outs.length g.cO] 26)).heap.size=B0+1:=by simp;omega
 obtain⟨W1,hW1⟩:∃W,w.alloc (.cells #[.string g.nm, .slice g.aA g.acts.length g.cA, .slice g.aE g.edges.length g.cE, .slice g.aI g.ins.length g.cI, .slice g.aO g.outs.length g.cO] 26)=W:=⟨_,rfl⟩;rw[hW1]at b1 k1 z1;obtain⟨m,hm⟩:∃b,B0+1=b:=⟨_,rfl⟩;rw[hm]at z1;have hg1:g.good W1 m:=(hg.below b1 lR_).more (by omega)
 have hg2:g.good W1 W1.heap.size:=hg1.more (by omega)
 have hC1:Rd W1 m C (cellsI caps):=(hC.below b1 lR_).more (by omega)
 have g0:=k1.cellL 0 rfl;have g1:=k1.cellL 1 rfl;have g2:=k1.cellL 2 rfl;have g3:=k1.cellL 3 rfl;have g4:=k1.cellL 4 rfl;have HG:=Lh hg1;have HG2:=Lh hg2;have HKG:=Lh k1;have HB1:=Lh b1;have HE:=Lh hcg;have HC:=Lh hC1;have HCF:=Lh hCf;have HLC:=Lh hlC;have hgGm:B0<m:=by omega
 have HB0:=Lh hB0;clear hcg hg hC b1 k1 hg1 hg2 hC1 hCf hlC
 go_enter Tryz.func41, Tryz.ntmps41
 go_wp2_with fail
 try rw[hW1]
 refine(zhh g W1 HG2.out).mono ?_;rw[HE.out,z1];rintro e w2 ⟨rfl,hb2⟩;clear g0 g1 g2 g3 g4 hW1 hB0;have HBw:=Lh hb2;have hz2:=hb2.size;obtain⟨nA,hnA⟩:∃n,g.acts.length=n:=⟨_,rfl⟩;obtain⟨nE,hnE⟩:∃n,g.edges.length=n:=⟨_,rfl⟩;obtain⟨nI,hnI⟩:∃n,g.ins.length=n:=⟨_,rfl⟩;obtain⟨nO,hnO⟩:∃n,g.outs.length=n:=⟨_,rfl⟩;have K2:=HKG.out.below hb2 hgGm;have y1:=K2.cellL 1 rfl;have y2:=K2.cellL 2 rfl;rw[hnA]at y1;rw[hnE]at y2;have HnA:=Lh hnA;have HnE:=Lh hnE;have HnI:=Lh hnI;have HnO:=Lh hnO;clear K2 hnA hnE hnI hnO hb2;by_cases hcl:lC=nE
 ·subst hcl;have b3:=HBw.out.alloc (by omega) (.cells #[.slice none 0 0, .slice none 0 0, .slice none 0 0, .slice none 0 0, .int .i64 (-1)] 119)
  have k3:=Blk.new w2 _ rfl 119 #[.slice none 0 0, .slice none 0 0, .slice none 0 0, .slice none 0 0, .int .i64 (-1)];have z3:m≤(w2.alloc (.cells #[.slice none 0 0, .slice none 0 0, .slice none 0 0, .slice none 0 0, .int .i64 (-1)] 119)).heap.size:=by simp;omega
  obtain⟨rg,hrg⟩:∃b,w2.heap.size=b:=⟨_,rfl⟩;obtain⟨W3,hW3⟩:∃W,w2.alloc (.cells #[.slice none 0 0, .slice none 0 0, .slice none 0 0, .slice none 0 0, .int .i64 (-1)] 119)=W:=⟨_,rfl⟩;rw[hW3]at b3 k3 z3;rw[hrg]at k3;have hJ0:NewJ W1 W3 m g caps rg 0 0 0 0 noL noL ⟨rg, .slice none 0 0, .slice none 0 0, .slice none 0 0, .slice none 0 0,-1,[],[],0,[]⟩ (fun b=>if b=rg then .rig 0 else .fix):=by
   refine⟨b3,z3,⟨k3,if_pos rfl,⟨zeU _ _,fun b hb=>(by cases hb)⟩,⟨zeU _ _,fun b hb=>(by cases hb)⟩,⟨zeU _ _,fun b hb=>(by cases hb)⟩,⟨zeU _ _,fun b hb=>(by cases hb)⟩,fun v t ht=>(by simp at ht),fun v t ht=>(by simp at ht),fun v t ht=>(by simp at ht),fun v t ht=>(by simp at ht),fun v t ht=>(by simp at ht)⟩,fun b hb=>if_neg (by omega),rfl,rfl,rfl,fun v t ht=>(by simp at ht),fun v t ht=>(by simp at ht),fun v t ht=>(by simp at ht),rfl,rfl,fun v t ht=>(by simp at ht),rfl,fun v t ht=>(by simp at ht)⟩
  have HJ0:=Lh hJ0;have y3:=(HKG.out.below b3 hgGm).cellL 1 rfl;rw[HnA.out]at y3;have HBX:=Lh HBw.out;clear b3 k3 hJ0 HBw
  go_wp2_with fail
  try rw[hW3]
  try rw[hrg]
  have hrm:m≤rg:=by omega
  clear y1 y2 y3 hW3 hrg;obtain⟨aA,haA⟩:∃a,g.aA=a:=⟨_,rfl⟩
  try rw[haA]
  have HaA:=Lh haA;clear haA;have hnA32:nA≤32:=by have:=(zdo (za6 HE.out).1).2.2.1;rw[HnA.out]at this;exact this
  go_loopw [41] (fun i wr=>∃(k:Nat) (V:RigV) (ρ:Nat→Tg),k≤nA∧i= .int .i64 k∧NewJ W1 wr m g caps rg k 0 0 0 noL noL V ρ) (fun i _=>nA-(intOf i).toNat)
  case atStart=>exact⟨0,_,_,zJ _,rfl,HJ0.out⟩
  case round=>
   clear HJ0 HBX;obtain⟨k,Vr,ρr,hk,rfl,hJ⟩:=hrel;by_cases hkA:k<nA
   ·
    have h3:(0:Int)≤(k:Int):=by omega
    have h4:(k:Int)<(nA:Int):=by omega
    have hmw:=hJ.mw;have G:=HG.out.below hJ.bel lR_;obtain⟨ab,ao,x,hA,hab,hxk,hxc⟩:=G.rA.flat (f:=ActV.cells) (n:=3) (by omega) (fun _=>rfl) (k:=k) (by rw[HnA.out];exact hkA)
    have gx:=G.gA x (zv hxk);have c0:=hxc 0 _ rfl;have c1:=hxc 1 _ rfl;have c2:=hxc 2 _ rfl;rw[zab]at c0;have hsh:shapeR x.tag x.ps=(insOf x,outsOf x,0):=by
     have:=zeM _ _ (za6 HE.out).2.1 x (zv hxk)
     unfold insOf outsOf;rw[←this]
    have ba:=bA_ wr (.cells #[.string x.nm, .int .u8 x.tag, .slice x.P x.ps.length x.c] 72);have kx:=bN_ ba;have hzw:(wr.alloc (.cells #[.string x.nm, .int .u8 x.tag, .slice x.P x.ps.length x.c] 72)).heap.size=wr.heap.size+1:=by simp
    obtain⟨W2,hW2⟩:=wN_ ba;rw[hW2]at ba kx hzw;have x1:=kx.cellL 1 rfl;have x2:=kx.cellL 2 rfl;have HRx:=Lh ((gx.rd.below ba hmw).more (zy hmw ba.size));have Hsh:=Lh hsh;have Hgx:=Lh gx;have HJ:=Lh hJ;have Hba:=Lh ba;have Hxk:=Lh hxk;have Hz2:=Lh hzw;rw[HaA.out]at hA;subst hA;clear hJ G gx hxk hxc hsh ba kx hzw
    go_wp2_with fail
    try rw[hW2]
    refine(actNew_any x.tag (insOf x) (outsOf x) x.ps x.P x.ps.length x.c W2 Hsh.out rfl Hgx.out.fit HRx.out Hgx.out.len).mono ?_;rintro e w3 ⟨κ,bk,bb,Ai,ci,Ao,co,rfl,kb3,kd3,hb3,nk,nb,hfx⟩;clear c0 c1 c2 x1 x2 hW2;have hz3:=hb3.size;have hbs:=Hba.out.size;have TB3:TkB wr w3 x w3.heap.size bb bk κ Ai ci Ao co:=⟨Hba.out.trans (hb3.mono hbs),by omega,kb3,kd3,by omega,by omega,kb3.lt,kd3.blk.lt,fun q hq=>by have:=hfx q hq;omega⟩
    have b4:=bA_ w3 (.cells #[.pointer (some ⟨bb,0,none⟩), .slice none 0 0, .slice none 0 0, .slice none 0 0, .slice none 0 0, .slice none 0 0, .slice none 0 0, .int .i64 0, .bool false, .int .i64 0] 125);have k4:=bN_ b4;obtain⟨bt,hbt⟩:∃b,w3.heap.size=b:=⟨_,rfl⟩;obtain⟨W4,hW4⟩:=wN_ b4;rw[hW4]at b4 k4;have TB4:TkB wr W4 x bt bb bk κ Ai ci Ao co:=hbt▸TB3.only (X:=fun _=>False) (Only.of_below b4) fun _ hx=>hx.elim
    rw[hbt]at k4;have e0:=k4.cellL 0 rfl;have HTB4:=Lh TB4;have HK4:=Lh k4;have wrbt:wr.heap.size≤bt:=TB4.zw;obtain⟨li,hli⟩:∃n,(insOf x).length=n:=⟨_,rfl⟩;obtain⟨lo,hlo⟩:∃n,(outsOf x).length=n:=⟨_,rfl⟩;have hli16:li≤16:=by have:=(zep x.tag x.ps).1;unfold insOf at hli;omega
    have hlo16:lo≤16:=by have:=(zep x.tag x.ps).2;unfold outsOf at hlo;omega
    have Hli:=Lh hli;have Hlo:=Lh hlo;clear TB3 TB4 b4 k4 hfx kb3 kd3 hb3 nk nb hz3 hbs hli hlo HRx Hgx Hsh Hba Hz2
    go_wp2_with fail
    try rw[hW4]
    try rw[hbt]
    refine(zkB bb bk κ (insOf x) (outsOf x) Ai ci Ao co 0 W4 HTB4.out.kb HTB4.out.kd).mono ?_;rw[Hli.out,Hlo.out];rintro e w5 ⟨I,cI,O,cO,rfl,oI,oO,hb5⟩;clear e0 hW4 hbt;have TB5:TkB wr w5 x bt bb bk κ Ai ci Ao co:=HTB4.out.only (X:=fun _=>False) (Only.of_below hb5) fun _ hx=>hx.elim
    have k5:=HK4.out.below hb5 HK4.out.lt;have hz4:wr.heap.size≤W4.heap.size:=HTB4.out.bel.size;have oI5:=World.ownsRow.mono oI hz4;have oO5:=World.ownsRow.mono oO hz4;have f3:=k5.frozen 3;have e3:=k5.cell 3;have k6:=k5.set 3 (.slice I li cI);simp only[zc,ze,zd,zC,zI,zT]at k6 e3;have f4:=k6.frozen 4;have e4:=k6.cell 4;have k7:=k6.set 4 (.slice O lo cO);simp only[zc,ze,zd,zC,zI,zT]at k7 e4;have on5:Only (fun q=>q=bt) w5 ((w5.setCell ⟨bt,3,none⟩ (.slice I li cI)).setCell ⟨bt,4,none⟩ (.slice O lo cO)):=(zbl w5 ⟨bt,3,none⟩ (.slice I li cI)).trans (zbl _ ⟨bt,4,none⟩ (.slice O lo cO))
    obtain⟨W5,hW5⟩:∃W,(w5.setCell ⟨bt,3,none⟩ (.slice I li cI)).setCell ⟨bt,4,none⟩ (.slice O lo cO)=W:=⟨_,rfl⟩;rw[hW5]at k7 on5;have nI:∀{v:Value} {n:Nat} {xs:List Value},w5.ownsRow wr.heap.size 3 1 v n xs→∀b,v.ownBlock=some b→¬b=bt:=fun o b hb he=>own_ne o k5 (by decide) (by rw[hb,he])
    have TB7:TkB wr W5 x bt bb bk κ Ai ci Ao co:=TB5.only on5 fun q hq=>by omega
    have HOI:=Lh (zae oI5 on5 (nI oI5));have HOO:=Lh (zae oO5 on5 (nI oO5));have HTB7:=Lh TB7;have HK7:=Lh k7;clear TB5 k5 oI oO oI5 oO5 k6 k7 on5 nI TB7 HTB4 HK4 hb5 hz4
    go_wp2_with fail
    try rw[hW5]
    clear f3 e3 f4 e4 hW5;have hI0:∀V,NewA W5 bt bb I li cI O lo cO (fun _=>false) V W5.drew:=fun V=>by
     have b0:=Below.drewN (zm W5.heap.size W5) 1;constructor
     all_goals first
      |exact Only.of_below b0
      |exact HK7.out.below b0 HK7.out.lt
      |(intro h;cases h)
    refine zoZ (by kernel_rfl) hI0 hli16 hlo16 ?_
    ·clear hI0;intro L V w6 hL h;have h7:=h.f7 (hL 7 (by simp))
     have h13:=h.f13 (hL 13 (by simp))
     have kt:=h.kt;rw[hL 16 (by simp),hL 19 (by simp)]at kt
     have on6:=h.on;clear h hL;simp only[putAll,zi,zj,zc,ze,zd];unfold sel at kt;generalize gbOf (V 77)=bf at h7;generalize gbOf (V 83)=bo at h13;obtain⟨e7,kf6,nf6⟩:=h7;obtain⟨e13,ko6,no6⟩:=h13;simp only[e7,e13]at kt;clear e7 e13;have TB6:TkB wr w6 x bt bb bk κ Ai ci Ao co:=HTB7.out.only on6 fun q hq=>by omega
     have nI:∀{v:Value} {n:Nat} {xs:List Value},W5.ownsRow wr.heap.size 3 1 v n xs→∀b,v.ownBlock=some b→¬b=bt:=fun o b hb he=>own_ne o HK7.out (by decide) (by rw[hb,he])
     have oI6:=zae HOI.out on6 (nI HOI.out);have oO6:=zae HOO.out on6 (nI HOO.out);have HTB6:=Lh TB6;have HOI6:=Lh oI6;have HOO6:=Lh oO6;have HKF6:=Lh kf6;have HKO6:=Lh ko6;have hbtW:bt<W5.heap.size:=HK7.out.lt;have hbf:bt≤bf:=by omega
     have hbo:bt≤bo:=by omega
     have hz6:w6.heap.size=w6.heap.size:=rfl
     have Hkt6:=Lh kt;clear TB6 nI oI6 oO6 HTB7 HOI HOO HK7 kf6 ko6 nf6 no6 on6 hz6 kt
     go_wp2_with fail;refine(zhR bt _ _ _ _ _ _ _ _ _ I li cI w6 Hkt6.out hli16).mono ?_
     rintro e w7 ⟨rfl,bh,kt7,kh7,nh,on7⟩;have hlt6:=Hkt6.out.lt;have hbh:bt≤bh:=by omega
     have hz67:=on7.size;have TB7:TkB wr w7 x bt bb bk κ Ai ci Ao co:=HTB6.out.only on7 fun q hq=>by omega
     have nI:∀{v:Value} {n:Nat} {xs:List Value},w6.ownsRow wr.heap.size 3 1 v n xs→∀b,v.ownBlock=some b→¬b=bt:=fun o b hb he=>own_ne o Hkt6.out (by decide) (by rw[hb,he])
     have oI7:=zae HOI6.out on7 (nI HOI6.out);have oO7:=zae HOO6.out on7 (nI HOO6.out);have kf7:=HKF6.out.only on7 (fun he=>blk_apart HKF6.out Hkt6.out (by decide) he)
     have ko7:=HKO6.out.only on7 (fun he=>blk_apart HKO6.out Hkt6.out (by decide) he)
     obtain⟨tt,hT⟩:∃A c,Vr.tl= .slice A k c:=by
      obtain⟨A,c,h1,-⟩:=zH HJ.out.rig.tl.m;rw[zA,HJ.out.tl]at h1;exact⟨A,c,h1⟩
     obtain⟨ct,hT⟩:=hT;have b8:=bA_ w7 (.cells #[.pointer (some ⟨bt,0,none⟩)] 120);have r8:=zal w7 _ rfl 120 [Value.pointer (some ⟨bt,0,none⟩)];obtain⟨W8,hW8⟩:=wN_ b8;have hz8:W8.heap.size=w7.heap.size+1:=by rw[←hW8];simp
     rw[hW8]at b8;have r8:Rd W8 (w7.heap.size+1) (some ⟨w7.heap.size,0,none⟩) [Value.pointer (some ⟨bt,0,none⟩)]:=hW8▸r8;have TB8:=TB7.only (X:=fun _=>False) (Only.of_below b8) fun _ hx=>hx.elim
     have J8:=HJ.out.below TB8.bel;have krg:=J8.rig.rg;have oT:=J8.rig.tl.m;unfold RigV.cells at krg;rw[HJ.out.erg,hT,HJ.out.ef]at krg;rw[hT,zA,HJ.out.tl]at oT;have y0:=(HJ.out.below TB7.bel).rig.rg.cellL 0 rfl;unfold RigV.cells at y0;rw[HJ.out.erg,hT]at y0;have HT:=Lh hT;have HTB8:=Lh TB8;have HK8:=Lh (kt7.below b8 kt7.lt);have HKH8:=Lh (kh7.below b8 kh7.lt);have HKF8:=Lh (kf7.below b8 kf7.lt);have HKO8:=Lh (ko7.below b8 ko7.lt);have HOI8:=Lh (own_below oI7 b8);have HOO8:=Lh (own_below oO7 b8);have HKR8:=Lh krg;clear TB7 nI oI7 oO7 kf7 ko7 kt7 kh7 on7 b8 TB8 J8 krg hT HTB6 HOI6 HOO6 HKF6 HKO6 Hkt6 nh hlt6 hz67 hbtW
     go_wp2_with (at_builtin;refine zR _ rfl _ _ 115 rfl 0 120 ip (.pointer none) 1 8 Tryz.underlying115 hip pz0 pz1 pz2 rfl (by decide) _ k _ rfl (by first|exact oT|(rw[hW8];exact oT)) _ (some ⟨w7.heap.size,0,none⟩) 1 1 [.pointer (some ⟨bt,0,none⟩)] rfl rfl (by first|exact r8|(rw[hW8];exact r8)) (zgz bt) (by unfold maxLen;omega) (by omega) (zJ _) ?_)
     try rw[hW8]
     intro v' w9 o9 g9 h9;obtain⟨A9,c9,rfl,-⟩:=zH o9;clear y0;have kr9:=HKR8.out.grown g9 (own_ne oT HKR8.out (by decide))
     have fr:=kr9.frozen 0;have cr:=kr9.cell 0;have k10:=kr9.set 0 (.slice A9 (k+1) c9);simp only[zc,ze,zC,zI]at k10 cr;have o10:=zap o9 kr9 (by decide) 0 (.slice A9 (k+1) c9)
     have on10:Only (fun q=>q=rg∨Vr.tl.ownBlock=some q) W8 (w9.setCell ⟨rg,0,none⟩ (.slice A9 (k+1) c9)):=((Only.refl _ W8).grown g9 fun q _ hq=> .inr (by rw[HT.out];exact hq)).setCell _ _ fun _=> .inl rfl
     have hv9:∀b,(Value.slice A9 (k+1) c9).ownBlock=some b→Vr.tl.ownBlock=some b∨W8.heap.size≤b:=fun b hb=>by
      rcases h9 with h9|h9
      ·exact .inl (by rw[HT.out,←h9];exact hb)
      ·rw[hb]at h9;injection h9 with h9;exact .inr (by omega)
     obtain⟨V',ρ',hJ'⟩:=HJ.out.task Hxk.out Hli.out Hlo.out HTB8.out.bel HK8.out HTB8.out.kb HTB8.out.kd HOI8.out HOO8.out HKF8.out HKO8.out HKH8.out HTB8.out.nb HTB8.out.nk HTB8.out.fx HTB8.out.zw lR_ hbf hbo hbh on10 k10 (by rw[List.map_map];exact o10) hv9
     have HJ':=Lh hJ';clear g9 h9 o9 kr9 k10 o10 on10 hv9 hJ' r8 hW8 oT
     go_wp2_with fail
     go_roundw
     case rel=>exact⟨k+1,V',ρ',by omega,by go_num,HJ'.out⟩
     case measure=>simp[intOf];omega
   ·obtain rfl:nA=k:=by omega
    have y2:=(HKG.out.below hJ.bel hgGm).cellL 2 rfl;rw[HnE.out]at y2;have HJ:=Lh hJ;clear hJ
    go_wp2_with fail;clear y2
    obtain⟨aE,haE⟩:∃a,g.aE=a:=⟨_,rfl⟩
    try rw[haE]
    have HaE:=Lh haE;clear haE;have hlC96:lC≤96:=by have:=(zdo (za6 HE.out).1).2.2.2.1;rw[HnE.out]at this;exact this
    go_loopw [104] (fun i wr=>∃(k:Nat) (V:RigV) (ρ:Nat→Tg),k≤lC∧i= .int .i64 k∧NewJ W1 wr m g caps rg nA k 0 0 (inL g k) (zc5 g k) V ρ∧∀(j:Nat) (c:Int),j<k→caps[j]?=some c→0≤c) (fun i _=>lC-(intOf i).toNat)
    case atStart=>exact⟨0,_,_,zJ _,rfl,HJ.out,fun j c hj=>absurd hj (zau _)⟩
    case round=>
     clear HJ;obtain⟨k,Vr,ρr,hk,rfl,hJ,hpos⟩:=hrel;by_cases hkE:k<lC
     ·
      have h3:(0:Int)≤(k:Int):=by omega
      have h4:(k:Int)<(lC:Int):=by omega
      have hmw:=hJ.mw;have G:=HG.out.below hJ.bel lR_;obtain⟨ab,ao,x,hA,hab,hxk,hxc⟩:=G.rE.flat (f:=GEdg.cells) (n:=5) (by omega) (fun _=>rfl) (k:=k) (by rw[HnE.out];exact hkE)
      have gx:=G.gE x (zv hxk);have c0:=hxc 0 _ rfl;have c1:=hxc 1 _ rfl;have c2:=hxc 2 _ rfl;have c3:=hxc 3 _ rfl;have c4:=hxc 4 _ rfl;rw[zab]at c0;obtain⟨xf,xt,hxf,hxt,f1,f2,t1,t2,p1,p2,q1,q2,hst⟩:=zcx HE.out (zv hxk);obtain⟨ef,efp,et,etp,est,S,cS⟩:=x;simp only at c0 c1 c2 c3 c4 hxf hxt f1 f2 t1 t2 p1 p2 q1 q2 hst;obtain⟨f,rfl⟩:∃n:Nat,ef=n:=⟨ef.toNat,by omega⟩
      obtain⟨fp,rfl⟩:∃n:Nat,efp=n:=⟨efp.toNat,by omega⟩
      obtain⟨t,rfl⟩:∃n:Nat,et=n:=⟨et.toNat,by omega⟩
      obtain⟨tp,rfl⟩:∃n:Nat,etp=n:=⟨etp.toNat,by omega⟩
      rw[zE]at hxf hxt;rw[HnA.out]at f2 t2;obtain⟨lS,hlS⟩:∃n,est.length=n:=⟨_,rfl⟩;obtain⟨cap,hcap⟩:∃c,caps[k]?=some c:=⟨caps[k]'(by rw[HLC.out];exact hkE),zk _⟩
      have hcf:=HCF.out cap (zac hcap);obtain⟨cb,co,hCA,hcbm,hcc⟩:∃cb co,C=some ⟨cb,co,none⟩∧cb<m∧wr.cell? ⟨cb,co+k,none⟩=some (.int .i64 cap):=by
       rcases HC.out.below hJ.bel lR_ with hr|⟨b,off,hA,hb,hcell⟩
       ·have h1:=congrArg List.length hr;rw[cellsI_length,zaD,HLC.out]at h1;omega
       ·exact⟨b,off,hA,hb,hcell k _ (by simp[cellsI,hcap])⟩
      have ba:=bA_ wr (.cells #[.int .i64 f, .int .i64 fp, .int .i64 t, .int .i64 tp, .slice S lS cS] 69);have kx:=bN_ ba;have hcc2:=(ba.cell (p:=⟨cb,co+k,none⟩) (by show cb<_;omega)).trans hcc
      obtain⟨ga,hga⟩:∃b,wr.heap.size=b:=⟨_,rfl⟩;obtain⟨W2,hW2⟩:=wN_ ba;rw[hW2]at ba kx hcc2;rw[hga]at kx;rw[hlS]at c4 hst;have x4:=kx.cellL 4 rfl;have gst:Rd W2 W2.heap.size S (cellsI est):=(gx.rd.below ba hmw).more (zy hmw ba.size);have Hgx:=Lh gx.fit;have hcb:cb<W2.heap.size:=by have:=ba.size;omega
      have HJ:=Lh hJ;have Hba:=Lh ba;have Hxk:=Lh hxk;have HKX:=Lh kx;have HCc:=Lh hcc2;have Hcap:=Lh hcap;have Hxf:=Lh hxf;have Hxt:=Lh hxt;have Hpos:=Lh hpos;have HlS:=Lh hlS;have HRs:=Lh gst;rw[HaE.out]at hA;subst hA;subst hCA;clear hJ G gx hxk hxc kx hcap hxf hxt hpos hlS gst;by_cases hneg:cap<0
      ·have HQB:=fun n=>zbU ((qnew_bad cap (.slice S lS cS) (W2.drewN n) hneg).mono fun e w' ⟨h1,h2⟩=>⟨h1,h2.symm⟩)
       have HQB:=Lh HQB;have Hneg:=Lh hneg;clear hneg ba hcc
       go_upto_region 22 with fail
       try rw[hW2]
       try rw[hga]
       go_quiet ((go_at_call 63;exact HQB.out _))
       generalize hW4:World.drewN W2 _=w4;have d4:Drawn W2 w4:=by rw[←hW4];exact(Drawn.refl _).drewN _
       have hbl:Below B0 w w4:=(HB1.out.trans (HJ.out.bel.mono (by omega))).trans (((Hba.out.trans ((d4.below W2.heap.size).mono Hba.out.size)).mono (by have:=HJ.out.mw;omega)))
       have Hbl:=Lh hbl;clear hW4 d4 hbl x4 c0 c1 c2 c3 c4
       go_wp2_with fail
       go_ret2;refine⟨by rw[HB0.out];exact Hbl.out, .inl ⟨rfl,fun hc=>?_⟩⟩
       have:=hc.2 cap (zac Hcap.out)
       have:=Hneg.out
       omega
      ·have hge:0≤cap:=by omega
       obtain⟨R,hR⟩:∃R:Nat→World→Prop,R=fun g9 w9=>∃q:QV,q.g=g9∧QuM w9 q∧q.cap=cap∧q.ys=est∧q.k=0∧Below W2.heap.size W2 w9∧∀b,q.own b→W2.heap.size≤b:=⟨_,rfl⟩
       have HF:∀w',Below W2.heap.size W2 w'→Calls Tryz.prog 63 #[.int .i64 cap, .slice S lS cS] w' fun e w''=>∃g9,e= .returned (.tuple #[.pointer (some ⟨g9,0,none⟩), .int .i64 0])∧R g9 w'':=fun w' hb=>by
        refine(ziy cap est S lS cS w' ⟨hge,by unfold fits at hcf;omega⟩ HlS.out Hgx.out ((HRs.out.below hb lR_).more hb.size) (by omega)).mono ?_
        rintro e w'' ⟨q,rfl,q1,q2,q3,q4,q5,q6⟩;refine⟨q.g,rfl,?_⟩;rw[hR];exact⟨q,rfl,q1,q2,q3,q4,hb.trans (q5.mono hb.size),fun b hb'=>zy hb.size (q6 b hb')⟩
       have HR:=Lh hR;have HF:=Lh HF;have Hge:=Lh hge;clear hR hge hneg ba hcc x4
       go_upto_region 22 with fail
       try rw[hW2]
       try rw[hga]
       clear c0 c1 c2 c3 c4 hW2;have hI0:∀V,QueA R W2 cb co lC cC k cap ga S lS cS (fun _=>false) V W2.drew:=fun V=>by
        have b0:=Below.drewN (zm W2.heap.size W2) 1;constructor
        all_goals first
         |exact fun _=>b0
         |(intro h;cases h)
       refine zo0 (by kernel_rfl) hI0 h3 h4 hcb HCc HKX HF ?_
       ·clear hI0;intro L V w3 hL h;have h6:=h.f6 (hL 6 (by simp))
        have e15:=h.e10 (hL 10 (by simp))
        have e16:=h.e11 (hL 11 (by simp))
        clear h hL;simp only[putAll,zi,zj,zc,ze,zd];generalize pgOf (V 116)=qg at h6 e15;obtain⟨e6,hR6⟩:=h6;rw[HR.out]at hR6;clear e6;simp only[e15,e16];clear e15 e16;obtain⟨q,hqg,hq,hqc,hqy,hqk,hq5,hq6⟩:=hR6;have b4:=bA_ w3 (.cells #[.pointer (some ⟨qg,0,none⟩)] 155);have k4:=bN_ b4;obtain⟨gc,hgc⟩:∃b,w3.heap.size=b:=⟨_,rfl⟩;obtain⟨W4,hW4⟩:=wN_ b4;rw[hW4]at b4 k4;rw[hgc]at k4;have hz2:=Hba.out.size;have hz3:=hq5.size;have bwr4:Below wr.heap.size wr W4:=(Hba.out.trans (hq5.mono hz2)).trans (b4.mono (by omega))
        have hq4:QuM W4 q:=hq.only (X:=fun _=>False) (Only.of_below b4) fun _ _ hx=>hx
        have kx4:=(HKX.out.below hq5 HKX.out.lt).below b4 (HKX.out.below hq5 HKX.out.lt).lt;have hnE:=HJ.out.ne;have hqlen:=HJ.out.ql;have etk:Vr.qs.take Vr.nE=Vr.qs:=zL (by omega)
        have oE:=(HJ.out.below bwr4).rig.el.m;rw[etk,zA,HJ.out.ql,zab]at oE;obtain⟨Ae,ce,hEl,-⟩:=zH oE;have krg:=(HJ.out.below bwr4).rig.rg;unfold RigV.cells at krg;rw[HJ.out.erg,hEl,HJ.out.ef]at krg;rw[hEl]at oE;have hne:some gc≠(Value.slice Ae k ce).ownBlock:=fun hc=>by
         have:=own_lt' HJ.out.rig.el.m (by rw[hEl];exact hc.symm)
         omega
        have HKC:=Lh k4;have HQ4:=Lh hq4;have HKX4:=Lh kx4;have HB4:=Lh bwr4;have HKR:=Lh krg;have HOE:=Lh oE;have HEl:=Lh hEl;have Hqg:=Lh hqg;have Hqf:=Lh (za5 hqc (za5 hqy (za5 hqk hq6)));obtain⟨gs,hgs⟩:∃l,List.map (fun g=>Value.pointer (some ⟨g,0,none⟩)) (List.map (fun x=>x.g) Vr.qs)=l:=⟨_,rfl⟩
        rw[hgs]at HOE;have Hgs:=Lh hgs;clear k4 hq4 kx4 bwr4 krg oE hEl hq hqg hqc hqy hqk hq5 hq6 b4 hnE hqlen etk hgs HF
        go_wp2_with fail
        try rw[hW4]
        try rw[hgc]
        clear hW4 hgc;have hI0:∀V,EdgA W4 rg Vr.tl Ae k ce Vr.il Vr.pl gc qg gs (fun _=>false) V W4.drew:=fun V=>by
         have b0:=Below.drewN (zm W4.heap.size W4) 1;constructor
         all_goals first
          |exact Only.of_below b0
          |exact fun _=>HKR.out.below b0 HKR.out.lt
          |exact HKC.out.below b0 HKC.out.lt
          |exact fun _=>own_below HOE.out b0
          |(intro h;cases h)
        refine zo1 (by kernel_rfl) hI0 hne (by omega) ?_
        ·clear hI0;intro L V w5 hL h;have h7:=h.f7 (hL 7 (by simp))
         have kr5:=h.kr2 (hL 10 (by simp))
         have on5:=h.on;have kc5:=h.kc;clear h hL;simp only[putAll,zi,zj,zc,ze,zd];obtain⟨e130,o5,hv5⟩:=h7;generalize V 130=v9 at kr5 o5 hv5;clear e130;obtain⟨qc,qy,qk,q6⟩:=Hqf.out;have hz2:=Hba.out.size;obtain⟨ρ1,hJ1⟩:=HJ.out.edge (x:=⟨f,fp,t,tp,est,S,cS⟩) Hxk.out HB4.out HQ4.out (by rw[qc];exact Hcap.out) qy qk (fun b hb=>zy hz2 (q6 b hb)) (by rw[HEl.out];exact on5) kr5 (by rw[Hgs.out,Hqg.out];exact o5) (fun b hb=>by rw[HEl.out];exact hv5 b hb)
         obtain⟨V1,hV1⟩:∃V1:RigV,V1={Vr with el:=v9,qs:=Vr.qs++[q],nE:=k+1}:=⟨_,rfl⟩;rw[←hV1]at hJ1;have kx5:=HKX4.out.only on5 fun hx=>by
          rcases hx with hx|hx
          ·exact blk_apart HKX4.out HKR.out (by decide) hx
          ·exact own_ne HOE.out HKX4.out (by decide) hx.symm
         have hqlen:=HJ.out.ql;have hok:V1.okL (.que k qg):=by
          refine⟨fun e g' he=>?_,(fun o g' he=>(by cases he))⟩
          injection he with he1 he2
          subst he1 he2;refine⟨q,?_,Hqg.out⟩;rw[hV1];show(Vr.qs++[q])[k]?=some q
          rw[zO (by omega),show k-Vr.qs.length=0 by omega]
          rfl
         clear Hqf qc qy qk q6 HQ4 HKX4 HOE HKR on5 o5 hv5 kr5 hqlen hne;have htl:=hJ1.tl;obtain⟨tf,htf⟩:=zG (l:=V1.tasks) (i:=f) (by omega)
         obtain⟨tt,htt⟩:=zG (l:=V1.tasks) (i:=t) (by omega)
         have Mf:=hJ1.rig.tk f tf htf;have Mt:=hJ1.rig.tk t tt htt;have hlo:fp<tf.rout.length:=by
          obtain⟨x',hx',hF⟩:=hJ1.tf f tf htf;obtain rfl:=zq (Hxf.out.symm.trans hx');rw[hF.ro];omega
         have hli:tp<tt.rin.length:=by
          obtain⟨x',hx',hF⟩:=hJ1.tf t tt htt;obtain rfl:=zq (Hxt.out.symm.trans hx');rw[hF.ri];omega
         obtain⟨lO,hlO⟩:=zG (l:=tf.dst) (i:=fp) (by rw[Mf.s.lo];exact hlo)
         obtain⟨lI,hlI⟩:=zG (l:=tt.src) (i:=tp) (by rw[Mt.s.lf];exact hli)
         have oT:=hJ1.rig.tl.m;rw[zA,hJ1.tl]at oT;obtain⟨At,ctl,hTl,-⟩:=zH oT;rw[hTl]at oT;obtain⟨gt,hgt⟩:=zbi oT (by omega)
         subst hgt;have kr6:=hJ1.rig.rg;unfold RigV.cells at kr6;rw[hJ1.erg,hTl]at kr6;have hft:((V1.tasks.map (·.bt)).map fun g=>Value.pointer (some ⟨g,0,none⟩))[f]?=some (.pointer (some ⟨tf.bt,0,none⟩)):=by rw[zp,zp,htf];rfl
         have htt2:((V1.tasks.map (·.bt)).map fun g=>Value.pointer (some ⟨g,0,none⟩))[t]?=some (.pointer (some ⟨tt.bt,0,none⟩)):=by rw[zp,zp,htt];rfl
         have hfc:tf.cells[2]?=some (.slice (some ⟨tf.bo,0,none⟩) tf.rout.length tf.rout.length):=rfl
         have htc:tt.cells[1]?=some (.slice (some ⟨tt.bf,0,none⟩) tt.rin.length tt.rin.length):=rfl
         have hco:((tf.dst.map Lnk.val).toArray)[fp]?=some lO.val:=by rw[zC];exact zbj Lnk.val hlO
         have hcs:((tt.src.map Lnk.val).toArray)[tp]?=some lI.val:=by rw[zC];exact zbj Lnk.val hlI
         have kbf:=Mf.bt;have kbt:=Mt.bt;have kso:=Mf.s.bo;have ksf:=Mt.s.bf;have HJ1:=Lh hJ1;have Hok:=Lh hok;have Htf:=Lh htf;have Htt:=Lh htt;obtain⟨gs2,hgs2⟩:∃l,(V1.tasks.map (·.bt)).map (fun g=>Value.pointer (some ⟨g,0,none⟩))=l:=⟨_,rfl⟩
         rw[hgs2]at hft htt2 oT;obtain⟨cf,hcf2⟩:∃l,tf.cells=l:=⟨_,rfl⟩;rw[hcf2]at hfc kbf;obtain⟨cts,hct2⟩:∃l,tt.cells=l:=⟨_,rfl⟩;rw[hct2]at htc kbt;obtain⟨curO,hcO⟩:∃l,(tf.dst.map Lnk.val).toArray=l:=⟨_,rfl⟩;rw[hcO]at hco kso;obtain⟨curS,hcS⟩:∃l,(tt.src.map Lnk.val).toArray=l:=⟨_,rfl⟩;rw[hcS]at hcs ksf;obtain⟨btf,hbf⟩:∃l,tf.bt=l:=⟨_,rfl⟩;obtain⟨btt,hbt⟩:∃l,tt.bt=l:=⟨_,rfl⟩;obtain⟨bo,hbo⟩:∃l,tf.bo=l:=⟨_,rfl⟩;obtain⟨bf,hbf2⟩:∃l,tt.bf=l:=⟨_,rfl⟩;obtain⟨lo,hlo2⟩:∃l,tf.rout.length=l:=⟨_,rfl⟩;obtain⟨li,hli2⟩:∃l,tt.rin.length=l:=⟨_,rfl⟩;rw[hbf]at hft kbf;rw[hbt]at htt2 kbt;rw[hbo,hlo2]at hfc;rw[hbo]at kso;rw[hbf2,hli2]at htc;rw[hbf2]at ksf;rw[hlo2]at hlo;rw[hli2]at hli;have hff:Hid (gs2[f]?=some (.pointer (some ⟨btf,0,none⟩))):=hft;have hft:=hff;have htt:=Lh htt2;have hfc:=Lh hfc;have htc:=Lh htc;have hco:=Lh hco;have hcs:=Lh hcs;have HcO:=Lh hcO;have HcS:=Lh hcS;have Hbo:=Lh hbo;have Hbf:=Lh hbf2;have HKB:=Lh (za5 kbf (za5 kbt (za5 kso ksf)));have HKR:=Lh kr6;have HOT:=Lh oT;have HKX:=Lh kx5;have HKC5:=Lh kc5;have hf0:(0:Int)≤(f:Int):=by omega
         have hf1:(f:Int)<(nA:Int):=by omega
         have ht0:(0:Int)≤(t:Int):=by omega
         have ht1:(t:Int)<(nA:Int):=by omega
         have hfp0:(0:Int)≤(fp:Int):=by omega
         have hfp1:(fp:Int)<(lo:Int):=by omega
         have htp0:(0:Int)≤(tp:Int):=by omega
         have htp1:(tp:Int)<(li:Int):=by omega
         clear hJ1 hok htf htt2 Mf Mt hlO hlI oT hTl kr6 kbf kbt kso ksf hcO hcS hbf hbt hbo hbf2 hlo2 hli2 hgs2 hcf2 hct2 kx5 kc5 htl hff
         go_wp2_with fail;have hI0:∀V,LnkA w5 rg [V1.el,V1.il,V1.pl, .int .i64 V1.failed] gt nA ctl gs2 btf cf btt cts ga [.slice S lS cS] gc qg bo bf lo li f fp t tp curO curS (fun _=>false) V w5.drew:=fun V=>by
          have b0:=Below.drewN (zm w5.heap.size w5) 1;obtain⟨q1,q2,q3,q4⟩:=HKB.out;constructor
          all_goals first
           |exact Only.of_below b0
           |exact HKR.out.below b0 HKR.out.lt
           |exact own_below HOT.out b0
           |exact HKX.out.below b0 HKX.out.lt
           |exact HKC5.out.below b0 HKC5.out.lt
           |exact q1.below b0 q1.lt
           |exact q2.below b0 q2.lt
           |exact fun _=>q3.below b0 q3.lt
           |exact fun _=>q4.below b0 q4.lt
           |(intro h;cases h)
         obtain⟨crg,hcrg⟩:∃l,[V1.el,V1.il,V1.pl,Value.int .i64 V1.failed]=l:=⟨_,rfl⟩;rw[hcrg]at hI0;obtain⟨cx,hcx⟩:∃l,[Value.slice S lS cS]=l:=⟨_,rfl⟩;rw[hcx]at hI0;clear hcrg hcx;refine zo2 (by kernel_rfl) hI0 hf0 hf1 hft ht0 ht1 htt hfc htc hco hcs hfp0 hfp1 htp0 htp1 ?_
         ·clear hI0;intro L V w6 hL h;have ko6:=h.o1 (hL 31 (by simp))
          have ks6:=h.s1 (hL 33 (by simp))
          have on6:=h.on;clear h hL;simp only[putAll,zi,zj,zc,ze,zd];rw[←HcO.out,zc,←Hbo.out]at ko6;rw[←HcS.out,zc,←Hbf.out]at ks6;rw[←Hbo.out,←Hbf.out]at on6;obtain⟨V2,hJ2,-,-⟩:=HJ1.out.link2 (l:= .que k qg) Htf.out Htt.out Hok.out on6 (by rw[zbn];exact ko6) (by rw[zbn];exact ks6)
          have e1:zc5 g (k+1)=(zc5 g k).put f fp (.que k):=by
           have:=zcM noL LkV.que (ps:=zfj g) (k:=k) (a:=((f:Int),(fp:Int))) (by unfold zfj;rw[zp,Hxk.out];rfl)
           simp only[zE]at this;exact this
          have e2:inL g (k+1)=(inL g k).put t tp (.que k):=by
           have:=zcM noL LkV.que (ps:=zfk g) (k:=k) (a:=((t:Int),(tp:Int))) (by unfold zfk;rw[zp,Hxk.out];rfl)
           simp only[zE]at this;exact this
          have HJ2:Hid (NewJ W1 w6 m g caps rg nA (k+1) 0 0 (inL g (k+1)) (zc5 g (k+1)) V2 ρ1):=by rw[e1,e2];exact hJ2
          have HP2:Hid (∀(j:Nat) (c:Int),j<k+1→caps[j]?=some c→0≤c):=fun j c hj hc=>by
           by_cases hjk:j=k
           ·subst hjk;obtain rfl:=zq (Hcap.out.symm.trans hc);exact Hge.out
           ·exact Hpos.out j c (by omega) hc
          clear ko6 ks6 on6 hJ2 e1 e2
          go_wp2_with fail
          go_roundw
          case rel=>exact⟨k+1,V2,ρ1,by omega,by go_num,HJ2.out,HP2.out⟩
          case measure=>simp[intOf];omega
     ·obtain rfl:lC=k:=by omega
      have y3:=(HKG.out.below hJ.bel hgGm).cellL 3 rfl;rw[HnI.out]at y3;have HJ:=Lh hJ;have HPos:=Lh hpos;clear hJ hpos
      go_wp2_with fail;clear y3
      obtain⟨aP,haP⟩:∃a,g.aI=a:=⟨_,rfl⟩
      try rw[haP]
      have HaP:=Lh haP;clear haP;have hnI16:nI≤16:=by have:=(zdo (za6 HE.out).1).2.2.2.2.1;rw[HnI.out]at this;exact this
      go_loopw [169] (fun i wr=>∃(k:Nat) (V:RigV) (ρ:Nat→Tg),k≤nI∧i= .int .i64 k∧NewJ W1 wr m g caps rg nA lC k 0 (inI g k) (zc5 g lC) V ρ) (fun i _=>nI-(intOf i).toNat)
      case atStart=>exact⟨0,_,_,zJ _,rfl,by have e:inI g 0=inL g lC:=by{show inL g g.edges.length=_;rw[HnE.out]};rw[e];exact HJ.out⟩
      case round=>
       clear HJ;obtain⟨k,Vr,ρr,hk,rfl,hJ⟩:=hrel;by_cases hkI:k<nI
       ·
        have h3:(0:Int)≤(k:Int):=by omega
        have h4:(k:Int)<(nI:Int):=by omega
        have hmw:=hJ.mw;have G:=HG.out.below hJ.bel lR_;obtain⟨ab,ao,x,hA,hab,hxk,hxc⟩:=G.rI.flat (f:=PrtV.cells) (n:=3) (by omega) (fun _=>rfl) (k:=k) (by rw[HnI.out];exact hkI)
        have c0:=hxc 0 _ rfl;have c1:=hxc 1 _ rfl;have c2:=hxc 2 _ rfl;rw[zab]at c0;obtain⟨xt,hxt,t1,t2,q1,q2⟩:=zet HE.out hxk;obtain⟨nm,ea,ep⟩:=x;simp only at c0 c1 c2 hxt t1 t2 q1 q2;obtain⟨t,rfl⟩:∃n:Nat,ea=n:=⟨ea.toNat,by omega⟩
        obtain⟨tp,rfl⟩:∃n:Nat,ep=n:=⟨ep.toNat,by omega⟩
        rw[zE]at hxt;rw[HnA.out]at t2;have ba:=bA_ wr (.cells #[.string nm, .int .i64 t, .int .i64 tp] 53);have kx:=bN_ ba;obtain⟨ga,hga⟩:∃b,wr.heap.size=b:=⟨_,rfl⟩;obtain⟨W2,hW2⟩:=wN_ ba;rw[hW2]at ba kx;rw[hga]at kx;have HJ:=Lh hJ;have Hba:=Lh ba;have Hxk:=Lh hxk;have HKX:=Lh kx;have Hxt:=Lh hxt;rw[HaP.out]at hA;subst hA;clear hJ G hxk hxc kx hxt ba
        go_wp2_with fail
        try rw[hW2]
        try rw[hga]
        clear c0 c1 c2 hW2;refine(ziy 9223372036854775807 [] none 0 0 W2 (by omega) rfl (fun y hy=>(by cases hy)) (.inl rfl) (by omega)).mono ?_
        rintro e w3 ⟨q,rfl,hq,hqc,hqy,hqk,hq5,hq6⟩;obtain⟨qg,hqg⟩:∃b,q.g=b:=⟨_,rfl⟩;rw[hqg];have hz2:=Hba.out.size;have hz3:=hq5.size;have b4:=bA_ w3 (.cells #[.pointer (some ⟨qg,0,none⟩)] 155);have r4:=zal w3 _ rfl 155 [Value.pointer (some ⟨qg,0,none⟩)];obtain⟨W4,hW4⟩:=wN_ b4;have hz4:W4.heap.size=w3.heap.size+1:=by rw[←hW4];simp
        have r4:Rd W4 (w3.heap.size+1) (some ⟨w3.heap.size,0,none⟩) [Value.pointer (some ⟨qg,0,none⟩)]:=hW4▸r4
        rw[hW4]at b4;have bwr3:Below wr.heap.size wr w3:=Hba.out.trans (hq5.mono hz2);have bwr4:Below wr.heap.size wr W4:=bwr3.trans (b4.mono (by omega))
        have hq4:QuM W4 q:=hq.only (X:=fun _=>False) (Only.of_below b4) fun _ _ hx=>hx
        have kx4:=(HKX.out.below hq5 HKX.out.lt).below b4 (HKX.out.below hq5 HKX.out.lt).lt;have hnE2:=HJ.out.ne;have hqlen:=HJ.out.ql;have oE:=(HJ.out.below bwr4).rig.il.m;have hdl:((Vr.qs.drop Vr.nE).map (·.g)).length=k:=by rw[zA,zbd];omega
        rw[hdl]at oE;obtain⟨Ae,ce,hEl,-⟩:=zH oE;have krg:=(HJ.out.below bwr4).rig.rg;unfold RigV.cells at krg;rw[HJ.out.erg,hEl,HJ.out.ef]at krg;have y2:=((HJ.out.below bwr3).rig.rg).cellL 2 rfl;unfold RigV.cells at y2;rw[HJ.out.erg,hEl]at y2;rw[hEl]at oE;have HQ4:=Lh hq4;have HKX4:=Lh kx4;have HB4:=Lh bwr4;have HKR:=Lh krg;have HEl:=Lh hEl;have Hqg:=Lh hqg;have Hqf:=Lh (za5 hqc (za5 hqy (za5 hqk hq6)));obtain⟨gs,hgs⟩:∃l,List.map (fun g=>Value.pointer (some ⟨g,0,none⟩)) (List.map (fun x=>x.g) (Vr.qs.drop Vr.nE))=l:=⟨_,rfl⟩
        rw[hgs]at oE;have Hgs:=Lh hgs;clear hq4 kx4 bwr3 bwr4 krg hEl hq hqg hqc hqy hqk hq5 hq6 b4 hnE2 hqlen hgs hdl hga
        go_wp2_with (at_builtin;refine zR _ rfl _ _ 116 rfl 0 155 ic (.agg #[.pointer none]) 1 8 Tryz.underlying116 hic cz0 cz1 cz2 rfl (by decide) _ k _ rfl (by first|exact oE|(rw[hW4];exact oE)) _ (some ⟨w3.heap.size,0,none⟩) 1 1 [Value.pointer (some ⟨qg,0,none⟩)] rfl rfl (by first|exact r4|(rw[hW4];exact r4)) (zgz qg) (by unfold maxLen;omega) (by omega) (zJ _) ?_)
        try rw[hW4]
        intro v' w9 o9 g9 h9;obtain⟨A9,c9,rfl,-⟩:=zH o9;clear y2;have kr9:=HKR.out.grown g9 (own_ne oE HKR.out (by decide))
        have fr:=kr9.frozen 2;have cr:=kr9.cell 2;have k10:=kr9.set 2 (.slice A9 (k+1) c9);simp only[zc,ze,zd,zC,zI,zT]at k10 cr;have o10:=zap o9 kr9 (by decide) 2 (.slice A9 (k+1) c9)
        have on10:Only (fun q=>q=rg∨Vr.il.ownBlock=some q) W4 (w9.setCell ⟨rg,2,none⟩ (.slice A9 (k+1) c9)):=((Only.refl _ W4).grown g9 fun q _ hq=> .inr (by rw[HEl.out];exact hq)).setCell _ _ fun _=> .inl rfl
        have hv9:∀b,(Value.slice A9 (k+1) c9).ownBlock=some b→Vr.il.ownBlock=some b∨W4.heap.size≤b:=fun b hb=>by
         rcases h9 with h9|h9
         ·exact .inl (by rw[HEl.out,←h9];exact hb)
         ·rw[hb]at h9;injection h9 with h9;exact .inr (by omega)
        obtain⟨qc,qy,qk,q6⟩:=Hqf.out;obtain⟨ρ1,hJ1⟩:=HJ.out.input HB4.out HQ4.out qc qy qk (fun b hb=>zy hz2 (q6 b hb)) on10 k10 (by rw[Hgs.out,Hqg.out];exact o10) hv9
        obtain⟨V1,hV1⟩:∃V1:RigV,V1={Vr with il:= .slice A9 (k+1) c9,qs:=Vr.qs++[q]}:=⟨_,rfl⟩;rw[←hV1]at hJ1;have kx5:=HKX4.out.only on10 fun hx=>by
         rcases hx with hx|hx
         ·exact blk_apart HKX4.out HKR.out (by decide) hx
         ·rw[HEl.out]at hx;exact own_ne oE HKX4.out (by decide) hx.symm
        have hqlen:=HJ.out.ql;have hok:V1.okL (.que (lC+k) qg):=by
         refine⟨fun e g' he=>?_,(fun o g' he=>(by cases he))⟩
         injection he with he1 he2
         subst he1 he2;refine⟨q,?_,Hqg.out⟩;rw[hV1];show(Vr.qs++[q])[lC+k]?=some q
         rw[zO (by omega),show lC+k-Vr.qs.length=0 by omega]
         rfl
        clear Hqf qc qy qk q6 HQ4 HKX4 HKR on10 k10 o10 hv9 hqlen g9 h9 o9 kr9 oE r4 hW4;obtain⟨w5,hw5⟩:∃w5,w9.setCell ⟨rg,2,none⟩ (.slice A9 (k+1) c9)=w5:=⟨_,rfl⟩;rw[hw5]at hJ1 kx5;have htl:=hJ1.tl;obtain⟨tt,hrt⟩:=zG (l:=V1.tasks) (i:=t) (by omega)
        have Mt:=hJ1.rig.tk t tt hrt;have hli:tp<tt.rin.length:=by
         obtain⟨x',hx',hF⟩:=hJ1.tf t tt hrt;obtain rfl:=zq (Hxt.out.symm.trans hx');rw[hF.ri];omega
        obtain⟨lI,hlI⟩:=zG (l:=tt.src) (i:=tp) (by rw[Mt.s.lf];exact hli)
        have oT:=hJ1.rig.tl.m;rw[zA,hJ1.tl]at oT;obtain⟨At,ctl,hTl,-⟩:=zH oT;rw[hTl]at oT;obtain⟨gt,hgt⟩:=zbi oT (by omega)
        subst hgt;have kr6:=hJ1.rig.rg;unfold RigV.cells at kr6;rw[hJ1.erg,hTl]at kr6;have htt2:((V1.tasks.map (·.bt)).map fun g=>Value.pointer (some ⟨g,0,none⟩))[t]?=some (.pointer (some ⟨tt.bt,0,none⟩)):=by rw[zp,zp,hrt];rfl
        have hraw:tt.cells[1]?=some (.slice (some ⟨tt.bf,0,none⟩) tt.rin.length tt.rin.length):=rfl
        have hcs:((tt.src.map Lnk.val).toArray)[tp]?=some lI.val:=by rw[zC];exact zbj Lnk.val hlI
        have kbt:=Mt.bt;have ksf:=Mt.s.bf;have HJ1:=Lh hJ1;have Hok:=Lh hok;have Htt:=Lh hrt;obtain⟨gs2,hgs2⟩:∃l,(V1.tasks.map (·.bt)).map (fun g=>Value.pointer (some ⟨g,0,none⟩))=l:=⟨_,rfl⟩
        rw[hgs2]at htt2 oT;obtain⟨cts,hct2⟩:∃l,tt.cells=l:=⟨_,rfl⟩;rw[hct2]at hraw kbt;obtain⟨curS,hcS⟩:∃l,(tt.src.map Lnk.val).toArray=l:=⟨_,rfl⟩;rw[hcS]at hcs ksf;obtain⟨btt,hbt⟩:∃l,tt.bt=l:=⟨_,rfl⟩;obtain⟨bf,hbf2⟩:∃l,tt.bf=l:=⟨_,rfl⟩;obtain⟨li,hli2⟩:∃l,tt.rin.length=l:=⟨_,rfl⟩;rw[hbt]at htt2 kbt;rw[hbf2,hli2]at hraw;rw[hbf2]at ksf;rw[hli2]at hli;have htt:=Lh htt2;have htc:=Lh hraw;have hcs:=Lh hcs;have HcS:=Lh hcS;have Hbf:=Lh hbf2;have HKB:=Lh (za5 kbt ksf);have HKR6:=Lh kr6;have HOT:=Lh oT;have HKX5:=Lh kx5;have ht0:(0:Int)≤(t:Int):=by omega
        have ht1:(t:Int)<(nA:Int):=by omega
        have htp0:(0:Int)≤(tp:Int):=by omega
        have htp1:(tp:Int)<(li:Int):=by omega
        clear hJ1 hok hrt htt2 Mt hlI oT hTl kr6 kbt ksf hcS hbt hbf2 hli2 hgs2 hct2 kx5 htl hraw
        go_wp2_with fail
        try rw[hw5]
        clear hw5 fr cr;have hI0:∀V,InpA w5 rg [V1.el,V1.il,V1.pl, .int .i64 V1.failed] gt nA ctl gs2 btt cts ga (.string nm) qg bf li t tp curS (fun _=>false) V w5.drew:=fun V=>by
         have b0:=Below.drewN (zm w5.heap.size w5) 1;obtain⟨q2,q4⟩:=HKB.out;constructor
         all_goals first
          |exact Only.of_below b0
          |exact HKR6.out.below b0 HKR6.out.lt
          |exact own_below HOT.out b0
          |exact HKX5.out.below b0 HKX5.out.lt
          |exact q2.below b0 q2.lt
          |exact fun _=>q4.below b0 q4.lt
          |(intro h;cases h)
        obtain⟨crg,hcrg⟩:∃l,[V1.el,V1.il,V1.pl,Value.int .i64 V1.failed]=l:=⟨_,rfl⟩;rw[hcrg]at hI0;obtain⟨nmv,hnmv⟩:∃l,Value.string nm=l:=⟨_,rfl⟩;rw[hnmv]at hI0;clear hcrg
        try rw[hnmv]
        clear hnmv;refine zo3 (by kernel_rfl) hI0 ht0 ht1 htt htc hcs htp0 htp1 ?_
        ·clear hI0;intro L V w6 hL h;have ks6:=h.s1 (hL 17 (by simp))
         have on6:=h.on;clear h hL;simp only[putAll,zi,zj,zc,ze,zd];rw[←HcS.out,zc,←Hbf.out]at ks6;rw[←Hbf.out]at on6;obtain⟨V2,hJ2,-,-⟩:=HJ1.out.linkS (l:= .que (lC+k) qg) Htt.out Hok.out on6 (by rw[zbn];exact ks6)
         have e2:inI g (k+1)=(inI g k).put t tp (.que (lC+k)):=by
          have:=zcM (inL g g.edges.length) (fun j=>LkV.que (g.edges.length+j)) (ps:=zeB g) (k:=k) (a:=((t:Int),(tp:Int))) (by unfold zeB;rw[zp,Hxk.out];rfl)
          simp only[zE]at this;rw[←HnE.out];exact this
         have HJ2:Hid (NewJ W1 w6 m g caps rg nA lC (k+1) 0 (inI g (k+1)) (zc5 g lC) V2 ρ1):=by rw[e2];exact hJ2
         clear ks6 on6 hJ2 e2
         go_wp2_with fail
         go_roundw
         case rel=>exact⟨k+1,V2,ρ1,by omega,by go_num,HJ2.out⟩
         case measure=>simp[intOf];omega
       ·obtain rfl:nI=k:=by omega
        have y3:=(HKG.out.below hJ.bel hgGm).cellL 4 rfl;rw[HnO.out]at y3;have HJ:=Lh hJ;clear hJ HaP
        go_wp2_with fail;clear y3
        obtain⟨aP2,haP⟩:∃a,g.aO=a:=⟨_,rfl⟩
        try rw[haP]
        have HaP:=Lh haP;clear haP;have hnO16:nO≤16:=by have:=(zdo (za6 HE.out).1).2.2.2.2.2;rw[HnO.out]at this;exact this
        go_loopw [209] (fun i wr=>∃(k:Nat) (V:RigV) (ρ:Nat→Tg),k≤nO∧i= .int .i64 k∧NewJ W1 wr m g caps rg nA lC nI k (inI g nI) (zcQ g k) V ρ) (fun i _=>nO-(intOf i).toNat)
        case atStart=>exact⟨0,_,_,zJ _,rfl,by have e:zcQ g 0=zc5 g lC:=by{show zc5 g g.edges.length=_;rw[HnE.out]};rw[e];exact HJ.out⟩
        case round=>
         clear HJ;obtain⟨k,Vr,ρr,hk,rfl,hJ⟩:=hrel;by_cases hkI:k<nO
         ·
          have h3:(0:Int)≤(k:Int):=by omega
          have h4:(k:Int)<(nO:Int):=by omega
          have hmw:=hJ.mw;have G:=HG.out.below hJ.bel lR_;obtain⟨ab,ao,x,hA,hab,hxk,hxc⟩:=G.rO.flat (f:=PrtV.cells) (n:=3) (by omega) (fun _=>rfl) (k:=k) (by rw[HnO.out];exact hkI)
          have c0:=hxc 0 _ rfl;have c1:=hxc 1 _ rfl;have c2:=hxc 2 _ rfl;rw[zab]at c0;obtain⟨xt,hxt,t1,t2,q1,q2⟩:=zg4 HE.out hxk;obtain⟨nm,ea,ep⟩:=x;simp only at c0 c1 c2 hxt t1 t2 q1 q2;obtain⟨f,rfl⟩:∃n:Nat,ea=n:=⟨ea.toNat,by omega⟩
          obtain⟨fp,rfl⟩:∃n:Nat,ep=n:=⟨ep.toNat,by omega⟩
          rw[zE]at hxt;rw[HnA.out]at t2;have ba:=bA_ wr (.cells #[.string nm, .int .i64 f, .int .i64 fp] 53);have kx:=bN_ ba;obtain⟨ga,hga⟩:∃b,wr.heap.size=b:=⟨_,rfl⟩;obtain⟨W2,hW2⟩:=wN_ ba;rw[hW2]at ba kx;rw[hga]at kx;have HJ:=Lh hJ;have Hba:=Lh ba;have Hxk:=Lh hxk;have HKX:=Lh kx;have Hxt:=Lh hxt;rw[HaP.out]at hA;subst hA;clear hJ G hxk hxc kx hxt ba
          go_upto_region 39 with fail
          try rw[hW2]
          try rw[hga]
          clear c0 c1 c2 hW2
          go_cut [24] (fun s24 wx=>∃b24:Nat,s24= .pointer (some ⟨b24,0,none⟩)∧Blk wx b24 162 #[.slice none 0 0]∧Below W2.heap.size W2 wx∧W2.heap.size≤b24)
          case first=>
           go_wp2_with fail
           go_meet;exact⟨_,rfl,Blk.new W2 _ rfl _ _,bA_ W2 _,zF _⟩
          obtain⟨pg,rfl,kA,bA,hzp⟩:=hcut;obtain⟨w3,hw3⟩:∃w3,wc=w3:=⟨_,rfl⟩;rw[hw3]at kA bA⊢;clear hw3;have hz2:=Hba.out.size;have hzA:=bA.size;obtain⟨p,hp⟩:∃p:TpV,p=⟨pg, .slice none 0 0,[]⟩:=⟨_,rfl⟩;have hpm:TpM w3 p:=by rw[hp];exact⟨kA,zeU _ _,by simp⟩
          have hpo:∀b,p.own b→pg≤b:=fun b hb=>by
           rw[hp]at hb;rcases hb with hb|hb
           ·exact Nat.le_of_eq hb.symm
           ·cases hb
          have b4:=bA_ w3 (.cells #[.pointer (some ⟨pg,0,none⟩)] 160);have r4:=zal w3 _ rfl 160 [Value.pointer (some ⟨pg,0,none⟩)];obtain⟨W4,hW4⟩:=wN_ b4;have hz4:W4.heap.size=w3.heap.size+1:=by rw[←hW4];simp
          have r4:Rd W4 (w3.heap.size+1) (some ⟨w3.heap.size,0,none⟩) [Value.pointer (some ⟨pg,0,none⟩)]:=hW4▸r4
          rw[hW4]at b4;have bwr3:Below wr.heap.size wr w3:=Hba.out.trans (bA.mono (by omega))
          have bwr4:Below wr.heap.size wr W4:=bwr3.trans (b4.mono (by omega))
          have hp4:TpM W4 p:=hpm.below b4
          have kx3:=HKX.out.below bA HKX.out.lt;have kx4:=kx3.below b4 kx3.lt;have oE:=(HJ.out.below bwr4).rig.pl.m;rw[zA,HJ.out.pl]at oE;obtain⟨Ae,ce,hEl,-⟩:=zH oE;have krg:=(HJ.out.below bwr4).rig.rg;unfold RigV.cells at krg;rw[HJ.out.erg,hEl,HJ.out.ef]at krg;have y2:=((HJ.out.below bwr3).rig.rg).cellL 3 rfl;unfold RigV.cells at y2;rw[HJ.out.erg,hEl]at y2;rw[hEl]at oE;have HQ4:=Lh hp4;have HKX4:=Lh kx4;have HB4:=Lh bwr4;have HKR:=Lh krg;have HEl:=Lh hEl;have Hp:=Lh hp;have Hpo:=Lh hpo;obtain⟨gs,hgs⟩:∃l,List.map (fun g=>Value.pointer (some ⟨g,0,none⟩)) (List.map (fun x=>x.g) Vr.tps)=l:=⟨_,rfl⟩
          rw[hgs]at oE;have Hgs:=Lh hgs;clear hp4 kx3 kx4 bwr3 bwr4 krg hEl hp hpm hpo b4 hgs bA kA hga
          go_wp2_with (at_builtin;refine zR _ rfl _ _ 117 rfl 0 160 iq (.pointer none) 1 8 Tryz.underlying117 hiq qz0 qz1 qz2 rfl (by decide) _ k _ rfl (by first|exact oE|(rw[hW4];exact oE)) _ (some ⟨w3.heap.size,0,none⟩) 1 1 [Value.pointer (some ⟨pg,0,none⟩)] rfl rfl (by first|exact r4|(rw[hW4];exact r4)) (zgz pg) (by unfold maxLen;omega) (by omega) (zJ _) ?_)
          try rw[hW4]
          intro v' w9 o9 g9 h9;obtain⟨A9,c9,rfl,-⟩:=zH o9;clear y2;have kr9:=HKR.out.grown g9 (own_ne oE HKR.out (by decide))
          have fr:=kr9.frozen 3;have cr:=kr9.cell 3;have k10:=kr9.set 3 (.slice A9 (k+1) c9);simp only[zc,ze,zd,zC,zI,zT]at k10 cr;have o10:=zap o9 kr9 (by decide) 3 (.slice A9 (k+1) c9)
          have on10:Only (fun q=>q=rg∨Vr.pl.ownBlock=some q) W4 (w9.setCell ⟨rg,3,none⟩ (.slice A9 (k+1) c9)):=((Only.refl _ W4).grown g9 fun q _ hq=> .inr (by rw[HEl.out];exact hq)).setCell _ _ fun _=> .inl rfl
          have hv9:∀b,(Value.slice A9 (k+1) c9).ownBlock=some b→Vr.pl.ownBlock=some b∨W4.heap.size≤b:=fun b hb=>by
           rcases h9 with h9|h9
           ·exact .inl (by rw[HEl.out,←h9];exact hb)
           ·rw[hb]at h9;injection h9 with h9;exact .inr (by omega)
          obtain⟨ρ1,hJ1⟩:=HJ.out.out HB4.out HQ4.out (by rw[Hp.out]) (fun b hb=>zy hz2 (zy hzp (Hpo.out b hb))) on10 k10 (by rw[Hgs.out,Hp.out];exact o10) hv9
          obtain⟨V1,hV1⟩:∃V1:RigV,V1={Vr with pl:= .slice A9 (k+1) c9,tps:=Vr.tps++[p]}:=⟨_,rfl⟩;rw[←hV1]at hJ1;have kx5:=HKX4.out.only on10 fun hx=>by
           rcases hx with hx|hx
           ·exact blk_apart HKX4.out HKR.out (by decide) hx
           ·rw[HEl.out]at hx;exact own_ne oE HKX4.out (by decide) hx.symm
          have hqlen:=HJ.out.pl;have hok:V1.okL (.tape k pg):=by
           refine⟨(fun e g' he=>(by cases he)),fun o g' he=>?_⟩
           injection he with he1 he2
           subst he1 he2;refine⟨p,?_,by rw[Hp.out]⟩
           rw[hV1];show(Vr.tps++[p])[k]?=some p
           rw[zO (by omega),show k-Vr.tps.length=0 by omega]
           rfl
          clear HQ4 HKX4 HKR on10 k10 o10 hv9 hqlen g9 h9 o9 kr9 oE r4 hW4 Hpo;obtain⟨w5,hw5⟩:∃w5,w9.setCell ⟨rg,3,none⟩ (.slice A9 (k+1) c9)=w5:=⟨_,rfl⟩;rw[hw5]at hJ1 kx5;have htl:=hJ1.tl;obtain⟨tt,hrt⟩:=zG (l:=V1.tasks) (i:=f) (by omega)
          have Mt:=hJ1.rig.tk f tt hrt;have hli:fp<tt.rout.length:=by
           obtain⟨x',hx',hF⟩:=hJ1.tf f tt hrt;obtain rfl:=zq (Hxt.out.symm.trans hx');rw[hF.ro];omega
          obtain⟨lI,hlI⟩:=zG (l:=tt.dst) (i:=fp) (by rw[Mt.s.lo];exact hli)
          have oT:=hJ1.rig.tl.m;rw[zA,hJ1.tl]at oT;obtain⟨At,ctl,hTl,-⟩:=zH oT;rw[hTl]at oT;obtain⟨gt,hgt⟩:=zbi oT (by omega)
          subst hgt;have kr6:=hJ1.rig.rg;unfold RigV.cells at kr6;rw[hJ1.erg,hTl]at kr6;have htt2:((V1.tasks.map (·.bt)).map fun g=>Value.pointer (some ⟨g,0,none⟩))[f]?=some (.pointer (some ⟨tt.bt,0,none⟩)):=by rw[zp,zp,hrt];rfl
          have hraw:tt.cells[2]?=some (.slice (some ⟨tt.bo,0,none⟩) tt.rout.length tt.rout.length):=rfl
          have hcs:((tt.dst.map Lnk.val).toArray)[fp]?=some lI.val:=by rw[zC];exact zbj Lnk.val hlI
          have kbt:=Mt.bt;have ksf:=Mt.s.bo;have HJ1:=Lh hJ1;have Hok:=Lh hok;have Htt:=Lh hrt;obtain⟨gs2,hgs2⟩:∃l,(V1.tasks.map (·.bt)).map (fun g=>Value.pointer (some ⟨g,0,none⟩))=l:=⟨_,rfl⟩
          rw[hgs2]at htt2 oT;obtain⟨cf,hct2⟩:∃l,tt.cells=l:=⟨_,rfl⟩;rw[hct2]at hraw kbt;obtain⟨curO,hcS⟩:∃l,(tt.dst.map Lnk.val).toArray=l:=⟨_,rfl⟩;rw[hcS]at hcs ksf;obtain⟨btf,hbt⟩:∃l,tt.bt=l:=⟨_,rfl⟩;obtain⟨bo,hbf2⟩:∃l,tt.bo=l:=⟨_,rfl⟩;obtain⟨lo,hli2⟩:∃l,tt.rout.length=l:=⟨_,rfl⟩;rw[hbt]at htt2 kbt;rw[hbf2,hli2]at hraw;rw[hbf2]at ksf;rw[hli2]at hli;have hft:=Lh htt2;have hfc:=Lh hraw;have hco:=Lh hcs;have HcS:=Lh hcS;have Hbf:=Lh hbf2;have HKB:=Lh (za5 kbt ksf);have HKR6:=Lh kr6;have HOT:=Lh oT;have HKX5:=Lh kx5;have hf0:(0:Int)≤(f:Int):=by omega
          have hf1:(f:Int)<(nA:Int):=by omega
          have hfp0:(0:Int)≤(fp:Int):=by omega
          have hfp1:(fp:Int)<(lo:Int):=by omega
          clear hJ1 hok hrt htt2 Mt hlI oT hTl kr6 kbt ksf hcS hbt hbf2 hli2 hgs2 hct2 kx5 htl hraw
          go_wp2_with fail
          try rw[hw5]
          clear hw5 fr cr;have hI0:∀V,OutA w5 rg [V1.el,V1.il,V1.pl, .int .i64 V1.failed] gt nA ctl gs2 btf cf ga (.string nm) pg bo lo f fp curO (fun _=>false) V w5.drew:=fun V=>by
           have b0:=Below.drewN (zm w5.heap.size w5) 1;obtain⟨q2,q4⟩:=HKB.out;constructor
           all_goals first
            |exact Only.of_below b0
            |exact HKR6.out.below b0 HKR6.out.lt
            |exact own_below HOT.out b0
            |exact HKX5.out.below b0 HKX5.out.lt
            |exact q2.below b0 q2.lt
            |exact fun _=>q4.below b0 q4.lt
            |(intro h;cases h)
          obtain⟨crg,hcrg⟩:∃l,[V1.el,V1.il,V1.pl,Value.int .i64 V1.failed]=l:=⟨_,rfl⟩;rw[hcrg]at hI0;obtain⟨nmv,hnmv⟩:∃l,Value.string nm=l:=⟨_,rfl⟩;rw[hnmv]at hI0;clear hcrg
          try rw[hnmv]
          clear hnmv;refine zo4 (by kernel_rfl) hI0 hf0 hf1 hft hfc hco hfp0 hfp1 ?_
          ·clear hI0;intro L V w6 hL h;have ks6:=h.o1 (hL 16 (by simp))
           have on6:=h.on;clear h hL;simp only[putAll,zi,zj,zc,ze,zd];rw[←HcS.out,zc,←Hbf.out]at ks6;rw[←Hbf.out]at on6;obtain⟨V2,hJ2,-,-⟩:=HJ1.out.linkD (l:= .tape k pg) Htt.out Hok.out on6 (by rw[zbn];exact ks6)
           have e2:zcQ g (k+1)=(zcQ g k).put f fp (.tape k):=by
            have:=zcM (zc5 g g.edges.length) LkV.tape (ps:=zeZ g) (k:=k) (a:=((f:Int),(fp:Int))) (by unfold zeZ;rw[zp,Hxk.out];rfl)
            simp only[zE]at this;exact this
           have HJ2:Hid (NewJ W1 w6 m g caps rg nA lC nI (k+1) (inI g nI) (zcQ g (k+1)) V2 ρ1):=by rw[e2];exact hJ2
           clear ks6 on6 hJ2 e2
           go_wp2_with fail
           go_roundw
           case rel=>exact⟨k+1,V2,ρ1,by omega,by go_num,HJ2.out⟩
           case measure=>simp[intOf];omega
         ·obtain rfl:nO=k:=by omega
          have HJ:=Lh hJ;clear hJ
          go_wp2_with fail
          go_ret2;have hJ:=HJ.out
          have hbl:Below w.heap.size w wr:=by rw[HB0.out];exact HB1.out.trans (hJ.bel.mono (by omega))
          refine⟨hbl, .inr ⟨Vr,ρr,by obtain rfl:=hJ.erg;rfl,?_,by rw[HLC.out,HnE.out],fun c hc=>?_⟩⟩
          ·rw[HnA.out,HnE.out,HnI.out,HnO.out];exact{hJ with
            bel:=hbl
            mw:=hbl.size
            fx:=fun b hb=>hJ.fx b (by have:=HB0.out;omega)
            erg:=rfl}
          ·obtain⟨j,hj,hjc⟩:=zbH hc
           have:=HLC.out
           exact HPos.out j c (by omega) (by rw[zk hj,hjc])
 ·have hne:((lC:Int)==(nE:Int))=false:=by simp;omega
  have HCL:=Lh hcl;clear hcl
  go_wp2_with fail
  go_ret2;refine⟨by rw[HB0.out];exact HB1.out.trans (HBw.out.mono (by omega)), .inl ⟨rfl,fun hc=>?_⟩⟩
  have h1:=hc.1;rw[HLC.out,HnE.out]at h1;exact HCL.out h1
end Go.Proofs.YtpmlljbebdidgaaGreatDoor
