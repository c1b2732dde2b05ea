/- Lemmas and walks for the claim: Gk, Em. -/
import Derived.Test.YtpmlljbebdidgaaGreatDoorA0
import Derived.Test.YtpmlljbebdidgaaGreatDoorA26
import Derived.Test.YtpmlljbebdidgaaGreatDoorA1
set_option linter.unusedSimpArgs false
set_option maxRecDepth 100000
set_option maxHeartbeats 4000000
namespace Go.Proofs.YtpmlljbebdidgaaGreatDoor
open Go.RowKit
theorem zhh(g:zB)(w:World)(hg:g.good w w.heap.size):
  Calls Tryz.prog 21 #[.agg #[.string g.nm, .slice g.aA g.acts.length g.cA, .slice g.aE g.edges.length g.cE, .slice g.aI g.ins.length g.cI, .slice g.aO g.outs.length g.cO]] w fun e w'=>e= .returned (.int .i64 (checkG g))∧Below w.heap.size w w':=by
 obtain⟨E,hE⟩:∃E,checkG g=E:=⟨_,rfl⟩;rw[hE];have hs1:w.heap.size≤(w.alloc (.cells #[.string g.nm, .slice g.aA g.acts.length g.cA, .slice g.aE g.edges.length g.cE, .slice g.aI g.ins.length g.cI, .slice g.aO g.outs.length g.cO] 26)).heap.size:=by simp
 have b1:=bA_ w (.cells #[.string g.nm, .slice g.aA g.acts.length g.cA, .slice g.aE g.edges.length g.cE, .slice g.aI g.ins.length g.cI, .slice g.aO g.outs.length g.cO] 26);have k1:=(Blk.new w _ rfl 26 #[.string g.nm, .slice g.aA g.acts.length g.cA, .slice g.aE g.edges.length g.cE, .slice g.aI g.ins.length g.cI, .slice g.aO g.outs.length g.cO]);have g1:=(hg.below b1 lR_).more hs1;obtain⟨W1,hW1⟩:=wN_ b1;rw[hW1]at b1 k1 g1;have g0:=k1.cellL 0 rfl;have g2:=k1.cellL 1 rfl;have g3:=k1.cellL 2 rfl;have g4:=k1.cellL 3 rfl;have g5:=k1.cellL 4 rfl;have HG1:=Lh g1;have HB1:=Lh b1;have HE:=Lh hE;clear g1 b1 hs1 hg k1 hE
 go_enter Tryz.func21, Tryz.ntmps21
 go_wp2_with fail
 try rw[hW1]
 refine(zml g W1 HG1.out).mono ?_;rw[HE.out];rintro e w2 ⟨a,b,c,rfl,hb2⟩;have hz:=HB1.out.size;have hz2:=hb2.size;have hB:=Lh ((HB1.out.trans (hb2.mono hz)).alloc (by omega) (.cells #[.int .u8 a, .int .i64 b, .int .i64 c] 128))
 clear hb2 HB1 HG1
 go_wp2_with fail;refine bodyPost_ret (v:= .int .i64 E) (by simp[results, Tryz.results21,go_sem]) rfl ?_
 exact⟨rfl,hB.out⟩
theorem zeM:∀(xs:List ActV) (ns:List (List UInt8)),actorsE xs ns=0→∀x∈xs,(shapeR x.tag x.ps).2.2=0
 |[],_,_,_,hx=>by cases hx
 |y::xs,ns,h,x,hx=>by
  rw[actorsE]at h;by_cases h0:actE ns y=0
  ·rw[if_pos h0]at h;rcases zV.1 hx with rfl|hx
   ·unfold actE at h0;by_cases h1:nameE ns x.nm=0
    ·rw[if_pos h1]at h0;exact h0
    ·rw[if_neg h1]at h0;exact absurd h0 h1
   ·exact zeM xs _ h x hx
  ·rw[if_neg h0]at h;exact absurd h h0
def edgeIn(M:Bool→List (List Bool))(e:GEdg):Prop:=
 (0≤e.f∧e.f<(M true).length∧0≤e.fp∧e.fp<((M true).getD e.f.toNat []).length)∧(0≤e.t∧e.t<(M false).length∧0≤e.tp∧e.tp<((M false).getD e.t.toNat []).length)∧e.st.length≤256
theorem zh2:∀(xs:List GEdg) (M:Bool→List (List Bool)),edgesE xs M=0→∀e∈xs,edgeIn M e
 |[],_,_,_,he=>by cases he
 |y::xs,M,h,e,he=>by
  rw[edgesE]at h;by_cases h0:edgeE M y=0
  ·rw[if_pos h0]at h;rcases zV.1 he with rfl|he
   ·unfold edgeE at h0;by_cases h1:takeE (M true) e.f e.fp=0
    ·rw[if_pos h1]at h0;by_cases h2:takeE (M false) e.t e.tp=0
     ·rw[if_pos h2]at h0;obtain⟨a1,a2,a3,a4,-⟩:=zdX h1;obtain⟨b1,b2,b3,b4,-⟩:=zdX h2;refine⟨⟨a1,a2,a3,a4⟩,⟨b1,b2,b3,b4⟩,?_⟩;by_cases h3:256<e.st.length
      ·rw[if_pos h3]at h0;cases h0
      ·omega
     ·rw[if_neg h2]at h0;exact absurd h0 h2
    ·rw[if_neg h1]at h0;exact absurd h0 h1
   ·have:=zh2 xs _ h e he
    have hl:∀s,(edgeM M y s).length=(M s).length:=fun s=>zeC [y] M s
    have hr:∀s j,((edgeM M y s).getD j []).length=((M s).getD j []).length:=fun s j=>zck [y] M s j
    unfold edgeIn at this⊢
    simpa only[hl,hr]using this
  ·rw[if_neg h0]at h;exact absurd h h0
def insOf(x:ActV):List Int:=(shapeR x.tag x.ps).1
def outsOf(x:ActV):List Int:=(shapeR x.tag x.ps).2.1
def zdp(g:zB)(a p:Int):Int:=(((g.acts[a.toNat]?).map outsOf).getD []).getD p.toNat 0
def zed(g:zB)(a p:Int):Int:=(((g.acts[a.toNat]?).map insOf).getD []).getD p.toNat 0
def garcOf(g:zB)(e:GEdg):ArcV:=⟨e.f,e.t,zdp g e.f e.fp,zed g e.t e.tp,e.st.length⟩
def garcs(g:zB):List ArcV:=g.edges.map (garcOf g)
theorem zdi(g:zB):(garcs g).length=g.edges.length:=by simp[garcs]
theorem zdD{g:zB}(h:checkG g=0):headE g=0∧actorsE g.acts []=0∧edgesE g.edges (M0of g)=0:=by
 unfold checkG at h;by_cases h1:headE g=0
 ·rw[if_pos h1]at h;by_cases h2:actorsE g.acts []=0
  ·rw[if_pos h2]at h;by_cases h3:edgesE g.edges (M0of g)=0
   ·exact⟨h1,h2,h3⟩
   ·rw[if_neg h3]at h;exact absurd h h3
  ·rw[if_neg h2]at h;exact absurd h h2
 ·rw[if_neg h1]at h;exact absurd h h1
theorem zee(g:zB)(s:Bool){j:Nat}{x:ActV}(hx:g.acts[j]?=some x):((M0of g s).getD j []).length=zdC s x:=by
 unfold M0of sideM;rw[zz,zp,hx];simp
theorem zcx{g:zB}(h:checkG g=0){e:GEdg}(he:e∈g.edges):∃x y,g.acts[e.f.toNat]?=some x∧g.acts[e.t.toNat]?=some y∧0≤e.f∧e.f<g.acts.length∧0≤e.t∧e.t<g.acts.length∧
  0≤e.fp∧e.fp<(outsOf x).length∧0≤e.tp∧e.tp<(insOf y).length∧e.st.length≤256:=by
 obtain⟨-,-,h3⟩:=zdD h;obtain⟨⟨a1,a2,a3,a4⟩,⟨b1,b2,b3,b4⟩,hs⟩:=zh2 _ _ h3 e he;rw[(zdh g true).1]at a2;rw[(zdh g false).1]at b2;have hx:=zk (l:=g.acts) (i:=e.f.toNat) (by omega)
 have hy:=zk (l:=g.acts) (i:=e.t.toNat) (by omega)
 rw[zee g true hx]at a4;rw[zee g false hy]at b4;exact⟨_,_,hx,hy,a1,a2,b1,b2,a3,a4,b3,b4,hs⟩
def zph(r:List Int×List Int×Int):Prop:=(∀x∈r.1,1≤x∧x≤64)∧(∀x∈r.2.1,1≤x∧x≤64)
theorem shape_rate(tag:Int)(ps:List Int):zph (shapeR tag ps):=by
 have hw:∀{n k:Int},withinB n k=true→1≤n∧n≤k:=fun h=>by unfold withinB at h;simp at h;omega
 have hp:∀{l:Nat} {n m:Int},pairB l n m=true→1≤m∧m≤64∧1≤n*m∧n*m≤64:=fun h=>by
  have h:=zdB h;refine⟨h.2.2.1,h.2.2.2.1,?_,h.2.2.2.2⟩
  have:=zaC h.1 h.2.2.1 (by omega) (by omega)
  omega
 have h1:∀r∈([1]:List Int),1≤r∧r≤64:=fun r hr=>by simp at hr;omega
 have h11:∀r∈([1,1]:List Int),1≤r∧r≤64:=fun r hr=>by simp at hr;omega
 have h0:∀r∈([]:List Int),1≤r∧r≤64:=fun r hr=>by cases hr
 have hn:∀n:Int,1≤n→n≤64→∀r∈[n],1≤r∧r≤64:=fun n a b r hr=>by simp at hr;omega
 have hR:∀(k:Nat) (n:Int),1≤n→n≤64→∀r∈List.replicate k n,1≤r∧r≤64:=fun k n a b r hr=>by obtain⟨-,rfl⟩:=zbM.1 hr;exact⟨a,b⟩
 unfold shapeR;split
 ·exact⟨h0,h0⟩
 ·unfold zZ;split
  ·exact⟨h1,h1⟩
  split
  ·rename_i q;have:=hw q.2.2;exact⟨h1,hn _ this.1 this.2⟩
  split
  ·rename_i q;have:=hw q.2.2;exact⟨hn _ this.1 this.2,h1⟩
  split
  ·rename_i q;have:=hp q.2;exact⟨hR _ _ this.1 this.2.1,hn _ this.2.2.1 this.2.2.2⟩
  split
  ·rename_i q;have:=hp q.2;exact⟨hn _ this.2.2.1 this.2.2.2,hR _ _ this.1 this.2.1⟩
  split
  ·exact⟨hR _ _ (by omega) (by omega),h1⟩
  split
  ·exact⟨h11,h1⟩
  split
  ·exact⟨h1,hR _ _ (by omega) (by omega)⟩
  split
  ·exact⟨h0,h1⟩
  split
  ·rename_i q;have:=hw q.2.2;exact⟨hn _ this.1 this.2,h0⟩
  ·exact⟨h0,h0⟩
theorem zkY{g:zB}(h:checkG g=0):checkF g.acts.length (garcs g)=0:=by
 obtain⟨hh,hA,hE⟩:=zdD h;obtain⟨-,l1,l2,l3,-,-⟩:=zdo hh;have key:∀xs:List GEdg,(∀e∈xs,e∈g.edges)→arcsF g.acts.length (xs.map (garcOf g))=0:=by
  intro xs
  induction xs with
  |nil=>intro _;rfl
  |cons e xs ih=>
   intro hx;rw[zcn,arcsF,if_pos ?_]
   ·exact ih fun e he=>hx e (za2 _ he)
   ·obtain⟨x,y,ex,ey,f1,f2,t1,t2,p1,p2,q1,q2,hs⟩:=zcx h (hx e (za0 ..));have ro:=(shape_rate x.tag x.ps).2;have ri:=(shape_rate y.tag y.ps).1;have hg1:1≤zdp g e.f e.fp∧zdp g e.f e.fp≤64:=by
     unfold zdp;rw[ex,zai,zbs,zz,zk (by omega:e.fp.toNat<(outsOf x).length),zbs]
     exact ro _ (zaF _)
    have hg2:1≤zed g e.t e.tp∧zed g e.t e.tp≤64:=by
     unfold zed;rw[ey,zai,zbs,zz,zk (by omega:e.tp.toNat<(insOf y).length),zbs]
     exact ri _ (zaF _)
    unfold arcF garcOf;rw[if_neg (by show¬(e.f<0∨e.t<0∨(g.acts.length:Int)≤e.f∨(g.acts.length:Int)≤e.t);omega),if_neg (by show¬(zdp g e.f e.fp<1∨zed g e.t e.tp<1∨64<zdp g e.f e.fp∨64<zed g e.t e.tp);omega),if_neg (by show¬((e.st.length:Int)<0∨256<(e.st.length:Int));omega)]
 unfold checkF;rw[if_neg (by omega),if_neg (by rw[zdi];omega)]
 exact key g.edges fun _ h=>h
inductive LkV
 |no|que (e:Nat)|tape (o:Nat)
abbrev LM:=Nat→Nat→LkV
def LM.put(D:LM)(v p:Nat)(x:LkV):LM:=fun v' p'=>if v'=v∧p'=p then x else D v' p'
theorem LM.put_self(D:LM)(v p:Nat)(x:LkV):D.put v p x v p=x:=if_pos ⟨rfl,rfl⟩
theorem LM.put_other(D:LM){v p v' p':Nat}(x:LkV)(h:¬(v'=v∧p'=p)):D.put v p x v' p'=D v' p':=if_neg h
def layL(D0:LM)(ps:List (Int×Int))(lab:Nat→LkV):Nat→LM
 |0=>D0
 |k+1=>match ps[k]? with
  |some a=>(layL D0 ps lab k).put a.1.toNat a.2.toNat (lab k)
  |none=>layL D0 ps lab k
theorem zcM(D0:LM){ps:List (Int×Int)}(lab:Nat→LkV){k:Nat}{a:Int×Int}(h:ps[k]?=some a):layL D0 ps lab (k+1)=(layL D0 ps lab k).put a.1.toNat a.2.toNat (lab k):=by
 rw[layL,h]
def zco(M:List (List Bool))(ps:List (Int×Int)):List (List Bool):=ps.foldl (fun M a=>zbf M a.1 a.2) M
theorem zjN{ps:List (Int×Int)}{k:Nat}{a:Int×Int}(h:ps[k]?=some a)(M:List (List Bool)):zco M (ps.take (k+1))=zbf (zco M (ps.take k)) a.1 a.2:=by
 unfold zco;rw[zan,h,zbQ]
 rfl
def zgv(M:List (List Bool))(D:LM):Prop:=∀v p,(M.getD v []).getD p false=true↔D v p≠ .no
theorem zgv.take{M:List (List Bool)}{D:LM}(h:zgv M D){a p:Int}(ht:takeE M a p=0){x:LkV}(hx:x≠ .no):D a.toNat p.toNat= .no∧zgv (zbf M a p) (D.put a.toNat p.toNat x):=by
 obtain⟨a1,a2,a3,a4,a5⟩:=zdX ht;have hn:D a.toNat p.toNat= .no:=zdb fun hc=>by
  have:=(h _ _).2 hc
  rw[this]at a5;cases a5
 refine⟨hn,fun v q=>?_⟩
 unfold zbf;rw[if_pos ht];by_cases hv:v=a.toNat
 ·subst hv;rw[zdQ (by omega)]
  by_cases hq:q=p.toNat
  ·subst hq;rw[LM.put_self,zz,zaJ,if_pos rfl,if_pos (by omega)]
   simp[hx]
  ·rw[LM.put_other _ _ (by omega),zz,zaJ,if_neg (by omega),←zz]
   exact h _ _
 ·rw[LM.put_other _ _ (by omega),zdn (by omega)]
  exact h _ _
structure LaidK(M0:List (List Bool))(D0:LM)(ps:List (Int×Int))(lab:Nat→LkV)(k:Nat):Prop where
 ag:zgv (zco M0 (ps.take k)) (layL D0 ps lab k)
 at_:∀j a,j<k→ps[j]?=some a→layL D0 ps lab k a.1.toNat a.2.toNat=lab j
 old:∀v p,D0 v p≠ .no→layL D0 ps lab k v p=D0 v p
 from_:∀v p,layL D0 ps lab k v p=D0 v p∨∃j a,j<k∧ps[j]?=some a∧a.1.toNat=v∧a.2.toNat=p∧layL D0 ps lab k v p=lab j
theorem zfK{M0:List (List Bool)}{D0:LM}{ps:List (Int×Int)}{lab:Nat→LkV}(h0:zgv M0 D0)(hl:∀j,lab j≠ .no)(ht:∀k a,ps[k]?=some a→takeE (zco M0 (ps.take k)) a.1 a.2=0):∀k,k≤ps.length→LaidK M0 D0 ps lab k:=by
 intro k
 induction k with
 |zero=>exact fun _=>⟨h0,fun j a hj=>absurd hj (by omega),fun _ _ _=>rfl,fun _ _=> .inl rfl⟩
 |succ k ih=>
  intro hk;have H:=ih (by omega)
  obtain⟨a,ha⟩:∃a,ps[k]?=some a:=⟨ps[k],zk (by omega)⟩
  obtain⟨hn,hag⟩:=H.ag.take (ht k a ha) (hl k);refine⟨?_,fun j b hj hb=>?_,fun v p hv=>?_,fun v p=>?_⟩
  ·rw[zjN ha,zcM _ _ ha];exact hag
  ·rw[zcM _ _ ha];by_cases hjk:j=k
   ·subst hjk;rw[ha]at hb;obtain rfl:=zq hb;rw[LM.put_self]
   ·have h1:=H.at_ j b (by omega) hb
    rw[LM.put_other]
    ·exact h1
    ·rintro⟨e1,e2⟩;rw[e1,e2,hn]at h1;exact hl j h1.symm
  ·rw[zcM _ _ ha];have h1:=H.old v p hv;rw[LM.put_other]
   ·exact h1
   ·rintro⟨rfl,rfl⟩;rw[hn]at h1;exact hv h1.symm
  ·rw[zcM _ _ ha];by_cases hvp:v=a.1.toNat∧p=a.2.toNat
   ·obtain⟨rfl,rfl⟩:=hvp;exact .inr ⟨k,a,by omega,ha,rfl,rfl,LM.put_self _ _ _ _⟩
   ·rw[LM.put_other _ _ hvp];rcases H.from_ v p with h1|⟨j,b,h1,h2,h3,h4,h5⟩
    ·exact .inl h1
    ·exact .inr ⟨j,b,by omega,h2,h3,h4,h5⟩
def noL:LM:=fun _ _=> .no
def zfj(g:zB):List (Int×Int):=g.edges.map fun e=>(e.f,e.fp)
def zfk(g:zB):List (Int×Int):=g.edges.map fun e=>(e.t,e.tp)
def zeB(g:zB):List (Int×Int):=g.ins.map fun x=>(x.a,x.p)
def zeZ(g:zB):List (Int×Int):=g.outs.map fun x=>(x.a,x.p)
def zc5(g:zB)(k:Nat):LM:=layL noL (zfj g) .que k
def inL(g:zB)(k:Nat):LM:=layL noL (zfk g) .que k
def inI(g:zB)(k:Nat):LM:=layL (inL g g.edges.length) (zeB g) (fun j=> .que (g.edges.length+j)) k
def zcQ(g:zB)(k:Nat):LM:=layL (zc5 g g.edges.length) (zeZ g) .tape k
theorem zgE:∀(xs:List GEdg) (M:Bool→List (List Bool)),edgesE xs M=0→∀(k:Nat) (e:GEdg),xs[k]?=some e→edgeE (edgesM (xs.take k) M) e=0
 |[],_,_,k,e,he=>by simp at he
 |y::xs,M,h,k,e,he=>by
  rw[edgesE]at h;by_cases h0:edgeE M y=0
  ·rw[if_pos h0]at h;cases k with
   |zero=>
    simp only[zI,zX]at he;subst he;exact h0
   |succ k=>exact zgE xs _ h k e (by simpa using he)
  ·rw[if_neg h0]at h;exact absurd h h0
theorem zdA:∀(xs:List PrtV) (ns:List (List UInt8)) (M:List (List Bool)),portsE xs ns M=0→∀(k:Nat) (x:PrtV),xs[k]?=some x→takeE (portsM (xs.take k) M) x.a x.p=0
 |[],_,_,_,k,e,he=>by simp at he
 |y::xs,ns,M,h,k,e,he=>by
  rw[portsE]at h;by_cases h0:zfb ns M y=0
  ·rw[if_pos h0]at h;cases k with
   |zero=>
    simp only[zI,zX]at he;subst he;unfold zfb at h0;by_cases h1:nameE ns y.nm=0
    ·rw[if_pos h1]at h0;exact h0
    ·rw[if_neg h1]at h0;exact absurd h0 h1
   |succ k=>exact zdA xs _ _ h k e (by simpa using he)
  ·rw[if_neg h0]at h;exact absurd h h0
theorem zfl:∀(xs:List GEdg) (M:Bool→List (List Bool)),edgesM xs M true=zco (M true) (xs.map fun e=>(e.f,e.fp))
 |[],_=>rfl
 |y::xs,M=>zfl xs (edgeM M y)
theorem ze0:∀(xs:List GEdg) (M:Bool→List (List Bool)),edgesM xs M false=zco (M false) (xs.map fun e=>(e.t,e.tp))
 |[],_=>rfl
 |y::xs,M=>ze0 xs (edgeM M y)
theorem zb5:∀(xs:List PrtV) (M:List (List Bool)),portsM xs M=zco M (xs.map fun x=>(x.a,x.p))
 |[],_=>rfl
 |y::xs,M=>zb5 xs (zbf M y.a y.p)
theorem za6{g:zB}(h:checkG g=0):headE g=0∧actorsE g.acts []=0∧edgesE g.edges (M0of g)=0∧portsE g.ins (namesA g.acts) (M1of g false)=0∧portsE g.outs (namesA g.acts++namesP g.ins) (M2of g true)=0∧openE g.acts.length (zec g)=0:=by
 unfold checkG at h;by_cases h1:headE g=0
 ·rw[if_pos h1]at h;by_cases h2:actorsE g.acts []=0
  ·rw[if_pos h2]at h;by_cases h3:edgesE g.edges (M0of g)=0
   ·rw[if_pos h3]at h;by_cases h4:portsE g.ins (namesA g.acts) (M1of g false)=0
    ·rw[if_pos h4]at h;by_cases h5:portsE g.outs (namesA g.acts++namesP g.ins) (M2of g true)=0
     ·rw[if_pos h5]at h;exact⟨h1,h2,h3,h4,h5,h⟩
     ·rw[if_neg h5]at h;exact absurd h h5
    ·rw[if_neg h4]at h;exact absurd h h4
   ·rw[if_neg h3]at h;exact absurd h h3
  ·rw[if_neg h2]at h;exact absurd h h2
 ·rw[if_neg h1]at h;exact absurd h h1
theorem zg2(g:zB)(s:Bool):zgv (M0of g s) noL:=fun v p=>by
 refine⟨fun h=>?_,fun h=>absurd rfl h⟩
 unfold M0of sideM at h;rw[zz (l:=List.map _ _),zp]at h;cases hx:g.acts[v]? with
 |none=>rw[hx]at h;simp at h
 |some x=>
  rw[hx]at h;simp only[zai,zbs,zz,zbh]at h;split at h<;>simp at h
theorem zg3{g:zB}(h:checkG g=0){k:Nat}{e:GEdg}(he:g.edges[k]?=some e):takeE (edgesM (g.edges.take k) (M0of g) true) e.f e.fp=0∧takeE (edgesM (g.edges.take k) (M0of g) false) e.t e.tp=0:=by
 have h0:=zgE _ _ (za6 h).2.2.1 k e he;unfold edgeE at h0;by_cases h1:takeE (edgesM (g.edges.take k) (M0of g) true) e.f e.fp=0
 ·rw[if_pos h1]at h0;by_cases h2:takeE (edgesM (g.edges.take k) (M0of g) false) e.t e.tp=0
  ·exact⟨h1,h2⟩
  ·rw[if_neg h2]at h0;exact absurd h0 h2
 ·rw[if_neg h1]at h0;exact absurd h0 h1
theorem outL_laid{g:zB}(h:checkG g=0)(k:Nat)(hk:k≤g.edges.length):LaidK (M0of g true) noL (zfj g) .que k:=
 zfK (zg2 g true) (by simp) (fun k a ha=>by
  unfold zfj at ha⊢;rw[zp]at ha;cases he:g.edges[k]? with
  |none=>rw[he]at ha;cases ha
  |some e=>
   rw[he]at ha;simp only[zai,zX]at ha;subst ha
   have:=(zg3 h he).1
   rw[zfl,zbO]at this;exact this) k (by unfold zfj;rw[zA];exact hk)
theorem inL_laid{g:zB}(h:checkG g=0)(k:Nat)(hk:k≤g.edges.length):LaidK (M0of g false) noL (zfk g) .que k:=
 zfK (zg2 g false) (by simp) (fun k a ha=>by
  unfold zfk at ha⊢;rw[zp]at ha;cases he:g.edges[k]? with
  |none=>rw[he]at ha;cases ha
  |some e=>
   rw[he]at ha;simp only[zai,zX]at ha;subst ha
   have:=(zg3 h he).2
   rw[ze0,zbO]at this;exact this) k (by unfold zfk;rw[zA];exact hk)
theorem znu(g:zB):M1of g false=zco (M0of g false) (zfk g):=ze0 _ _
theorem zoD(g:zB):M1of g true=zco (M0of g true) (zfj g):=zfl _ _
theorem zhB(g:zB):M2of g true=M1of g true:=zaz (by simp)
theorem inI_laid{g:zB}(h:checkG g=0)(k:Nat)(hk:k≤g.ins.length):LaidK (M1of g false) (inL g g.edges.length) (zeB g) (fun j=> .que (g.edges.length+j)) k:=
 zfK (by
  have:=(inL_laid h _ lR_).ag
  rw[zL (by unfold zfk;rw[zA];exact zF _)]at this
  rw[znu];exact this) (by simp) (fun k a ha=>by
  unfold zeB at ha⊢;rw[zp]at ha;cases he:g.ins[k]? with
  |none=>rw[he]at ha;cases ha
  |some e=>
   rw[he]at ha;simp only[zai,zX]at ha;subst ha
   have:=zdA _ _ _ (za6 h).2.2.2.1 k e he
   rw[zb5,zbO]at this;exact this) k (by unfold zeB;rw[zA];exact hk)
theorem outO_laid{g:zB}(h:checkG g=0)(k:Nat)(hk:k≤g.outs.length):LaidK (M2of g true) (zc5 g g.edges.length) (zeZ g) .tape k:=
 zfK (by
  have:=(outL_laid h _ lR_).ag
  rw[zL (by unfold zfj;rw[zA];exact zF _)]at this
  rw[zhB,zoD];exact this) (by simp) (fun k a ha=>by
  unfold zeZ at ha⊢;rw[zp]at ha;cases he:g.outs[k]? with
  |none=>rw[he]at ha;cases ha
  |some e=>
   rw[he]at ha;simp only[zai,zX]at ha;subst ha
   have:=zdA _ _ _ (za6 h).2.2.2.2.1 k e he
   rw[zb5,zbO]at this;exact this) k (by unfold zeZ;rw[zA];exact hk)
theorem zet{g:zB}(h:checkG g=0){k:Nat}{x:PrtV}(hx:g.ins[k]?=some x):∃y,g.acts[x.a.toNat]?=some y∧0≤x.a∧x.a<g.acts.length∧0≤x.p∧x.p<(insOf y).length:=by
 obtain⟨a1,a2,a3,a4,-⟩:=zdX (zdA _ _ _ (za6 h).2.2.2.1 k x hx);rw[zcX]at a2;rw[(zdh g false).2.1]at a2;have hy:=zk (l:=g.acts) (i:=x.a.toNat) (by omega)
 refine⟨_,hy,a1,a2,a3,?_⟩;rw[zcl,show M1of g false=edgesM g.edges (M0of g) false from rfl,zck,zee g false hy]at a4
 exact a4
theorem zg4{g:zB}(h:checkG g=0){k:Nat}{x:PrtV}(hx:g.outs[k]?=some x):∃y,g.acts[x.a.toNat]?=some y∧0≤x.a∧x.a<g.acts.length∧0≤x.p∧x.p<(outsOf y).length:=by
 obtain⟨a1,a2,a3,a4,-⟩:=zdX (zdA _ _ _ (za6 h).2.2.2.2.1 k x hx);rw[zcX]at a2;rw[(zdh g true).2.2.1]at a2;have hy:=zk (l:=g.acts) (i:=x.a.toNat) (by omega)
 refine⟨_,hy,a1,a2,a3,?_⟩;rw[zcl,zhB,show M1of g true=edgesM g.edges (M0of g) true from rfl,zck,zee g true hy]at a4
 exact a4
theorem zoE{g:zB}(h:checkG g=0){v p:Nat}{x:ActV}(hv:g.acts[v]?=some x)(hp:p<(insOf x).length):inI g g.ins.length v p≠ .no:=by
 have hag:=(inI_laid h _ lR_).ag;rw[zL (by unfold zeB;rw[zA];exact zF _)]at hag
 refine(hag v p).1 ?_;have ho:=(za6 h).2.2.2.2.2;unfold openE at ho;split at ho
 ·rename_i hall
  have h1:=zU.1 hall v (zM.2 (zu.1 hv).1);unfold zhg at h1;rw[zag]at h1;have h2:=h1.1;unfold rowsOf at h2;rw[if_pos rfl]at h2;have e3:zec g false=zco (M1of g false) (zeB g):=by
   unfold zec M2of;rw[zaz (by simp),zaw,zb5]
   rfl
  rw[e3]at h2;have hl:((zco (M1of g false) (zeB g)).getD v []).length=(insOf x).length:=by
   have:=zcl g.ins (M1of g false) v
   rw[zb5]at this;rw[zeB,this,show M1of g false=edgesM g.edges (M0of g) false from rfl,zck,zee g false hv]
   rfl
  have:=zU.1 h2 _ (zaF (h:=(by rw[hl];exact hp)))
  rw[zz,zk (by rw[hl];exact hp)]
  exact this
 ·cases ho
theorem znv{g:zB}(h:checkG g=0){v p:Nat}{x:ActV}(hv:g.acts[v]?=some x)(hp:p<(outsOf x).length):zcQ g g.outs.length v p≠ .no:=by
 have hag:=(outO_laid h _ lR_).ag;rw[zL (by unfold zeZ;rw[zA];exact zF _)]at hag
 refine(hag v p).1 ?_;have ho:=(za6 h).2.2.2.2.2;unfold openE at ho;split at ho
 ·rename_i hall
  have h1:=zU.1 hall v (zM.2 (zu.1 hv).1);unfold zhg at h1;rw[zag]at h1;have h2:=h1.2;unfold rowsOf at h2;rw[if_neg (by omega)]at h2
  have e3:zec g true=zco (M2of g true) (zeZ g):=by
   unfold zec;rw[zaw,zb5]
   rfl
  rw[e3]at h2;have hl:((zco (M2of g true) (zeZ g)).getD v []).length=(outsOf x).length:=by
   have:=zcl g.outs (M2of g true) v
   rw[zb5]at this;rw[zeZ,this,zhB,show M1of g true=edgesM g.edges (M0of g) true from rfl,zck,zee g true hv]
   rfl
  have:=zU.1 h2 _ (zaF (h:=(by rw[hl];exact hp)))
  rw[zz,zk (by rw[hl];exact hp)]
  exact this
 ·cases ho
end Go.Proofs.YtpmlljbebdidgaaGreatDoor
