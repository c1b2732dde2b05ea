/- Lemmas and walks for the claim: Gk, Em. -/
import Derived.Test.YtpmlljbebdidgaaGreatDoorA0
import Derived.Test.YtpmlljbebdidgaaGreatDoorA29
import Derived.Test.YtpmlljbebdidgaaGreatDoorA1
set_option maxRecDepth 100000
set_option maxHeartbeats 4000000
namespace Go.Proofs.YtpmlljbebdidgaaGreatDoor
open Go.RowKit
theorem gcheck_any(g:GraV)(w:World)(hg:g.good w w.heap.size):
  Calls Tryz.prog 21 #[.agg #[.string g.nm, .slice g.aA g.acts.length g.cA, .slice g.aE g.edges.length g.cE, .slice g.aI g.ins.length g.cI, .slice g.aO g.outs.length g.cO]] w fun e w'=>e= .returned (.int .i64 (checkG g))∧Below w.heap.size w w':=by
 obtain⟨E,hE⟩:∃E,checkG g=E:=⟨_,rfl⟩;rw[hE];have hs1:w.heap.size≤(w.alloc (.cells #[.string g.nm, .slice g.aA g.acts.length g.cA, .slice g.aE g.edges.length g.cE, .slice g.aI g.ins.length g.cI, .slice g.aO g.outs.length g.cO] 26)).heap.size:=by simp
 have b1:=bA_ w (.cells #[.string g.nm, .slice g.aA g.acts.length g.cA, .slice g.aE g.edges.length g.cE, .slice g.aI g.ins.length g.cI, .slice g.aO g.outs.length g.cO] 26);have k1:=(Blk.new w _ rfl 26 #[.string g.nm, .slice g.aA g.acts.length g.cA, .slice g.aE g.edges.length g.cE, .slice g.aI g.ins.length g.cI, .slice g.aO g.outs.length g.cO]);have g1:=(hg.below b1 lR_).more hs1;obtain⟨W1,hW1⟩:=wN_ b1;rw[hW1]at b1 k1 g1;have g0:=k1.cellL 0 rfl;have g2:=k1.cellL 1 rfl;have g3:=k1.cellL 2 rfl;have g4:=k1.cellL 3 rfl;have g5:=k1.cellL 4 rfl;have HG1:=Lh g1;have HB1:=Lh b1;have HE:=Lh hE;clear g1 b1 hs1 hg k1 hE
 go_enter Tryz.func21, Tryz.ntmps21
 go_wp2_with fail
 try rw[hW1]
 refine(gfind_any g W1 HG1.out).mono ?_;rw[HE.out];rintro e w2 ⟨a,b,c,rfl,hb2⟩;have hz:=HB1.out.size;have hz2:=hb2.size;have hB:=Lh ((HB1.out.trans (hb2.mono hz)).alloc (by omega) (.cells #[.int .u8 a, .int .i64 b, .int .i64 c] 128))
 clear hb2 HB1 HG1
 go_wp2_with fail;refine bodyPost_ret (v:= .int .i64 E) (by simp[results, Tryz.results21,go_sem]) rfl ?_
 exact⟨rfl,hB.out⟩
theorem actors_all:∀(xs:List ActV) (ns:List (List UInt8)),actorsE xs ns=0→∀x∈xs,(shapeR x.tag x.ps).2.2=0
 |[],_,_,_,hx=>by cases hx
 |y::xs,ns,h,x,hx=>by
  rw[actorsE]at h;by_cases h0:actE ns y=0
  ·rw[if_pos h0]at h;rcases List.mem_cons.1 hx with rfl|hx
   ·unfold actE at h0;by_cases h1:nameE ns x.nm=0
    ·rw[if_pos h1]at h0;exact h0
    ·rw[if_neg h1]at h0;exact absurd h0 h1
   ·exact actors_all xs _ h x hx
  ·rw[if_neg h0]at h;exact absurd h h0
def edgeIn(M:Bool→List (List Bool))(e:GEdg):Prop:=
 (0≤e.f∧e.f<(M true).length∧0≤e.fp∧e.fp<((M true).getD e.f.toNat []).length)∧(0≤e.t∧e.t<(M false).length∧0≤e.tp∧e.tp<((M false).getD e.t.toNat []).length)∧e.st.length≤256
theorem edges_all:∀(xs:List GEdg) (M:Bool→List (List Bool)),edgesE xs M=0→∀e∈xs,edgeIn M e
 |[],_,_,_,he=>by cases he
 |y::xs,M,h,e,he=>by
  rw[edgesE]at h;by_cases h0:edgeE M y=0
  ·rw[if_pos h0]at h;rcases List.mem_cons.1 he with rfl|he
   ·unfold edgeE at h0;by_cases h1:takeE (M true) e.f e.fp=0
    ·rw[if_pos h1]at h0;by_cases h2:takeE (M false) e.t e.tp=0
     ·rw[if_pos h2]at h0;obtain⟨a1,a2,a3,a4,-⟩:=take_ok h1;obtain⟨b1,b2,b3,b4,-⟩:=take_ok h2;refine⟨⟨a1,a2,a3,a4⟩,⟨b1,b2,b3,b4⟩,?_⟩;by_cases h3:256<e.st.length
      ·rw[if_pos h3]at h0;cases h0
      ·omega
     ·rw[if_neg h2]at h0;exact absurd h0 h2
    ·rw[if_neg h1]at h0;exact absurd h0 h1
   ·have:=edges_all xs _ h e he
    have hl:∀s,(edgeM M y s).length=(M s).length:=fun s=>edgesM_length [y] M s
    have hr:∀s j,((edgeM M y s).getD j []).length=((M s).getD j []).length:=fun s j=>row_len_edges [y] M s j
    unfold edgeIn at this⊢
    simpa only[hl,hr]using this
  ·rw[if_neg h0]at h;exact absurd h h0
def insOf(x:ActV):List Int:=(shapeR x.tag x.ps).1
def outsOf(x:ActV):List Int:=(shapeR x.tag x.ps).2.1
def outAt(g:GraV)(a p:Int):Int:=(((g.acts[a.toNat]?).map outsOf).getD []).getD p.toNat 0
def inAt(g:GraV)(a p:Int):Int:=(((g.acts[a.toNat]?).map insOf).getD []).getD p.toNat 0
def garcOf(g:GraV)(e:GEdg):ArcV:=⟨e.f,e.t,outAt g e.f e.fp,inAt g e.t e.tp,e.st.length⟩
def garcs(g:GraV):List ArcV:=g.edges.map (garcOf g)
theorem garcs_length(g:GraV):(garcs g).length=g.edges.length:=by simp[garcs]
theorem checkG_head{g:GraV}(h:checkG g=0):headE g=0∧actorsE g.acts []=0∧edgesE g.edges (M0of g)=0:=by
 unfold checkG at h;by_cases h1:headE g=0
 ·rw[if_pos h1]at h;by_cases h2:actorsE g.acts []=0
  ·rw[if_pos h2]at h;by_cases h3:edgesE g.edges (M0of g)=0
   ·exact⟨h1,h2,h3⟩
   ·rw[if_neg h3]at h;exact absurd h h3
  ·rw[if_neg h2]at h;exact absurd h h2
 ·rw[if_neg h1]at h;exact absurd h h1
theorem side_row(g:GraV)(s:Bool){j:Nat}{x:ActV}(hx:g.acts[j]?=some x):((M0of g s).getD j []).length=portsN s x:=by
 unfold M0of sideM;rw[List.getD_eq_getElem?_getD,List.getElem?_map,hx];simp
theorem checkG_edge{g:GraV}(h:checkG g=0){e:GEdg}(he:e∈g.edges):∃x y,g.acts[e.f.toNat]?=some x∧g.acts[e.t.toNat]?=some y∧0≤e.f∧e.f<g.acts.length∧0≤e.t∧e.t<g.acts.length∧
  0≤e.fp∧e.fp<(outsOf x).length∧0≤e.tp∧e.tp<(insOf y).length∧e.st.length≤256:=by
 obtain⟨-,-,h3⟩:=checkG_head h;obtain⟨⟨a1,a2,a3,a4⟩,⟨b1,b2,b3,b4⟩,hs⟩:=edges_all _ _ h3 e he;rw[(side_len g true).1]at a2;rw[(side_len g false).1]at b2;have hx:=List.getElem?_eq_getElem (l:=g.acts) (i:=e.f.toNat) (by omega)
 have hy:=List.getElem?_eq_getElem (l:=g.acts) (i:=e.t.toNat) (by omega)
 rw[side_row g true hx]at a4;rw[side_row g false hy]at b4;exact⟨_,_,hx,hy,a1,a2,b1,b2,a3,a4,b3,b4,hs⟩
def rateOk(r:List Int×List Int×Int):Prop:=(∀x∈r.1,1≤x∧x≤64)∧(∀x∈r.2.1,1≤x∧x≤64)
theorem shape_rate(tag:Int)(ps:List Int):rateOk (shapeR tag ps):=by
 have hw:∀{n k:Int},withinB n k=true→1≤n∧n≤k:=fun h=>by unfold withinB at h;simp at h;omega
 have hp:∀{l:Nat} {n m:Int},pairB l n m=true→1≤m∧m≤64∧1≤n*m∧n*m≤64:=fun h=>by
  have h:=pairB_parts h;refine⟨h.2.2.1,h.2.2.2.1,?_,h.2.2.2.2⟩
  have:=Int.mul_le_mul h.1 h.2.2.1 (by omega) (by omega)
  omega
 have h1:∀r∈([1]:List Int),1≤r∧r≤64:=fun r hr=>by simp at hr;omega
 have h11:∀r∈([1,1]:List Int),1≤r∧r≤64:=fun r hr=>by simp at hr;omega
 have h0:∀r∈([]:List Int),1≤r∧r≤64:=fun r hr=>by cases hr
 have hn:∀n:Int,1≤n→n≤64→∀r∈[n],1≤r∧r≤64:=fun n a b r hr=>by simp at hr;omega
 have hR:∀(k:Nat) (n:Int),1≤n→n≤64→∀r∈List.replicate k n,1≤r∧r≤64:=fun k n a b r hr=>by obtain⟨-,rfl⟩:=List.mem_replicate.1 hr;exact⟨a,b⟩
 unfold shapeR;split
 ·exact⟨h0,h0⟩
 ·unfold shapeB;split
  ·exact⟨h1,h1⟩
  split
  ·rename_i q;have:=hw q.2.2;exact⟨h1,hn _ this.1 this.2⟩
  split
  ·rename_i q;have:=hw q.2.2;exact⟨hn _ this.1 this.2,h1⟩
  split
  ·rename_i q;have:=hp q.2;exact⟨hR _ _ this.1 this.2.1,hn _ this.2.2.1 this.2.2.2⟩
  split
  ·rename_i q;have:=hp q.2;exact⟨hn _ this.2.2.1 this.2.2.2,hR _ _ this.1 this.2.1⟩
  split
  ·exact⟨hR _ _ (by omega) (by omega),h1⟩
  split
  ·exact⟨h11,h1⟩
  split
  ·exact⟨h1,hR _ _ (by omega) (by omega)⟩
  split
  ·exact⟨h0,h1⟩
  split
  ·rename_i q;have:=hw q.2.2;exact⟨hn _ this.1 this.2,h0⟩
  ·exact⟨h0,h0⟩
theorem checkG_net{g:GraV}(h:checkG g=0):checkF g.acts.length (garcs g)=0:=by
 obtain⟨hh,hA,hE⟩:=checkG_head h;obtain⟨-,l1,l2,l3,-,-⟩:=head_ok hh;have key:∀xs:List GEdg,(∀e∈xs,e∈g.edges)→arcsF g.acts.length (xs.map (garcOf g))=0:=by
  intro xs
  induction xs with
  |nil=>intro _;rfl
  |cons e xs ih=>
   intro hx;rw[List.map_cons,arcsF,if_pos ?_]
   ·exact ih fun e he=>hx e (List.mem_cons_of_mem _ he)
   ·obtain⟨x,y,ex,ey,f1,f2,t1,t2,p1,p2,q1,q2,hs⟩:=checkG_edge h (hx e (List.mem_cons_self ..));have ro:=(shape_rate x.tag x.ps).2;have ri:=(shape_rate y.tag y.ps).1;have hg1:1≤outAt g e.f e.fp∧outAt g e.f e.fp≤64:=by
     unfold outAt;rw[ex,Option.map_some,Option.getD_some,List.getD_eq_getElem?_getD,List.getElem?_eq_getElem (by omega:e.fp.toNat<(outsOf x).length),Option.getD_some]
     exact ro _ (List.getElem_mem _)
    have hg2:1≤inAt g e.t e.tp∧inAt g e.t e.tp≤64:=by
     unfold inAt;rw[ey,Option.map_some,Option.getD_some,List.getD_eq_getElem?_getD,List.getElem?_eq_getElem (by omega:e.tp.toNat<(insOf y).length),Option.getD_some]
     exact ri _ (List.getElem_mem _)
    unfold arcF garcOf;rw[if_neg (by show¬(e.f<0∨e.t<0∨(g.acts.length:Int)≤e.f∨(g.acts.length:Int)≤e.t);omega),if_neg (by show¬(outAt g e.f e.fp<1∨inAt g e.t e.tp<1∨64<outAt g e.f e.fp∨64<inAt g e.t e.tp);omega),if_neg (by show¬((e.st.length:Int)<0∨256<(e.st.length:Int));omega)]
 unfold checkF;rw[if_neg (by omega),if_neg (by rw[garcs_length];omega)]
 exact key g.edges fun _ h=>h
inductive LkV
 |no|que (e:Nat)|tape (o:Nat)
abbrev LM:=Nat→Nat→LkV
def LM.put(D:LM)(v p:Nat)(x:LkV):LM:=fun v' p'=>if v'=v∧p'=p then x else D v' p'
theorem LM.put_self(D:LM)(v p:Nat)(x:LkV):D.put v p x v p=x:=if_pos ⟨rfl,rfl⟩
theorem LM.put_other(D:LM){v p v' p':Nat}(x:LkV)(h:¬(v'=v∧p'=p)):D.put v p x v' p'=D v' p':=if_neg h
def layL(D0:LM)(ps:List (Int×Int))(lab:Nat→LkV):Nat→LM
 |0=>D0
 |k+1=>match ps[k]? with
  |some a=>(layL D0 ps lab k).put a.1.toNat a.2.toNat (lab k)
  |none=>layL D0 ps lab k
theorem layL_step(D0:LM){ps:List (Int×Int)}(lab:Nat→LkV){k:Nat}{a:Int×Int}(h:ps[k]?=some a):layL D0 ps lab (k+1)=(layL D0 ps lab k).put a.1.toNat a.2.toNat (lab k):=by
 rw[layL,h]
def takesM(M:List (List Bool))(ps:List (Int×Int)):List (List Bool):=ps.foldl (fun M a=>takeM M a.1 a.2) M
theorem takesM_step{ps:List (Int×Int)}{k:Nat}{a:Int×Int}(h:ps[k]?=some a)(M:List (List Bool)):takesM M (ps.take (k+1))=takeM (takesM M (ps.take k)) a.1 a.2:=by
 unfold takesM;rw[List.take_add_one,h,List.foldl_append]
 rfl
def Agree(M:List (List Bool))(D:LM):Prop:=∀v p,(M.getD v []).getD p false=true↔D v p≠ .no
theorem Agree.take{M:List (List Bool)}{D:LM}(h:Agree M D){a p:Int}(ht:takeE M a p=0){x:LkV}(hx:x≠ .no):D a.toNat p.toNat= .no∧Agree (takeM M a p) (D.put a.toNat p.toNat x):=by
 obtain⟨a1,a2,a3,a4,a5⟩:=take_ok ht;have hn:D a.toNat p.toNat= .no:=Classical.byContradiction fun hc=>by
  have:=(h _ _).2 hc
  rw[this]at a5;cases a5
 refine⟨hn,fun v q=>?_⟩
 unfold takeM;rw[if_pos ht];by_cases hv:v=a.toNat
 ·subst hv;rw[getD_set_self (by omega)]
  by_cases hq:q=p.toNat
  ·subst hq;rw[LM.put_self,List.getD_eq_getElem?_getD,List.getElem?_set,if_pos rfl,if_pos (by omega)]
   simp[hx]
  ·rw[LM.put_other _ _ (by omega),List.getD_eq_getElem?_getD,List.getElem?_set,if_neg (by omega),←List.getD_eq_getElem?_getD]
   exact h _ _
 ·rw[LM.put_other _ _ (by omega),getD_set_other (by omega)]
  exact h _ _
structure LaidK(M0:List (List Bool))(D0:LM)(ps:List (Int×Int))(lab:Nat→LkV)(k:Nat):Prop where
 ag:Agree (takesM M0 (ps.take k)) (layL D0 ps lab k)
 at_:∀j a,j<k→ps[j]?=some a→layL D0 ps lab k a.1.toNat a.2.toNat=lab j
 old:∀v p,D0 v p≠ .no→layL D0 ps lab k v p=D0 v p
 from_:∀v p,layL D0 ps lab k v p=D0 v p∨∃j a,j<k∧ps[j]?=some a∧a.1.toNat=v∧a.2.toNat=p∧layL D0 ps lab k v p=lab j
theorem laid_all{M0:List (List Bool)}{D0:LM}{ps:List (Int×Int)}{lab:Nat→LkV}(h0:Agree M0 D0)(hl:∀j,lab j≠ .no)(ht:∀k a,ps[k]?=some a→takeE (takesM M0 (ps.take k)) a.1 a.2=0):∀k,k≤ps.length→LaidK M0 D0 ps lab k:=by
 intro k
 induction k with
 |zero=>exact fun _=>⟨h0,fun j a hj=>absurd hj (by omega),fun _ _ _=>rfl,fun _ _=> .inl rfl⟩
 |succ k ih=>
  intro hk;have H:=ih (by omega)
  obtain⟨a,ha⟩:∃a,ps[k]?=some a:=⟨ps[k],List.getElem?_eq_getElem (by omega)⟩
  obtain⟨hn,hag⟩:=H.ag.take (ht k a ha) (hl k);refine⟨?_,fun j b hj hb=>?_,fun v p hv=>?_,fun v p=>?_⟩
  ·rw[takesM_step ha,layL_step _ _ ha];exact hag
  ·rw[layL_step _ _ ha];by_cases hjk:j=k
   ·subst hjk;rw[ha]at hb;obtain rfl:=Option.some.inj hb;rw[LM.put_self]
   ·have h1:=H.at_ j b (by omega) hb
    rw[LM.put_other]
    ·exact h1
    ·rintro⟨e1,e2⟩;rw[e1,e2,hn]at h1;exact hl j h1.symm
  ·rw[layL_step _ _ ha];have h1:=H.old v p hv;rw[LM.put_other]
   ·exact h1
   ·rintro⟨rfl,rfl⟩;rw[hn]at h1;exact hv h1.symm
  ·rw[layL_step _ _ ha];by_cases hvp:v=a.1.toNat∧p=a.2.toNat
   ·obtain⟨rfl,rfl⟩:=hvp;exact .inr ⟨k,a,by omega,ha,rfl,rfl,LM.put_self _ _ _ _⟩
   ·rw[LM.put_other _ _ hvp];rcases H.from_ v p with h1|⟨j,b,h1,h2,h3,h4,h5⟩
    ·exact .inl h1
    ·exact .inr ⟨j,b,by omega,h2,h3,h4,h5⟩
def noL:LM:=fun _ _=> .no
def eSrc(g:GraV):List (Int×Int):=g.edges.map fun e=>(e.f,e.fp)
def eDst(g:GraV):List (Int×Int):=g.edges.map fun e=>(e.t,e.tp)
def iDst(g:GraV):List (Int×Int):=g.ins.map fun x=>(x.a,x.p)
def oSrc(g:GraV):List (Int×Int):=g.outs.map fun x=>(x.a,x.p)
def outL(g:GraV)(k:Nat):LM:=layL noL (eSrc g) .que k
def inL(g:GraV)(k:Nat):LM:=layL noL (eDst g) .que k
def inI(g:GraV)(k:Nat):LM:=layL (inL g g.edges.length) (iDst g) (fun j=> .que (g.edges.length+j)) k
def outO(g:GraV)(k:Nat):LM:=layL (outL g g.edges.length) (oSrc g) .tape k
theorem edges_takes:∀(xs:List GEdg) (M:Bool→List (List Bool)),edgesE xs M=0→∀(k:Nat) (e:GEdg),xs[k]?=some e→edgeE (edgesM (xs.take k) M) e=0
 |[],_,_,k,e,he=>by simp at he
 |y::xs,M,h,k,e,he=>by
  rw[edgesE]at h;by_cases h0:edgeE M y=0
  ·rw[if_pos h0]at h;cases k with
   |zero=>
    simp only[List.getElem?_cons_zero,Option.some.injEq]at he;subst he;exact h0
   |succ k=>exact edges_takes xs _ h k e (by simpa using he)
  ·rw[if_neg h0]at h;exact absurd h h0
theorem ports_takes:∀(xs:List PrtV) (ns:List (List UInt8)) (M:List (List Bool)),portsE xs ns M=0→∀(k:Nat) (x:PrtV),xs[k]?=some x→takeE (portsM (xs.take k) M) x.a x.p=0
 |[],_,_,_,k,e,he=>by simp at he
 |y::xs,ns,M,h,k,e,he=>by
  rw[portsE]at h;by_cases h0:portE ns M y=0
  ·rw[if_pos h0]at h;cases k with
   |zero=>
    simp only[List.getElem?_cons_zero,Option.some.injEq]at he;subst he;unfold portE at h0;by_cases h1:nameE ns y.nm=0
    ·rw[if_pos h1]at h0;exact h0
    ·rw[if_neg h1]at h0;exact absurd h0 h1
   |succ k=>exact ports_takes xs _ _ h k e (by simpa using he)
  ·rw[if_neg h0]at h;exact absurd h h0
theorem edgesM_true:∀(xs:List GEdg) (M:Bool→List (List Bool)),edgesM xs M true=takesM (M true) (xs.map fun e=>(e.f,e.fp))
 |[],_=>rfl
 |y::xs,M=>edgesM_true xs (edgeM M y)
theorem edgesM_false:∀(xs:List GEdg) (M:Bool→List (List Bool)),edgesM xs M false=takesM (M false) (xs.map fun e=>(e.t,e.tp))
 |[],_=>rfl
 |y::xs,M=>edgesM_false xs (edgeM M y)
theorem portsM_takes:∀(xs:List PrtV) (M:List (List Bool)),portsM xs M=takesM M (xs.map fun x=>(x.a,x.p))
 |[],_=>rfl
 |y::xs,M=>portsM_takes xs (takeM M y.a y.p)
theorem checkG_all{g:GraV}(h:checkG g=0):headE g=0∧actorsE g.acts []=0∧edgesE g.edges (M0of g)=0∧portsE g.ins (namesA g.acts) (M1of g false)=0∧portsE g.outs (namesA g.acts++namesP g.ins) (M2of g true)=0∧openE g.acts.length (M3of g)=0:=by
 unfold checkG at h;by_cases h1:headE g=0
 ·rw[if_pos h1]at h;by_cases h2:actorsE g.acts []=0
  ·rw[if_pos h2]at h;by_cases h3:edgesE g.edges (M0of g)=0
   ·rw[if_pos h3]at h;by_cases h4:portsE g.ins (namesA g.acts) (M1of g false)=0
    ·rw[if_pos h4]at h;by_cases h5:portsE g.outs (namesA g.acts++namesP g.ins) (M2of g true)=0
     ·rw[if_pos h5]at h;exact⟨h1,h2,h3,h4,h5,h⟩
     ·rw[if_neg h5]at h;exact absurd h h5
    ·rw[if_neg h4]at h;exact absurd h h4
   ·rw[if_neg h3]at h;exact absurd h h3
  ·rw[if_neg h2]at h;exact absurd h h2
 ·rw[if_neg h1]at h;exact absurd h h1
theorem agree_none(g:GraV)(s:Bool):Agree (M0of g s) noL:=fun v p=>by
 refine⟨fun h=>?_,fun h=>absurd rfl h⟩
 unfold M0of sideM at h;rw[List.getD_eq_getElem?_getD (l:=List.map _ _),List.getElem?_map]at h;cases hx:g.acts[v]? with
 |none=>rw[hx]at h;simp at h
 |some x=>
  rw[hx]at h;simp only[Option.map_some,Option.getD_some,List.getD_eq_getElem?_getD,List.getElem?_replicate]at h;split at h<;>simp at h
theorem edge_takes{g:GraV}(h:checkG g=0){k:Nat}{e:GEdg}(he:g.edges[k]?=some e):takeE (edgesM (g.edges.take k) (M0of g) true) e.f e.fp=0∧takeE (edgesM (g.edges.take k) (M0of g) false) e.t e.tp=0:=by
 have h0:=edges_takes _ _ (checkG_all h).2.2.1 k e he;unfold edgeE at h0;by_cases h1:takeE (edgesM (g.edges.take k) (M0of g) true) e.f e.fp=0
 ·rw[if_pos h1]at h0;by_cases h2:takeE (edgesM (g.edges.take k) (M0of g) false) e.t e.tp=0
  ·exact⟨h1,h2⟩
  ·rw[if_neg h2]at h0;exact absurd h0 h2
 ·rw[if_neg h1]at h0;exact absurd h0 h1
theorem outL_laid{g:GraV}(h:checkG g=0)(k:Nat)(hk:k≤g.edges.length):LaidK (M0of g true) noL (eSrc g) .que k:=
 laid_all (agree_none g true) (by simp) (fun k a ha=>by
  unfold eSrc at ha⊢;rw[List.getElem?_map]at ha;cases he:g.edges[k]? with
  |none=>rw[he]at ha;cases ha
  |some e=>
   rw[he]at ha;simp only[Option.map_some,Option.some.injEq]at ha;subst ha
   have:=(edge_takes h he).1
   rw[edgesM_true,List.map_take]at this;exact this) k (by unfold eSrc;rw[List.length_map];exact hk)
theorem inL_laid{g:GraV}(h:checkG g=0)(k:Nat)(hk:k≤g.edges.length):LaidK (M0of g false) noL (eDst g) .que k:=
 laid_all (agree_none g false) (by simp) (fun k a ha=>by
  unfold eDst at ha⊢;rw[List.getElem?_map]at ha;cases he:g.edges[k]? with
  |none=>rw[he]at ha;cases ha
  |some e=>
   rw[he]at ha;simp only[Option.map_some,Option.some.injEq]at ha;subst ha
   have:=(edge_takes h he).2
   rw[edgesM_false,List.map_take]at this;exact this) k (by unfold eDst;rw[List.length_map];exact hk)
theorem M1_false(g:GraV):M1of g false=takesM (M0of g false) (eDst g):=edgesM_false _ _
theorem M1_true(g:GraV):M1of g true=takesM (M0of g true) (eSrc g):=edgesM_true _ _
theorem M2_true(g:GraV):M2of g true=M1of g true:=updB_other (by simp)
theorem inI_laid{g:GraV}(h:checkG g=0)(k:Nat)(hk:k≤g.ins.length):LaidK (M1of g false) (inL g g.edges.length) (iDst g) (fun j=> .que (g.edges.length+j)) k:=
 laid_all (by
  have:=(inL_laid h _ lR_).ag
  rw[List.take_of_length_le (by unfold eDst;rw[List.length_map];exact Nat.le_refl _)]at this
  rw[M1_false];exact this) (by simp) (fun k a ha=>by
  unfold iDst at ha⊢;rw[List.getElem?_map]at ha;cases he:g.ins[k]? with
  |none=>rw[he]at ha;cases ha
  |some e=>
   rw[he]at ha;simp only[Option.map_some,Option.some.injEq]at ha;subst ha
   have:=ports_takes _ _ _ (checkG_all h).2.2.2.1 k e he
   rw[portsM_takes,List.map_take]at this;exact this) k (by unfold iDst;rw[List.length_map];exact hk)
theorem outO_laid{g:GraV}(h:checkG g=0)(k:Nat)(hk:k≤g.outs.length):LaidK (M2of g true) (outL g g.edges.length) (oSrc g) .tape k:=
 laid_all (by
  have:=(outL_laid h _ lR_).ag
  rw[List.take_of_length_le (by unfold eSrc;rw[List.length_map];exact Nat.le_refl _)]at this
  rw[M2_true,M1_true];exact this) (by simp) (fun k a ha=>by
  unfold oSrc at ha⊢;rw[List.getElem?_map]at ha;cases he:g.outs[k]? with
  |none=>rw[he]at ha;cases ha
  |some e=>
   rw[he]at ha;simp only[Option.map_some,Option.some.injEq]at ha;subst ha
   have:=ports_takes _ _ _ (checkG_all h).2.2.2.2.1 k e he
   rw[portsM_takes,List.map_take]at this;exact this) k (by unfold oSrc;rw[List.length_map];exact hk)
theorem checkG_in{g:GraV}(h:checkG g=0){k:Nat}{x:PrtV}(hx:g.ins[k]?=some x):∃y,g.acts[x.a.toNat]?=some y∧0≤x.a∧x.a<g.acts.length∧0≤x.p∧x.p<(insOf y).length:=by
 obtain⟨a1,a2,a3,a4,-⟩:=take_ok (ports_takes _ _ _ (checkG_all h).2.2.2.1 k x hx);rw[portsM_length]at a2;rw[(side_len g false).2.1]at a2;have hy:=List.getElem?_eq_getElem (l:=g.acts) (i:=x.a.toNat) (by omega)
 refine⟨_,hy,a1,a2,a3,?_⟩;rw[row_len_ports,show M1of g false=edgesM g.edges (M0of g) false from rfl,row_len_edges,side_row g false hy]at a4
 exact a4
theorem checkG_out{g:GraV}(h:checkG g=0){k:Nat}{x:PrtV}(hx:g.outs[k]?=some x):∃y,g.acts[x.a.toNat]?=some y∧0≤x.a∧x.a<g.acts.length∧0≤x.p∧x.p<(outsOf y).length:=by
 obtain⟨a1,a2,a3,a4,-⟩:=take_ok (ports_takes _ _ _ (checkG_all h).2.2.2.2.1 k x hx);rw[portsM_length]at a2;rw[(side_len g true).2.2.1]at a2;have hy:=List.getElem?_eq_getElem (l:=g.acts) (i:=x.a.toNat) (by omega)
 refine⟨_,hy,a1,a2,a3,?_⟩;rw[row_len_ports,M2_true,show M1of g true=edgesM g.edges (M0of g) true from rfl,row_len_edges,side_row g true hy]at a4
 exact a4
theorem full_in{g:GraV}(h:checkG g=0){v p:Nat}{x:ActV}(hv:g.acts[v]?=some x)(hp:p<(insOf x).length):inI g g.ins.length v p≠ .no:=by
 have hag:=(inI_laid h _ lR_).ag;rw[List.take_of_length_le (by unfold iDst;rw[List.length_map];exact Nat.le_refl _)]at hag
 refine(hag v p).1 ?_;have ho:=(checkG_all h).2.2.2.2.2;unfold openE at ho;split at ho
 ·rename_i hall
  have h1:=List.all_eq_true.1 hall v (List.mem_range.2 (List.getElem?_eq_some_iff.1 hv).1);unfold fullB at h1;rw[Bool.and_eq_true]at h1;have h2:=h1.1;unfold rowsOf at h2;rw[if_pos rfl]at h2;have e3:M3of g false=takesM (M1of g false) (iDst g):=by
   unfold M3of M2of;rw[updB_other (by simp),updB_self,portsM_takes]
   rfl
  rw[e3]at h2;have hl:((takesM (M1of g false) (iDst g)).getD v []).length=(insOf x).length:=by
   have:=row_len_ports g.ins (M1of g false) v
   rw[portsM_takes]at this;rw[iDst,this,show M1of g false=edgesM g.edges (M0of g) false from rfl,row_len_edges,side_row g false hv]
   rfl
  have:=List.all_eq_true.1 h2 _ (List.getElem_mem (h:=(by rw[hl];exact hp)))
  rw[List.getD_eq_getElem?_getD,List.getElem?_eq_getElem (by rw[hl];exact hp)]
  exact this
 ·cases ho
theorem full_out{g:GraV}(h:checkG g=0){v p:Nat}{x:ActV}(hv:g.acts[v]?=some x)(hp:p<(outsOf x).length):outO g g.outs.length v p≠ .no:=by
 have hag:=(outO_laid h _ lR_).ag;rw[List.take_of_length_le (by unfold oSrc;rw[List.length_map];exact Nat.le_refl _)]at hag
 refine(hag v p).1 ?_;have ho:=(checkG_all h).2.2.2.2.2;unfold openE at ho;split at ho
 ·rename_i hall
  have h1:=List.all_eq_true.1 hall v (List.mem_range.2 (List.getElem?_eq_some_iff.1 hv).1);unfold fullB at h1;rw[Bool.and_eq_true]at h1;have h2:=h1.2;unfold rowsOf at h2;rw[if_neg (by omega)]at h2
  have e3:M3of g true=takesM (M2of g true) (oSrc g):=by
   unfold M3of;rw[updB_self,portsM_takes]
   rfl
  rw[e3]at h2;have hl:((takesM (M2of g true) (oSrc g)).getD v []).length=(outsOf x).length:=by
   have:=row_len_ports g.outs (M2of g true) v
   rw[portsM_takes]at this;rw[oSrc,this,M2_true,show M1of g true=edgesM g.edges (M0of g) true from rfl,row_len_edges,side_row g true hv]
   rfl
  have:=List.all_eq_true.1 h2 _ (List.getElem_mem (h:=(by rw[hl];exact hp)))
  rw[List.getD_eq_getElem?_getD,List.getElem?_eq_getElem (by rw[hl];exact hp)]
  exact this
 ·cases ho
end Go.Proofs.YtpmlljbebdidgaaGreatDoor
