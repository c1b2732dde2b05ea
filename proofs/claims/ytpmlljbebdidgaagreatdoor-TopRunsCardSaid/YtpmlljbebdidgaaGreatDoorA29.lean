/- Lemmas and walks for the claim: Hb, Ta, Eq. -/
import Derived.Test.YtpmlljbebdidgaaGreatDoorA0
import Derived.Test.YtpmlljbebdidgaaGreatDoorA12
import Derived.Test.YtpmlljbebdidgaaGreatDoorA28
import Derived.Test.YtpmlljbebdidgaaGreatDoorA25
set_option linter.unusedSimpArgs false
set_option maxHeartbeats 4000000
namespace Go.Proofs.YtpmlljbebdidgaaGreatDoor
open Go.RowKit
theorem znL{ars:List ArcV}{n:Nat}{rs:List Int}{pick:(Nat→Int)→Int}(hp:zhq ars n rs pick):∀(f:Nat) (F:Nat→Int),fireN ars n F (runF pick f F).1=(runF pick f F).1.length∧zcF ars n F (runF pick f F).1=(runF pick f F).2:=by
 intro f
 induction f with
 |zero=>intro F;exact⟨rfl,rfl⟩
 |succ f ih=>
  intro F;simp only[runF];split
  ·rename_i h
   obtain⟨v,hv,_,_,hm⟩:=hp F h;obtain⟨h1,h2⟩:=ih (bump F (pick F).toNat);rw[hv]at h1 h2⊢;simp only[fireN,zcF,hm,if_true,zaG];exact⟨by rw[h1],h2⟩
  ·exact⟨rfl,rfl⟩
def zcr(rs:List Int)(p:Nat)(F:Nat→Int):Nat→Int:=fun v=>p*repAt rs v+F v
theorem zh5{ars:List ArcV}{n:Nat}{rs:List Int}(hN:zbX n ars)(he:ars.all (zcG rs)=true)(p:Nat)(F:Nat→Int){i:Nat}(hi:i<ars.length):tokI ars (zcr rs p F) i=tokI ars F i:=by
 have ha:=zfe hi;have h1:=zU.1 he _ ha;obtain⟨g1,g2,g3,g4,-⟩:=hN.ok _ ha;unfold tokI zc6 zcr;generalize arcAt ars i=a at*;unfold zcG at h1;rw[decide_eq_true_eq]at h1;have e1:repAt rs (a.f.toNat:Int)=repAt rs a.f:=by rw[zbG g1]
 have e2:repAt rs (a.t.toNat:Int)=repAt rs a.t:=by rw[zbG g3]
 rw[e1,e2,zbx,zbx];have e3:a.g*((p:Int)*repAt rs a.f)=a.k*((p:Int)*repAt rs a.t):=by
  rw[Int.mul_left_comm,h1,Int.mul_left_comm]
 omega
theorem zmo{ars:List ArcV}{n:Nat}{rs:List Int}(hN:zbX n ars)(he:ars.all (zcG rs)=true)(p:Nat)(F:Nat→Int)(v:Int):mayB ars n (zcr rs p F) v=mayB ars n F v:=by
 by_cases hv:0≤v∧v<n
 ·obtain⟨u,rfl⟩:∃u:Nat,v=u:=⟨v.toNat,by omega⟩
  rw[zav,zfW,zfW];constructor
  ·rintro⟨h1,h2⟩;exact⟨h1,fun i hi ht=>by rw[←zh5 hN he p F hi];exact h2 i hi ht⟩
  ·rintro⟨h1,h2⟩;exact⟨h1,fun i hi ht=>by rw[zh5 hN he p F hi];exact h2 i hi ht⟩
 ·unfold mayB;rw[decide_eq_false hv]
  rfl
theorem zkZ(rs:List Int)(p:Nat)(F:Nat→Int)(v:Nat):bump (zcr rs p F) v=zcr rs p (bump F v):=by
 funext j
 unfold bump zcr;by_cases h:j=v
 ·subst h;rw[zaW,zaW];omega
 ·rw[zaI h,zaI h]
theorem zk0{ars:List ArcV}{n:Nat}{rs:List Int}(hN:zbX n ars)(he:ars.all (zcG rs)=true)(p:Nat):∀(xs:List Int) (F:Nat→Int),fireN ars n (zcr rs p F) xs=fireN ars n F xs∧zcF ars n (zcr rs p F) xs=zcr rs p (zcF ars n F xs):=by
 intro xs
 induction xs with
 |nil=>intro F;exact⟨rfl,rfl⟩
 |cons x xs ih=>
  intro F;simp only[fireN,zcF,zmo hN he,zkZ];obtain⟨h1,h2⟩:=ih (bump F x.toNat);split
  ·exact⟨by rw[h1],h2⟩
  ·exact⟨rfl,rfl⟩
theorem zmp{n:Nat}{ars:List ArcV}{rs:List Int}{G:Nat→Int}(hlen:rs.length=n)(hle:∀j,j<n→G j≤repAt rs j)(hfar:∀j,n≤j→G j=0)(hb:blocksF ars n G (leftF rs G) n=[]):G=fun v:Nat=>repAt rs v:=by
 funext v
 by_cases hv:v<n
 ·have h1:=hle v hv;have h2:¬0<leftF rs G v:=by
   intro hl;unfold blocksF at hb;rw[List.map_eq_nil_iff,List.filter_eq_nil_iff]at hb;exact hb v (zM.2 hv) (by simpa using hl)
  unfold leftF at h2;omega
 ·rw[hfar v (by omega)]
  unfold repAt;rw[zE,zD (by omega)]
  rfl
theorem zmq{n:Nat}{ars:List ArcV}{rs ps:List Int}(h:wrongF n ars rs ps=0)(hb:(ansF (pickS ars (n:Int).toNat rs ps) n ars rs ps).2=[]):
  (∀p:Nat,fireN ars n (zcr rs p fun _=>0) (ansF (pickS ars (n:Int).toNat rs ps) n ars rs ps).1=(ansF (pickS ars (n:Int).toNat rs ps) n ars rs ps).1.length∧
   zcF ars n (zcr rs p fun _=>0) (ansF (pickS ars (n:Int).toNat rs ps) n ars rs ps).1=zcr rs (p+1) fun _=>0)∧
  rowF (countF (ansF (pickS ars (n:Int).toNat rs ps) n ars rs ps).1) n=rs∧zbP (n:Int) (ansF (pickS ars (n:Int).toNat rs ps) n ars rs ps).1=true∧0<(ansF (pickS ars (n:Int).toNat rs ps) n ars rs ps).1.length∧
  (ansF (pickS ars (n:Int).toNat rs ps) n ars rs ps).1.length≤2048:=by
 obtain⟨m,hm,hck,hN,hlen,hall,heven,hsum,hno⟩:=zjk h;obtain rfl:n=m:=by omega
 rw[zE]at hb⊢;unfold ansF at hb⊢;rw[if_pos h,zE]at hb⊢;obtain⟨c1,c2,c3,c4⟩:=znY (zfX ars n rs ps) (zmF ars n rs ps) (leftSum n (leftF rs fun _=>0)) (fun _=>0) .zero lR_
 obtain⟨f1,f2⟩:=znL (zfX ars n rs ps) (leftSum n (leftF rs fun _=>0)) (fun _=>0)
 have hlx:=znZ (pick:=pickS ars n rs ps) (leftSum n (leftF rs fun _=>0)) (fun _=>0)
 generalize runF (pickS ars n rs ps) (leftSum n (leftF rs fun _=>0)) (fun _=>0)=r at*
 unfold zob at hb⊢;by_cases hbl:blocksF ars n r.2 (leftF rs r.2) n=[]
 ·rw[if_pos hbl];have hle:=c1.le_reps fun v hv=>by have:=zca hall (f:=v) (by omega);omega
  have hr:=zmp hlen hle c1.far hbl;have hcn:rowF (countF r.1) n=rs:=by
   refine zaf fun k=>?_
   by_cases hk:k<n
   ·rw[zdu _ hk,c3 k,hr];have h3:rs[k]?=some (repAt rs k):=by
     unfold repAt;rw[zE,zk (by omega:k<rs.length)]
     rfl
    rw[h3,Int.sub_zero]
   ·rw[zD (by rw[zaS];omega),zD (by omega)]
  refine⟨fun p=>?_,hcn,c4,?_,?_⟩
  ·obtain⟨s1,s2⟩:=zk0 hN heven p r.1 fun _=>0
   rw[s1,s2,f1,f2,hr];refine⟨rfl,?_⟩
   funext v
   show(p:Int)*repAt rs v+repAt rs v=((p+1:Nat):Int)*repAt rs v+0
   rw[Int.natCast_add,Int.add_mul];omega
  ·have hp:=hN.pos;have h0:countF r.1 0=repAt rs ((0:Nat):Int)-0:=by rw[c3 0,hr]
   have h1:=zca hall (f:=0) (by omega)
   cases hx:r.1 with
   |nil=>rw[hx,show countF [] 0=0 from rfl]at h0;omega
   |cons x xs=>simp
  ·have hleft:=zlD hall rs.length lR_;rw[zcT,hlen]at hleft;simp only;omega
 ·rw[if_neg hbl]at hb;exact absurd hb hbl
theorem zor{g:zB}(h:checkG g=0){e:Nat}{x:GEdg}(hx:g.edges[e]?=some x):inI g g.ins.length x.t.toNat x.tp.toNat= .que e:=by
 have h1:=(inL_laid h _ lR_).at_ e (x.t,x.tp) (zao hx) (by unfold zfk;rw[zp,hx];rfl)
 have h1:inL g g.edges.length x.t.toNat x.tp.toNat= .que e:=h1
 have h2:=(inI_laid h _ lR_).old x.t.toNat x.tp.toNat (by rw[h1];simp)
 exact h2.trans h1
theorem zkj{g:zB}(h:checkG g=0){v p e:Nat}(he:inI g g.ins.length v p= .que e)(hlt:e<g.edges.length):∃x,g.edges[e]?=some x∧x.t.toNat=v∧x.tp.toNat=p:=by
 have h0:inL g g.edges.length v p= .que e:=by
  rcases(inI_laid h _ lR_).from_ v p with h1|⟨j,a,-,-,-,-,h1⟩
  ·exact h1.symm.trans he
  ·have h1:inI g g.ins.length v p= .que (g.edges.length+j):=h1
   have:=h1.symm.trans he
   injection this with this
   omega
 rcases(inL_laid h _ lR_).from_ v p with h1|⟨j,a,hj,ha,e1,e2,h1⟩
 ·have h1:inL g g.edges.length v p= .no:=h1
  exact (by cases (h0.symm.trans h1))
 ·have h1:inL g g.edges.length v p= .que j:=h1
  have:=h0.symm.trans h1
  injection this with this
  subst this;unfold zfk at ha;rw[zp]at ha;cases hx:g.edges[e]? with
  |none=>rw[hx]at ha;cases ha
  |some x=>
   rw[hx]at ha;simp only[zai,zX]at ha;subst ha;exact⟨x,rfl,e1,e2⟩
theorem zlY{g:zB}(h:checkG g=0){e:Nat}{x:GEdg}(hx:g.edges[e]?=some x):zcQ g g.outs.length x.f.toNat x.fp.toNat= .que e:=by
 have h1:=(outL_laid h _ lR_).at_ e (x.f,x.fp) (zao hx) (by unfold zfj;rw[zp,hx];rfl)
 have h1:zc5 g g.edges.length x.f.toNat x.fp.toNat= .que e:=h1
 have h2:=(outO_laid h _ lR_).old x.f.toNat x.fp.toNat (by rw[h1];simp)
 exact h2.trans h1
theorem zhD{g:zB}(h:checkG g=0){v p e:Nat}(he:zcQ g g.outs.length v p= .que e):∃x,g.edges[e]?=some x∧x.f.toNat=v∧x.fp.toNat=p:=by
 have h0:zc5 g g.edges.length v p= .que e:=by
  rcases(outO_laid h _ lR_).from_ v p with h1|⟨j,a,-,-,-,-,h1⟩
  ·exact h1.symm.trans he
  ·have h1:zcQ g g.outs.length v p= .tape j:=h1
   exact (by cases (h1.symm.trans he))
 rcases(outL_laid h _ lR_).from_ v p with h1|⟨j,a,hj,ha,e1,e2,h1⟩
 ·have h1:zc5 g g.edges.length v p= .no:=h1
  exact (by cases (h0.symm.trans h1))
 ·have h1:zc5 g g.edges.length v p= .que j:=h1
  have:=h0.symm.trans h1
  injection this with this
  subst this;unfold zfj at ha;rw[zp]at ha;cases hx:g.edges[e]? with
  |none=>rw[hx]at ha;cases ha
  |some x=>
   rw[hx]at ha;simp only[zai,zX]at ha;subst ha;exact⟨x,rfl,e1,e2⟩
theorem znw{g:zB}(h:checkG g=0){v p o:Nat}(he:zcQ g g.outs.length v p= .tape o):∃x,g.outs[o]?=some x∧x.a.toNat=v∧x.p.toNat=p:=by
 rcases(outO_laid h _ lR_).from_ v p with h1|⟨j,a,hj,ha,e1,e2,h1⟩
 ·have h0:zc5 g g.edges.length v p= .tape o:=h1.symm.trans he
  rcases(outL_laid h _ lR_).from_ v p with h2|⟨j,a,-,-,-,-,h2⟩
  ·have h2:zc5 g g.edges.length v p= .no:=h2
   exact (by cases (h0.symm.trans h2))
  ·have h2:zc5 g g.edges.length v p= .que j:=h2
   exact (by cases (h0.symm.trans h2))
 ·have h1:zcQ g g.outs.length v p= .tape j:=h1
  have:=he.symm.trans h1
  injection this with this
  subst this;unfold zeZ at ha;rw[zp]at ha;cases hx:g.outs[o]? with
  |none=>rw[hx]at ha;cases ha
  |some x=>
   rw[hx]at ha;simp only[zai,zX]at ha;subst ha;exact⟨x,rfl,e1,e2⟩
theorem zfN{l:List Int}{p:Nat}{x:Int}(h:l[p]?=some x)(hl:∀x∈l,1≤x∧x≤64):l[p]?=some ((x.toNat:Nat):Int)∧1≤x.toNat∧x.toNat≤64:=by
 have:=hl x (zac h)
 exact⟨by rw[h];congr 1;omega,by omega,by omega⟩
def kOf(g:zB)(x:GEdg):Nat:=(zed g x.t x.tp).toNat
def gOf(g:zB)(x:GEdg):Nat:=(zdp g x.f x.fp).toNat
theorem zfz{g:zB}(h:checkG g=0){e:Nat}{x:GEdg}(hx:g.edges[e]?=some x):∃y,g.acts[x.t.toNat]?=some y∧(insOf y)[x.tp.toNat]?=some ((kOf g x:Nat):Int)∧1≤kOf g x∧kOf g x≤64:=by
 obtain⟨-,y,-,hy,-,-,-,-,-,-,b3,b4,-⟩:=zcx h (zac hx);obtain⟨r,hr⟩:=zG (l:=insOf y) (i:=x.tp.toNat) (by omega)
 have e1:zed g x.t x.tp=r:=by unfold zed;rw[hy];show(insOf y).getD x.tp.toNat 0=r;rw[zz,hr];rfl
 unfold kOf;rw[e1];exact⟨y,hy,zfN hr (shape_rate y.tag y.ps).1⟩
theorem zea{g:zB}(h:checkG g=0){e:Nat}{x:GEdg}(hx:g.edges[e]?=some x):∃y,g.acts[x.f.toNat]?=some y∧(outsOf y)[x.fp.toNat]?=some ((gOf g x:Nat):Int)∧1≤gOf g x∧gOf g x≤64:=by
 obtain⟨y,-,hy,-,-,-,-,-,a3,a4,-,-,-⟩:=zcx h (zac hx);obtain⟨r,hr⟩:=zG (l:=outsOf y) (i:=x.fp.toNat) (by omega)
 have e1:zdp g x.f x.fp=r:=by unfold zdp;rw[hy];show(outsOf y).getD x.fp.toNat 0=r;rw[zz,hr];rfl
 unfold gOf;rw[e1];exact⟨y,hy,zfN hr (shape_rate y.tag y.ps).2⟩
structure ze1(g:zB)(V:RigV):Prop where
 nE:V.nE=g.edges.length
 len:V.tasks.length=g.acts.length
 rt:∀(v:Nat) (t:TkV),V.tasks[v]?=some t→∃x,g.acts[v]?=some x∧t.rin=insOf x∧t.rout=outsOf x
 src:∀(v:Nat) (t:TkV),V.tasks[v]?=some t→∀(p:Nat) (l:Lnk),t.src[p]?=some l→l.lk=inI g g.ins.length v p
 dst:∀(v:Nat) (t:TkV),V.tasks[v]?=some t→∀(p:Nat) (l:Lnk),t.dst[p]?=some l→l.lk=zcQ g g.outs.length v p
theorem RigV.same.back{V V':RigV}(h:V.same V'){v:Nat}{t:TkV}(ht:V'.tasks[v]?=some t):∃s,V.tasks[v]?=some s∧t.stat=s.stat:=by
 have h1:=congrArg (fun l=>l[v]?) h.tk
 simp only[zp,ht,zai]at h1;cases ht2:V.tasks[v]? with
 |none=>rw[ht2]at h1;cases h1
 |some s=>
  rw[ht2]at h1;exact⟨s,rfl,zq h1⟩
theorem ze1.same{g:zB}{V V':RigV}(h:ze1 g V)(hs:V.same V'):ze1 g V':=by
 have key:∀{v:Nat} {t:TkV},V'.tasks[v]?=some t→∃s,V.tasks[v]?=some s∧t.rin=s.rin∧t.rout=s.rout∧t.src=s.src∧t.dst=s.dst:=fun ht=>by
  obtain⟨s,h1,h2⟩:=hs.back ht;simp only[TkV.stat,zaj]at h2;exact⟨s,h1,h2.2.1,h2.2.2.1,h2.2.2.2.1,h2.2.2.2.2⟩
 refine⟨hs.nE.trans h.nE,hs.len.trans h.len,fun v t ht=>?_,fun v t ht=>?_,fun v t ht=>?_⟩
 ·obtain⟨s,h1,h2,h3,-,-⟩:=key ht;rw[h2,h3];exact h.rt v s h1
 ·obtain⟨s,h1,-,-,h2,-⟩:=key ht;rw[h2];exact h.src v s h1
 ·obtain⟨s,h1,-,-,-,h2⟩:=key ht;rw[h2];exact h.dst v s h1
theorem ze1.full{g:zB}{V:RigV}(h:ze1 g V)(hc:checkG g=0)(hm:∀(v:Nat) (t:TkV),V.tasks[v]?=some t→t.src.length=t.rin.length∧t.dst.length=t.rout.length):V.full:=fun v t ht=>by
 obtain⟨x,hx,e1,e2⟩:=h.rt v t ht;obtain⟨l1,l2⟩:=hm v t ht;refine⟨fun l hl=>?_,fun l hl=>?_⟩
 ·obtain⟨p,hp,rfl⟩:=zbH hl;have h1:=h.src v t ht p _ (zk hp);have h2:=zoE hc hx (p:=p) (by rw[←e1];omega)
  rw[←h1]at h2;cases hl:t.src[p]with
  |no=>rw[hl]at h2;exact absurd rfl h2
  |que e g=>exact⟨e,g,rfl⟩
  |tape o g'=>
   rw[hl]at h1;have h1:LkV.tape o=inI g g.ins.length v p:=h1;rcases(inI_laid hc _ lR_).from_ v p with h3|⟨j,a,-,-,-,-,h3⟩
   ·rcases(inL_laid hc _ lR_).from_ v p with h4|⟨j,a,-,-,-,-,h4⟩
    ·exact (by cases (h1.trans (h3.trans h4)))
    ·exact (by cases (h1.trans (h3.trans h4)))
   ·exact (by cases (h1.trans h3))
 ·obtain⟨p,hp,rfl⟩:=zbH hl;have h1:=h.dst v t ht p _ (zk hp);have h2:=znv hc hx (p:=p) (by rw[←e2];omega)
  rw[←h1]at h2;intro hn;rw[hn]at h2;exact h2 rfl
structure ze2(g:zB)(L:Nat)(F:Nat→Int)(vs:List Nat)(N:Nat)(V:RigV):Prop where
 G:ze1 g V
 eq:∀(e:Nat) (x:GEdg),g.edges[e]?=some x→V.ql e+kOf g x*V.φ x.t.toNat+V.hd x.t.toNat x.tp.toNat+V.rm x.f.toNat x.fp.toNat=x.st.length+gOf g x*V.φ x.f.toNat
 cnt:∀(v p m:Nat) (x:ActV),g.acts[v]?=some x→(outsOf x)[p]?=some (m:Int)→V.φ v+m*V.φ v≤N+V.rm v p∧V.rm v p≤m*V.φ v
 yl:∀(e:Nat) (x:GEdg),g.edges[e]?=some x→V.yl e+V.rm x.f.toNat x.fp.toNat≤x.st.length+gOf g x*V.φ x.f.toNat
 yi:∀e,g.edges.length≤e→V.yl e≤L
 zl:∀(o:Nat) (x:PrtV),g.outs[o]?=some x→∀(y:ActV) (m:Nat),g.acts[x.a.toNat]?=some y→(outsOf y)[x.p.toNat]?=some (m:Int)→V.zl o+V.rm x.a.toNat x.p.toNat≤m*V.φ x.a.toNat
 zo:∀o,g.outs.length≤o→V.zl o=0
 held:∀v∈vs,(V.φ v:Int)≤F v
theorem ze2.more{g:zB}{L:Nat}{F:Nat→Int}{vs:List Nat}{N:Nat}{V:RigV}(h:ze2 g L F vs N V):ze2 g L F vs (N+1) V:=
 {h with cnt:=fun v p m x hx hm=>by have:=h.cnt v p m x hx hm;omega}
theorem zhU{m φ N r:Nat}(h:φ+m*φ≤N+r)(hr:r≤m*φ)(hm:m≤64):65*(m*φ-r)≤64*N:=by
 have h1:m*φ≤64*φ:=zb0 φ hm
 generalize m*φ=y at*;omega
theorem ze2.room{g:zB}{L:Nat}{F:Nat→Int}{vs:List Nat}{N:Nat}{V:RigV}(h:ze2 g L F vs N V)(hc:checkG g=0)(hL:L<17592186044416)(hN:N≤17592186046464):V.room:=by
 refine⟨fun q hq=>?_,fun p hp=>?_⟩
 ·obtain⟨e,he,rfl⟩:=zbH hq;have hy:V.yl e=(V.qs[e]).ys.length:=zit (zk he);rw[←hy];by_cases hlt:e<g.edges.length
  ·obtain⟨x,hx⟩:=zG hlt;obtain⟨y,hy1,hy2,hy3,hy4⟩:=zea hc hx;have h1:=h.yl e x hx;obtain⟨h2,h3⟩:=h.cnt x.f.toNat x.fp.toNat (gOf g x) y hy1 hy2;have h4:=zhU h2 h3 hy4;obtain⟨-,-,-,-,-,-,-,-,-,-,-,-,h5⟩:=zcx hc (zac hx);generalize gOf g x*V.φ x.f.toNat=y at*;omega
  ·have:=h.yi e (by omega)
   omega
 ·obtain⟨o,ho,rfl⟩:=zbH hp;have hz:V.zl o=(V.tps[o]).ys.length:=zop (zk ho);rw[←hz];by_cases hlt:o<g.outs.length
  ·obtain⟨x,hx⟩:=zG hlt;obtain⟨y,hy,-,-,b3,b4⟩:=zg4 hc hx;obtain⟨r,hr⟩:=zG (l:=outsOf y) (i:=x.p.toNat) (by omega)
   obtain⟨r1,-,r3⟩:=zfN hr (shape_rate y.tag y.ps).2;have h1:=h.zl o x hx y _ hy r1;obtain⟨h2,h3⟩:=h.cnt x.a.toNat x.p.toNat _ y hy r1;have h4:=zhU h2 h3 r3;generalize r.toNat*V.φ x.a.toNat=y at*;omega
  ·rw[h.zo o (by omega)]
   omega
theorem ze2.step{g:zB}{L:Nat}{F:Nat→Int}{vs:List Nat}{N:Nat}{V V':RigV}{i:Int}{b:Bool}(h:ze2 g L F vs N V)(hc:checkG g=0)(hV:vs≠[]→zhk g.acts.length (garcs g) F vs)(hsh:V.shp)(hsame:V.same V')(hs:RStep V i V' b):ze2 g L F vs (N+1) V':=by
 have G':=h.G.same hsame;cases hs with
 |no he hn=>subst he;exact h.more
 |yes v t ok hi hv hf hr hs hfail=>
  obtain⟨tsh,hhl,hgl⟩:=hsh v t hv;obtain⟨xv,hxv,eri,ero⟩:=h.G.rt v t hv;cases hs with
  |take e0 g0 hg hp hsrc hq hφ hh hr hl hy hz=>
   have hlk:LkV.que e0=inI g g.ins.length v t.port:=h.G.src v t hv _ _ hsrc
   refine⟨G',fun e x hx=>?_,fun u p m x hx hm=>?_,fun e x hx=>?_,fun e he=>zy (hy e) (h.yi e he),fun o x hx y m hy' hm=>?_,fun o ho=>(hz o).trans (h.zo o ho),fun u hu=>?_⟩
   ·have E:=h.eq e x hx;rw[hl,hφ,hφ,hh,hr];by_cases he:e=e0
    ·subst he;obtain⟨x',hx',e1,e2⟩:=zkj hc hlk.symm (zao hx);obtain rfl:=zq (hx.symm.trans hx');rw[if_pos rfl,if_pos ⟨e1,e2⟩];omega
    ·rw[if_neg he,if_neg]
     ·exact E
     ·rintro⟨e1,e2⟩;have h1:=zor hc hx;rw[e1,e2,←hlk]at h1;injection h1 with h1;exact he h1.symm
   ·have:=h.cnt u p m x hx hm
    rw[hφ,hr];omega
   ·have h1:=h.yl e x hx;have h2:=hy e;rw[hφ,hr];omega
   ·rw[hz,hr,hφ];exact h.zl o x hx y m hy' hm
   ·rw[hφ];exact h.held u hu
  |reckon hg hp hφ hh hr hl hy hz=>
   have rm0:∀p,V.rm v p=0:=fun p=>by rw[zeI hv];unfold TkV.rm;rw[hg];rfl
   have hd1:∀p m:Nat,(insOf xv)[p]?=some (m:Int)→V.hd v p=m:=fun p m hm=>by
    rw[←eri]at hm;obtain⟨r,hr⟩:=zG (l:=t.hand) (i:=p) (by rw[hhl];exact zao hm)
    have:=(tsh.h1 hg p r _ hr hm).1 (by rw[hp];exact zao hm)
    rw[zfI hv];unfold TkV.hd;rw[hg,hr];show r.xs.length=m
    omega
   have ro:∀p m:Nat,(outsOf xv)[p]?=some (m:Int)→(t.rout[p]?.getD 0).toNat=m:=fun p m hm=>by
    rw[ero,hm];show(m:Int).toNat=m
    exact zE m
   have key:∀(e:Nat) (x:GEdg),g.edges[e]?=some x→x.t.toNat=v→V.ql e+kOf g x*(V.φ v+1)+V.rm x.f.toNat x.fp.toNat=x.st.length+gOf g x*V.φ x.f.toNat:=fun e x hx ht=>by
    have E:=h.eq e x hx;obtain⟨y,hy1,hy2,-,-⟩:=zfz hc hx;rw[ht]at E hy1;obtain rfl:=zq (hxv.symm.trans hy1);rw[hd1 _ _ hy2]at E;rw[zdN,zaY];omega
   refine⟨G',fun e x hx=>?_,fun u p m x hx hm=>?_,fun e x hx=>?_,fun e he=>zy (Nat.le_of_eq (hy e)) (h.yi e he),fun o x hx y m hy' hm=>?_,fun o ho=>(hz o).trans (h.zo o ho),fun u hu=>?_⟩
   ·have E:=h.eq e x hx;obtain⟨y,hy1,hy2,-,-⟩:=zea hc hx;rw[hl,hφ,hφ,hh,hr];by_cases ht:x.t.toNat=v
    ·have K:=key e x hx ht;rw[if_pos ht,if_pos ht,ht];by_cases hfv:x.f.toNat=v
     ·rw[if_pos hfv,if_pos hfv];rw[hfv]at hy1 K⊢;obtain rfl:=zq (hxv.symm.trans hy1);rw[rm0]at K;rw[ro _ _ hy2,zdN (gOf g x),zaY];omega
     ·rw[if_neg hfv,if_neg hfv];omega
    ·rw[if_neg ht,if_neg ht];by_cases hfv:x.f.toNat=v
     ·rw[if_pos hfv,if_pos hfv];rw[hfv]at hy1 E⊢;obtain rfl:=zq (hxv.symm.trans hy1);rw[rm0]at E;rw[ro _ _ hy2,zdN (gOf g x),zaY];omega
     ·rw[if_neg hfv,if_neg hfv];exact E
   ·have C:=h.cnt u p m x hx hm;rw[hφ,hr];by_cases hu:u=v
    ·subst hu;obtain rfl:=zq (hxv.symm.trans hx);rw[if_pos rfl,if_pos rfl,ro p m hm,zdN,zaY];rw[rm0]at C;omega
    ·rw[if_neg hu,if_neg hu];omega
   ·have h1:=h.yl e x hx;obtain⟨y,hy1,hy2,-,-⟩:=zea hc hx;rw[hy,hφ,hr];by_cases hfv:x.f.toNat=v
    ·rw[if_pos hfv,if_pos hfv];rw[hfv]at hy1 h1⊢;obtain rfl:=zq (hxv.symm.trans hy1);rw[ro _ _ hy2,zdN (gOf g x),zaY];omega
    ·rw[if_neg hfv,if_neg hfv];exact h1
   ·have h1:=h.zl o x hx y m hy' hm;rw[hz,hφ,hr];by_cases hfv:x.a.toNat=v
    ·rw[if_pos hfv,if_pos hfv];rw[hfv]at hy' h1⊢;obtain rfl:=zq (hxv.symm.trans hy');rw[ro _ _ hm,zdN,zaY];omega
    ·rw[if_neg hfv,if_neg hfv];exact h1
   ·rw[hφ];by_cases huv:u=v
    ·subst huv;rw[if_pos rfl];have h1:=h.held u hu;refine Int.not_lt.1 fun hc2=>?_
     have hFu:F u=(V.φ u:Int):=by omega
     obtain⟨j,u2,-,hj,ht,hf2,hu2,hlt⟩:=(hV (List.ne_nil_of_mem hu)).arc u hu;rw[zdi]at hj;obtain⟨x,hx⟩:=zG hj;have ea:arcAt (garcs g) j=garcOf g x:=by unfold arcAt garcs;rw[zp,hx];rfl
     rw[ea]at ht hf2 hlt;have ht:x.t=(u:Int):=ht;have hf2:x.f=(u2:Int):=hf2;have K:=key j x hx (by rw[ht];exact zE u)
     rw[show x.f.toNat=u2 by rw[hf2];exact zE u2]at K
     have hb:=h.held u2 hu2;have hlt:(x.st.length:Int)+zdp g x.f x.fp*F u2<zed g x.t x.tp*(F u+1):=hlt;obtain⟨-,-,-,hk1,-⟩:=zfz hc hx;obtain⟨-,-,-,hg1,-⟩:=zea hc hx;have e1:zdp g x.f x.fp=(gOf g x:Int):=by unfold gOf at hg1⊢;omega
     have e2:zed g x.t x.tp=(kOf g x:Int):=by unfold kOf at hk1⊢;omega
     rw[e1,e2,hFu]at hlt;have h3:=zcE hb (show(0:Int)≤(gOf g x:Int) by omega)
     have K2:((kOf g x*(V.φ u+1):Nat):Int)≤((x.st.length+gOf g x*V.φ u2:Nat):Int):=by
      have:kOf g x*(V.φ u+1)≤x.st.length+gOf g x*V.φ u2:=by omega
      exact_mod_cast this
     rw[zax,Int.natCast_add,Int.natCast_add,zax]at K2;have K3:(kOf g x:Int)*((V.φ u:Int)+1)≤(x.st.length:Int)+(gOf g x:Int)*(V.φ u2:Int):=K2;omega
    ·rw[if_neg huv];exact h.held u hu
  |fail hg hp hφ hh hr hl hy hz=>
   refine⟨G',fun e x hx=>?_,fun u p m x hx hm=>?_,fun e x hx=>?_,fun e he=>zy (Nat.le_of_eq (hy e)) (h.yi e he),fun o x hx y m hy' hm=>?_,fun o ho=>(hz o).trans (h.zo o ho),fun u hu=>?_⟩
   ·rw[hl,hφ,hφ,hh,hr];exact h.eq e x hx
   ·have:=h.cnt u p m x hx hm
    rw[hφ,hr];omega
   ·rw[hy,hφ,hr];exact h.yl e x hx
   ·rw[hz,hφ,hr];exact h.zl o x hx y m hy' hm
   ·rw[hφ];exact h.held u hu
  |giveQ e0 g0 hg hp hdst hφ hh hr hl hy hz=>
   have hlk:LkV.que e0=zcQ g g.outs.length v t.port:=h.G.dst v t hv _ _ hdst
   have hrm:0<V.rm v t.port:=by
    obtain⟨r,hr⟩:=zG (l:=t.gift) (i:=t.port) (by rw[hgl hg];exact hp)
    obtain⟨m,hm⟩:=zG hp
    have:=((tsh.g1 hg t.port r m hr hm).2.1 rfl).1
    rw[zeI hv];unfold TkV.rm;rw[hg,hr];exact this
   obtain⟨x0,hx0,f0,p0⟩:=zhD hc hlk.symm;have kk:∀(e:Nat) (x:GEdg),g.edges[e]?=some x→(e=e0↔x.f.toNat=v∧x.fp.toNat=t.port):=fun e x hx=>by
    constructor
    ·rintro rfl;obtain rfl:=zq (hx.symm.trans hx0);exact⟨f0,p0⟩
    ·rintro⟨e1,e2⟩;have h1:=zlY hc hx;rw[e1,e2,←hlk]at h1;injection h1 with h1;exact h1.symm
   refine⟨G',fun e x hx=>?_,fun u p m x hx hm=>?_,fun e x hx=>?_,fun e he=>?_,fun o x hx y m hy' hm=>?_,fun o ho=>(hz o).trans (h.zo o ho),fun u hu=>?_⟩
   ·have E:=h.eq e x hx;rw[hl,hφ,hφ,hh,hr];by_cases he:e=e0
    ·obtain⟨e1,e2⟩:=(kk e x hx).1 he;rw[if_pos he,if_pos ⟨e1,e2⟩];rw[e1,e2]at E⊢;omega
    ·rw[if_neg he,if_neg fun hc=>he ((kk e x hx).2 hc)]
     exact E
   ·have C:=h.cnt u p m x hx hm;rw[hφ,hr];by_cases hu:u=v∧p=t.port
    ·rw[if_pos hu];obtain⟨rfl,rfl⟩:=hu;omega
    ·rw[if_neg hu];omega
   ·have h1:=h.yl e x hx;rw[hy,hφ,hr];by_cases he:e=e0
    ·obtain⟨e1,e2⟩:=(kk e x hx).1 he;rw[if_pos he,if_pos ⟨e1,e2⟩];rw[e1,e2]at h1⊢;omega
    ·rw[if_neg he,if_neg fun hc=>he ((kk e x hx).2 hc)]
     exact h1
   ·rw[hy,if_neg]
    ·exact h.yi e he
    ·rintro rfl
     have:=zao hx0
     omega
   ·have h1:=h.zl o x hx y m hy' hm;rw[hz,hφ,hr];split<;>omega
   ·rw[hφ];exact h.held u hu
  |giveT o0 g0 hg hp hdst hφ hh hr hl hy hz=>
   have hlk:LkV.tape o0=zcQ g g.outs.length v t.port:=h.G.dst v t hv _ _ hdst
   have hrm:0<V.rm v t.port:=by
    obtain⟨r,hr⟩:=zG (l:=t.gift) (i:=t.port) (by rw[hgl hg];exact hp)
    obtain⟨m,hm⟩:=zG hp
    have:=((tsh.g1 hg t.port r m hr hm).2.1 rfl).1
    rw[zeI hv];unfold TkV.rm;rw[hg,hr];exact this
   obtain⟨x0,hx0,f0,p0⟩:=znw hc hlk.symm;have kk:∀(e:Nat) (x:GEdg),g.edges[e]?=some x→¬(x.f.toNat=v∧x.fp.toNat=t.port):=fun e x hx ⟨e1,e2⟩=>by
    have h1:=zlY hc hx;rw[e1,e2,←hlk]at h1;cases h1
   refine⟨G',fun e x hx=>?_,fun u p m x hx hm=>?_,fun e x hx=>?_,fun e he=>zy (Nat.le_of_eq (hy e)) (h.yi e he),fun o x hx y m hy' hm=>?_,fun o ho=>?_,fun u hu=>?_⟩
   ·rw[hl,hφ,hφ,hh,hr,if_neg (kk e x hx)];exact h.eq e x hx
   ·have C:=h.cnt u p m x hx hm;rw[hφ,hr];by_cases hu:u=v∧p=t.port
    ·rw[if_pos hu];obtain⟨rfl,rfl⟩:=hu;omega
    ·rw[if_neg hu];omega
   ·rw[hy,hφ,hr,if_neg (kk e x hx)];exact h.yl e x hx
   ·have h1:=h.zl o x hx y m hy' hm;rw[hz,hφ,hr];by_cases ho:o=o0
    ·subst ho;obtain rfl:=zq (hx.symm.trans hx0);rw[if_pos rfl,if_pos ⟨f0,p0⟩];rw[f0,p0]at h1⊢;omega
    ·rw[if_neg ho];split<;>omega
   ·rw[hz,if_neg]
    ·exact h.zo o ho
    ·rintro rfl
     have:=zao hx0
     omega
   ·rw[hφ];exact h.held u hu
theorem znx{g:zB}{L:Nat}{F:Nat→Int}{vs:List Nat}(hc:checkG g=0)(hV:zhk g.acts.length (garcs g) F vs)(hL:L<17592186044416){M:Nat}(hM:M≤17592186046464):RigJ (ze2 g L F vs) M:=
 ⟨fun N V h hN=>h.room hc hL (by omega),fun N V V' i b h _ hsh hs hst=>h.step hc (fun _=>hV) hsh hs hst,fun N V h=>h.more⟩
end Go.Proofs.YtpmlljbebdidgaaGreatDoor
