/- Lemmas and walks for the claim: Fg, Ya, Kd. -/
import Derived.Test.YtpmlljbebdidgaaGreatDoorA0
import Derived.Test.YtpmlljbebdidgaaGreatDoorA35
import Derived.Test.YtpmlljbebdidgaaGreatDoorA4
set_option linter.unusedSimpArgs false
set_option maxRecDepth 100000
set_option maxHeartbeats 1000000
namespace Go.Proofs.YtpmlljbebdidgaaGreatDoor
open Go.RowKit
theorem zhW{T:List Edg}{e:Edg}:∀{p:List Stp} {u v:Nat},Walk (e::T) u p v→Conn T u v∨(Conn T u e.f∧Conn T e.t v)∨(Conn T u e.t∧Conn T e.f v)
 |[],u,v,h=> .inl ⟨[],h⟩
 |s::p,u,v,⟨m,⟨d,hd,h1,h2⟩,h3⟩=>by
  have ih:=zhW h3;rcases zV.1 hd with rfl|hd
  ·have hum:(u=d.f∧m=d.t)∨(u=d.t∧m=d.f):=by
    split at h2
    ·exact .inr ⟨h2.2,h2.1⟩
    ·exact .inl h2
   rcases hum with⟨rfl,rfl⟩|⟨rfl,rfl⟩
   ·rcases ih with h|⟨_,h⟩|⟨_,h⟩
    ·exact .inr (.inl ⟨Conn.refl _ _,h⟩)
    ·exact .inr (.inl ⟨Conn.refl _ _,h⟩)
    ·exact .inl h
   ·rcases ih with h|⟨_,h⟩|⟨_,h⟩
    ·exact .inr (.inr ⟨Conn.refl _ _,h⟩)
    ·exact .inl h
    ·exact .inr (.inr ⟨Conn.refl _ _,h⟩)
  ·have hum:Conn T u m:=⟨[s],m,⟨d,hd,h1,h2⟩,rfl⟩
   rcases ih with h|⟨h,h'⟩|⟨h,h'⟩
   ·exact .inl (hum.trans h)
   ·exact .inr (.inl ⟨hum.trans h,h'⟩)
   ·exact .inr (.inr ⟨hum.trans h,h'⟩)
theorem conn_new{T:List Edg}{e:Edg}:Conn (e::T) e.f e.t:=⟨[(e.i,false)],e.t,⟨e,za0,rfl,by simp⟩,rfl⟩
theorem ziO{T:List Edg}{e:Edg}{u v:Nat}:Conn (e::T) u v↔Conn T u v∨(Conn T u e.f∧Conn T e.t v)∨(Conn T u e.t∧Conn T e.f v):=by
 constructor
 ·intro⟨p,hp⟩;exact zhW hp
 ·intro h;rcases h with h|⟨h,h'⟩|⟨h,h'⟩
  ·exact h.more
  ·exact(h.more.trans conn_new).trans h'.more
  ·exact(h.more.trans conn_new.symm).trans h'.more
structure FInv(n:Nat)(ars:List ArcV)(i:Nat)(up tr:List Int)(T:List Edg):Prop where
 len:up.length=n
 good:zgd up
 forest:Forest T
 conn:∀u v,u<n→v<n→(root up u=root up v↔Conn T u v)
 tree:tr=T.reverse.map fun e=>(e.i:Int)
 edge:∀e∈T,e.i<i∧e.f<n∧e.t<n∧∃a,ars[e.i]?=some a∧a.f=(e.f:Int)∧a.t=(e.t:Int)
 all:∀j a,j<i→ars[j]?=some a→root up a.f.toNat=root up a.t.toNat
theorem zkm{up:List Int}{n v:Nat}(hv:v<n):root up v<n:=by have:=zfA up v;omega
theorem zg6{n v:Nat}(hv:v<n):root (selfs n) v=v:=by
 rw[zcp];have h:¬upN (selfs n) v<v:=by
  unfold upN;rw[ziN hv];simp
 rw[if_neg h]
theorem zkL(n:Nat)(ars:List ArcV):FInv n ars 0 (selfs n) [] []:=by
 refine⟨zcI n,zg5 n,trivial,?_,rfl,(fun _ h=>by cases h),(fun _ _ h _=>absurd h (zau _))⟩
 intro u v hu hv;rw[zg6 hu,zg6 hv];constructor
 ·rintro rfl;exact Conn.refl _ _
 ·intro⟨p,hp⟩;cases p with
  |nil=>exact hp
  |cons s p=>obtain⟨m,⟨d,hd,_⟩,_⟩:=hp;cases hd
theorem zl3{n:Nat}{ars:List ArcV}{i:Nat}{up tr:List Int}{T:List Edg}{a:ArcV}(hok:∀a∈ars,0≤a.f∧a.f<n∧0≤a.t∧a.t<n)(h:FInv n ars i up tr T)(ha:ars[i]?=some a):
  (root up a.f.toNat=root up a.t.toNat→FInv n ars (i+1) up tr T)∧
  (root up a.f.toNat≠root up a.t.toNat→FInv n ars (i+1) (up.set (max (root up a.f.toNat) (root up a.t.toNat)) (min (root up a.f.toNat) (root up a.t.toNat):Nat)) (tr++[(i:Int)]) (⟨i,a.f.toNat,a.t.toNat⟩::T)):=by
 obtain⟨h1,h2,h3,h4⟩:=hok a (zv ha);constructor
 ·intro he;refine⟨h.len,h.good,h.forest,h.conn,h.tree,fun e hm=>?_,fun j b hj hb=>?_⟩
  ·obtain⟨x1,x2⟩:=h.edge e hm;exact⟨by omega,x2⟩
  ·by_cases hji:j=i
   ·subst hji;rw[ha]at hb;cases hb;exact he
   ·exact h.all j b (by omega) hb
 ·intro hne;obtain⟨x,hx⟩:∃x,a.f.toNat=x:=⟨_,rfl⟩;obtain⟨y,hy⟩:∃y,a.t.toNat=y:=⟨_,rfl⟩;rw[hx,hy]at hne⊢;have hxn:x<n:=by omega
  have hyn:y<n:=by omega
  have rx:=zkm (up:=up) hxn;have ry:=zkm (up:=up) hyn;have hset:∀v,v<n→root (up.set (max (root up x) (root up y)) (min (root up x) (root up y):Nat)) v=if root up v=max (root up x) (root up y)then min (root up x) (root up y)else root up v:=by
   intro v hv;refine znz up _ _ (by omega) (by rw[h.len];omega) ?_ ?_ v (by rw[h.len];exact hv)
   ·rcases zcf (root up x) (root up y)with hh|hh
    ·rw[Nat.max_eq_right (by omega)];exact zev up y
    ·rw[Nat.max_eq_left (by omega)];exact zev up x
   ·rcases zcf (root up x) (root up y)with hh|hh
    ·rw[zbz (by omega)];exact zev up x
    ·rw[zdW (by omega)];exact zev up y
  have hsame:∀u v,u<n→v<n→(root (up.set (max (root up x) (root up y)) (min (root up x) (root up y):Nat)) u=root (up.set (max (root up x) (root up y)) (min (root up x) (root up y):Nat)) v↔
    root up u=root up v∨(root up u=root up x∧root up y=root up v)∨(root up u=root up y∧root up x=root up v)):=by
   intro u v hu hv;rw[hset u hu,hset v hv];generalize root up u=ru;generalize root up v=rv;generalize root up x=rx at*;generalize root up y=ry at*;split<;>split<;>omega
  refine⟨by simp[h.len],zgP up _ _ h.good (by omega),⟨h.forest,fun d hd he=>?_,fun hc=>?_⟩,fun u v hu hv=>?_,?_,fun e hm=>?_,fun j b hj hb=>?_⟩
  ·have:=(h.edge d hd).1
   simp only at he;omega
  ·exact hne ((h.conn x y hxn hyn).2 hc)
  ·rw[hsame u v hu hv,ziO];simp only;rw[h.conn u v hu hv,h.conn u x hu hxn,h.conn y v hyn hv,h.conn u y hu hyn,h.conn x v hxn hv]
  ·rw[h.tree];simp
  ·rcases zV.1 hm with rfl|hm
   ·exact⟨by simp,hxn,hyn,a,ha,by simp only;omega,by simp only;omega⟩
   ·obtain⟨x1,x2⟩:=h.edge e hm;exact⟨by omega,x2⟩
  ·obtain⟨g1,g2,g3,g4⟩:=hok b (zv hb);rw[hsame _ _ (by omega) (by omega)]
   by_cases hji:j=i
   ·subst hji;rw[ha]at hb;cases hb;rw[hx,hy];exact .inr (.inl ⟨rfl,rfl⟩)
   ·exact .inl (h.all j b (by omega) hb)
theorem zgQ{n:Nat}{ars:List ArcV}(hok:∀a∈ars,0≤a.f∧a.f<n∧0≤a.t∧a.t<n):∀(k i:Nat) (up tr:List Int) (T:List Edg),i+k=ars.length→FInv n ars i up tr T→
  ∃T',FInv n ars ars.length (forestGo i up tr (ars.drop i)).1 (forestGo i up tr (ars.drop i)).2 T'
 |0,i,up,tr,T,hk,h=>by
  obtain rfl:i=ars.length:=by omega
  rw[zS lR_];exact⟨T,h⟩
 |k+1,i,up,tr,T,hk,h=>by
  have hi:i<ars.length:=by omega
  obtain⟨s1,s2⟩:=zl3 hok h (zk hi);rw[zah hi,forestGo];by_cases he:root up ars[i].f.toNat=root up ars[i].t.toNat
  ·rw[if_pos he];exact zgQ hok k (i+1) _ _ _ (by omega) (s1 he)
  ·rw[if_neg he];exact zgQ hok k (i+1) _ _ _ (by omega) (s2 he)
theorem ziP{n:Nat}{ars:List ArcV}(hok:∀a∈ars,0≤a.f∧a.f<n∧0≤a.t∧a.t<n):∃T,FInv n ars ars.length (upF n ars) (treeF n ars) T:=
 zgQ hok ars.length 0 _ _ _ (by omega) (zkL n ars)
theorem zew{n:Nat}{ars:List ArcV}(hc:checkF n ars=0):1≤n∧n≤32∧ars.length≤96∧∀a∈ars,0≤a.f∧a.f<n∧0≤a.t∧a.t<n:=by
 unfold checkF at hc;split at hc
 ·cases hc
 ·split at hc
  ·cases hc
  ·exact⟨by omega,by omega,by omega,zkl n ars hc⟩
theorem zdd{n v:Nat}{ars:List ArcV}(hv:v<n):(zcq n ars)[v]?=some (root (upF n ars) v:Int):=by simp[zcq,hv]
theorem zb7(n:Nat)(ars:List ArcV):(zcq n ars).length=n:=by simp[zcq]
theorem zfO{n:Nat}{ars:List ArcV}{up tr:List Int}{T:List Edg}(h:FInv n ars ars.length up tr T){u v:Nat}{s:Stp}:
  stepOk T u v s↔(s.1:Int)∈tr∧∃a,ars[s.1]?=some a∧if s.2=true then(v:Int)=a.f∧(u:Int)=a.t else(u:Int)=a.f∧(v:Int)=a.t:=by
 constructor
 ·intro⟨e,he,h1,h2⟩;obtain⟨_,_,_,a,ha,hf,ht⟩:=h.edge e he;refine⟨?_,a,by rw[←h1];exact ha,?_⟩
  ·rw[h.tree,zY];exact⟨e,zbt.2 he,by rw[h1]⟩
  ·rw[hf,ht];by_cases hs:s.2=true
   ·rw[if_pos hs]at h2⊢;omega
   ·rw[if_neg hs]at h2⊢;omega
 ·intro⟨hm,a,ha,h2⟩;rw[h.tree,zY]at hm;obtain⟨e,he,h1⟩:=hm;have h1':e.i=s.1:=by omega
  obtain⟨_,_,_,b,hb,hf,ht⟩:=h.edge e (zbt.1 he);rw[h1',ha]at hb;cases hb;refine⟨e,zbt.1 he,h1',?_⟩;rw[hf,ht]at h2;by_cases hs:s.2=true
  ·rw[if_pos hs]at h2⊢;omega
  ·rw[if_neg hs]at h2⊢;omega
end Go.Proofs.YtpmlljbebdidgaaGreatDoor
namespace Go.Proofs.YtpmlljbebdidgaaGreatDoor
def zix(G K:Nat→Nat)(s:(Nat→Nat)×(Nat→Nat))(e:Edg):(Nat→Nat)×(Nat→Nat):=
 (fun v=>if s.2 v=s.2 e.f then s.1 v*(K e.i*s.1 e.t/Nat.gcd (G e.i*s.1 e.f) (K e.i*s.1 e.t))else if s.2 v=s.2 e.t then s.1 v*(G e.i*s.1 e.f/Nat.gcd (G e.i*s.1 e.f) (K e.i*s.1 e.t))else s.1 v,
  fun v=>if s.2 v=s.2 e.t then s.2 e.f else s.2 v)
def countsR(G K:Nat→Nat):List Edg→(Nat→Nat)×(Nat→Nat)
 |[]=>(fun _=>1,id)
 |e::T=>zix G K (countsR G K T) e
def Solves(G K:Nat→Nat)(T:List Edg)(S:Nat→Nat):Prop:=∀e∈T,G e.i*S e.f=K e.i*S e.t
structure RInv(G K:Nat→Nat)(T:List Edg)(R P:Nat→Nat):Prop where
 ev:Solves G K T R
 cls:∀u v,P u=P v↔Conn T u v
 pos:∀v,1≤R v
 least:∀S,Solves G K T S→∀u,∃m,∀v,P v=P u→S v=m*R v
theorem zls(G K:Nat→Nat):RInv G K [] (fun _=>1) id where
 ev:=fun e h=>by cases h
 cls:=fun u v=>by
  constructor
  ·intro h;exact⟨[],h⟩
  ·rintro⟨p,hp⟩;cases p with
   |nil=>exact hp
   |cons s p=>obtain⟨m,⟨e,he,_⟩,_⟩:=hp;cases he
 pos:=fun _=>zF _
 least:=fun S _ u=>⟨S u,fun v hv=>by rw[show v=u from hv];simp⟩
theorem zpH{x y m1 m2:Nat}(hx:1≤x)(hy:1≤y)(h:m1*x=m2*y):∃q,m1=q*(y/Nat.gcd x y)∧m2=q*(x/Nat.gcd x y):=by
 have hd:0<Nat.gcd x y:=zbE _ (by omega)
 obtain⟨d,hdd⟩:∃d,Nat.gcd x y=d:=⟨_,rfl⟩;have hc:Nat.gcd (x/d) (y/d)=1:=by rw[←hdd];exact Nat.gcd_div_gcd_div_gcd_of_pos_left (by omega)
 have ex:x=d*(x/d):=by rw[←hdd];exact(Nat.mul_div_cancel' (zbI x y)).symm
 have ey:y=d*(y/d):=by rw[←hdd];exact(Nat.mul_div_cancel' (zbC x y)).symm
 rw[hdd];rw[hdd]at hd;obtain⟨x',hx'⟩:∃x',x/d=x':=⟨_,rfl⟩;obtain⟨y',hy'⟩:∃y',y/d=y':=⟨_,rfl⟩;rw[hx']at ex hc⊢;rw[hy']at ey hc⊢;have h2:m1*x'=m2*y':=by
  rw[ex,ey,zbS,zbS m2]at h;exact zb1 hd h
 have hdv:y'∣m1:=by
  have h3:y'∣x'*m1:=⟨m2,by rw[zaK x',h2,zaK]⟩
  exact Nat.Coprime.dvd_of_dvd_mul_left (Nat.Coprime.symm hc) h3
 obtain⟨q,hq⟩:=hdv;have hyp:0<y':=by
  rcases Nat.eq_zero_or_pos y' with h0|h0
  ·rw[h0]at ey;omega
  ·exact h0
 refine⟨q,by rw[hq,zaK],?_⟩
 rw[hq,zay,zaK m2]at h2;exact(zb1 hyp h2).symm
theorem zmU{G K:Nat→Nat}{T:List Edg}{R P:Nat→Nat}{e:Edg}(h:RInv G K T R P)(hg:1≤G e.i)(hk:1≤K e.i)(hn:¬Conn T e.f e.t):RInv G K (e::T) (zix G K (R,P) e).1 (zix G K (R,P) e).2:=by
 have hne:P e.f≠P e.t:=fun he=>hn ((h.cls _ _).1 he)
 have hx:1≤G e.i*R e.f:=zbw hg (h.pos _)
 have hy:1≤K e.i*R e.t:=zbw hk (h.pos _)
 have hxd:Nat.gcd (G e.i*R e.f) (K e.i*R e.t)∣G e.i*R e.f:=zbI _ _
 have hyd:Nat.gcd (G e.i*R e.f) (K e.i*R e.t)∣K e.i*R e.t:=zbC _ _
 have hd:0<Nat.gcd (G e.i*R e.f) (K e.i*R e.t):=zbE _ hx
 have hpx:1≤G e.i*R e.f/Nat.gcd (G e.i*R e.f) (K e.i*R e.t):=zcB (zbr hx hxd) hd
 have hpy:1≤K e.i*R e.t/Nat.gcd (G e.i*R e.f) (K e.i*R e.t):=zcB (zbr hy hyd) hd
 have hm:=fun m1 m2=>zpH (m1:=m1) (m2:=m2) hx hy
 have hxy:G e.i*R e.f*(K e.i*R e.t/Nat.gcd (G e.i*R e.f) (K e.i*R e.t))=K e.i*R e.t*(G e.i*R e.f/Nat.gcd (G e.i*R e.f) (K e.i*R e.t)):=by
  rw[←Nat.mul_div_assoc _ hyd,←Nat.mul_div_assoc _ hxd,zaK]
 unfold zix;simp only;generalize hxx:G e.i*R e.f/Nat.gcd (G e.i*R e.f) (K e.i*R e.t)=x' at*;generalize hyy:K e.i*R e.t/Nat.gcd (G e.i*R e.f) (K e.i*R e.t)=y' at*;have same:∀u v,Conn T u v→P u=P v:=fun u v hc=>(h.cls u v).2 hc
 refine⟨fun d hdm=>?_,fun u v=>?_,fun v=>?_,fun S hS u=>?_⟩
 ·rcases zV.1 hdm with rfl|hdm
  ·rw[if_pos rfl,if_neg (fun he=>hne he.symm),if_pos rfl,←zay,←zay]
   exact hxy
  ·have hpp:P d.f=P d.t:=same _ _ ⟨[(d.i,false)],d.t,⟨d,hdm,rfl,by simp⟩,rfl⟩
   have he:=h.ev d hdm;rw[hpp];split
   ·rw[←zay,←zay,he]
   ·split
    ·rw[←zay,←zay,he]
    ·exact he
 ·rw[ziO,←h.cls,←h.cls,←h.cls,←h.cls,←h.cls];constructor
  ·intro heq;by_cases h1:P u=P e.t<;>by_cases h2:P v=P e.t
   ·exact .inl (h1.trans h2.symm)
   ·rw[if_pos h1,if_neg h2]at heq;exact .inr (.inr ⟨h1,heq⟩)
   ·rw[if_neg h1,if_pos h2]at heq;exact .inr (.inl ⟨heq,h2.symm⟩)
   ·rw[if_neg h1,if_neg h2]at heq;exact .inl heq
  ·rintro(h1|⟨h1,h2⟩|⟨h1,h2⟩)
   ·rw[h1]
   ·rw[if_neg (fun he=>hne (h1.symm.trans he)),if_pos h2.symm,h1]
   ·rw[if_pos h1,if_neg (fun he=>hne (h2.trans he)),h2]
 ·split
  ·exact zbw (h.pos v) hpy
  ·split
   ·exact zbw (h.pos v) hpx
   ·exact h.pos v
 ·have hST:Solves G K T S:=fun d hd=>hS d (za2 _ hd)
  have hSe:=hS e (za0 ..);obtain⟨m1,h1⟩:=h.least S hST e.f;obtain⟨m2,h2⟩:=h.least S hST e.t;rw[h1 e.f rfl,h2 e.t rfl,zbS,zbS (K e.i)]at hSe;obtain⟨q,hq1,hq2⟩:=hm m1 m2 hSe;by_cases hu:P u=P e.f∨P u=P e.t
  ·refine⟨q,fun v hv=>?_⟩
   have hpu:(if P u=P e.t then P e.f else P u)=P e.f:=by
    rcases hu with hu|hu
    ·rw[if_neg (fun he=>hne (hu.symm.trans he)),hu]
    ·rw[if_pos hu]
   rw[hpu]at hv;by_cases hv1:P v=P e.f
   ·rw[if_pos hv1,h1 v hv1,hq1,zay,zaK y']
   ·have hv2:P v=P e.t:=by
     by_cases hv2:P v=P e.t
     ·exact hv2
     ·rw[if_neg hv2]at hv;exact absurd hv hv1
    rw[if_neg hv1,if_pos hv2,h2 v hv2,hq2,zay,zaK x']
  ·obtain⟨m,h3⟩:=h.least S hST u;refine⟨m,fun v hv=>?_⟩
   have hpu:(if P u=P e.t then P e.f else P u)=P u:=if_neg (fun he=>hu (.inr he))
   rw[hpu]at hv;have hv2:P v≠P e.t:=fun he=>by rw[if_pos he]at hv;exact hu (.inl hv.symm)
   rw[if_neg hv2]at hv;rw[if_neg (fun he=>hu (.inl (hv.symm.trans he))),if_neg hv2]
   exact h3 v hv
theorem zjv{G K:Nat→Nat}:∀{T:List Edg},Forest T→(∀e∈T,1≤G e.i∧1≤K e.i)→RInv G K T (countsR G K T).1 (countsR G K T).2
 |[],_,_=>zls G K
 |e::T,hF,hb=>by
  have h:=zjv hF.1 (fun d hd=>hb d (za2 _ hd))
  have hb:=hb e (za0 ..);exact zmU h hb.1 hb.2 hF.2.2
end Go.Proofs.YtpmlljbebdidgaaGreatDoor
namespace Go.Proofs.YtpmlljbebdidgaaGreatDoor
open Go.RowKit
theorem zmz(n d:Int):lowE ((decide (n<0) !=decide (d<0))&&decide (n.natAbs≠0)) (n.natAbs/Nat.gcd n.natAbs d.natAbs) (d.natAbs/Nat.gcd n.natAbs d.natAbs)=
  if(okB (newN n d)&&okB (newD n d))=true then .returned (.agg #[.int .i64 (newN n d), .int .i64 (newD n d)])else big:=by
 have e:za8 ((decide (n<0) !=decide (d<0))&&decide (n.natAbs≠0)) (n.natAbs/Nat.gcd n.natAbs d.natAbs)=newN n d:=by
  by_cases h0:n.natAbs=0
  ·unfold newN;rw[h0];simp[za8]
  ·unfold newN;simp[h0]
 have e2:za8 false (d.natAbs/Nat.gcd n.natAbs d.natAbs)=newD n d:=rfl
 by_cases h:(okB (newN n d)&&okB (newD n d))=true
 ·rw[if_pos h];rw[zag,zbk,zbk]at h;rw[zgW (by unfold sOk;rw[e];exact h.1) (by unfold sOk;rw[e2];exact h.2),e];rfl
 ·rw[if_neg h];rw[zag,zbk,zbk]at h;exact zfD fun hh=>h ⟨by rw[←e];exact hh.1,by rw[←e2];exact hh.2⟩
def znV:List PanicEntry:=[{v:= .iface 31 (.int .i64 4),recovered:=true}]
def zeg(w:World)(g h:Nat):World:=((w.setCell ⟨g,0,none⟩ (.int .i64 0)).setCell ⟨g,1,none⟩ (.int .i64 0)).setCell ⟨h,0,none⟩ (.int .i64 4)
theorem zfq{w:World}{g h:Nat}{u0 u1 u2:Value}(k0:Blk w g 87 #[u0,u1])(k1:Blk w h 31 #[u2])(hne:g≠h):
  Blk (zeg w g h) g 87 #[.int .i64 0, .int .i64 0]∧Blk (zeg w g h) h 31 #[.int .i64 4]:=by
 have a0:=(k0.set 0 (.int .i64 0)).set 1 (.int .i64 0);have a1:=a0.far (p:=⟨h,0,none⟩) hne (.int .i64 4);have b0:=((k1.far (p:=⟨g,0,none⟩) (fun e=>hne e.symm) (.int .i64 0)).far (p:=⟨g,1,none⟩) (fun e=>hne e.symm) (.int .i64 0)).set 0 (.int .i64 4)
 unfold zeg;exact⟨by simpa using a1,by simpa using b0⟩
theorem zeE{w W:World}{B g h:Nat}(hb:Below B w W)(hg:B≤g)(hh:B≤h):Below B w (zeg W g h):=
 ((hb.setCell (p:=⟨g,0,none⟩) hg _).setCell (p:=⟨g,1,none⟩) hg _).setCell (p:=⟨h,0,none⟩) hh _
theorem zia{w:World}{g h:Nat}{u0 u1 u2:Value}(k0:Blk w g 87 #[u0,u1])(k1:Blk w h 31 #[u2])(hne:g≠h):
  w.cell? ⟨g,0,none⟩=some u0∧(w.setCell ⟨g,0,none⟩ (.int .i64 0)).cell? ⟨g,1,none⟩=some u1∧((w.setCell ⟨g,0,none⟩ (.int .i64 0)).setCell ⟨g,1,none⟩ (.int .i64 0)).cell? ⟨h,0,none⟩=some u2∧
  w.frozen? ⟨g,0,none⟩=false∧(w.setCell ⟨g,0,none⟩ (.int .i64 0)).frozen? ⟨g,1,none⟩=false∧((w.setCell ⟨g,0,none⟩ (.int .i64 0)).setCell ⟨g,1,none⟩ (.int .i64 0)).frozen? ⟨h,0,none⟩=false:=by
 have a0:=k0.set 0 (.int .i64 0);have b0:=(k1.far (p:=⟨g,0,none⟩) (fun e=>hne e.symm) (.int .i64 0)).far (p:=⟨g,1,none⟩) (fun e=>hne e.symm) (.int .i64 0)
 exact⟨(k0.cell 0).trans (by simp),(a0.cell 1).trans (by simp),(b0.cell 0).trans (by simp),k0.frozen 0,a0.frozen 1,b0.frozen 0⟩
def zfT(w:World)(e:Ending)(u':FrameMode)(w':World):Prop:=e= .returned (.tuple #[])∧u'= .returning∧w'=w
def zgy(w:World)(g h:Nat)(e:Ending)(u':FrameMode)(w':World):Prop:=e= .returned (.tuple #[])∧u'= .panicking znV∧w'=zeg w g h
theorem zmA(p q:Addr)(w:World):CallsD Tryz.prog 75 #[.pointer (some p), .pointer (some q)] .returning w (zfT w):=by
 refine callsD_of_wpS Tryz.func75 rfl fun c₀ cs hu=>?_
 apply wpS_seq
 apply wpS_region
 simp[wpOpsS,go_sem,recoverD,hu, Tryz.ntmps75,Exit.thenS]
 apply wpS_seq
 apply wpS_region
 simp[wpOpsS,go_sem,Exit.thenS]
 refine wpS_cond (t:=false) (by simp[Act.eval,Array.replicate]) ?_
 simp only[zdl,if_false];refine wpS_of_wp (wp_skip ?_);cases c₀
 simp_all [bodyPostS,results, Tryz.results75,zfT]
theorem znW(g h:Nat)(u0 u1 u2:Value)(w:World)(k0:Blk w g 87 #[u0,u1])(k1:Blk w h 31 #[u2])(hne:g≠h):
  CallsD Tryz.prog 75 #[.pointer (some ⟨g,0,none⟩), .pointer (some ⟨h,0,none⟩)] (.panicking zjd) w (zgy w g h):=by
 obtain⟨c0,c1,c2,z0,z1,z2⟩:=zia k0 k1 hne;refine callsD_of_wpS Tryz.func75 rfl fun c₀ cs hu=>?_
 apply wpS_seq
 apply wpS_region
 simp[wpOpsS,go_sem,recoverD,hu, Tryz.ntmps75,Exit.thenS,zjd]
 apply wpS_seq
 apply wpS_region
 simp[wpOpsS,go_sem,Exit.thenS]
 refine wpS_cond (t:=true) (by simp[Act.eval,Array.replicate]) ?_
 simp only[if_true];apply wpS_region;simp[wpOpsS,go_sem,c0,c1,c2,z0,z1,z2,bodyPostS,results, Tryz.results75,zgy,zeg,znV]
theorem zoY(n d:Int)(w:World)(hn:fits n)(hd:fits d):
  Calls Tryz.prog 52 #[.int .i64 n, .int .i64 d] w fun e w'=>e= .returned (.tuple #[.agg #[.int .i64 (ze8 n d).1.n, .int .i64 (ze8 n d).1.d], .int .i64 (ze8 n d).2])∧Below w.heap.size w w':=by
 have hmf:∀(fn:Fn) (first cap:Array Value) (w:World),(Instr.makeFunc fn first cap).run Tryz.prog w= .ok (.func fn first cap) w:=fun _ _ _ _=>rfl
 obtain⟨W,hW⟩:∃W,(w.alloc (.cells #[.int .i64 0, .int .i64 0] 87)).alloc (.cells #[.int .i64 0] 31)=W:=⟨_,rfl⟩;have bW:Below w.heap.size w W:=by subst hW;exact((zm _ _).alloc lR_ _).alloc (by simp) _
 have k0:Blk W w.heap.size 87 #[.int .i64 0, .int .i64 0]:=by subst hW;exact(Blk.new w _ rfl _ _).alloc _
 have k1:Blk W (w.heap.size+1) 31 #[.int .i64 0]:=by subst hW;exact Blk.new _ _ (by simp) _ _
 have hWs:W.heap.size=w.heap.size+2:=by subst hW;simp
 by_cases h0:d=0
 ·have e:ze8 n d=(⟨0,0⟩,20):=by unfold ze8;rw[if_pos h0]
  rw[e];have hz:(d==0)=true:=by simpa using h0
  clear e h0;have f0:=k0.cell 0;have f1:=k0.cell 1;have f2:=k1.cell 0;have z0:=k0.frozen 0;have z1:=k0.frozen 1;have z2:=k1.frozen 0;have k2:=(k0.set 0 (.int .i64 0)).set 1 (.int .i64 0);have k3:=k2.far (p:=⟨w.heap.size+1,0,none⟩) (by simp) (.int .i64 20)
  have k4:=((k1.far (p:=⟨w.heap.size,0,none⟩) (by simp) (.int .i64 0)).far (p:=⟨w.heap.size,1,none⟩) (by simp) (.int .i64 0)).set 0 (.int .i64 20)
  have bb:=((bW.setCell (p:=⟨w.heap.size,0,none⟩) lR_ (.int .i64 0)).setCell (p:=⟨w.heap.size,1,none⟩) lR_ (.int .i64 0)).setCell (p:=⟨w.heap.size+1,0,none⟩) (by simp) (.int .i64 20)
  have c0:=k3.cell 0;have c1:=k3.cell 1;have c2:=k4.cell 0;simp at f0 f1 f2 c0 c1 c2;clear k0 k1 k2 k3 k4
  go_enter_defers Tryz.func52, Tryz.ntmps52
  go_wp2_with fail;exact⟨.tuple #[.agg #[.int .i64 0, .int .i64 0], .int .i64 20],by simp[results, Tryz.results52,go_sem,c0,c1,c2],rfl,bb⟩
 ·have hz:(d==0)=false:=by simpa using h0
  have hl:=fun w=>zkq (decide (n<0) !=decide (d<0)) n.natAbs d.natAbs w (zdZ hn) (zdZ hd) (by omega)
  rw[zmz n d]at hl;by_cases hok:(okB (newN n d)&&okB (newD n d))=true
  ·have e:ze8 n d=(⟨newN n d,newD n d⟩,0):=by unfold ze8;rw[if_neg h0,if_pos hok]
   rw[e];rw[if_pos hok]at hl;have Hl:=Lh hl;clear e h0 hok hl;generalize newN n d=x at*;generalize newD n d=y at*
   go_enter_defers Tryz.func52, Tryz.ntmps52
   go_wp2_with (first|(go_at_call 77;refine(zcN _ _ (by assumption)).mono ?_;rintro e w' ⟨rfl,rfl⟩))
   try rw[hW]
   refine(Hl.out _).mono ?_;rintro e w2 ⟨rfl,hb2⟩;have a0:=k0.kept hb2;have a1:=k1.kept hb2;have b2:=bW.trans (hb2.mono (by omega))
   have f0:=a0.cellL 0 rfl;have f1:=a0.cellL 1 rfl;have f2:=a1.cellL 0 rfl;have z0:=a0.frozen 0;have z1:=a0.frozen 1;have z2:=a1.frozen 0;have k2:=(a0.set 0 (.int .i64 x)).set 1 (.int .i64 y);have k3:=k2.far (p:=⟨w.heap.size+1,0,none⟩) (by simp) (.int .i64 0)
   have k4:=((a1.far (p:=⟨w.heap.size,0,none⟩) (by simp) (.int .i64 x)).far (p:=⟨w.heap.size,1,none⟩) (by simp) (.int .i64 y)).set 0 (.int .i64 0)
   have bb:=((b2.setCell (p:=⟨w.heap.size,0,none⟩) lR_ (.int .i64 x)).setCell (p:=⟨w.heap.size,1,none⟩) lR_ (.int .i64 y)).setCell (p:=⟨w.heap.size+1,0,none⟩) (by simp) (.int .i64 0)
   have c0:=k3.cell 0;have c1:=k3.cell 1;have c2:=k4.cell 0;simp at c0 c1 c2;clear k0 k1 k2 k3 k4 a0 a1 b2 hW
   go_wp2_with fail;refine leaves_cons (f:= 75) (args:=#[.pointer (some ⟨w.heap.size,0,none⟩), .pointer (some ⟨w.heap.size+1,0,none⟩)]) (by simp) (by simp[go_sem]) ?_
   refine(zmA _ _ _).mono ?_;rintro e u' w'' ⟨rfl,rfl,rfl⟩;exact⟨.tuple #[.agg #[.int .i64 x, .int .i64 y], .int .i64 0],by simp[results, Tryz.results52,go_sem,c0,c1,c2],rfl,bb⟩
  ·have e:ze8 n d=(⟨0,0⟩,4):=by unfold ze8;rw[if_neg h0,if_neg hok]
   rw[e];rw[if_neg hok]at hl;have Hl:=Lh hl;clear e h0 hok hl
   go_enter_defers Tryz.func52, Tryz.ntmps52
   go_wp2_with (first|(go_at_call 77;refine(zcN _ _ (by assumption)).mono ?_;rintro e w' ⟨rfl,rfl⟩))
   try rw[hW]
   refine(Hl.out _).mono ?_;rintro e w2 ⟨rfl,hb2⟩;have a0:=k0.kept hb2;have a1:=k1.kept hb2;have b2:=bW.trans (hb2.mono (by omega))
   obtain⟨g0,g1⟩:=zfq a0 a1 (by simp)
   have c0:=g0.cell 0;have c1:=g0.cell 1;have c2:=g1.cell 0;simp at c0 c1 c2;refine leaves_cons (f:= 75) (args:=#[.pointer (some ⟨w.heap.size,0,none⟩), .pointer (some ⟨w.heap.size+1,0,none⟩)]) (by simp) (by simp[go_sem]) ?_
   refine(znW _ _ _ _ _ _ a0 a1 (by simp)).mono ?_
   rintro e u' w'' ⟨rfl,rfl,rfl⟩;exact⟨.tuple #[.agg #[.int .i64 0, .int .i64 0], .int .i64 4],by simp[results, Tryz.results52,go_sem,c0,c1,c2],rfl,zeE b2 lR_ (by omega)⟩
end Go.Proofs.YtpmlljbebdidgaaGreatDoor
