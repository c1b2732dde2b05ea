/- Lemmas and walks for the claim: Fp, Fg, Ya, Kd. -/
import Derived.Test.YtpmlljbebdidgaaGreatDoorA0
import Derived.Test.YtpmlljbebdidgaaGreatDoorA39
import Derived.Test.YtpmlljbebdidgaaGreatDoorA4
set_option maxRecDepth 100000
set_option maxHeartbeats 1000000
namespace Go.Proofs.YtpmlljbebdidgaaGreatDoor
structure Edg where
 i:Nat
 f:Nat
 t:Nat
abbrev Stp:=Nat×Bool
def stepOk(T:List Edg)(u v:Nat)(s:Stp):Prop:=∃e∈T,e.i=s.1∧if s.2=true then v=e.f∧u=e.t else u=e.f∧v=e.t
def Walk(T:List Edg):Nat→List Stp→Nat→Prop
 |u,[],v=>u=v
 |u,s::p,v=>∃m,stepOk T u m s∧Walk T m p v
def Red:List Stp→Prop
 |[]=>True
 |[_]=>True
 |s::s'::p=>s.1≠s'.1∧Red (s'::p)
def Conn(T:List Edg)(u v:Nat):Prop:=∃p,Walk T u p v
def Forest:List Edg→Prop
 |[]=>True
 |e::T=>Forest T∧(∀d∈T,d.i≠e.i)∧¬Conn T e.f e.t
theorem stepOk.more{T:List Edg}{e:Edg}{u v:Nat}{s:Stp}(h:stepOk T u v s):stepOk (e::T) u v s:=by
 obtain⟨d,hd,h1⟩:=h;exact⟨d,List.mem_cons_of_mem _ hd,h1⟩
theorem stepOk.turn{T:List Edg}{u v:Nat}{s:Stp}(h:stepOk T u v s):stepOk T v u (s.1,!s.2):=by
 obtain⟨d,hd,h1,h2⟩:=h;refine⟨d,hd,h1,?_⟩;obtain⟨i,b⟩:=s;cases b
 ·simp at h2⊢;exact⟨h2.1,h2.2⟩
 ·simp at h2⊢;exact⟨h2.1,h2.2⟩
theorem Walk.app{T:List Edg}:∀{p q:List Stp} {u v x:Nat},Walk T u p v→Walk T v q x→Walk T u (p++q) x
 |[],q,u,v,x,h,h'=>by rw[show u=v from h];exact h'
 |s::p,q,u,v,x,⟨m,h1,h2⟩,h'=>⟨m,h1,Walk.app h2 h'⟩
theorem Walk.split{T:List Edg}:∀{p q:List Stp} {u x:Nat},Walk T u (p++q) x→∃v,Walk T u p v∧Walk T v q x
 |[],q,u,x,h=>⟨u,rfl,h⟩
 |s::p,q,u,x,⟨m,h1,h2⟩=>by
  obtain⟨v,a,b⟩:=Walk.split h2;exact⟨v,⟨m,h1,a⟩,b⟩
def turned(p:List Stp):List Stp:=(p.map fun s=>(s.1,!s.2)).reverse
theorem turned_cons(s:Stp)(p:List Stp):turned (s::p)=turned p++[(s.1,!s.2)]:=by simp[turned]
theorem Walk.turn{T:List Edg}:∀{p:List Stp} {u v:Nat},Walk T u p v→Walk T v (turned p) u
 |[],u,v,h=>(show u=v from h).symm
 |s::p,u,v,⟨m,h1,h2⟩=>by
  rw[turned_cons];exact(Walk.turn h2).app ⟨u,h1.turn,rfl⟩
theorem Walk.more{T:List Edg}{e:Edg}:∀{p:List Stp} {u v:Nat},Walk T u p v→Walk (e::T) u p v
 |[],_,_,h=>h
 |_::_,_,_,⟨m,h1,h2⟩=>⟨m,h1.more,Walk.more h2⟩
theorem Conn.refl(T:List Edg)(u:Nat):Conn T u u:=⟨[],rfl⟩
theorem Conn.symm{T:List Edg}{u v:Nat}(h:Conn T u v):Conn T v u:=by obtain⟨p,hp⟩:=h;exact⟨_,hp.turn⟩
theorem Conn.trans{T:List Edg}{u v x:Nat}(h:Conn T u v)(h':Conn T v x):Conn T u x:=by
 obtain⟨p,hp⟩:=h;obtain⟨q,hq⟩:=h';exact⟨_,hp.app hq⟩
theorem Conn.more{T:List Edg}{e:Edg}{u v:Nat}(h:Conn T u v):Conn (e::T) u v:=by obtain⟨p,hp⟩:=h;exact⟨p,hp.more⟩
theorem Walk.less{T:List Edg}{e:Edg}:∀{p:List Stp} {u v:Nat},Walk (e::T) u p v→(∀s∈p,s.1≠e.i)→Walk T u p v
 |[],_,_,h,_=>h
 |s::p,_,_,⟨m,⟨d,hd,h1,h2⟩,h3⟩,hn=>by
  refine⟨m,⟨d,?_,h1,h2⟩,Walk.less h3 fun s' hs'=>hn s' (List.mem_cons_of_mem _ hs')⟩
  rcases List.mem_cons.1 hd with rfl|hd
  ·exact absurd h1.symm (hn s List.mem_cons_self)
  ·exact hd
theorem first_of{i:Nat}:∀{p:List Stp},(∃s∈p,s.1=i)→∃p1 s p2,p=p1++s::p2∧s.1=i∧∀s'∈p1,s'.1≠i
 |[],h=>by obtain⟨s,hs,_⟩:=h;cases hs
 |s::p,h=>by
  by_cases hs:s.1=i
  ·exact⟨[],s,p,rfl,hs,fun _ h=>by cases h⟩
  ·obtain⟨s',hs',he⟩:=h;have:∃s∈p,s.1=i:=by
    rcases List.mem_cons.1 hs' with rfl|hs'
    ·exact absurd he hs
    ·exact⟨s',hs',he⟩
   obtain⟨p1,s2,p2,hp,h1,h2⟩:=first_of this;refine⟨s::p1,s2,p2,by rw[hp];rfl,h1,fun s' hs'=>?_⟩
   rcases List.mem_cons.1 hs' with rfl|hs'
   ·exact hs
   ·exact h2 s' hs'
theorem Red.tail{s:Stp}{p:List Stp}(h:Red (s::p)):Red p:=by
 cases p with
 |nil=>trivial
 |cons s' p=>exact h.2
theorem Red.right{q:List Stp}:∀{p:List Stp},Red (p++q)→Red q
 |[],h=>h
 |_::p,h=>Red.right (p:=p) (Red.tail h)
theorem Red.left{q:List Stp}:∀{p:List Stp},Red (p++q)→Red p
 |[],_=>trivial
 |[_],_=>trivial
 |_::s'::p,h=>⟨h.1,Red.left (p:=s'::p) h.2⟩
theorem step_ends{T:List Edg}{e:Edg}(hn:∀d∈T,d.i≠e.i){u v:Nat}{s:Stp}(h:stepOk (e::T) u v s)(hs:s.1=e.i):if s.2=true then v=e.f∧u=e.t else u=e.f∧v=e.t:=by
 obtain⟨d,hd,h1,h2⟩:=h;rcases List.mem_cons.1 hd with rfl|hd
 ·exact h2
 ·exact absurd (h1.trans hs) (hn d hd)
theorem once{T:List Edg}{e:Edg}(hF:Forest (e::T))(hz:∀u p,Walk T u p u→Red p→p=[]){u v:Nat}{p1 p2:List Stp}{s:Stp}(hw:Walk (e::T) u (p1++s::p2) v)(hr:Red (p1++s::p2))(hs:s.1=e.i):∀s'∈p2,s'.1≠e.i:=by
 obtain⟨_,hn,hc⟩:=hF;intro s' hs' he;obtain⟨q1,s2,q2,rfl,h2,h3⟩:=first_of ⟨s',hs',he⟩;obtain⟨x,_,y,hx,hw2⟩:=hw.split;obtain⟨z,hq,y2,hz2,_⟩:=hw2.split;have hq':=hq.less h3;have e1:=step_ends hn hx hs;have e2:=step_ends hn hz2 h2;have hr1:Red (s::(q1++s2::q2)):=hr.right;have hr2:Red q1:=Red.left (Red.tail hr1);by_cases hyz:y=z
 ·subst hyz
  have:=hz y q1 hq' hr2
  subst this;exact hr1.1 (hs.trans h2.symm)
 ·have hcon:Conn T y z:=⟨q1,hq'⟩
  split at e1<;>split at e2
  ·exact hyz (by rw[e1.1];exact absurd (show Conn T e.f e.t by rw[←e1.1,←e2.2];exact hcon) hc)
  ·exact hyz (by rw[e1.1,e2.1])
  ·exact hyz (by rw[e1.2,e2.2])
  ·exact hc (by rw[←e1.2,←e2.1];exact hcon.symm)
theorem uniq:∀{T:List Edg},Forest T→∀{u v:Nat} {p q:List Stp},Walk T u p v→Walk T u q v→Red p→Red q→p=q
 |[],_,u,v,p,q,hp,hq,_,_=>by
  have no:∀{p:List Stp} {u v:Nat},Walk [] u p v→p=[]:=by
   intro p u v h;cases p with
   |nil=>rfl
   |cons s p=>obtain⟨m,⟨d,hd,_⟩,_⟩:=h;cases hd
  rw[no hp,no hq]
 |e::T,hF,u,v,p,q,hp,hq,hpr,hqr=>by
  have hF':=hF;obtain⟨hT,hn,hc⟩:=hF';have ih:= @uniq T hT;have hz:∀u p,Walk T u p u→Red p→p=[]:=fun u p h hr=>ih h (show Walk T u [] u from rfl) hr trivial
  have apart:∀{p:List Stp} {u v:Nat},Walk (e::T) u p v→Red p→(∃s∈p,s.1=e.i)→∃p1 s p2 x y,p=p1++s::p2∧s.1=e.i∧Walk T u p1 x∧Walk T y p2 v∧Red p1∧Red p2∧(if s.2=true then y=e.f∧x=e.t else x=e.f∧y=e.t):=by
   intro p u v hw hr hs;obtain⟨p1,s,p2,rfl,h1,h2⟩:=first_of hs;have h3:=once hF hz hw hr h1;obtain⟨x,hx,y,hy,hw2⟩:=hw.split;exact⟨p1,s,p2,x,y,rfl,h1,hx.less h2,hw2.less h3,Red.left hr,Red.tail (Red.right hr),step_ends hn hy h1⟩
  by_cases h1:∃s∈p,s.1=e.i
  ·by_cases h2:∃s∈q,s.1=e.i
   ·obtain⟨p1,s,p2,x,y,rfl,a1,a2,a3,a4,a5,a6⟩:=apart hp hpr h1;obtain⟨q1,s',q2,x',y',rfl,b1,b2,b3,b4,b5,b6⟩:=apart hq hqr h2;have hxx:Conn T x x':=Conn.trans (Conn.symm ⟨p1,a2⟩) ⟨q1,b2⟩;obtain⟨i,b⟩:=s;obtain⟨i',b'⟩:=s';simp only at a1 b1 a6 b6;have hb:b=b':=by
     cases b<;>cases b'<;>simp at a6 b6
     ·rfl
     ·rw[a6.1,b6.2]at hxx;exact absurd hxx hc
     ·rw[a6.2,b6.1]at hxx;exact absurd hxx.symm hc
     ·rfl
    subst hb;have hx:x=x'∧y=y':=by
     cases b<;>simp at a6 b6
     ·exact⟨by rw[a6.1,b6.1],by rw[a6.2,b6.2]⟩
     ·exact⟨by rw[a6.2,b6.2],by rw[a6.1,b6.1]⟩
    obtain⟨rfl,rfl⟩:=hx;rw[ih a2 b2 a4 b4,ih a3 b3 a5 b5,a1,b1]
   ·obtain⟨p1,s,p2,x,y,rfl,a1,a2,a3,a4,a5,a6⟩:=apart hp hpr h1;have hq':=hq.less (fun s hs he=>h2 ⟨s,hs,he⟩)
    have hxy:Conn T x y:=Conn.trans (Conn.symm ⟨p1,a2⟩) (Conn.trans ⟨q,hq'⟩ (Conn.symm ⟨p2,a3⟩))
    split at a6
    ·rw[a6.1,a6.2]at hxy;exact absurd hxy.symm hc
    ·rw[a6.1,a6.2]at hxy;exact absurd hxy hc
  ·by_cases h2:∃s∈q,s.1=e.i
   ·obtain⟨p1,s,p2,x,y,rfl,a1,a2,a3,a4,a5,a6⟩:=apart hq hqr h2;have hp':=hp.less (fun s hs he=>h1 ⟨s,hs,he⟩)
    have hxy:Conn T x y:=Conn.trans (Conn.symm ⟨p1,a2⟩) (Conn.trans ⟨p,hp'⟩ (Conn.symm ⟨p2,a3⟩))
    split at a6
    ·rw[a6.1,a6.2]at hxy;exact absurd hxy.symm hc
    ·rw[a6.1,a6.2]at hxy;exact absurd hxy hc
   ·exact ih (hp.less fun s hs he=>h1 ⟨s,hs,he⟩) (hq.less fun s hs he=>h2 ⟨s,hs,he⟩) hpr hqr
theorem other_end:∀{T:List Edg},Forest T→∀{u v x:Nat} {s s':Stp},stepOk T u v s→stepOk T v x s'→s.1=s'.1→x=u
 |[],_,u,v,x,s,s',h,_,_=>by obtain⟨d,hd,_⟩:=h;cases hd
 |e::T,hF,u,v,x,s,s',h,h',he=>by
  obtain⟨hT,hn,hc⟩:=hF;by_cases hs:s.1=e.i
  ·have e1:=step_ends hn h hs;have e2:=step_ends hn h' (he▸hs);have hft:e.f≠e.t:=fun h=>hc (h▸Conn.refl T _)
   split at e1<;>split at e2
   ·exact absurd (e1.1.symm.trans e2.2) hft
   ·rw[e2.2,e1.2]
   ·rw[e2.1,e1.1]
   ·exact absurd (e2.1.symm.trans e1.2) hft
  ·have less:∀{u v:Nat} {s:Stp},stepOk (e::T) u v s→s.1≠e.i→stepOk T u v s:=by
    intro u v s ⟨d,hd,h1,h2⟩ hne;rcases List.mem_cons.1 hd with rfl|hd
    ·exact absurd h1.symm hne
    ·exact⟨d,hd,h1,h2⟩
   exact other_end hT (less h hs) (less h' (he▸hs)) he
theorem no_twice{T:List Edg}(hF:Forest T){u v x:Nat}{p q:List Stp}(h1:Walk T u p x)(h2:Walk T x q v)(hr:Red (p++q))(he:u=x):p=[]:=by
 subst he;exact uniq hF h1 (show Walk T u [] u from rfl) (Red.left hr) trivial
end Go.Proofs.YtpmlljbebdidgaaGreatDoor
namespace Go.Proofs.YtpmlljbebdidgaaGreatDoor
open Go.RowKit
theorem conn_cons{T:List Edg}{e:Edg}:∀{p:List Stp} {u v:Nat},Walk (e::T) u p v→Conn T u v∨(Conn T u e.f∧Conn T e.t v)∨(Conn T u e.t∧Conn T e.f v)
 |[],u,v,h=> .inl ⟨[],h⟩
 |s::p,u,v,⟨m,⟨d,hd,h1,h2⟩,h3⟩=>by
  have ih:=conn_cons h3;rcases List.mem_cons.1 hd with rfl|hd
  ·have hum:(u=d.f∧m=d.t)∨(u=d.t∧m=d.f):=by
    split at h2
    ·exact .inr ⟨h2.2,h2.1⟩
    ·exact .inl h2
   rcases hum with⟨rfl,rfl⟩|⟨rfl,rfl⟩
   ·rcases ih with h|⟨_,h⟩|⟨_,h⟩
    ·exact .inr (.inl ⟨Conn.refl _ _,h⟩)
    ·exact .inr (.inl ⟨Conn.refl _ _,h⟩)
    ·exact .inl h
   ·rcases ih with h|⟨_,h⟩|⟨_,h⟩
    ·exact .inr (.inr ⟨Conn.refl _ _,h⟩)
    ·exact .inl h
    ·exact .inr (.inr ⟨Conn.refl _ _,h⟩)
  ·have hum:Conn T u m:=⟨[s],m,⟨d,hd,h1,h2⟩,rfl⟩
   rcases ih with h|⟨h,h'⟩|⟨h,h'⟩
   ·exact .inl (hum.trans h)
   ·exact .inr (.inl ⟨hum.trans h,h'⟩)
   ·exact .inr (.inr ⟨hum.trans h,h'⟩)
theorem conn_new{T:List Edg}{e:Edg}:Conn (e::T) e.f e.t:=⟨[(e.i,false)],e.t,⟨e,List.mem_cons_self,rfl,by simp⟩,rfl⟩
theorem conn_iff{T:List Edg}{e:Edg}{u v:Nat}:Conn (e::T) u v↔Conn T u v∨(Conn T u e.f∧Conn T e.t v)∨(Conn T u e.t∧Conn T e.f v):=by
 constructor
 ·intro⟨p,hp⟩;exact conn_cons hp
 ·intro h;rcases h with h|⟨h,h'⟩|⟨h,h'⟩
  ·exact h.more
  ·exact(h.more.trans conn_new).trans h'.more
  ·exact(h.more.trans conn_new.symm).trans h'.more
structure FInv(n:Nat)(ars:List ArcV)(i:Nat)(up tr:List Int)(T:List Edg):Prop where
 len:up.length=n
 good:Good up
 forest:Forest T
 conn:∀u v,u<n→v<n→(root up u=root up v↔Conn T u v)
 tree:tr=T.reverse.map fun e=>(e.i:Int)
 edge:∀e∈T,e.i<i∧e.f<n∧e.t<n∧∃a,ars[e.i]?=some a∧a.f=(e.f:Int)∧a.t=(e.t:Int)
 all:∀j a,j<i→ars[j]?=some a→root up a.f.toNat=root up a.t.toNat
theorem root_lt{up:List Int}{n v:Nat}(hv:v<n):root up v<n:=by have:=root_le up v;omega
theorem selfs_root{n v:Nat}(hv:v<n):root (selfs n) v=v:=by
 rw[root_step];have h:¬upN (selfs n) v<v:=by
  unfold upN;rw[selfs_at hv];simp
 rw[if_neg h]
theorem finv_start(n:Nat)(ars:List ArcV):FInv n ars 0 (selfs n) [] []:=by
 refine⟨selfs_length n,selfs_good n,trivial,?_,rfl,(fun _ h=>by cases h),(fun _ _ h _=>absurd h (Nat.not_lt_zero _))⟩
 intro u v hu hv;rw[selfs_root hu,selfs_root hv];constructor
 ·rintro rfl;exact Conn.refl _ _
 ·intro⟨p,hp⟩;cases p with
  |nil=>exact hp
  |cons s p=>obtain⟨m,⟨d,hd,_⟩,_⟩:=hp;cases hd
theorem finv_step{n:Nat}{ars:List ArcV}{i:Nat}{up tr:List Int}{T:List Edg}{a:ArcV}(hok:∀a∈ars,0≤a.f∧a.f<n∧0≤a.t∧a.t<n)(h:FInv n ars i up tr T)(ha:ars[i]?=some a):
  (root up a.f.toNat=root up a.t.toNat→FInv n ars (i+1) up tr T)∧
  (root up a.f.toNat≠root up a.t.toNat→FInv n ars (i+1) (up.set (max (root up a.f.toNat) (root up a.t.toNat)) (min (root up a.f.toNat) (root up a.t.toNat):Nat)) (tr++[(i:Int)]) (⟨i,a.f.toNat,a.t.toNat⟩::T)):=by
 obtain⟨h1,h2,h3,h4⟩:=hok a (List.mem_of_getElem? ha);constructor
 ·intro he;refine⟨h.len,h.good,h.forest,h.conn,h.tree,fun e hm=>?_,fun j b hj hb=>?_⟩
  ·obtain⟨x1,x2⟩:=h.edge e hm;exact⟨by omega,x2⟩
  ·by_cases hji:j=i
   ·subst hji;rw[ha]at hb;cases hb;exact he
   ·exact h.all j b (by omega) hb
 ·intro hne;obtain⟨x,hx⟩:∃x,a.f.toNat=x:=⟨_,rfl⟩;obtain⟨y,hy⟩:∃y,a.t.toNat=y:=⟨_,rfl⟩;rw[hx,hy]at hne⊢;have hxn:x<n:=by omega
  have hyn:y<n:=by omega
  have rx:=root_lt (up:=up) hxn;have ry:=root_lt (up:=up) hyn;have hset:∀v,v<n→root (up.set (max (root up x) (root up y)) (min (root up x) (root up y):Nat)) v=if root up v=max (root up x) (root up y)then min (root up x) (root up y)else root up v:=by
   intro v hv;refine root_set up _ _ (by omega) (by rw[h.len];omega) ?_ ?_ v (by rw[h.len];exact hv)
   ·rcases Nat.lt_or_ge (root up x) (root up y)with hh|hh
    ·rw[Nat.max_eq_right (by omega)];exact root_root up y
    ·rw[Nat.max_eq_left (by omega)];exact root_root up x
   ·rcases Nat.lt_or_ge (root up x) (root up y)with hh|hh
    ·rw[Nat.min_eq_left (by omega)];exact root_root up x
    ·rw[Nat.min_eq_right (by omega)];exact root_root up y
  have hsame:∀u v,u<n→v<n→(root (up.set (max (root up x) (root up y)) (min (root up x) (root up y):Nat)) u=root (up.set (max (root up x) (root up y)) (min (root up x) (root up y):Nat)) v↔
    root up u=root up v∨(root up u=root up x∧root up y=root up v)∨(root up u=root up y∧root up x=root up v)):=by
   intro u v hu hv;rw[hset u hu,hset v hv];generalize root up u=ru;generalize root up v=rv;generalize root up x=rx at*;generalize root up y=ry at*;split<;>split<;>omega
  refine⟨by simp[h.len],good_set up _ _ h.good (by omega),⟨h.forest,fun d hd he=>?_,fun hc=>?_⟩,fun u v hu hv=>?_,?_,fun e hm=>?_,fun j b hj hb=>?_⟩
  ·have:=(h.edge d hd).1
   simp only at he;omega
  ·exact hne ((h.conn x y hxn hyn).2 hc)
  ·rw[hsame u v hu hv,conn_iff];simp only;rw[h.conn u v hu hv,h.conn u x hu hxn,h.conn y v hyn hv,h.conn u y hu hyn,h.conn x v hxn hv]
  ·rw[h.tree];simp
  ·rcases List.mem_cons.1 hm with rfl|hm
   ·exact⟨by simp,hxn,hyn,a,ha,by simp only;omega,by simp only;omega⟩
   ·obtain⟨x1,x2⟩:=h.edge e hm;exact⟨by omega,x2⟩
  ·obtain⟨g1,g2,g3,g4⟩:=hok b (List.mem_of_getElem? hb);rw[hsame _ _ (by omega) (by omega)]
   by_cases hji:j=i
   ·subst hji;rw[ha]at hb;cases hb;rw[hx,hy];exact .inr (.inl ⟨rfl,rfl⟩)
   ·exact .inl (h.all j b (by omega) hb)
theorem finv_all{n:Nat}{ars:List ArcV}(hok:∀a∈ars,0≤a.f∧a.f<n∧0≤a.t∧a.t<n):∀(k i:Nat) (up tr:List Int) (T:List Edg),i+k=ars.length→FInv n ars i up tr T→
  ∃T',FInv n ars ars.length (forestGo i up tr (ars.drop i)).1 (forestGo i up tr (ars.drop i)).2 T'
 |0,i,up,tr,T,hk,h=>by
  obtain rfl:i=ars.length:=by omega
  rw[List.drop_eq_nil_of_le lR_];exact⟨T,h⟩
 |k+1,i,up,tr,T,hk,h=>by
  have hi:i<ars.length:=by omega
  obtain⟨s1,s2⟩:=finv_step hok h (List.getElem?_eq_getElem hi);rw[List.drop_eq_getElem_cons hi,forestGo];by_cases he:root up ars[i].f.toNat=root up ars[i].t.toNat
  ·rw[if_pos he];exact finv_all hok k (i+1) _ _ _ (by omega) (s1 he)
  ·rw[if_neg he];exact finv_all hok k (i+1) _ _ _ (by omega) (s2 he)
theorem finv_end{n:Nat}{ars:List ArcV}(hok:∀a∈ars,0≤a.f∧a.f<n∧0≤a.t∧a.t<n):∃T,FInv n ars ars.length (upF n ars) (treeF n ars) T:=
 finv_all hok ars.length 0 _ _ _ (by omega) (finv_start n ars)
theorem checkF_ok{n:Nat}{ars:List ArcV}(hc:checkF n ars=0):1≤n∧n≤32∧ars.length≤96∧∀a∈ars,0≤a.f∧a.f<n∧0≤a.t∧a.t<n:=by
 unfold checkF at hc;split at hc
 ·cases hc
 ·split at hc
  ·cases hc
  ·exact⟨by omega,by omega,by omega,arcs_ok n ars hc⟩
theorem homeF_at{n v:Nat}{ars:List ArcV}(hv:v<n):(homeF n ars)[v]?=some (root (upF n ars) v:Int):=by simp[homeF,hv]
theorem homeF_length(n:Nat)(ars:List ArcV):(homeF n ars).length=n:=by simp[homeF]
theorem stepOk_iff{n:Nat}{ars:List ArcV}{up tr:List Int}{T:List Edg}(h:FInv n ars ars.length up tr T){u v:Nat}{s:Stp}:
  stepOk T u v s↔(s.1:Int)∈tr∧∃a,ars[s.1]?=some a∧if s.2=true then(v:Int)=a.f∧(u:Int)=a.t else(u:Int)=a.f∧(v:Int)=a.t:=by
 constructor
 ·intro⟨e,he,h1,h2⟩;obtain⟨_,_,_,a,ha,hf,ht⟩:=h.edge e he;refine⟨?_,a,by rw[←h1];exact ha,?_⟩
  ·rw[h.tree,List.mem_map];exact⟨e,List.mem_reverse.2 he,by rw[h1]⟩
  ·rw[hf,ht];by_cases hs:s.2=true
   ·rw[if_pos hs]at h2⊢;omega
   ·rw[if_neg hs]at h2⊢;omega
 ·intro⟨hm,a,ha,h2⟩;rw[h.tree,List.mem_map]at hm;obtain⟨e,he,h1⟩:=hm;have h1':e.i=s.1:=by omega
  obtain⟨_,_,_,b,hb,hf,ht⟩:=h.edge e (List.mem_reverse.1 he);rw[h1',ha]at hb;cases hb;refine⟨e,List.mem_reverse.1 he,h1',?_⟩;rw[hf,ht]at h2;by_cases hs:s.2=true
  ·rw[if_pos hs]at h2⊢;omega
  ·rw[if_neg hs]at h2⊢;omega
end Go.Proofs.YtpmlljbebdidgaaGreatDoor
namespace Go.Proofs.YtpmlljbebdidgaaGreatDoor
def joinR(G K:Nat→Nat)(s:(Nat→Nat)×(Nat→Nat))(e:Edg):(Nat→Nat)×(Nat→Nat):=
 (fun v=>if s.2 v=s.2 e.f then s.1 v*(K e.i*s.1 e.t/Nat.gcd (G e.i*s.1 e.f) (K e.i*s.1 e.t))else if s.2 v=s.2 e.t then s.1 v*(G e.i*s.1 e.f/Nat.gcd (G e.i*s.1 e.f) (K e.i*s.1 e.t))else s.1 v,
  fun v=>if s.2 v=s.2 e.t then s.2 e.f else s.2 v)
def countsR(G K:Nat→Nat):List Edg→(Nat→Nat)×(Nat→Nat)
 |[]=>(fun _=>1,id)
 |e::T=>joinR G K (countsR G K T) e
def Solves(G K:Nat→Nat)(T:List Edg)(S:Nat→Nat):Prop:=∀e∈T,G e.i*S e.f=K e.i*S e.t
structure RInv(G K:Nat→Nat)(T:List Edg)(R P:Nat→Nat):Prop where
 ev:Solves G K T R
 cls:∀u v,P u=P v↔Conn T u v
 pos:∀v,1≤R v
 least:∀S,Solves G K T S→∀u,∃m,∀v,P v=P u→S v=m*R v
theorem rinv_start(G K:Nat→Nat):RInv G K [] (fun _=>1) id where
 ev:=fun e h=>by cases h
 cls:=fun u v=>by
  constructor
  ·intro h;exact⟨[],h⟩
  ·rintro⟨p,hp⟩;cases p with
   |nil=>exact hp
   |cons s p=>obtain⟨m,⟨e,he,_⟩,_⟩:=hp;cases he
 pos:=fun _=>Nat.le_refl _
 least:=fun S _ u=>⟨S u,fun v hv=>by rw[show v=u from hv];simp⟩
theorem meet{x y m1 m2:Nat}(hx:1≤x)(hy:1≤y)(h:m1*x=m2*y):∃q,m1=q*(y/Nat.gcd x y)∧m2=q*(x/Nat.gcd x y):=by
 have hd:0<Nat.gcd x y:=Nat.gcd_pos_of_pos_left _ (by omega)
 obtain⟨d,hdd⟩:∃d,Nat.gcd x y=d:=⟨_,rfl⟩;have hc:Nat.gcd (x/d) (y/d)=1:=by rw[←hdd];exact Nat.gcd_div_gcd_div_gcd_of_pos_left (by omega)
 have ex:x=d*(x/d):=by rw[←hdd];exact(Nat.mul_div_cancel' (Nat.gcd_dvd_left x y)).symm
 have ey:y=d*(y/d):=by rw[←hdd];exact(Nat.mul_div_cancel' (Nat.gcd_dvd_right x y)).symm
 rw[hdd];rw[hdd]at hd;obtain⟨x',hx'⟩:∃x',x/d=x':=⟨_,rfl⟩;obtain⟨y',hy'⟩:∃y',y/d=y':=⟨_,rfl⟩;rw[hx']at ex hc⊢;rw[hy']at ey hc⊢;have h2:m1*x'=m2*y':=by
  rw[ex,ey,Nat.mul_left_comm,Nat.mul_left_comm m2]at h;exact Nat.eq_of_mul_eq_mul_left hd h
 have hdv:y'∣m1:=by
  have h3:y'∣x'*m1:=⟨m2,by rw[Nat.mul_comm x',h2,Nat.mul_comm]⟩
  exact Nat.Coprime.dvd_of_dvd_mul_left (Nat.Coprime.symm hc) h3
 obtain⟨q,hq⟩:=hdv;have hyp:0<y':=by
  rcases Nat.eq_zero_or_pos y' with h0|h0
  ·rw[h0]at ey;omega
  ·exact h0
 refine⟨q,by rw[hq,Nat.mul_comm],?_⟩
 rw[hq,Nat.mul_assoc,Nat.mul_comm m2]at h2;exact(Nat.eq_of_mul_eq_mul_left hyp h2).symm
theorem rinv_step{G K:Nat→Nat}{T:List Edg}{R P:Nat→Nat}{e:Edg}(h:RInv G K T R P)(hg:1≤G e.i)(hk:1≤K e.i)(hn:¬Conn T e.f e.t):RInv G K (e::T) (joinR G K (R,P) e).1 (joinR G K (R,P) e).2:=by
 have hne:P e.f≠P e.t:=fun he=>hn ((h.cls _ _).1 he)
 have hx:1≤G e.i*R e.f:=Nat.mul_pos hg (h.pos _)
 have hy:1≤K e.i*R e.t:=Nat.mul_pos hk (h.pos _)
 have hxd:Nat.gcd (G e.i*R e.f) (K e.i*R e.t)∣G e.i*R e.f:=Nat.gcd_dvd_left _ _
 have hyd:Nat.gcd (G e.i*R e.f) (K e.i*R e.t)∣K e.i*R e.t:=Nat.gcd_dvd_right _ _
 have hd:0<Nat.gcd (G e.i*R e.f) (K e.i*R e.t):=Nat.gcd_pos_of_pos_left _ hx
 have hpx:1≤G e.i*R e.f/Nat.gcd (G e.i*R e.f) (K e.i*R e.t):=Nat.div_pos (Nat.le_of_dvd hx hxd) hd
 have hpy:1≤K e.i*R e.t/Nat.gcd (G e.i*R e.f) (K e.i*R e.t):=Nat.div_pos (Nat.le_of_dvd hy hyd) hd
 have hm:=fun m1 m2=>meet (m1:=m1) (m2:=m2) hx hy
 have hxy:G e.i*R e.f*(K e.i*R e.t/Nat.gcd (G e.i*R e.f) (K e.i*R e.t))=K e.i*R e.t*(G e.i*R e.f/Nat.gcd (G e.i*R e.f) (K e.i*R e.t)):=by
  rw[←Nat.mul_div_assoc _ hyd,←Nat.mul_div_assoc _ hxd,Nat.mul_comm]
 unfold joinR;simp only;generalize hxx:G e.i*R e.f/Nat.gcd (G e.i*R e.f) (K e.i*R e.t)=x' at*;generalize hyy:K e.i*R e.t/Nat.gcd (G e.i*R e.f) (K e.i*R e.t)=y' at*;have same:∀u v,Conn T u v→P u=P v:=fun u v hc=>(h.cls u v).2 hc
 refine⟨fun d hdm=>?_,fun u v=>?_,fun v=>?_,fun S hS u=>?_⟩
 ·rcases List.mem_cons.1 hdm with rfl|hdm
  ·rw[if_pos rfl,if_neg (fun he=>hne he.symm),if_pos rfl,←Nat.mul_assoc,←Nat.mul_assoc]
   exact hxy
  ·have hpp:P d.f=P d.t:=same _ _ ⟨[(d.i,false)],d.t,⟨d,hdm,rfl,by simp⟩,rfl⟩
   have he:=h.ev d hdm;rw[hpp];split
   ·rw[←Nat.mul_assoc,←Nat.mul_assoc,he]
   ·split
    ·rw[←Nat.mul_assoc,←Nat.mul_assoc,he]
    ·exact he
 ·rw[conn_iff,←h.cls,←h.cls,←h.cls,←h.cls,←h.cls];constructor
  ·intro heq;by_cases h1:P u=P e.t<;>by_cases h2:P v=P e.t
   ·exact .inl (h1.trans h2.symm)
   ·rw[if_pos h1,if_neg h2]at heq;exact .inr (.inr ⟨h1,heq⟩)
   ·rw[if_neg h1,if_pos h2]at heq;exact .inr (.inl ⟨heq,h2.symm⟩)
   ·rw[if_neg h1,if_neg h2]at heq;exact .inl heq
  ·rintro(h1|⟨h1,h2⟩|⟨h1,h2⟩)
   ·rw[h1]
   ·rw[if_neg (fun he=>hne (h1.symm.trans he)),if_pos h2.symm,h1]
   ·rw[if_pos h1,if_neg (fun he=>hne (h2.trans he)),h2]
 ·split
  ·exact Nat.mul_pos (h.pos v) hpy
  ·split
   ·exact Nat.mul_pos (h.pos v) hpx
   ·exact h.pos v
 ·have hST:Solves G K T S:=fun d hd=>hS d (List.mem_cons_of_mem _ hd)
  have hSe:=hS e (List.mem_cons_self ..);obtain⟨m1,h1⟩:=h.least S hST e.f;obtain⟨m2,h2⟩:=h.least S hST e.t;rw[h1 e.f rfl,h2 e.t rfl,Nat.mul_left_comm,Nat.mul_left_comm (K e.i)]at hSe;obtain⟨q,hq1,hq2⟩:=hm m1 m2 hSe;by_cases hu:P u=P e.f∨P u=P e.t
  ·refine⟨q,fun v hv=>?_⟩
   have hpu:(if P u=P e.t then P e.f else P u)=P e.f:=by
    rcases hu with hu|hu
    ·rw[if_neg (fun he=>hne (hu.symm.trans he)),hu]
    ·rw[if_pos hu]
   rw[hpu]at hv;by_cases hv1:P v=P e.f
   ·rw[if_pos hv1,h1 v hv1,hq1,Nat.mul_assoc,Nat.mul_comm y']
   ·have hv2:P v=P e.t:=by
     by_cases hv2:P v=P e.t
     ·exact hv2
     ·rw[if_neg hv2]at hv;exact absurd hv hv1
    rw[if_neg hv1,if_pos hv2,h2 v hv2,hq2,Nat.mul_assoc,Nat.mul_comm x']
  ·obtain⟨m,h3⟩:=h.least S hST u;refine⟨m,fun v hv=>?_⟩
   have hpu:(if P u=P e.t then P e.f else P u)=P u:=if_neg (fun he=>hu (.inr he))
   rw[hpu]at hv;have hv2:P v≠P e.t:=fun he=>by rw[if_pos he]at hv;exact hu (.inl hv.symm)
   rw[if_neg hv2]at hv;rw[if_neg (fun he=>hu (.inl (hv.symm.trans he))),if_neg hv2]
   exact h3 v hv
theorem rinv_all{G K:Nat→Nat}:∀{T:List Edg},Forest T→(∀e∈T,1≤G e.i∧1≤K e.i)→RInv G K T (countsR G K T).1 (countsR G K T).2
 |[],_,_=>rinv_start G K
 |e::T,hF,hb=>by
  have h:=rinv_all hF.1 (fun d hd=>hb d (List.mem_cons_of_mem _ hd))
  have hb:=hb e (List.mem_cons_self ..);exact rinv_step h hb.1 hb.2 hF.2.2
end Go.Proofs.YtpmlljbebdidgaaGreatDoor
namespace Go.Proofs.YtpmlljbebdidgaaGreatDoor
open Go.RowKit
theorem low_eq(n d:Int):lowE ((decide (n<0) !=decide (d<0))&&decide (n.natAbs≠0)) (n.natAbs/Nat.gcd n.natAbs d.natAbs) (d.natAbs/Nat.gcd n.natAbs d.natAbs)=
  if(okB (newN n d)&&okB (newD n d))=true then .returned (.agg #[.int .i64 (newN n d), .int .i64 (newD n d)])else big:=by
 have e:sgnI ((decide (n<0) !=decide (d<0))&&decide (n.natAbs≠0)) (n.natAbs/Nat.gcd n.natAbs d.natAbs)=newN n d:=by
  by_cases h0:n.natAbs=0
  ·unfold newN;rw[h0];simp[sgnI]
  ·unfold newN;simp[h0]
 have e2:sgnI false (d.natAbs/Nat.gcd n.natAbs d.natAbs)=newD n d:=rfl
 by_cases h:(okB (newN n d)&&okB (newD n d))=true
 ·rw[if_pos h];rw[Bool.and_eq_true,okB_iff,okB_iff]at h;rw[lowE_yes (by unfold sOk;rw[e];exact h.1) (by unfold sOk;rw[e2];exact h.2),e];rfl
 ·rw[if_neg h];rw[Bool.and_eq_true,okB_iff,okB_iff]at h;exact lowE_no fun hh=>h ⟨by rw[←e];exact hh.1,by rw[←e2];exact hh.2⟩
def bigR:List PanicEntry:=[{v:= .iface 31 (.int .i64 4),recovered:=true}]
def givenUp(w:World)(g h:Nat):World:=((w.setCell ⟨g,0,none⟩ (.int .i64 0)).setCell ⟨g,1,none⟩ (.int .i64 0)).setCell ⟨h,0,none⟩ (.int .i64 4)
theorem givenUp_blk{w:World}{g h:Nat}{u0 u1 u2:Value}(k0:Blk w g 87 #[u0,u1])(k1:Blk w h 31 #[u2])(hne:g≠h):
  Blk (givenUp w g h) g 87 #[.int .i64 0, .int .i64 0]∧Blk (givenUp w g h) h 31 #[.int .i64 4]:=by
 have a0:=(k0.set 0 (.int .i64 0)).set 1 (.int .i64 0);have a1:=a0.far (p:=⟨h,0,none⟩) hne (.int .i64 4);have b0:=((k1.far (p:=⟨g,0,none⟩) (fun e=>hne e.symm) (.int .i64 0)).far (p:=⟨g,1,none⟩) (fun e=>hne e.symm) (.int .i64 0)).set 0 (.int .i64 4)
 unfold givenUp;exact⟨by simpa using a1,by simpa using b0⟩
theorem givenUp_below{w W:World}{B g h:Nat}(hb:Below B w W)(hg:B≤g)(hh:B≤h):Below B w (givenUp W g h):=
 ((hb.setCell (p:=⟨g,0,none⟩) hg _).setCell (p:=⟨g,1,none⟩) hg _).setCell (p:=⟨h,0,none⟩) hh _
theorem blk_facts{w:World}{g h:Nat}{u0 u1 u2:Value}(k0:Blk w g 87 #[u0,u1])(k1:Blk w h 31 #[u2])(hne:g≠h):
  w.cell? ⟨g,0,none⟩=some u0∧(w.setCell ⟨g,0,none⟩ (.int .i64 0)).cell? ⟨g,1,none⟩=some u1∧((w.setCell ⟨g,0,none⟩ (.int .i64 0)).setCell ⟨g,1,none⟩ (.int .i64 0)).cell? ⟨h,0,none⟩=some u2∧
  w.frozen? ⟨g,0,none⟩=false∧(w.setCell ⟨g,0,none⟩ (.int .i64 0)).frozen? ⟨g,1,none⟩=false∧((w.setCell ⟨g,0,none⟩ (.int .i64 0)).setCell ⟨g,1,none⟩ (.int .i64 0)).frozen? ⟨h,0,none⟩=false:=by
 have a0:=k0.set 0 (.int .i64 0);have b0:=(k1.far (p:=⟨g,0,none⟩) (fun e=>hne e.symm) (.int .i64 0)).far (p:=⟨g,1,none⟩) (fun e=>hne e.symm) (.int .i64 0)
 exact⟨(k0.cell 0).trans (by simp),(a0.cell 1).trans (by simp),(b0.cell 0).trans (by simp),k0.frozen 0,a0.frozen 1,b0.frozen 0⟩
def idlePost(w:World)(e:Ending)(u':FrameMode)(w':World):Prop:=e= .returned (.tuple #[])∧u'= .returning∧w'=w
def bigPost(w:World)(g h:Nat)(e:Ending)(u':FrameMode)(w':World):Prop:=e= .returned (.tuple #[])∧u'= .panicking bigR∧w'=givenUp w g h
theorem new1_idle(p q:Addr)(w:World):CallsD Tryz.prog 75 #[.pointer (some p), .pointer (some q)] .returning w (idlePost w):=by
 refine callsD_of_wpS Tryz.func75 rfl fun c₀ cs hu=>?_
 apply wpS_seq
 apply wpS_region
 simp[wpOpsS,go_sem,recoverD,hu, Tryz.ntmps75,Exit.thenS]
 apply wpS_seq
 apply wpS_region
 simp[wpOpsS,go_sem,Exit.thenS]
 refine wpS_cond (t:=false) (by simp[Act.eval,Array.replicate]) ?_
 simp only[Bool.false_eq_true,if_false];refine wpS_of_wp (wp_skip ?_);cases c₀
 simp_all [bodyPostS,results, Tryz.results75,idlePost]
theorem new1_big(g h:Nat)(u0 u1 u2:Value)(w:World)(k0:Blk w g 87 #[u0,u1])(k1:Blk w h 31 #[u2])(hne:g≠h):
  CallsD Tryz.prog 75 #[.pointer (some ⟨g,0,none⟩), .pointer (some ⟨h,0,none⟩)] (.panicking bigP) w (bigPost w g h):=by
 obtain⟨c0,c1,c2,z0,z1,z2⟩:=blk_facts k0 k1 hne;refine callsD_of_wpS Tryz.func75 rfl fun c₀ cs hu=>?_
 apply wpS_seq
 apply wpS_region
 simp[wpOpsS,go_sem,recoverD,hu, Tryz.ntmps75,Exit.thenS,bigP]
 apply wpS_seq
 apply wpS_region
 simp[wpOpsS,go_sem,Exit.thenS]
 refine wpS_cond (t:=true) (by simp[Act.eval,Array.replicate]) ?_
 simp only[if_true];apply wpS_region;simp[wpOpsS,go_sem,c0,c1,c2,z0,z1,z2,bodyPostS,results, Tryz.results75,bigPost,givenUp,bigR]
theorem new_any(n d:Int)(w:World)(hn:fits n)(hd:fits d):
  Calls Tryz.prog 52 #[.int .i64 n, .int .i64 d] w fun e w'=>e= .returned (.tuple #[.agg #[.int .i64 (newR n d).1.n, .int .i64 (newR n d).1.d], .int .i64 (newR n d).2])∧Below w.heap.size w w':=by
 have hmf:∀(fn:Fn) (first cap:Array Value) (w:World),(Instr.makeFunc fn first cap).run Tryz.prog w= .ok (.func fn first cap) w:=fun _ _ _ _=>rfl
 obtain⟨W,hW⟩:∃W,(w.alloc (.cells #[.int .i64 0, .int .i64 0] 87)).alloc (.cells #[.int .i64 0] 31)=W:=⟨_,rfl⟩;have bW:Below w.heap.size w W:=by subst hW;exact((Below.refl _ _).alloc lR_ _).alloc (by simp) _
 have k0:Blk W w.heap.size 87 #[.int .i64 0, .int .i64 0]:=by subst hW;exact(Blk.new w _ rfl _ _).alloc _
 have k1:Blk W (w.heap.size+1) 31 #[.int .i64 0]:=by subst hW;exact Blk.new _ _ (by simp) _ _
 have hWs:W.heap.size=w.heap.size+2:=by subst hW;simp
 by_cases h0:d=0
 ·have e:newR n d=(⟨0,0⟩,20):=by unfold newR;rw[if_pos h0]
  rw[e];have hz:(d==0)=true:=by simpa using h0
  clear e h0;have f0:=k0.cell 0;have f1:=k0.cell 1;have f2:=k1.cell 0;have z0:=k0.frozen 0;have z1:=k0.frozen 1;have z2:=k1.frozen 0;have k2:=(k0.set 0 (.int .i64 0)).set 1 (.int .i64 0);have k3:=k2.far (p:=⟨w.heap.size+1,0,none⟩) (by simp) (.int .i64 20)
  have k4:=((k1.far (p:=⟨w.heap.size,0,none⟩) (by simp) (.int .i64 0)).far (p:=⟨w.heap.size,1,none⟩) (by simp) (.int .i64 0)).set 0 (.int .i64 20)
  have bb:=((bW.setCell (p:=⟨w.heap.size,0,none⟩) lR_ (.int .i64 0)).setCell (p:=⟨w.heap.size,1,none⟩) lR_ (.int .i64 0)).setCell (p:=⟨w.heap.size+1,0,none⟩) (by simp) (.int .i64 20)
  have c0:=k3.cell 0;have c1:=k3.cell 1;have c2:=k4.cell 0;simp at f0 f1 f2 c0 c1 c2;clear k0 k1 k2 k3 k4
  go_enter_defers Tryz.func52, Tryz.ntmps52
  go_wp2_with fail;exact⟨.tuple #[.agg #[.int .i64 0, .int .i64 0], .int .i64 20],by simp[results, Tryz.results52,go_sem,c0,c1,c2],rfl,bb⟩
 ·have hz:(d==0)=false:=by simpa using h0
  have hl:=fun w=>low_any (decide (n<0) !=decide (d<0)) n.natAbs d.natAbs w (natAbs_lt hn) (natAbs_lt hd) (by omega)
  rw[low_eq n d]at hl;by_cases hok:(okB (newN n d)&&okB (newD n d))=true
  ·have e:newR n d=(⟨newN n d,newD n d⟩,0):=by unfold newR;rw[if_neg h0,if_pos hok]
   rw[e];rw[if_pos hok]at hl;have Hl:=Lh hl;clear e h0 hok hl;generalize newN n d=x at*;generalize newD n d=y at*
   go_enter_defers Tryz.func52, Tryz.ntmps52
   go_wp2_with (first|(go_at_call 77;refine(fsize_any _ _ (by assumption)).mono ?_;rintro e w' ⟨rfl,rfl⟩))
   try rw[hW]
   refine(Hl.out _).mono ?_;rintro e w2 ⟨rfl,hb2⟩;have a0:=k0.kept hb2;have a1:=k1.kept hb2;have b2:=bW.trans (hb2.mono (by omega))
   have f0:=a0.cellL 0 rfl;have f1:=a0.cellL 1 rfl;have f2:=a1.cellL 0 rfl;have z0:=a0.frozen 0;have z1:=a0.frozen 1;have z2:=a1.frozen 0;have k2:=(a0.set 0 (.int .i64 x)).set 1 (.int .i64 y);have k3:=k2.far (p:=⟨w.heap.size+1,0,none⟩) (by simp) (.int .i64 0)
   have k4:=((a1.far (p:=⟨w.heap.size,0,none⟩) (by simp) (.int .i64 x)).far (p:=⟨w.heap.size,1,none⟩) (by simp) (.int .i64 y)).set 0 (.int .i64 0)
   have bb:=((b2.setCell (p:=⟨w.heap.size,0,none⟩) lR_ (.int .i64 x)).setCell (p:=⟨w.heap.size,1,none⟩) lR_ (.int .i64 y)).setCell (p:=⟨w.heap.size+1,0,none⟩) (by simp) (.int .i64 0)
   have c0:=k3.cell 0;have c1:=k3.cell 1;have c2:=k4.cell 0;simp at c0 c1 c2;clear k0 k1 k2 k3 k4 a0 a1 b2 hW
   go_wp2_with fail;refine leaves_cons (f:= 75) (args:=#[.pointer (some ⟨w.heap.size,0,none⟩), .pointer (some ⟨w.heap.size+1,0,none⟩)]) (by simp) (by simp[go_sem]) ?_
   refine(new1_idle _ _ _).mono ?_;rintro e u' w'' ⟨rfl,rfl,rfl⟩;exact⟨.tuple #[.agg #[.int .i64 x, .int .i64 y], .int .i64 0],by simp[results, Tryz.results52,go_sem,c0,c1,c2],rfl,bb⟩
  ·have e:newR n d=(⟨0,0⟩,4):=by unfold newR;rw[if_neg h0,if_neg hok]
   rw[e];rw[if_neg hok]at hl;have Hl:=Lh hl;clear e h0 hok hl
   go_enter_defers Tryz.func52, Tryz.ntmps52
   go_wp2_with (first|(go_at_call 77;refine(fsize_any _ _ (by assumption)).mono ?_;rintro e w' ⟨rfl,rfl⟩))
   try rw[hW]
   refine(Hl.out _).mono ?_;rintro e w2 ⟨rfl,hb2⟩;have a0:=k0.kept hb2;have a1:=k1.kept hb2;have b2:=bW.trans (hb2.mono (by omega))
   obtain⟨g0,g1⟩:=givenUp_blk a0 a1 (by simp)
   have c0:=g0.cell 0;have c1:=g0.cell 1;have c2:=g1.cell 0;simp at c0 c1 c2;refine leaves_cons (f:= 75) (args:=#[.pointer (some ⟨w.heap.size,0,none⟩), .pointer (some ⟨w.heap.size+1,0,none⟩)]) (by simp) (by simp[go_sem]) ?_
   refine(new1_big _ _ _ _ _ _ a0 a1 (by simp)).mono ?_
   rintro e u' w'' ⟨rfl,rfl,rfl⟩;exact⟨.tuple #[.agg #[.int .i64 0, .int .i64 0], .int .i64 4],by simp[results, Tryz.results52,go_sem,c0,c1,c2],rfl,givenUp_below b2 lR_ (by omega)⟩
end Go.Proofs.YtpmlljbebdidgaaGreatDoor
