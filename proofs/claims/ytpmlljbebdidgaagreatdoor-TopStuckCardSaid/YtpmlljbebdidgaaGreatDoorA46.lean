/- Lemmas and walks for the claim: Fy, Yl, Fh, Yo. -/
import Derived.Test.YtpmlljbebdidgaaGreatDoorA45
import Derived.Deep.RegionHeld3
namespace Go.Proofs.YtpmlljbebdidgaaGreatDoor
open Go.RowKit
def PathAns(n:Int)(ars:List ArcV)(s t k:Int)(p:List Stp):Prop:=
 (checkF n ars≠0∧k=checkF n ars∧p=[])∨
 (checkF n ars=0∧(s<0∨t<0∨n≤s∨n≤t)∧k=100∧p=[])∨
 (checkF n ars=0∧∃m a b:Nat,n=m∧s=a∧t=b∧a<m∧b<m∧root (upF m ars) a≠root (upF m ars) b∧k=110∧p=[])∨
 (checkF n ars=0∧∃m a b:Nat,n=m∧s=a∧t=b∧a<m∧b<m∧root (upF m ars) a=root (upF m ars) b∧k=0∧∃T,FInv m ars ars.length (upF m ars) (treeF m ars) T∧Walk T a p b∧Red p)
theorem tree_same{n:Nat}{ars:List ArcV}{T T':List Edg}(h:FInv n ars ars.length (upF n ars) (treeF n ars) T)(h':FInv n ars ars.length (upF n ars) (treeF n ars) T'){u v:Nat}{p:List Stp}(hp:Walk T u p v):Walk T' u p v:=by
 induction p generalizing u with
 |nil=>exact hp
 |cons s p ih=>
  obtain⟨m,h1,h2⟩:=hp;exact⟨m,(stepOk_iff h').2 ((stepOk_iff h).1 h1),ih h2⟩
theorem PathAns.one{n:Int}{ars:List ArcV}{s t k k':Int}{p p':List Stp}(h:PathAns n ars s t k p)(h':PathAns n ars s t k' p'):k=k'∧p=p':=by
 rcases h with⟨h1,h2,h3⟩|⟨h1,h2,h3,h4⟩|⟨h1,m,a,b,rfl,rfl,rfl,h2,h3,h4,h5,h6⟩|⟨h1,m,a,b,rfl,rfl,rfl,h2,h3,h4,h5,T,h6,h7,h8⟩<;>
  rcases h' with⟨g1,g2,g3⟩|⟨g1,g2,g3,g4⟩|⟨g1,m',a',b',e1,e2,e3,g2,g3,g4,g5,g6⟩|⟨g1,m',a',b',e1,e2,e3,g2,g3,g4,g5,T',g6,g7,g8⟩
 all_goals first
  |exact absurd h1 g1
  |exact absurd g1 h1
  |(exfalso;omega)
  |skip
 ·exact⟨h2.trans g2.symm,h3.trans g3.symm⟩
 ·exact⟨h3.trans g3.symm,h4.trans g4.symm⟩
 ·exact⟨h5.trans g5.symm,h6.trans g6.symm⟩
 ·obtain rfl:m=m':=by omega
  obtain rfl:a=a':=by omega
  obtain rfl:b=b':=by omega
  exact absurd g4 h4
 ·obtain rfl:m=m':=by omega
  obtain rfl:a=a':=by omega
  obtain rfl:b=b':=by omega
  exact absurd h4 g4
 ·obtain rfl:m=m':=by omega
  obtain rfl:a=a':=by omega
  obtain rfl:b=b':=by omega
  exact⟨h5.trans g5.symm,uniq h6.forest h7 (tree_same g6 h6 g7) h8 g8⟩
theorem path_any(n:Int)(ars:List ArcV)(A:Option Addr)(l c:Nat)(s t:Int)(w:World)(hl:ars.length=l)(hx:∀a∈ars,a.fit)(hr:Rd w w.heap.size A (cellsA ars))(hm:l≤maxLen)(hs:fits s)(ht:fits t):
  Calls Tryz.prog 29 #[.agg #[.int .i64 n, .slice A l c], .int .i64 s, .int .i64 t] w fun e w'=>∃A' c' k p,e= .returned (.tuple #[.slice A' p.length c', .int .i64 k])∧PathAns n ars s t k p∧Rd w' w'.heap.size A' (cellsS p)∧p.length≤32∧Below w.heap.size w w':=by
 by_cases hc:checkF n ars=0
 ·have hn:∃m:Nat,n=m:=by
   refine⟨n.toNat,?_⟩;unfold checkF at hc;split at hc
   ·cases hc
   ·omega
  obtain⟨m,rfl⟩:=hn;by_cases hst:s<0∨t<0∨(m:Int)≤s∨(m:Int)≤t
  ·exact(path_node m ars A l c s t w hl hx hr hm hc hs ht hst).mono fun e w' ⟨he,hb⟩=>⟨none,0,100,[],he, .inr (.inl ⟨hc,hst,rfl,rfl⟩), .inl rfl,by simp,hb⟩
  ·obtain⟨a,rfl⟩:∃a:Nat,s=a:=⟨s.toNat,by omega⟩
   obtain⟨b,rfl⟩:∃b:Nat,t=b:=⟨t.toNat,by omega⟩
   have ha:a<m:=by omega
   have hb:b<m:=by omega
   by_cases he:root (upF m ars) a=root (upF m ars) b
   ·obtain⟨T,hT⟩:=finv_end (checkF_ok hc).2.2.2;exact(path_ok m ars A l c a b w T hT hl hx hr hm hc ha hb he).mono fun e w' ⟨A',c',p,h1,h2,h3,h4,h5,h6⟩=>
     ⟨A',c',0,p,h1, .inr (.inr (.inr ⟨hc,m,a,b,rfl,rfl,rfl,ha,hb,he,rfl,T,hT,h2,h3⟩)),rd_of_own h4,h6,h5⟩
   ·exact(path_apart m ars A l c a b w hl hx hr hm hc ha hb he).mono fun e w' ⟨h1,h2⟩=>⟨none,0,110,[],h1, .inr (.inr (.inl ⟨hc,m,a,b,rfl,rfl,rfl,ha,hb,he,rfl,rfl⟩)), .inl rfl,by simp,h2⟩
 ·exact(path_bad n ars A l c s t w hl hx hr hm hc).mono fun e w' ⟨he,hb⟩=>⟨none,0,checkF n ars,[],he, .inl ⟨hc,rfl,rfl⟩, .inl rfl,by simp,hb⟩
end Go.Proofs.YtpmlljbebdidgaaGreatDoor
namespace Go.Proofs.YtpmlljbebdidgaaGreatDoor
def edgesF(n:Nat)(ars:List ArcV):List Edg:=(treeF n ars).reverse.map fun x=>⟨x.toNat,(ars[x.toNat]?.elim 0 fun a=>a.f).toNat,(ars[x.toNat]?.elim 0 fun a=>a.t).toNat⟩
def cR(n:Nat)(ars:List ArcV):Nat→Nat:=(countsR (gN ars) (kN ars) (edgesF n ars)).1
def cP(n:Nat)(ars:List ArcV):Nat→Nat:=(countsR (gN ars) (kN ars) (edgesF n ars)).2
theorem edges_of{n:Nat}{ars:List ArcV}{i:Nat}{up:List Int}{T:List Edg}(h:FInv n ars i up (treeF n ars) T):T=edgesF n ars:=by
 unfold edgesF;have ht:=h.tree;rw[ht,←List.map_reverse,List.reverse_reverse,List.map_map];refine(List.map_id T).symm.trans (List.map_congr_left fun e he=>?_)
 obtain⟨-,-,-,a,ha,hf,ht'⟩:=h.edge e he;show e=_
 simp only[Function.comp];have e0:((e.i:Int)).toNat=e.i:=by omega
 rw[e0,ha];show e=⟨e.i,a.f.toNat,a.t.toNat⟩
 rw[hf,ht'];have e1:((e.f:Int)).toNat=e.f:=by omega
 have e2:((e.t:Int)).toNat=e.t:=by omega
 rw[e1,e2]
theorem ctx_at{n:Nat}{ars:List ArcV}(hc:checkF n ars=0):Ctx n ars (edgesF n ars) (cR n ars) (cP n ars):=by
 obtain⟨T,C⟩:=ctx_of hc;obtain rfl:=edges_of C.fi;exact C
def evA(R:Nat→Nat)(a:ArcV):Bool:=decide (a.g*(R a.f.toNat:Int)=a.k*(R a.t.toNat:Int))
def FirstU(ars:List ArcV)(R:Nat→Nat)(i:Nat)(a:ArcV):Prop:=ars[i]?=some a∧evA R a=false∧∀j b,j<i→ars[j]?=some b→evA R b=true
def SolA(n:Int)(ars:List ArcV)(vd:Int)(reps:List Int)(cyc:List Stp)(k:Int):Prop:=
 (checkF n ars≠0∧k=checkF n ars∧vd=0∧reps=[]∧cyc=[])∨
 (checkF n ars=0∧k=0∧∃m:Nat,n=m∧
  ((Big m (cR m ars)∧vd=3∧reps=[]∧cyc=[])∨
   (¬Big m (cR m ars)∧vd=2∧reps=[]∧∃i a p,FirstU ars (cR m ars) i a∧PathAns m ars a.t a.f 0 p∧cyc=(i,false)::p)∨
   (¬Big m (cR m ars)∧(∀a∈ars,evA (cR m ars) a=true)∧vd=1∧reps=rowN m (fun v=>(cR m ars v:Int))∧cyc=[])))
theorem FirstU.one{ars:List ArcV}{R:Nat→Nat}{i i':Nat}{a a':ArcV}(h:FirstU ars R i a)(h':FirstU ars R i' a'):i=i'∧a=a':=by
 obtain⟨h1,h2,h3⟩:=h;obtain⟨g1,g2,g3⟩:=h';have e:i=i':=by
  rcases Nat.lt_trichotomy i i' with hlt|rfl|hlt
  ·have:=g3 i a hlt h1;rw[h2]at this;cases this
  ·rfl
  ·have:=h3 i' a' hlt g1;rw[g2]at this;cases this
 subst e;rw[h1]at g1;exact⟨rfl,Option.some.inj g1⟩
theorem SolA.one{n:Int}{ars:List ArcV}{vd vd' k k':Int}{reps reps':List Int}{cyc cyc':List Stp}(h:SolA n ars vd reps cyc k)(h':SolA n ars vd' reps' cyc' k'):vd=vd'∧reps=reps'∧cyc=cyc'∧k=k':=by
 rcases h with⟨hc,rfl,rfl,rfl,rfl⟩|⟨hc,rfl,m,rfl,h⟩
 ·rcases h' with⟨-,rfl,rfl,rfl,rfl⟩|⟨hc',-⟩
  ·exact⟨rfl,rfl,rfl,rfl⟩
  ·exact absurd hc' hc
 ·rcases h' with⟨hc',-⟩|⟨-,rfl,m',hm,h'⟩
  ·exact absurd hc hc'
  ·obtain rfl:m=m':=by omega
   rcases h with⟨hb,rfl,rfl,rfl⟩|⟨hb,rfl,rfl,i,a,p,hu,hp,rfl⟩|⟨hb,he,rfl,rfl,rfl⟩
   ·rcases h' with⟨-,rfl,rfl,rfl⟩|⟨hb',-⟩|⟨hb',-⟩
    ·exact⟨rfl,rfl,rfl,rfl⟩
    ·exact absurd hb hb'
    ·exact absurd hb hb'
   ·rcases h' with⟨hb',-⟩|⟨-,rfl,rfl,i',a',p',hu',hp',rfl⟩|⟨-,he',-⟩
    ·exact absurd hb' hb
    ·obtain⟨rfl,rfl⟩:=hu.one hu';obtain⟨-,rfl⟩:=hp.one hp';exact⟨rfl,rfl,rfl,rfl⟩
    ·have:=he' a (List.mem_of_getElem? hu.1);rw[hu.2.1]at this;cases this
   ·rcases h' with⟨hb',-⟩|⟨-,-,-,i',a',p',hu',-⟩|⟨-,-,rfl,rfl,rfl⟩
    ·exact absurd hb' hb
    ·have:=he a' (List.mem_of_getElem? hu'.1);rw[hu'.2.1]at this;cases this
    ·exact⟨rfl,rfl,rfl,rfl⟩
theorem not_big{n:Nat}{R:Nat→Nat}(h:¬Big n R){v:Nat}(hv:v<n):R v≤4096:=by
 by_cases h1:R v≤4096
 ·exact h1
 ·exact absurd ⟨v,hv,by omega⟩ h
theorem shF_small{n:Nat}{ars:List ArcV}{T:List Edg}{R P:Nat→Nat}(C:Ctx n ars T R P)(h:¬Big n R){v:Nat}(hv:v<n):Small (shF n ars R v):=by
 have:=hm_le n ars v
 exact share_small (C.ri.pos v) (C.ri.pos _) (not_big h hv) (not_big h (by omega))
theorem arc_even{n:Nat}{ars:List ArcV}{T:List Edg}{R P:Nat→Nat}(C:Ctx n ars T R P)(h:¬Big n R){i:Nat}{a:ArcV}(ha:ars[i]?=some a):
  timesF (shF n ars R a.f.toNat) a.g a.k=shF n ars R a.t.toNat↔evA R a=true:=by
 have hb:=C.arc a (List.mem_of_getElem? ha);have hs:=shF_small C h (v:=a.f.toNat) (by omega)
 unfold shF at hs⊢;rw[C.same ha]at hs⊢;rw[share_far (C.ri.pos _) hs (by omega)]
 unfold evA;exact decide_eq_true_iff.symm
theorem okT_small{f:Fr}(h:Small f):okT f=true:=by
 unfold okT;rw[decide_eq_true h.n2,decide_eq_true h.d2];rfl
end Go.Proofs.YtpmlljbebdidgaaGreatDoor
namespace Go.Proofs.YtpmlljbebdidgaaGreatDoor
open Go.RowKit
def OfAns(n:Int)(ars:List ArcV)(k:Int)(tree home:List Int):Prop:=
 (checkF n ars≠0∧k=checkF n ars∧tree=[]∧home=[])∨(checkF n ars=0∧k=0∧∃m:Nat,n=m∧tree=treeF m ars∧home=homeF m ars)
theorem checkF_nat{n:Int}{ars:List ArcV}(hc:checkF n ars=0):∃m:Nat,n=m:=by
 refine⟨n.toNat,?_⟩;unfold checkF at hc;split at hc
 ·cases hc
 ·omega
theorem of_any(n:Int)(ars:List ArcV)(A:Option Addr)(l c:Nat)(w:World)(hl:ars.length=l)(hx:∀a∈ars,a.fit)(hr:Rd w w.heap.size A (cellsA ars))(hm:l≤maxLen):
  Calls Tryz.prog 25 #[.agg #[.int .i64 n, .slice A l c]] w fun e w'=>∃At ct Ah ch k tree home,e= .returned (.tuple #[.agg #[.slice At tree.length ct, .slice Ah home.length ch], .int .i64 k])∧OfAns n ars k tree home∧
   Rd w' w'.heap.size At (cellsI tree)∧Rd w' w'.heap.size Ah (cellsI home)∧Below w.heap.size w w':=by
 by_cases hc:checkF n ars=0
 ·obtain⟨m,rfl⟩:=checkF_nat hc;refine(of_walk m ars A l c w hl hx hr hm hc).mono ?_;rintro e w' ⟨At,ct,gh,rfl,_,ot,oh,hb⟩;exact⟨At,ct,some ⟨gh,0,none⟩,m,0,treeF m ars,homeF m ars,by rw[homeF_length], .inr ⟨hc,rfl,m,rfl,rfl,rfl⟩,rd_of_own ot,rd_of_own oh,hb⟩
 ·refine(of_bad n ars A l c w hl hx hr hm hc).mono ?_;rintro e w' ⟨rfl,hb⟩;exact⟨none,0,none,0,checkF n ars,[],[],rfl, .inl ⟨hc,rfl,rfl,rfl⟩, .inl rfl, .inl rfl,hb⟩
theorem cellsS_one(p:List Stp):∀u∈cellsS p,u.oneCell'=true:=by
 intro u hu;obtain⟨s,-,hs⟩:=List.mem_flatMap.1 hu;exact stepCells_one s u hs
def cI(n:Nat)(ars:List ArcV)(i:Nat):(Nat→Nat)×(Nat→Nat):=countsR (gN ars) (kN ars) ((edgesF n ars).drop ((edgesF n ars).length-i))
end Go.Proofs.YtpmlljbebdidgaaGreatDoor
