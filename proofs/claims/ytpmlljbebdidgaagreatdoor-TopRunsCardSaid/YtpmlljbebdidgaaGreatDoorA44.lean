/- Lemmas and walks for the claim: Jc, Ji, Jd, Je. -/
import Derived.Test.YtpmlljbebdidgaaGreatDoorA0
import Derived.Test.YtpmlljbebdidgaaGreatDoorA43
import Derived.Test.YtpmlljbebdidgaaGreatDoorA33
import Derived.Test.YtpmlljbebdidgaaGreatDoorA29
import Derived.Test.YtpmlljbebdidgaaGreatDoorA6
set_option linter.unusedSimpArgs false
set_option maxHeartbeats 2000000
namespace Go.Proofs.YtpmlljbebdidgaaGreatDoor
open Go.RowKit
theorem StepE.dn_fail{g:zB}{V V':RigV}{v:Nat}{t:TkV}(hs:StepE V v t V' false)(u:Nat):dn g V' u=dn g V u:=by
 cases hs with
 |fail hg hp hφ hh hr hl hy hz=>unfold dn;simp only[hφ,hh,hr]
theorem RStep.mono{g:zB}{caps:List Int}{ni:Nat→Int}{V V':RigV}{i:Int}{b:Bool}(Q:RunQ g caps ni V)(hs:RStep V i V' b):
  (∀u,dn g V u≤dn g V' u)∧(∀u:Nat,(u:Int)≠i→dn g V' u=dn g V u)∧(0≤V.failed→V'=V)∧(b=false→V'=V):=by
 cases hs with
 |no he hn=>subst he;exact⟨fun _=>zaT _,fun _ _=>rfl,fun _=>rfl,fun _=>rfl⟩
 |yes v t ok hi hv hf hr hs hfail=>
  refine⟨fun u=>?_,fun u hu=>?_,fun hc=>absurd hc (by omega),fun hc=>(by cases hc)⟩
  ·cases ok with
   |false=>exact Int.le_of_eq (hs.dn_fail u).symm
   |true=>
    obtain⟨h1,h2⟩:=(Q.G.at_ Q.sh hv).step hs;by_cases h:u=v
    ·subst h;omega
    ·exact Int.le_of_eq (h2 u h).symm
  ·cases ok with
   |false=>exact hs.dn_fail u
   |true=>exact((Q.G.at_ Q.sh hv).step hs).2 u fun h=>hu (by omega)
theorem RStep.goes{g:zB}{caps:List Int}{ni:Nat→Int}{V V':RigV}{v:Nat}{t:TkV}{b:Bool}(Q:RunQ g caps ni V)(hs:RStep V (v:Int) V' b)(ht:V.tasks[v]?=some t)(hr:V.rdy t=true):0≤V'.failed∨dn g V v<dn g V' v:=by
 cases hs with
 |no he hn=>
  rcases hn with hn|hn
  ·subst he;exact .inl hn
  ·rw[hn v t rfl ht]at hr;cases hr
 |yes v' t' ok hi hv hf hr' hs hfail=>
  obtain rfl:v'=v:=by omega
  cases ok with
  |false=>exact .inl (by rw[hfail];show(0:Int)≤(v':Int);omega)
  |true=>
   have:=((Q.G.at_ Q.sh hv).step hs).1
   exact .inr (by omega)
theorem SeqP.mono{g:zB}{caps:List Int}{ni:Nat→Int}{P:RigV→Prop}(hP:∀V,P V→RunQ g caps ni V){k:Nat}{V V':RigV}{c:Nat}(h:SeqP P k V V' c):
  (∀u,dn g V u≤dn g V' u)∧(∀u,k≤u→dn g V' u=dn g V u)∧(0≤V.failed→0≤V'.failed)∧(c=0→V'=V):=by
 induction h with
 |nil=>exact⟨fun _=>zaT _,fun _ _=>rfl,id,fun _=>rfl⟩
 | @snoc k V V1 V2 c b h hp hm hs ih=>
   obtain⟨i1,i2,i3,i4⟩:=ih;obtain⟨j1,j2,j3,j4⟩:=hs.mono (hP _ hp);refine⟨fun u=>zcK (i1 u) (j1 u),fun u hu=>(j2 u (by omega)).trans (i2 u (by omega)),fun hf=>?_,fun hc=>?_⟩
   ·have:=i3 hf
    rw[j3 this];exact this
   ·cases b with
    |true=>simp at hc
    |false=>exact(j4 rfl).trans (i4 (by simpa using hc))
structure Front(g:zB)(caps:List Int)(ni:Nat→Int)(C:Nat→Nat)(v:Nat):Prop where
 lt:v<g.acts.length
 may:∀(e:Nat) (x:GEdg),g.edges[e]?=some x→x.t.toNat=v→(kOf g x:Int)≤x.st.length+gOf g x*(C x.f.toNat:Nat)-kOf g x*(C v:Nat)
 cap:∀(e:Nat) (x:GEdg) (c:Int),g.edges[e]?=some x→x.f.toNat=v→caps[e]?=some c→x.st.length+gOf g x*((C v:Nat)+1)-kOf g x*(if x.t.toNat=v then(C v:Int)+1 else(C x.t.toNat:Nat))≤c
 inp:∀(i:Nat) (x:PrtV),g.ins[i]?=some x→x.a.toNat=v→rI g v x.p.toNat*((C v:Nat)+1)≤ni i
theorem SeqP.first{g:zB}{caps:List Int}{ni:Nat→Int}{P:RigV→Prop}(hP:∀V,P V→RunQ g caps ni V)(hc:checkG g=0){C:Nat→Nat}{v:Nat}(F:Front g caps ni C v){k:Nat}{V V':RigV}{c:Nat}(h:SeqP P k V V' c)
  (hle:∀u,u<g.acts.length→sz g u*(C u:Nat)≤dn g V u) (hv:dn g V v<sz g v*((C v+1:Nat):Int)):v<k→0≤V'.failed∨dn g V v<dn g V' v:=by
 induction h with
 |nil=>exact fun h=>absurd h (zau _)
 | @snoc k V V1 V2 c b h hp hm hs ih=>
   intro hvk;have Q:=hP _ hp;obtain⟨j1,j2,j3,j4⟩:=hs.mono Q;by_cases hlt:v<k
   ·rcases ih hle hv hlt with h1|h1
    ·exact .inl (by rw[j3 h1];exact h1)
    ·exact .inr (Int.lt_of_lt_of_le h1 (j1 v))
   ·obtain rfl:v=k:=by omega
    obtain⟨i1,i2,-,-⟩:=h.mono hP;have hv1:=i2 v lR_;have wh:∀(u:Nat) (s:TkV),V1.tasks[u]?=some s→C u≤s.wh:=fun u s hs2=>by
     refine((Q.G.at_ Q.sh hs2).wh _).2 (zcK (hle u ?_) (i1 u))
     have:=zao hs2
     rw[Q.G.len]at this;exact this
    obtain⟨t,ht⟩:=zG (l:=V1.tasks) (i:=v) (by rw[Q.G.len];exact F.lt)
    have hwv:t.wh=C v:=Nat.le_antisymm (Nat.le_of_lt_succ (Nat.not_le.1 fun hc2=>by
     have:=((Q.G.at_ Q.sh ht).wh (C v+1)).1 hc2
     omega)) (wh v t ht)
    have hr:=Q.ready hc ht (fun u=>(C u:Nat)) (fun u s hs2=>by have:=wh u s hs2;exact_mod_cast this) (by rw[hwv]) F.may F.cap F.inp
    rw[←hv1];exact hs.goes Q ht hr
theorem zja{f f':Nat→Int}{j:Nat}:∀{n:Nat},j<n→(∀i,i<n→f i≤f' i)→f j<f' j→tot f n+1≤tot f' n
 |0,h,_,_=>absurd h (zau _)
 |n+1,h,ho,hj=>by
  show tot f n+f n+1≤tot f' n+f' n
  have h1:=ho n (by omega)
  by_cases hjn:j=n
  ·subst hjn
   have:=tot_le (f:=f') (f':=f) (n:=j) fun i hi=>ho i (by omega)
   omega
  ·have:=zja (f:=f) (f':=f') (j:=j) (n:=n) (by omega) (fun i hi=>ho i (by omega)) hj
   omega
def allS(g:zB)(R:Nat→Nat):Int:=tot (fun v=>sz g v*(R v:Nat)) g.acts.length
def doneS(g:zB)(R:Nat→Nat)(V:RigV):Int:=tot (fun v=>min (dn g V v) (sz g v*(R v:Nat))) g.acts.length
theorem zk8{g:zB}{R:Nat→Nat}{V V':RigV}(h:∀u,dn g V u≤dn g V' u):doneS g R V≤doneS g R V':=tot_le fun i _=>by have:=h i;omega
theorem zms{g:zB}{R:Nat→Nat}{V:RigV}(h:allS g R≤doneS g R V){v:Nat}(hv:v<g.acts.length):sz g v*(R v:Nat)≤dn g V v:=by
 refine Int.not_lt.1 fun hlt=>?_
 have:=zja (f:=fun v=>min (dn g V v) (sz g v*(R v:Nat))) (f':=fun v=>sz g v*(R v:Nat)) hv (fun i _=>Int.min_le_right _ _) (by show min _ _<_;omega)
 unfold allS doneS at h;omega
structure ListP(g:zB)(caps:List Int)(ni:Nat→Int)(R:Nat→Nat)(m:Nat)(C:Nat→Nat→Nat):Prop where
 zero:∀u,C 0 u=0
 step:∀i,i<m→∃v,Front g caps ni (C i) v∧∀u,C (i+1) u=if u=v then C i u+1 else C i u
 last:∀u,u<g.acts.length→C m u=R u
 le:∀i,i≤m→∀u,u<g.acts.length→C i u≤R u
theorem ListP.front{g:zB}{caps:List Int}{ni:Nat→Int}{R:Nat→Nat}{m:Nat}{C:Nat→Nat→Nat}(h:ListP g caps ni R m C){V:RigV}(h0:∀u,u<g.acts.length→0≤dn g V u)(hn:¬allS g R≤doneS g R V):
  ∃i v,i<m∧Front g caps ni (C i) v∧(∀u,u<g.acts.length→sz g u*(C i u:Nat)≤dn g V u)∧dn g V v<sz g v*((C i v+1:Nat):Int)∧C i v+1≤R v:=by
 have key:∀i,i≤m→(∀u,u<g.acts.length→sz g u*(C i u:Nat)≤dn g V u)∨∃i v,i<m∧Front g caps ni (C i) v∧(∀u,u<g.acts.length→sz g u*(C i u:Nat)≤dn g V u)∧dn g V v<sz g v*((C i v+1:Nat):Int)∧C i v+1≤R v:=by
  intro i
  induction i with
  |zero=>
   refine fun _=> .inl fun u hu=>?_
   rw[h.zero];show sz g u*((0:Nat):Int)≤_
   have:=h0 u hu
   simpa using this
  |succ i ih=>
   intro hi;rcases ih (by omega)with h1|h1
   ·obtain⟨v,F,hC⟩:=h.step i (by omega)
    by_cases hlt:dn g V v<sz g v*((C i v+1:Nat):Int)
    ·refine .inr ⟨i,v,by omega,F,h1,hlt,?_⟩
     have:=h.le (i+1) hi v F.lt
     rw[hC,if_pos rfl]at this;exact this
    ·refine .inl fun u hu=>?_
     rw[hC];by_cases huv:u=v
     ·subst huv;rw[if_pos rfl];omega
     ·rw[if_neg huv];exact h1 u hu
   ·exact .inr h1
 rcases key m lR_ with h1|h1
 ·exact absurd (tot_le fun v hv=>by
   have:=h1 v hv
   rw[h.last v hv]at this;show sz g v*(R v:Nat)≤min _ _
   omega) hn
 ·exact h1
section
variable {g:zB} {caps:List Int} {ni:Nat→Int} {P:RigV→Prop} {R:Nat→Nat} {m n:Nat} {C:Nat→Nat→Nat}
theorem RunQ.dn0{V:RigV}(Q:RunQ g caps ni V){u:Nat}(hu:u<g.acts.length):0≤dn g V u:=by
 obtain⟨t,ht⟩:=zG (l:=V.tasks) (i:=u) (by rw[Q.G.len];exact hu)
 have:=((Q.G.at_ Q.sh ht).wh 0).1 (zJ _)
 simpa using this
theorem ListP.round(h:ListP g caps ni R m C)(hP:∀V,P V→RunQ g caps ni V)(hc:checkG g=0){V V':RigV}{c:Nat}(h0:∀u,u<g.acts.length→0≤dn g V u)(hs:SeqP P g.acts.length V V' c):0≤V'.failed∨min (allS g R) (doneS g R V+1)≤doneS g R V'∧(allS g R≤doneS g R V∨c≠0):=by
 obtain⟨s1,-,-,s4⟩:=hs.mono hP;have sm:=zk8 (R:=R) s1;by_cases hn:allS g R≤doneS g R V
 ·exact .inr ⟨by omega, .inl hn⟩
 ·obtain⟨i,v,-,F,hle,hv,hR⟩:=h.front h0 hn;rcases hs.first hP hc F hle hv F.lt with h1|h1
  ·exact .inl h1
  ·refine .inr ⟨?_, .inr fun hc0=>?_⟩
   ·have hcap:sz g v*((C i v+1:Nat):Int)≤sz g v*(R v:Nat):=zhn (by have:=(zi7 g v).2.2;omega) (by omega)
    have:=zja (f:=fun v=>min (dn g V v) (sz g v*(R v:Nat))) (f':=fun v=>min (dn g V' v) (sz g v*(R v:Nat))) F.lt (fun u _=>by have:=s1 u;show min _ _≤min _ _;omega) (by show min _ _<min _ _;omega)
    have:doneS g R V+1≤doneS g R V':=this
    omega
   ·rw[s4 hc0]at h1;omega
theorem ListP.rounds(h:ListP g caps ni R m C)(hP:∀V,P V→RunQ g caps ni V)(hc:checkG g=0){j:Nat}{V V':RigV}{d:Nat}(h0:∀u,u<g.acts.length→0≤dn g V u)(hs:RndP P g.acts.length j V V' d):
  (∀u,dn g V u≤dn g V' u)∧(0≤V'.failed∨min (allS g R) (doneS g R V+j)≤doneS g R V')∧(0<j→d≠0):=by
 induction hs with
 |nil=>exact⟨fun _=>zaT _, .inr (by show min _ (_+((0:Nat):Int))≤_;omega),fun h=>absurd h (zc1 _)⟩
 | @snoc j V V1 V2 d c hr hs hc0 ih=>
   obtain⟨i1,i2,-⟩:=ih h0;have h1:∀u,u<g.acts.length→0≤dn g V1 u:=fun u hu=>zcK (h0 u hu) (i1 u)
   obtain⟨s1,-,s3,-⟩:=hs.mono hP;refine⟨fun u=>zcK (i1 u) (s1 u),?_,fun _=>by omega⟩
   rcases i2 with i2|i2
   ·exact .inl (s3 i2)
   ·rcases h.round hP hc h1 hs with h2|⟨h2,-⟩
    ·exact .inl h2
    ·exact .inr (by omega)
theorem ListP.goes(h:ListP g caps ni R m C)(hP:∀V,P V→RunQ g caps ni V)(hc:checkG g=0){k:Nat}(hk:0<k){V V':RigV}{d:Nat}(h0:∀u,u<g.acts.length→0≤dn g V u)
  (hr:RndP P g.acts.length k V V' d∨∃j V1,j<k∧RndP P g.acts.length j V V1 d∧SeqP P g.acts.length V1 V' 0):(∀u,dn g V u≤dn g V' u)∧(0≤V'.failed∨allS g R≤doneS g R V'∨doneS g R V+k≤doneS g R V'∧d≠0):=by
 rcases hr with hr|⟨j,V1,hj,hr,hs⟩
 ·obtain⟨h1,h2,h3⟩:=h.rounds hP hc h0 hr;refine⟨h1,?_⟩;rcases h2 with h2|h2
  ·exact .inl h2
  ·by_cases ha:allS g R≤doneS g R V'
   ·exact .inr (.inl ha)
   ·exact .inr (.inr ⟨by omega,h3 hk⟩)
 ·obtain⟨h1,h2,h3⟩:=h.rounds hP hc h0 hr;obtain⟨s1,-,s3,s4⟩:=hs.mono hP;have e:=s4 rfl;refine⟨fun u=>zcK (h1 u) (s1 u),?_⟩
  rcases h.round hP hc (fun u hu=>zcK (h0 u hu) (h1 u)) hs with h4|⟨-,h4⟩
  ·exact .inl h4
  ·rcases h4 with h4|h4
   ·exact .inr (.inl (by rw[e];exact h4))
   ·exact absurd rfl h4
end
def RunJ(g:zB)(L:Nat)(ni:Nat→Int)(V0:RigV)(N:Nat)(V:RigV):Prop:=ze2 g L (fun _=>0) [] N V∧InJ g ni V∧V0.same V
theorem znR{g:zB}{L:Nat}{ni:Nat→Int}{V0:RigV}(hc:checkG g=0)(hL:L<17592186044416){M:Nat}(hM:M≤17592186046464):RigJ (RunJ g L ni V0) M:=
 ⟨fun N V h hN=>h.1.room hc hL (by omega),fun N V V' i b h _ hsh hs hst=>⟨h.1.step hc (fun hc=>absurd rfl hc) hsh hs hst,h.2.1.step hc h.1.G hsh hst,h.2.2.trans hs⟩,fun N V h=>⟨h.1.more,h.2⟩⟩
theorem RigV.same.que{V V':RigV}(h:V.same V'){e:Nat}{q:QV}(hq:V'.qs[e]?=some q):∃s,V.qs[e]?=some s∧s.cap=q.cap:=by
 have h1:=congrArg (fun l=>l[e]?) h.qs
 simp only[zp,hq,zai]at h1;cases hs:V.qs[e]? with
 |none=>rw[hs]at h1;cases h1
 |some s=>
  rw[hs]at h1;have h1:=zq h1;simp only[zaj]at h1;exact⟨s,rfl,h1.2.symm⟩
theorem RigV.same.lenQ{V V':RigV}(h:V.same V'):V'.qs.length=V.qs.length:=by
 have:=congrArg List.length h.qs
 rwa [zA,zA]at this
structure zlb(g:zB)(caps:List Int)(V:RigV):Prop where
 full:V.full
 ln:∀(v:Nat) (t:TkV),V.tasks[v]?=some t→t.src.length=t.rin.length∧t.dst.length=t.rout.length
 cap:∀(e:Nat) (q:QV),V.qs[e]?=some q→e<g.edges.length→caps[e]?=some q.cap
 que:∀(v:Nat) (t:TkV),V.tasks[v]?=some t→∀(e k:Nat), .que e k∈t.dst→∃q,V.qs[e]?=some q
theorem zlb.met{g:zB}{caps:List Int}{V0:RigV}(h:zlb g caps V0){L:Nat}{ni:Nat→Int}{V:RigV}(hm:MetP (RunJ g L ni V0) V):RunQ g caps ni V:=by
 obtain⟨hsh,N,hL,hI,hs⟩:=hm;refine⟨hL.G,hsh,hs.full h.full,hL.eq,hI,fun e q hq he=>?_,fun v t ht=>?_,fun v t ht e k hk=>?_⟩
 ·obtain⟨s,hs1,hs2⟩:=hs.que hq;rw[←hs2];exact h.cap e s hs1 he
 ·obtain⟨s,hs1,hs2⟩:=hs.back ht;simp only[TkV.stat,zaj]at hs2;obtain⟨-,e1,e2,e3,e4⟩:=hs2;rw[e1,e2,e3,e4];exact h.ln v s hs1
 ·obtain⟨s,hs1,hs2⟩:=hs.back ht;simp only[TkV.stat,zaj]at hs2;obtain⟨-,-,-,-,e4⟩:=hs2;rw[e4]at hk;obtain⟨q,hq⟩:=h.que v s hs1 e k hk;exact zG (by rw[hs.lenQ];exact zao hq)
section
variable {W1 w:World} {m:Nat} {g:zB} {caps:List Int} {fi:Nat→List Int} {V:RigV} {ρ:Nat→Tg}
theorem zbe.rig0(h:zbe W1 w m g caps fi V ρ)(hc:checkG g=0):zlb g caps V:=by
 refine⟨h.full hc,fun v t ht=>⟨(h.rig.tk v t ht).s.lf,(h.rig.tk v t ht).s.lo⟩,fun e q hq he=>?_,fun v t ht e k hk=>?_⟩
 ·obtain⟨-,h2,-⟩:=h.qf e q hq;obtain⟨x,-,-,h4⟩:=h2 he;exact h4
 ·obtain⟨q,hq,-⟩:=h.rig.lq v t ht e k (.inr hk);exact⟨q,hq⟩
theorem zbe.run(h:zbe W1 w m g caps fi V ρ){L:Nat}(hL:∀j,j<g.ins.length→(fi j).length≤L):RunJ g L (fun j=>(fi j).length) V 0 V:=by
 refine⟨h.law hL fun v hv=>(by cases hv),fun i x hx=>?_,RigV.same.refl V⟩
 have hl:=zao hx;have hq0:=h.ql;obtain⟨q,hq⟩:=zG (l:=V.qs) (i:=g.edges.length+i) (by omega)
 obtain⟨hk,-,h3⟩:=h.qf _ q hq;obtain⟨hy,-⟩:=h3 (by omega)
 rw[h.φ0,h.hd0,zfJ hq];unfold QV.len;rw[hk,hy,zbF];simp
end
def cntF(l:List Int)(k:Nat):Nat→Int:=fun u=>((l.take k).count (u:Int):Nat)
theorem zd4{l:List Int}{k v:Nat}(h:l[k]?=some (v:Int))(u:Nat):(l.take (k+1)).count (u:Int)=if u=v then(l.take k).count (u:Int)+1 else(l.take k).count (u:Int):=by
 rw[zan,h,List.count_append];show _+List.count (u:Int) [(v:Int)]=_
 rw[List.count_singleton];by_cases hu:u=v
 ·subst hu;simp
 ·rw[if_neg hu,if_neg (by simp;omega),zab]
theorem zmv{l:List Int}{k v:Nat}(h:l[k]?=some (v:Int)):bump (cntF l k) v=cntF l (k+1):=by
 funext u
 unfold cntF bump;rw[zd4 h];by_cases hu:u=v
 ·subst hu;rw[zaW,if_pos rfl];show((List.count (u:Int) (l.take k):Nat):Int)+1=_;omega
 ·rw[zaI hu,if_neg hu]
theorem zgU{ars:List ArcV}{n:Nat}:∀(l:List Int) (F:Nat→Int),fireN ars n F l=l.length→∀(i:Nat) (x:Int),l[i]?=some x→mayB ars n (fun u=>F u+cntF l i u) x=true
 |[],_,_,_,_,h=>by simp at h
 |y::l,F,h,i,x,hx=>by
  rw[fireN]at h;by_cases hm:mayB ars n F y=true
  ·rw[if_pos hm,zaG]at h;cases i with
   |zero=>
    simp only[zI,zX]at hx;subst hx;have e:(fun u=>F u+cntF (y::l) 0 u)=F:=by funext u;unfold cntF;simp
    rw[e];exact hm
   |succ i=>
    have h':fireN ars n (bump F y.toNat) l=l.length:=by omega
    have:=zgU l (bump F y.toNat) h' i x (by simpa using hx)
    have hy:0≤y:=by unfold mayB at hm;simp at hm;omega
    have e:(fun u=>F u+cntF (y::l) (i+1) u)=fun u=>bump F y.toNat u+cntF l i u:=by
     funext u
     unfold cntF bump;rw[List.take_succ_cons,List.count_cons];by_cases hu:u=y.toNat
     ·subst hu;rw[zaW,if_pos (by simp;omega)]
      omega
     ·rw[zaI hu,if_neg (by simp;omega)]
      omega
    rw[e];exact this
  ·rw[if_neg hm]at h;simp at h
def capF(ars:List ArcV)(l:List Int):Nat→Nat→Int
 |0,a=>tokI ars (cntF l 0) a
 |k+1,a=>max (capF ars l k a) (tokI ars (cntF l (k+1)) a)
theorem zkp(ars:List ArcV)(l:List Int)(a:Nat):∀(k i:Nat),i≤k→tokI ars (cntF l i) a≤capF ars l k a
 |0,i,h=>by
  obtain rfl:i=0:=Nat.le_zero.1 h;exact zaT _
 |k+1,i,h=>by
  show _≤max (capF ars l k a) (tokI ars (cntF l (k+1)) a)
  by_cases hi:i=k+1
  ·subst hi;exact Int.le_max_right _ _
  ·exact zcK (zkp ars l a k i (by omega)) (Int.le_max_left _ _)
theorem zoW{n:Nat}{ars:List ArcV}(hN:zbX n ars){l:List Int}{m:Nat}(hl:l.length≤m){a:Nat}(ha:a<ars.length)(k:Nat):0≤capF ars l k a∧capF ars l k a≤256+64*m:=by
 have hok:=hN.ok _ (zfe ha);have key:∀i,tokI ars (cntF l i) a≤256+64*m:=fun i=>by
  unfold tokI zc6;obtain⟨-,-,-,-,g1,g2,k1,-,-,s2⟩:=hok;have c1:cntF l i (arcAt ars a).f.toNat≤m:=by
   have:=(List.count_le_length (a:=((arcAt ars a).f.toNat:Int)) (l:=l.take i))
   rw[zaH]at this;unfold cntF;omega
  have c0:∀u,0≤cntF l i u:=fun u=>zbc _
  have h1:(arcAt ars a).g*cntF l i (arcAt ars a).f.toNat≤64*m:=zaC g2 c1 (c0 _) (by omega)
  have h2:=zak (show 0≤(arcAt ars a).k by omega) (c0 (arcAt ars a).t.toNat)
  omega
 induction k with
 |zero=>
  refine⟨?_,key 0⟩;show 0≤tokI ars (cntF l 0) a
  unfold tokI zc6;have c0:∀u,cntF l 0 u=0:=fun u=>by unfold cntF;simp
  rw[c0,c0];obtain⟨-,-,-,-,-,-,-,-,s1,-⟩:=hok;omega
 |succ k ih=>
  have:=key (k+1)
  show 0≤max (capF ars l k a) (tokI ars (cntF l (k+1)) a)∧max (capF ars l k a) (tokI ars (cntF l (k+1)) a)≤_
  omega
theorem zjc{g:zB}(hc:checkG g=0){e:Nat}{x:GEdg}(hx:g.edges[e]?=some x)(F:Nat→Int):tokI (garcs g) F e=x.st.length+gOf g x*F x.f.toNat-kOf g x*F x.t.toNat∧(arcAt (garcs g) e).t=(x.t.toNat:Int)∧(arcAt (garcs g) e).k=kOf g x:=by
 have ea:arcAt (garcs g) e=garcOf g x:=by unfold arcAt garcs;rw[zp,hx];rfl
 obtain⟨-,-,-,-,-,-,hT,-⟩:=zcx hc (zac hx);obtain⟨y,hy1,hy2,hk1,-⟩:=zfz hc hx;obtain⟨z,hz1,hz2,hg1,-⟩:=zea hc hx;have e1:zdp g x.f x.fp=(gOf g x:Int):=by unfold gOf at hg1⊢;omega
 have e2:zed g x.t x.tp=(kOf g x:Int):=by unfold kOf at hk1⊢;omega
 unfold tokI;rw[ea];unfold zc6 garcOf;simp only;rw[e1,e2];exact⟨rfl,by omega,rfl⟩
theorem znS{g:zB}(hc:checkG g=0){l:List Int}(hl:fireN (garcs g) g.acts.length (fun _=>0) l=l.length)(hn:zbP (g.acts.length:Int) l=true){caps:List Int}(hcap:∀e c,e<g.edges.length→caps[e]?=some c→capF (garcs g) l l.length e≤c)
  {ni:Nat→Int} (hni:∀(i:Nat) (x:PrtV),g.ins[i]?=some x→rI g x.a.toNat x.p.toNat*(l.count (x.a.toNat:Int):Nat)≤ni i):
  ListP g caps ni (fun u=>l.count (u:Int)) l.length (fun i u=>(l.take i).count (u:Int)):=by
 have hle:∀i (u:Nat),(l.take i).count (u:Int)≤l.count (u:Int):=fun i u=>(List.take_sublist i l).count_le _
 refine⟨fun u=>by simp,fun i hi=>?_,fun u _=>by simp[zcT],fun i _ u _=>hle i u⟩
 obtain⟨x,hx⟩:=zG hi;have hnd:=zU.1 hn x (zac hx);rw[decide_eq_true_eq]at hnd;obtain⟨v,rfl⟩:∃v:Nat,x=v:=⟨x.toNat,by omega⟩
 have hm:=zgU l (fun _=>0) hl i _ hx
 have e0:(fun u=>(0:Int)+cntF l i u)=cntF l i:=by funext u;rw[Int.zero_add]
 rw[e0]at hm;obtain⟨hv,hma⟩:=zfW.1 hm;refine⟨v,⟨hv,fun e y hy ht=>?_,fun e y c hy hf hce=>?_,fun j y hy ha=>?_⟩,fun u=>zd4 hx u⟩
 ·obtain⟨t1,t2,t3⟩:=zjc hc hy (cntF l i)
  have:=hma e (by rw[zdi];exact zao hy) (by rw[t2,ht])
  rw[t1,t3,ht]at this;exact this
 ·obtain⟨t1,-,-⟩:=zjc hc hy (cntF l (i+1));have h1:=zkp (garcs g) l e l.length (i+1) hi;have h2:=hcap e c (zao hy) hce;rw[t1,hf]at h1;have e1:cntF l (i+1) v=((l.take i).count (v:Int):Nat)+1:=by unfold cntF;rw[zd4 hx,if_pos rfl];omega
  have e2:cntF l (i+1) y.t.toNat=if y.t.toNat=v then(((l.take i).count (v:Int):Nat):Int)+1 else((l.take i).count (y.t.toNat:Int):Nat):=by
   unfold cntF;rw[zd4 hx];by_cases h:y.t.toNat=v
   ·rw[if_pos h,if_pos h,h];omega
   ·rw[if_neg h,if_neg h]
  rw[e1,e2]at h1;omega
 ·have h1:=hni j y hy;rw[ha]at h1;have h2:=hle (i+1) v;rw[zd4 hx,if_pos rfl]at h2;have h3:0≤rI g v y.p.toNat:=by
   unfold rI;rw[zz];cases hr:(lin g v)[y.p.toNat]? with
   |none=>exact zaT _
   |some r=>
    have:=zk7 g v y.p.toNat (zao hr)
    unfold rI at this;rw[zdT hr]at this;show 0≤r
    omega
  have h4:=zhn h3 (show(((l.take i).count (v:Int):Nat):Int)+1≤((l.count (v:Int):Nat):Int) by omega)
  omega
end Go.Proofs.YtpmlljbebdidgaaGreatDoor
namespace Go.Proofs.YtpmlljbebdidgaaGreatDoor
open Go.RowKit Go.ChangeShapes
theorem zaB(n:Nat)(r:Int)(w:World)(hn:n≤64):Calls Tryz.prog 59 #[.int .i64 n, .int .i64 r] w (zhe (List.replicate n r) w):=by
 obtain⟨ii,hii,hz0,hz1,hz2⟩:=info_parts zas
 go_enter Tryz.func59, Tryz.ntmps59
 go_wp2_with fail
 go_loopw [5,6] (fun v i wr=>∃(k:Nat) (A:Option Addr) (c:Nat),k≤n∧i= .int .i64 k∧v= .slice A k c∧Below w.heap.size w wr∧wr.ownsRow w.heap.size 3 1 (.slice A k c) k (cellsI (List.replicate k r))) (fun _ i _=>n-(intOf i).toNat)
 case atStart=>exact⟨0,none,0,by omega,rfl,rfl,zm _ _,⟨rfl, .inl ⟨rfl,rfl⟩⟩⟩
 case round=>
  obtain⟨k,A,c,hk,rfl,rfl,hb,ho⟩:=hrel;have hsz:=hb.size;by_cases hlt:k<n
  ·have h2:(k:Int)<(n:Int):=by omega
   have ba:=bA_ wr (.cells #[.int .i64 r] 3);have o2':=own_below ho ba;have r2:=zal wr _ rfl 3 [Value.int .i64 r];have HB2:=Lh (hb.trans (ba.mono hsz));clear ho ba hb
   go_wp2_with (at_builtin;refine zR _ rfl _ _ 36 rfl w.heap.size 3 ii (.int .i64 0) 1 8 Tryz.underlying36 hii hz0 hz1 hz2 rfl (by decide) _ k (cellsI (List.replicate k r)) rfl o2' _ (some ⟨wr.heap.size,0,none⟩) 1 1 (cellsI [r]) rfl rfl r2 (zaA _) (by unfold maxLen;omega) (by omega) (by simp;omega) ?_)
   intro v' w4 o4 g4 h4;obtain⟨A',c',rfl,_⟩:=zH o4;have b4:=HB2.out.grown g4 HB2.out.size (fun q hq=>own_ge o2' hq)
   have HO4:=Lh o4;have HB4:=Lh b4;clear o4 g4 h4 b4 o2' r2
   go_wp2_with fail
   go_roundw
   case rel=>exact⟨k+1,A',c',by omega,by go_num,rfl,HB4.out,by rw[List.replicate_succ',show cellsI (List.replicate k r++[r])=cellsI (List.replicate k r)++cellsI [r]from by simp[cellsI]];exact HO4.out⟩
   case measure=>simp[intOf];omega
  ·obtain rfl:k=n:=by omega
   have HO:=Lh ho;have HB:=Lh hb;clear ho hb
   go_wp2_with fail
   go_ret;exact⟨A,c,by rw[zK];rfl,by rw[zK];exact HO.out,HB.out⟩
theorem ze6(n most:Int)(b off c:Nat)(w:World)(h:1≤n∧n≤most)(hc:w.cell? ⟨b,off,none⟩=some (.int .i64 n)):Calls Tryz.prog 81 #[.slice (some ⟨b,off,none⟩) 1 c, .int .i64 most] w fun e w'=>e= .returned (.bool true)∧w=w':=by
 have h1:decide (n≥1)=true:=by simp;omega
 have h2:decide (n≤most)=true:=by simp;omega
 go_enter Tryz.func81, Tryz.ntmps81
 go_wp2_with fail
 go_ret;exact⟨rfl,rfl⟩
theorem zjb(n m:Int)(b off c:Nat)(w:World)(h:1≤n∧n≤16)(h':1≤m∧m≤64)(hp:n*m≤64)(hc:w.cell? ⟨b,off,none⟩=some (.int .i64 n))(hc':w.cell? ⟨b,off+1,none⟩=some (.int .i64 m)):Calls Tryz.prog 82 #[.slice (some ⟨b,off,none⟩) 2 c] w fun e w'=>e= .returned (.bool true)∧Below w.heap.size w w':=by
 have h1:decide (n<1)=false:=by simp;omega
 have h2:decide (n>16)=false:=by simp;omega
 have h3:decide (m<1)=false:=by simp;omega
 have h4:decide (m>64)=false:=by simp;omega
 have q3:=zak (show 0≤n by omega) (show 0≤m by omega)
 have hw:IntKind.i64.wrap (n*m)=n*m:=IntWalk.i64_in _ (by omega)
 have h5:decide (n*m≤64)=true:=decide_eq_true hp
 clear q3
 go_enter Tryz.func82, Tryz.ntmps82
 go_wp2_with fail
 go_quiet (fail)
 go_wp2_with fail
 go_ret;exact⟨rfl,Drawn.below _ ((Drawn.refl w).drewN _)⟩
inductive zb9:Int→List Int→List Int→List Int→Prop
 |fil (ps:List Int) (h:1≤ps.length∧ps.length≤16):zb9 1 ps [1] [1]
 |up (n:Int) (h:1≤n∧n≤64):zb9 2 [n] [1] [n]
 |down (n:Int) (h:1≤n∧n≤64):zb9 3 [n] [n] [1]
 |weave (a:Nat) (m:Int) (h:1≤a∧a≤16) (hm:1≤m∧m≤64) (hp:a*m≤64):zb9 4 [(a:Int),m] (List.replicate a m) [a*m]
 |unweave (a:Nat) (m:Int) (h:1≤a∧a≤16) (hm:1≤m∧m≤64) (hp:a*m≤64):zb9 5 [(a:Int),m] [a*m] (List.replicate a m)
 |add (a:Nat) (h:1≤a∧a≤16):zb9 6 [(a:Int)] (List.replicate a 1) [1]
 |quot:zb9 7 [] [1,1] [1]
 |sum:zb9 8 [] [1] [1]
 |copies (a:Nat) (h:1≤a∧a≤16):zb9 9 [(a:Int)] [1] (List.replicate a 1)
 |tick (x y:Int):zb9 10 [x,y] [] [1]
 |drop (n:Int) (h:1≤n∧n≤64):zb9 11 [n] [n] []
theorem zgj{ps:List Int}(h:decide (ps.length=1)=true):∃n,ps=[n]:=by
 match ps,h with
 |[n],_=>exact⟨n,rfl⟩
 |[],h=>simp at h
 |_::_::_,h=>simp at h
theorem zmt{ps:List Int}(h:ps.length=2):∃n m,ps=[n,m]:=by
 match ps,h with
 |[n,m],_=>exact⟨n,m,rfl⟩
 |[],h=>simp at h
 |[_],h=>simp at h
 |_::_::_::_,h=>simp at h
theorem zdY{n m:Int}(h:withinB n m=true):1≤n∧n≤m:=by unfold withinB at h;simpa using h
theorem zko{ps:List Int}(h:pairB ps.length (ps[0]?.getD 0) (ps[1]?.getD 0)=true):∃(a:Nat) (m:Int),ps=[(a:Int),m]∧(1≤a∧a≤16)∧(1≤m∧m≤64)∧a*m≤64:=by
 obtain⟨h1,h2,h3,h4,h5⟩:=zdB h;have hl:ps.length=2:=by unfold pairB at h;simp at h;exact h.1
 obtain⟨n,m,rfl⟩:=zmt hl;have h1:1≤n:=h1;have h2:n≤16:=h2;have h5:n*m≤64:=h5;obtain⟨a,rfl⟩:∃a:Nat,n=a:=⟨n.toNat,by omega⟩
 exact⟨a,m,rfl,by omega,⟨h3,h4⟩,h5⟩
theorem zh7{tag:Int}{ps I O:List Int}(h:shapeR tag ps=(I,O,0)):zb9 tag ps I O:=by
 unfold shapeR at h;split at h
 ·simp at h
 ·unfold zZ at h;split at h
  ·rename_i hw
   simp only[zaj,and_true]at h;obtain⟨rfl,rfl⟩:=h;rcases hw with⟨rfl,hw⟩|⟨rfl,hw⟩
   ·have:=zdY hw
    exact .fil ps (by omega)
   ·obtain rfl:=zaL hw;exact .sum
  ·split at h
   ·rename_i hw
    simp only[zaj,and_true]at h;obtain⟨rfl,rfl⟩:=h;obtain⟨rfl,hs,hw⟩:=hw;obtain⟨n,rfl⟩:=zgj hs;exact .up n (zdY hw)
   ·split at h
    ·rename_i hw
     simp only[zaj,and_true]at h;obtain⟨rfl,rfl⟩:=h;obtain⟨rfl,hs,hw⟩:=hw;obtain⟨n,rfl⟩:=zgj hs;exact .down n (zdY hw)
    ·split at h
     ·rename_i hw
      simp only[zaj,and_true]at h;obtain⟨rfl,rfl⟩:=h;obtain⟨rfl,hp⟩:=hw;obtain⟨a,m,rfl,h1,h2,h3⟩:=zko hp;exact .weave a m h1 h2 h3
     ·split at h
      ·rename_i hw
       simp only[zaj,and_true]at h;obtain⟨rfl,rfl⟩:=h;obtain⟨rfl,hp⟩:=hw;obtain⟨a,m,rfl,h1,h2,h3⟩:=zko hp;exact .unweave a m h1 h2 h3
      ·split at h
       ·rename_i hw
        simp only[zaj,and_true]at h;obtain⟨rfl,rfl⟩:=h;obtain⟨rfl,hs,hw⟩:=hw;obtain⟨n,rfl⟩:=zgj hs;have hw:1≤n∧n≤16:=zdY hw;obtain⟨a,rfl⟩:∃a:Nat,n=a:=⟨n.toNat,by omega⟩
        exact .add a (by omega)
       ·split at h
        ·rename_i hw
         simp only[zaj,and_true]at h;obtain⟨rfl,rfl⟩:=h;obtain⟨rfl,hw⟩:=hw;obtain rfl:=zaL hw;exact .quot
        ·split at h
         ·rename_i hw
          simp only[zaj,and_true]at h;obtain⟨rfl,rfl⟩:=h;obtain⟨rfl,hs,hw⟩:=hw;obtain⟨n,rfl⟩:=zgj hs;have hw:1≤n∧n≤16:=zdY hw;obtain⟨a,rfl⟩:∃a:Nat,n=a:=⟨n.toNat,by omega⟩
          exact .copies a (by omega)
         ·split at h
          ·rename_i hw
           simp only[zaj,and_true]at h;obtain⟨rfl,rfl⟩:=h;obtain⟨rfl,hw⟩:=hw;obtain⟨x,y,rfl⟩:=zmt hw;exact .tick x y
          ·split at h
           ·rename_i hw
            simp only[zaj,and_true]at h;obtain⟨rfl,rfl⟩:=h;obtain⟨rfl,hs,hw⟩:=hw;obtain⟨n,rfl⟩:=zgj hs;exact .drop n (zdY hw)
           ·simp at h
theorem zdE{w:World}{B:Nat}{P:Option Addr}{x:Int}(h:Rd w B P (cellsI [x])):∃b off,P=some ⟨b,off,none⟩∧b<B∧w.cell? ⟨b,off,none⟩=some (.int .i64 x):=by
 rcases h with h|⟨b,off,rfl,hb,hc⟩
 ·exact absurd h (by simp[cellsI])
 ·exact⟨b,off,rfl,hb,hc 0 _ rfl⟩
theorem rd_two{w:World}{B:Nat}{P:Option Addr}{x y:Int}(h:Rd w B P (cellsI [x,y])):∃b off,P=some ⟨b,off,none⟩∧b<B∧w.cell? ⟨b,off,none⟩=some (.int .i64 x)∧w.cell? ⟨b,off+1,none⟩=some (.int .i64 y):=by
 rcases h with h|⟨b,off,rfl,hb,hc⟩
 ·exact absurd h (by simp[cellsI])
 ·exact⟨b,off,rfl,hb,hc 0 _ rfl,hc 1 _ rfl⟩
theorem rgood_yes(tag:Int)(ps I O:List Int)(P:Option Addr)(l c:Nat)(w:World)(h:zb9 tag ps I O)(hl:ps.length=l)(hr:Rd w w.heap.size P (cellsI ps)):Calls Tryz.prog 58 #[.int .u8 tag, .slice P l c] w fun e w'=>e= .returned (.bool true)∧Below w.heap.size w w':=by
 cases h with
 |fil _ h=>
  have h1:decide ((l:Int)≥1)=true:=by simp;omega
  have h2:decide ((l:Int)≤16)=true:=by simp;omega
  clear h hl hr
  go_enter Tryz.func58, Tryz.ntmps58
  go_wp2_with fail
  go_ret;exact⟨rfl,zm _ _⟩
 |up n h=>
  subst hl;obtain⟨b,off,rfl,-,hc⟩:=zdE hr;have HO:=Lh (ze6 n 64 b off c w (by omega) hc)
  clear hr hc h
  go_enter Tryz.func58, Tryz.ntmps58
  go_wp2_with fail;refine HO.out.mono ?_
  rintro e w2 ⟨rfl,rfl⟩
  go_wp2_with fail
  go_ret;exact⟨rfl,zm _ _⟩
 |down n h=>
  subst hl;obtain⟨b,off,rfl,-,hc⟩:=zdE hr;have HO:=Lh (ze6 n 64 b off c w (by omega) hc)
  clear hr hc h
  go_enter Tryz.func58, Tryz.ntmps58
  go_wp2_with fail;refine HO.out.mono ?_
  rintro e w2 ⟨rfl,rfl⟩
  go_wp2_with fail
  go_ret;exact⟨rfl,zm _ _⟩
 |weave a m h hm hp=>
  subst hl;obtain⟨b,off,rfl,-,hc,hc'⟩:=rd_two hr;have HO:=Lh (zjb a m b off c w (by omega) hm hp hc hc')
  clear hr hc hc' h hm hp
  go_enter Tryz.func58, Tryz.ntmps58
  go_wp2_with fail;refine HO.out.mono ?_
  rintro e w2 ⟨rfl,hb⟩;have HB:=Lh hb;clear hb
  go_wp2_with fail
  go_ret;exact⟨rfl,HB.out⟩
 |unweave a m h hm hp=>
  subst hl;obtain⟨b,off,rfl,-,hc,hc'⟩:=rd_two hr;have HO:=Lh (zjb a m b off c w (by omega) hm hp hc hc')
  clear hr hc hc' h hm hp
  go_enter Tryz.func58, Tryz.ntmps58
  go_wp2_with fail;refine HO.out.mono ?_
  rintro e w2 ⟨rfl,hb⟩;have HB:=Lh hb;clear hb
  go_wp2_with fail
  go_ret;exact⟨rfl,HB.out⟩
 |add a h=>
  subst hl;obtain⟨b,off,rfl,-,hc⟩:=zdE hr;have HO:=Lh (ze6 a 16 b off c w (by omega) hc)
  clear hr hc h
  go_enter Tryz.func58, Tryz.ntmps58
  go_wp2_with fail;refine HO.out.mono ?_
  rintro e w2 ⟨rfl,rfl⟩
  go_wp2_with fail
  go_ret;exact⟨rfl,zm _ _⟩
 |quot=>
  subst hl;clear hr
  go_enter Tryz.func58, Tryz.ntmps58
  go_wp2_with fail
  go_ret;exact⟨rfl,zm _ _⟩
 |sum=>
  subst hl;clear hr
  go_enter Tryz.func58, Tryz.ntmps58
  go_wp2_with fail
  go_ret;exact⟨rfl,zm _ _⟩
 |copies a h=>
  subst hl;obtain⟨b,off,rfl,-,hc⟩:=zdE hr;have HO:=Lh (ze6 a 16 b off c w (by omega) hc)
  clear hr hc h
  go_enter Tryz.func58, Tryz.ntmps58
  go_wp2_with fail;refine HO.out.mono ?_
  rintro e w2 ⟨rfl,rfl⟩
  go_wp2_with fail
  go_ret;exact⟨rfl,zm _ _⟩
 |tick x y=>
  subst hl;clear hr
  go_enter Tryz.func58, Tryz.ntmps58
  go_wp2_with fail
  go_ret;exact⟨rfl,zm _ _⟩
 |drop n h=>
  subst hl;obtain⟨b,off,rfl,-,hc⟩:=zdE hr;have HO:=Lh (ze6 n 64 b off c w (by omega) hc)
  clear hr hc h
  go_enter Tryz.func58, Tryz.ntmps58
  go_wp2_with fail;refine HO.out.mono ?_
  rintro e w2 ⟨rfl,rfl⟩
  go_wp2_with fail
  go_ret;exact⟨rfl,zm _ _⟩
end Go.Proofs.YtpmlljbebdidgaaGreatDoor
