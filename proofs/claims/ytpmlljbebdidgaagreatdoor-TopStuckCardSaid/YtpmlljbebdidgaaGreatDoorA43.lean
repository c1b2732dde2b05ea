/- Lemmas and walks for the claim: Yi, Fr, Fs, Ft. -/
import Derived.Test.YtpmlljbebdidgaaGreatDoorA42
import Derived.Test.YtpmlljbebdidgaaGreatDoorA40
import Derived.Test.YtpmlljbebdidgaaGreatDoorA1
import Derived.Deep.RegionWith
import Derived.BigRegion
set_option maxRecDepth 100000
namespace Go.Proofs.YtpmlljbebdidgaaGreatDoor
def gN(ars:List ArcV)(i:Nat):Nat:=(ars[i]?.elim 1 fun a=>a.g).toNat
def kN(ars:List ArcV)(i:Nat):Nat:=(ars[i]?.elim 1 fun a=>a.k).toNat
theorem gN_at{ars:List ArcV}{i:Nat}{a:ArcV}(h:ars[i]?=some a):gN ars i=a.g.toNat:=by unfold gN;rw[h];rfl
theorem kN_at{ars:List ArcV}{i:Nat}{a:ArcV}(h:ars[i]?=some a):kN ars i=a.k.toNat:=by unfold kN;rw[h];rfl
theorem rates_ok(n:Int):∀(ars:List ArcV),arcsF n ars=0→∀a∈ars,1≤a.g∧a.g≤64∧1≤a.k∧a.k≤64
 |[],_,a,ha=>by cases ha
 |x::xs,h,a,ha=>by
  rw[arcsF]at h;by_cases hx:arcF n x=0
  ·rw[if_pos hx]at h;rcases List.mem_cons.1 ha with rfl|ha
   ·unfold arcF at hx;split at hx
    ·cases hx
    ·split at hx
     ·cases hx
     ·omega
   ·exact rates_ok n xs h a ha
  ·rw[if_neg hx]at h;exact absurd h hx
theorem check_arcs{n:Int}{ars:List ArcV}(hc:checkF n ars=0):arcsF n ars=0:=by
 unfold checkF at hc;split at hc
 ·cases hc
 ·split at hc
  ·cases hc
  ·exact hc
structure Ctx(n:Nat)(ars:List ArcV)(T:List Edg)(R P:Nat→Nat):Prop where
 fi:FInv n ars ars.length (upF n ars) (treeF n ars) T
 ri:RInv (gN ars) (kN ars) T R P
 arc:∀a∈ars,0≤a.f∧a.f<n∧0≤a.t∧a.t<n∧1≤a.g∧a.g≤64∧1≤a.k∧a.k≤64
 n1:1≤n
 n2:n≤32
theorem ctx_of{n:Nat}{ars:List ArcV}(hc:checkF n ars=0):∃T,Ctx n ars T (countsR (gN ars) (kN ars) T).1 (countsR (gN ars) (kN ars) T).2:=by
 obtain⟨h1,h2,-,h4⟩:=checkF_ok hc;obtain⟨T,hT⟩:=finv_end (n:=n) (ars:=ars) h4;have hr:=rates_ok n ars (check_arcs hc);refine⟨T,hT,rinv_all hT.forest (fun e he=>?_),fun a ha=>?_,h1,h2⟩
 ·obtain⟨-,-,-,a,ha,-,-⟩:=hT.edge e he
  have:=hr a (List.mem_of_getElem? ha)
  rw[gN_at ha,kN_at ha];omega
 ·have:=h4 a ha
  have:=hr a ha
  omega
def hm(n:Nat)(ars:List ArcV)(v:Nat):Nat:=root (upF n ars) v
theorem hm_le(n:Nat)(ars:List ArcV)(v:Nat):hm n ars v≤v:=root_le _ _
theorem hm_hm(n:Nat)(ars:List ArcV)(v:Nat):hm n ars (hm n ars v)=hm n ars v:=root_root _ _
theorem Ctx.edge{n:Nat}{ars:List ArcV}{T:List Edg}{R P:Nat→Nat}(C:Ctx n ars T R P){e:Edg}(he:e∈T):
  ∃a,ars[e.i]?=some a∧a.f=(e.f:Int)∧a.t=(e.t:Int)∧e.f<n∧e.t<n∧hm n ars e.f=hm n ars e.t∧a.g*(R e.f:Int)=a.k*(R e.t:Int):=by
 obtain⟨h1,h2,h3,a,ha,hf,ht⟩:=C.fi.edge e he;refine⟨a,ha,hf,ht,h2,h3,(C.fi.conn _ _ h2 h3).2 ⟨[(e.i,false)],e.t,⟨e,he,rfl,by simp⟩,rfl⟩,?_⟩
 have hev:=C.ri.ev e he;rw[gN_at ha,kN_at ha]at hev;have hb:=C.arc a (List.mem_of_getElem? ha);have h5:((a.g.toNat*R e.f:Nat):Int)=((a.k.toNat*R e.t:Nat):Int):=by rw[hev]
 rw[Int.natCast_mul,Int.natCast_mul,Int.toNat_of_nonneg (by omega),Int.toNat_of_nonneg (by omega)]at h5
 exact h5
theorem Ctx.same{n:Nat}{ars:List ArcV}{T:List Edg}{R P:Nat→Nat}(C:Ctx n ars T R P){i:Nat}{a:ArcV}(ha:ars[i]?=some a):hm n ars a.f.toNat=hm n ars a.t.toNat:=
 C.fi.all i a (List.getElem?_eq_some_iff.1 ha).1 ha
theorem Ctx.part{n:Nat}{ars:List ArcV}{T:List Edg}{R P:Nat→Nat}(C:Ctx n ars T R P){u v:Nat}(hu:u<n)(hv:v<n):P u=P v↔hm n ars u=hm n ars v:=by
 rw[C.ri.cls,←C.fi.conn u v hu hv];rfl
def shF(n:Nat)(ars:List ArcV)(R:Nat→Nat)(v:Nat):Fr:=shareF (R v) (R (hm n ars v))
def Big(n:Nat)(R:Nat→Nat):Prop:=∃v,v<n∧4096<R v
structure SInv(n:Nat)(ars:List ArcV)(R:Nat→Nat)(fs:List Fr)(fit:Bool):Prop where
 good:fit=true→∀v f,fs[v]?=some f→f=unsetF∨(f=shF n ars R v∧Small f)
 home:fit=true→∀v,v<n→hm n ars v=v→∃f,fs[v]?=some f∧f≠unsetF
 big:fit=false→Big n R
def cntU_Y(fs:List Fr):Nat:=(fs.filter fun f=>decide (f.n=0)).length
theorem cntU_set:∀(fs:List Fr) (k:Nat) (t:Fr),fs[k]?=some unsetF→1≤t.n→cntU_Y (fs.set k t)<cntU_Y fs
 |[],k,t,h,_=>by simp at h
 |f::fs,0,t,h,ht=>by
  simp at h
  subst h;simp only[List.set_cons_zero,cntU_Y];rw[List.filter_cons_of_neg (by simp;omega),List.filter_cons_of_pos (by simp[unsetF])]
  simp
 |f::fs,k+1,t,h,ht=>by
  simp at h
  have:=cntU_set fs k t h ht
  simp only[List.set_cons_succ,cntU_Y]at this⊢;rw[List.filter_cons,List.filter_cons];split<;>simp<;>omega
theorem unset_ne{f:Fr}(h:1≤f.n):f≠unsetF:=fun e=>by rw[e]at h;exact absurd h (by decide)
theorem sinv_step{n:Nat}{ars:List ArcV}{T:List Edg}{R P:Nat→Nat}(C:Ctx n ars T R P){fs fs':List Fr}{fit fit' b:Bool}(hl:fs.length=n)(H:SInv n ars R fs fit){u v:Nat}{g k:Int}(hv:v<n)
  (hh:hm n ars u=hm n ars v) (hg:1≤g) (hg2:g≤64) (hk:1≤k) (hk2:k≤64) (he:g*(R u:Int)=k*(R v:Int)) (hs:StepR fs fit u v g k fs' fit' b):
  SInv n ars R fs' fit'∧(fit'=true→(b=true→cntU_Y fs'<cntU_Y fs)∧(b=false→fs'=fs∧(fs[u]?=some unsetF∨∃t,fs[v]?=some t∧1≤t.n))):=by
 rcases hs with⟨rfl,rfl,rfl,hw⟩|⟨f,t,kk,h0,fv,fp,h1,ht,hm',hb,hfs,hft⟩
 ·exact⟨H,fun _=>⟨fun h=>(by cases h),fun _=>⟨rfl,hw⟩⟩⟩
 ·have hpu:=C.ri.pos u;have hpv:=C.ri.pos v;have hph:=C.ri.pos (hm n ars v);cases fit with
  |false=>
   rw[Bool.false_and]at hft;subst hft;exact⟨⟨fun h=>(by cases h),fun h=>(by cases h),H.big⟩,fun h=>(by cases h)⟩
  |true=>
   rw[Bool.true_and]at hft;subst hft;rcases H.good rfl u f h0 with rfl|⟨hf,hsm⟩
   ·exact absurd fp (by decide)
   ·rw[times_mul hsm hg hg2 hk hk2]at hm';injection hm' with e1 e2;subst e2;rw[decide_eq_true rfl,Bool.true_and]at hb;have hs2:shareF (R u) (R (hm n ars v))=f:=by rw[hf,←hh];rfl
    have e3:t=shF n ars R v:=by
     rw[←e1,←hs2];exact share_step hph (by rw[hs2];exact hsm) hk he
    obtain⟨d1,d2,d3,-,d5⟩:=share_dvd hpv hph;have e4:shareF (R v) (R (hm n ars v))=t:=e3.symm;rw[e4]at d1 d2 d3 d5;subst hfs;subst hb;refine⟨⟨fun hok w x hw=>?_,fun hok w hw hww=>?_,fun hno=>?_⟩,fun hok=>⟨fun _=>cntU_set fs v t h1 d1,fun h=>by rw[hok]at h;cases h⟩⟩
    ·unfold okT at hok;rw[Bool.and_eq_true,decide_eq_true_eq,decide_eq_true_eq]at hok;rw[List.getElem?_set]at hw;by_cases hvw:v=w
     ·subst hvw;rw[if_pos rfl,if_pos (by omega)]at hw
      injection hw with hw
      subst hw;exact .inr ⟨e3,⟨by rw[←e4];exact share_valid hph,d1,hok.1,hok.2⟩⟩
     ·rw[if_neg hvw]at hw;exact H.good rfl w x hw
    ·rw[List.getElem?_set];by_cases hvw:v=w
     ·subst hvw;exact⟨t,by rw[if_pos rfl,if_pos (by omega)],unset_ne d1⟩
     ·rw[if_neg hvw];exact H.home rfl w hw hww
    ·unfold okT at hno
     have:=hm_le n ars v
     by_cases hx:t.n≤4096
     ·rw[decide_eq_true hx,Bool.true_and,decide_eq_false_iff_not]at hno;exact⟨hm n ars v,by omega,by omega⟩
     ·exact⟨v,hv,by omega⟩
def Closed(fs:List Fr)(e:Edg):Prop:=(fs[e.f]?=some unsetF∨∃t,fs[e.t]?=some t∧1≤t.n)∧(fs[e.t]?=some unsetF∨∃t,fs[e.f]?=some t∧1≤t.n)
theorem set_walk{T:List Edg}{fs:List Fr}(hc:∀e∈T,Closed fs e):∀{p:List Stp} {u v:Nat},Walk T u p v→(∃t,fs[u]?=some t∧1≤t.n)→∃t,fs[v]?=some t∧1≤t.n
 |[],u,v,h,hu=>by rw[←show u=v from h];exact hu
 |s::p,u,v,⟨m,⟨e,he,_,h2⟩,h3⟩,hu=>by
  refine set_walk hc h3 ?_;obtain⟨t,ht,htn⟩:=hu;obtain⟨c1,c2⟩:=hc e he;split at h2
  ·obtain⟨rfl,rfl⟩:=h2;rcases c2 with c2|c2
   ·rw[c2]at ht;injection ht with ht;subst ht;exact absurd htn (by decide)
   ·exact c2
  ·obtain⟨rfl,rfl⟩:=h2;rcases c1 with c1|c1
   ·rw[c1]at ht;injection ht with ht;subst ht;exact absurd htn (by decide)
   ·exact c1
theorem sinv_end{n:Nat}{ars:List ArcV}{T:List Edg}{R P:Nat→Nat}(C:Ctx n ars T R P){fs:List Fr}(hl:fs.length=n)(H:SInv n ars R fs true)(hc:∀e∈T,Closed fs e):
  fs=(List.range n).map (shF n ars R)∧∀v,v<n→Small (shF n ars R v):=by
 have all:∀v,v<n→fs[v]?=some (shF n ars R v)∧Small (shF n ars R v):=fun v hv=>by
  have hh:=hm_le n ars v;obtain⟨p,hp⟩:=(C.fi.conn (hm n ars v) v (by omega) hv).1 (hm_hm n ars v)
  obtain⟨f,hf,hne⟩:=H.home rfl (hm n ars v) (by omega) (hm_hm n ars v)
  have hf1:1≤f.n:=by
   rcases H.good rfl _ f hf with h|⟨-,h⟩
   ·exact absurd h hne
   ·exact h.n1
  obtain⟨t,ht,ht1⟩:=set_walk hc hp ⟨f,hf,hf1⟩;rcases H.good rfl _ t ht with h|⟨h,hs⟩
  ·exact absurd h (unset_ne ht1)
  ·exact⟨by rw[ht,h],h▸hs⟩
 refine⟨List.ext_getElem? fun v=>?_,fun v hv=>(all v hv).2⟩
 by_cases hv:v<n
 ·rw[(all v hv).1];simp[hv]
 ·rw[List.getElem?_eq_none (by omega),List.getElem?_eq_none (by simp;omega)]
def initF(n:Nat)(ars:List ArcV)(k:Nat):List Fr:=(List.range n).map fun v=>if v<k∧hm n ars v=v then⟨1,1⟩else unsetF
theorem initF_length(n:Nat)(ars:List ArcV)(k:Nat):(initF n ars k).length=n:=by simp[initF]
theorem initF_at{n:Nat}{ars:List ArcV}{k v:Nat}(hv:v<n):(initF n ars k)[v]?=some (if v<k∧hm n ars v=v then⟨1,1⟩else unsetF):=by simp[initF,hv]
theorem initF_zero(n:Nat)(ars:List ArcV):initF n ars 0=List.replicate n unsetF:=by
 refine List.ext_getElem? fun v=>?_
 by_cases hv:v<n
 ·rw[initF_at hv];simp[hv]
 ·rw[List.getElem?_eq_none (by simp[initF];omega),List.getElem?_eq_none (by simp;omega)]
theorem initF_yes{n:Nat}{ars:List ArcV}{k:Nat}(_hk:k<n)(h:hm n ars k=k):(initF n ars k).set k ⟨1,1⟩=initF n ars (k+1):=by
 refine List.ext_getElem? fun v=>?_
 rw[List.getElem?_set];by_cases hv:v<n
 ·rw[initF_at hv,initF_at hv,initF_length];by_cases hkv:k=v
  ·subst hkv;simp[hv,h]
  ·rw[if_neg hkv];by_cases hlt:v<k
   ·simp[hlt,show v<k+1 by omega]
   ·simp[hlt,show¬v<k+1 by omega]
 ·rw[initF_length,List.getElem?_eq_none (by simp[initF];omega),List.getElem?_eq_none (by simp[initF];omega)]
  by_cases hkv:k=v
  ·rw[if_pos hkv,if_neg (by omega)]
  ·rw[if_neg hkv]
theorem initF_no{n:Nat}{ars:List ArcV}{k:Nat}(h:hm n ars k≠k):initF n ars k=initF n ars (k+1):=by
 refine List.ext_getElem? fun v=>?_
 by_cases hv:v<n
 ·rw[initF_at hv,initF_at hv];by_cases hkv:v=k
  ·subst hkv;simp[h]
  ·by_cases hlt:v<k
   ·simp[hlt,show v<k+1 by omega]
   ·simp[hlt,show¬v<k+1 by omega]
 ·rw[List.getElem?_eq_none (by simp[initF];omega),List.getElem?_eq_none (by simp[initF];omega)]
theorem initF_ok(n:Nat)(ars:List ArcV)(k:Nat):∀f∈initF n ars k,ShareOk f:=by
 intro f hf;obtain⟨v,-,rfl⟩:=List.mem_map.1 hf;split
 ·exact⟨⟨by unfold fits;simp,by unfold fits;simp⟩, .inr ⟨by decide,by decide⟩⟩
 ·exact⟨⟨by unfold fits unsetF;simp,by unfold fits unsetF;simp⟩, .inl rfl⟩
theorem sinv_start{n:Nat}{ars:List ArcV}{T:List Edg}{R P:Nat→Nat}(C:Ctx n ars T R P):SInv n ars R (initF n ars n) true where
 good:=fun _ v f hf=>by
  by_cases hv:v<n
  ·rw[initF_at hv]at hf;injection hf with hf;split at hf
   ·rename_i h
    right
    subst hf;unfold shF;rw[h.2,share_self (C.ri.pos v)];exact⟨rfl,by decide,by decide,by decide,by decide⟩
   ·left;exact hf.symm
  ·rw[List.getElem?_eq_none (by simp[initF];omega)]at hf;cases hf
 home:=fun _ v hv h=>⟨⟨1,1⟩,by rw[initF_at hv,if_pos ⟨hv,h⟩],unset_ne (by decide)⟩
 big:=fun h=>by cases h
def unknown(kn:List Bool):Nat:=kn.countP (fun b=>!b)
theorem unknown_set:∀{kn:List Bool} {x:Nat},kn[x]?=some false→unknown (kn.set x true)+1=unknown kn
 |[],x,h=>by simp at h
 |b::kn,0,h=>by simp at h;subst h;simp[unknown]
 |b::kn,x+1,h=>by
  have:=unknown_set (kn:=kn) (x:=x) (by simpa using h)
  unfold unknown at this⊢;rw[List.set_cons_succ,List.countP_cons,List.countP_cons];omega
theorem unknown_start{n t:Nat}(ht:t<n):unknown ((List.replicate n false).set t true)+1=n:=by
 rw[unknown_set (by simp[ht])]
 unfold unknown;rw[List.countP_replicate];simp
def Leads(T:List Edg)(to_:Nat)(kn:List Bool)(nx:List Stp)(tw:List Int):Nat→List Stp→Prop
 |v,[]=>v=to_∧kn[v]?=some true
 |v,s::p=>v≠to_∧kn[v]?=some true∧nx[v]?=some s∧∃m:Nat,tw[v]?=some (m:Int)∧stepOk T v m s∧Leads T to_ kn nx tw m p
structure BInv(T:List Edg)(n to_:Nat)(kn:List Bool)(nx:List Stp)(tw q:List Int)(X:Nat→Stp→Prop):Prop where
 lk:kn.length=n
 ln:nx.length=n
 lt:tw.length=n
 home:kn[to_]?=some true
 leads:∀v:Nat,kn[v]?=some true→∃p,Leads T to_ kn nx tw v p∧Red p∧p.length+unknown kn<n
 queue:∀x∈q,∃u:Nat,x=(u:Int)∧kn[u]?=some true
 closed:∀(u v:Nat) (s:Stp),kn[u]?=some true→(u:Int)∉q→stepOk T u v s→¬X u s→kn[v]?=some true
theorem Leads.walk{T:List Edg}{to_:Nat}{kn:List Bool}{nx:List Stp}{tw:List Int}:∀{p:List Stp} {v:Nat},Leads T to_ kn nx tw v p→Walk T v p to_
 |[],_,h=>h.1
 |_::_,_,⟨_,_,_,m,_,h,h'⟩=>⟨m,h,Leads.walk h'⟩
theorem Leads.known{T:List Edg}{to_:Nat}{kn:List Bool}{nx:List Stp}{tw:List Int}:∀{p:List Stp} {v:Nat},Leads T to_ kn nx tw v p→kn[v]?=some true
 |[],_,h=>h.2
 |_::_,_,h=>h.2.1
theorem Leads.set{T:List Edg}{to_:Nat}{kn:List Bool}{nx:List Stp}{tw:List Int}{x:Nat}(hx:kn[x]?≠some true)(s:Stp)(m:Int):∀{p:List Stp} {v:Nat},Leads T to_ kn nx tw v p→
  Leads T to_ (kn.set x true) (nx.set x s) (tw.set x m) v p
 |[],v,h=>by
  have hne:x≠v:=fun he=>hx (he▸h.2)
  exact⟨h.1,by rw[List.getElem?_set_ne hne];exact h.2⟩
 |s'::p,v,⟨h1,h2,h3,k,h4,h5,h6⟩=>by
  have hne:x≠v:=fun he=>hx (he▸h2)
  refine⟨h1,?_,?_,k,?_,h5,Leads.set hx s m h6⟩
  ·rw[List.getElem?_set_ne hne];exact h2
  ·rw[List.getElem?_set_ne hne];exact h3
  ·rw[List.getElem?_set_ne hne];exact h4
theorem known_set{kn:List Bool}{x v:Nat}(h:kn[v]?=some true):(kn.set x true)[v]?=some true:=by
 by_cases he:x=v
 ·subst he;rw[List.getElem?_set_self (List.getElem?_eq_some_iff.1 h).1]
 ·rw[List.getElem?_set_ne he];exact h
theorem known_of_set{kn:List Bool}{x v:Nat}(h:(kn.set x true)[v]?=some true):v=x∨kn[v]?=some true:=by
 by_cases he:x=v
 ·exact .inl he.symm
 ·rw[List.getElem?_set_ne he]at h;exact .inr h
theorem BInv.learn{T:List Edg}(hF:Forest T){n to_:Nat}{kn:List Bool}{nx:List Stp}{tw q:List Int}{X:Nat→Stp→Prop}(h:BInv T n to_ kn nx tw q X){x v:Nat}{s:Stp}(hx:kn[x]?≠some true)(hxn:x<n)(hv:kn[v]?=some true)
  (hs:stepOk T x v s):BInv T n to_ (kn.set x true) (nx.set x s) (tw.set x (v:Int)) (q++[(x:Int)]) X:=by
 have hxto:x≠to_:=fun he=>hx (he▸h.home)
 have hun:unknown (kn.set x true)+1=unknown kn:=by
  refine unknown_set ?_;obtain⟨b,hb⟩:∃b,kn[x]?=some b:=⟨_,List.getElem?_eq_getElem (by rw[h.lk];exact hxn)⟩
  cases b
  ·exact hb
  ·exact absurd hb hx
 refine⟨by simp[h.lk],by simp[h.ln],by simp[h.lt],known_set h.home,?_,?_,?_⟩
 ·intro u hu;by_cases he:u=x
  ·subst he;obtain⟨p,hp,hr,hl⟩:=h.leads v hv;refine⟨s::p,⟨hxto,hu,by rw[List.getElem?_set_self (by rw[h.ln];exact hxn)],v,by rw[List.getElem?_set_self (by rw[h.lt];exact hxn)],hs,Leads.set hx s v hp⟩,?_,by rw[List.length_cons];omega⟩
   cases p with
   |nil=>trivial
   |cons s' p=>
    refine⟨fun hss=>?_,hr⟩
    obtain⟨_,_,_,m,h4,h5,h6⟩:=hp
    have:=other_end hF hs h5 hss
    subst this;exact hx h6.known
  ·rcases known_of_set hu with rfl|hu
   ·exact absurd rfl he
   ·obtain⟨p,hp,hr,hl⟩:=h.leads u hu;exact⟨p,Leads.set hx s v hp,hr,by omega⟩
 ·intro y hy;rcases List.mem_append.1 hy with hy|hy
  ·obtain⟨u,rfl,hu⟩:=h.queue y hy;exact⟨u,rfl,known_set hu⟩
  ·simp at hy
   subst hy;exact⟨x,rfl,by rw[List.getElem?_set_self (by rw[h.lk];exact hxn)]⟩
 ·intro u y s' hu hq hst hX;rcases known_of_set hu with rfl|hu
  ·exact absurd (List.mem_append_right _ List.mem_cons_self) hq
  ·exact known_set (h.closed u y s' hu (fun hm=>hq (List.mem_append_left _ hm)) hst hX)
theorem BInv.start(T:List Edg){n to_:Nat}(hto:to_<n)(nx:List Stp)(tw:List Int)(hn:nx.length=n)(ht:tw.length=n):
  BInv T n to_ ((List.replicate n false).set to_ true) nx tw [(to_:Int)] (fun _ _=>False):=by
 have only:∀v:Nat,((List.replicate n false).set to_ true)[v]?=some true→v=to_:=by
  intro v hv;rcases known_of_set hv with h|h
  ·exact h
  ·rw[List.getElem?_replicate]at h;split at h<;>cases h
 have hk:((List.replicate n false).set to_ true)[to_]?=some true:=by rw[List.getElem?_set_self (by simpa using hto)]
 refine⟨by simp,hn,ht,hk,?_,?_,?_⟩
 ·intro v hv;obtain rfl:=only v hv;exact⟨[],⟨rfl,hk⟩,trivial,by have:=unknown_start hto;simp only[List.length_nil];omega⟩
 ·intro x hx;simp at hx;exact⟨to_,hx,hk⟩
 ·intro u v s hu hq _ _;obtain rfl:=only u hu;simp at hq
theorem BInv.pop{T:List Edg}{n to_:Nat}{kn:List Bool}{nx:List Stp}{tw q:List Int}{v:Nat}(h:BInv T n to_ kn nx tw ((v:Int)::q) (fun _ _=>False)):
  kn[v]?=some true∧BInv T n to_ kn nx tw q (fun u _=>u=v):=by
 have hv:kn[v]?=some true:=by
  obtain⟨u,h1,h2⟩:=h.queue (v:Int) List.mem_cons_self;obtain rfl:v=u:=by omega
  exact h2
 refine⟨hv,h.lk,h.ln,h.lt,h.home,h.leads,fun x hx=>h.queue x (List.mem_cons_of_mem _ hx),?_⟩
 intro u y s hu hq hs hX;refine h.closed u y s hu ?_ hs (fun h=>h)
 intro hm;rcases List.mem_cons.1 hm with hm|hm
 ·exact hX (by omega)
 ·exact hq hm
theorem BInv.less{T:List Edg}{n to_:Nat}{kn:List Bool}{nx:List Stp}{tw q:List Int}{X Y:Nat→Stp→Prop}(h:BInv T n to_ kn nx tw q X)(hXY:∀(u v:Nat) (s:Stp),kn[u]?=some true→stepOk T u v s→¬Y u s→¬X u s∨kn[v]?=some true):BInv T n to_ kn nx tw q Y:=by
 refine⟨h.lk,h.ln,h.lt,h.home,h.leads,h.queue,fun u v s hu hq hs hY=>?_⟩
 rcases hXY u v s hu hs hY with hX|hv
 ·exact h.closed u v s hu hq hs hX
 ·exact hv
theorem BInv.all{T:List Edg}{n to_:Nat}{kn:List Bool}{nx:List Stp}{tw:List Int}(h:BInv T n to_ kn nx tw [] (fun _ _=>False)):∀{p:List Stp} {u v:Nat},kn[u]?=some true→Walk T u p v→kn[v]?=some true
 |[],u,v,hu,hp=>by rw[←show u=v from hp];exact hu
 |_::_,u,v,hu,⟨m,h1,h2⟩=>h.all (h.closed u m _ hu (by simp) h1 (fun h=>h)) h2
theorem BInv.next{T:List Edg}{n to_:Nat}{kn:List Bool}{nx:List Stp}{tw q:List Int}{v k:Nat}{tree:List Int}{x:Int}(h:BInv T n to_ kn nx tw q (fun u s=>u=v∧(s.1:Int)∉tree.take k))(hx:tree[k]?=some x)
  (hs:∀(y:Nat) (s:Stp),stepOk T v y s→(s.1:Int)=x→kn[y]?=some true):BInv T n to_ kn nx tw q (fun u s=>u=v∧(s.1:Int)∉tree.take (k+1)):=by
 refine h.less fun u y s _ hst hY=>?_
 by_cases hu:u=v
 ·subst hu;by_cases hm:(s.1:Int)∈tree.take k
  ·exact .inl fun hX=>hX.2 hm
  ·right
   refine hs y s hst ?_;have h1:(s.1:Int)∈tree.take (k+1):=Classical.byContradiction fun hc=>hY ⟨rfl,hc⟩
   rw[List.take_add_one,hx]at h1;rcases List.mem_append.1 h1 with h1|h1
   ·exact absurd h1 hm
   ·simpa using h1
 ·exact .inl fun hX=>hu hX.1
end Go.Proofs.YtpmlljbebdidgaaGreatDoor
namespace Go.Proofs.YtpmlljbebdidgaaGreatDoor
open Go.RowKit
def stepCells(s:Stp):List Value:=[.int .i64 s.1, .bool s.2]
def cellsS(p:List Stp):List Value:=p.flatMap stepCells
def cellsB(l:List Bool):List Value:=l.map Value.bool
theorem cellsS_length(p:List Stp):(cellsS p).length=p.length*2:=by
 induction p with
 |nil=>rfl
 |cons s p ih=>simp only[cellsS,List.flatMap_cons,List.length_append]at ih⊢;rw[ih];simp[stepCells];omega
theorem cellsS_at:∀(p:List Stp) (k:Nat) (s:Stp),p[k]?=some s→(cellsS p)[k*2]?=some (.int .i64 s.1)∧(cellsS p)[k*2+1]?=some (.bool s.2)
 |[],k,s,h=>by simp at h
 |s'::p,0,s,h=>by simp at h;subst h;exact⟨rfl,rfl⟩
 |s'::p,k+1,s,h=>by
  have ih:=cellsS_at p k s (by simpa using h)
  have e:cellsS (s'::p)=stepCells s'++cellsS p:=rfl
  rw[e,List.getElem?_append_right (by simp[stepCells];omega),List.getElem?_append_right (by simp[stepCells];omega)]
  rw[show(k+1)*2-(stepCells s').length=k*2 by simp[stepCells];omega,show(k+1)*2+1-(stepCells s').length=k*2+1 by simp[stepCells];omega]
  exact ih
theorem cellsS_set:∀(p:List Stp) (k:Nat) (s:Stp),((cellsS p).set (k*2) (.int .i64 s.1)).set (k*2+1) (.bool s.2)=cellsS (p.set k s)
 |[],k,s=>by simp[cellsS]
 |s'::p,0,s=>rfl
 |s'::p,k+1,s=>by
  have e:∀s' p,cellsS (s'::p)= .int .i64 s'.1:: .bool s'.2::cellsS p:=fun _ _=>rfl
  rw[List.set_cons_succ,e,e,show(k+1)*2=(k*2+1)+1 by omega,List.set_cons_succ,List.set_cons_succ,List.set_cons_succ,show k*2+1+1=k*2+1+1 by rfl,List.set_cons_succ,cellsS_set]
theorem cellsB_set(l:List Bool)(j:Nat)(b:Bool):(cellsB l).set j (.bool b)=cellsB (l.set j b):=by simp[cellsB,List.map_set]
structure PSt(W0 wr:World)(n gN bN gT bT gK bK gW bW:Nat)(kn:List Bool)(nx:List Stp)(tw q:List Int)(vq:Value):Prop where
 bw:Below W0.heap.size W0 wr
 kN:Blk wr bN 37 #[.slice (some ⟨gN,0,none⟩) n n]
 oN:wr.ownsRow gN 93 2 (.slice (some ⟨gN,0,none⟩) n n) n (cellsS nx)
 kT:Blk wr bT 36 #[.slice (some ⟨gT,0,none⟩) n n]
 oT:wr.ownsRow gT 3 1 (.slice (some ⟨gT,0,none⟩) n n) n (cellsI tw)
 kK:Blk wr bK 143 #[.slice (some ⟨gK,0,none⟩) n n]
 oK:wr.ownsRow gK 4 1 (.slice (some ⟨gK,0,none⟩) n n) n (cellsB kn)
 kW:Blk wr bW 36 #[vq]
 oq:ownsQ wr gW 3 vq q.length (cellsI q)
 s0:W0.heap.size≤gN
 s1:gN<bN
 s2:bN<gT
 s3:gT<bT
 s4:bT<gK
 s5:gK<bK
 s6:bK<gW
 s7:gW<bW
theorem ownsQ.ne{w:World}{base n g:Nat}{e t:TypeId}{v:Value}{xs:List Value}{cs:Array Value}(h:ownsQ w base e v n xs)(hg:Blk w g t cs)(hne:e≠t):v.ownBlock≠some g:=by
 obtain⟨_,g',off,cap,cur,rfl,_,hh,_⟩:=h;intro he;have:g'=g:=by simpa [Value.ownBlock]using he
 subst this;unfold Blk at hg;rw[hh]at hg;injection hg with hg;injection hg with _ ht;exact hne ht
section
variable {W0 wr:World} {n gN bN gT bT gK bK gW bW:Nat} {kn:List Bool} {nx:List Stp} {tw q:List Int} {vq:Value}
theorem PSt.alloc(h:PSt W0 wr n gN bN gT bT gK bK gW bW kn nx tw q vq)(o:Obj):PSt W0 (wr.alloc o) n gN bN gT bT gK bK gW bW kn nx tw q vq:=
 ⟨h.bw.alloc h.bw.size o,h.kN.alloc o,h.oN.alloc o,h.kT.alloc o,h.oT.alloc o,h.kK.alloc o,h.oK.alloc o,h.kW.alloc o,h.oq.alloc o,h.s0,h.s1,h.s2,h.s3,h.s4,h.s5,h.s6,h.s7⟩
theorem PSt.drawn(h:PSt W0 wr n gN bN gT bT gK bK gW bW kn nx tw q vq)(d:Nat):PSt W0 (wr.drewN d) n gN bN gT bT gK bK gW bW kn nx tw q vq:=
 ⟨Below.drewN h.bw d,h.kN,h.oN,h.kT,h.oT,h.kK,h.oK,h.kW,h.oq,h.s0,h.s1,h.s2,h.s3,h.s4,h.s5,h.s6,h.s7⟩
theorem PSt.far(h:PSt W0 wr n gN bN gT bT gK bK gW bW kn nx tw q vq):∀k,(k<gW∨k=bW)→vq.ownBlock≠some k:=by
 intro k hk;rcases hk with hk|rfl
 ·intro he
  have:=(h.oq.lt k he).1
  omega
 ·exact h.oq.ne h.kW (by decide)
theorem PSt.setN(h:PSt W0 wr n gN bN gT bT gK bK gW bW kn nx tw q vq)(x:Nat)(s:Stp):PSt W0 ((wr.setCell ⟨gN,x*2,none⟩ (.int .i64 s.1)).setCell ⟨gN,x*2+1,none⟩ (.bool s.2)) n gN bN gT bT gK bK gW bW kn (nx.set x s) tw q vq:=by
 have:=h.s0;have:=h.s1;have:=h.s2;have:=h.s3;have:=h.s4;have:=h.s5;have:=h.s6;have:=h.s7
 have o1:=h.oN.stored (x*2) (.int .i64 s.1);have o2:=o1.1.stored (x*2+1) (.bool s.2);have hf:=h.far gN (by omega)
 have ho:=o2.1;rw[cellsS_set]at ho;exact⟨(h.bw.setCell (by simp;omega) _).setCell (by simp;omega) _,(h.kN.far (by simp;omega) _).far (by simp;omega) _,ho,(h.kT.far (by simp;omega) _).far (by simp;omega) _,
  (h.oT.kept o1.2 (.inr (by simp[Value.ownBlock];omega))).kept o2.2 (.inr (by simp[Value.ownBlock];omega)),(h.kK.far (by simp;omega) _).far (by simp;omega) _,
  (h.oK.kept o1.2 (.inr (by simp[Value.ownBlock];omega))).kept o2.2 (.inr (by simp[Value.ownBlock];omega)),(h.kW.far (by simp;omega) _).far (by simp;omega) _,(h.oq.kept o1.2 hf).kept o2.2 hf,
  h.s0,h.s1,h.s2,h.s3,h.s4,h.s5,h.s6,h.s7⟩
theorem PSt.setT(h:PSt W0 wr n gN bN gT bT gK bK gW bW kn nx tw q vq)(x:Nat)(m:Int):PSt W0 (wr.setCell ⟨gT,x,none⟩ (.int .i64 m)) n gN bN gT bT gK bK gW bW kn nx (tw.set x m) q vq:=by
 have:=h.s0;have:=h.s1;have:=h.s2;have:=h.s3;have:=h.s4;have:=h.s5;have:=h.s6;have:=h.s7
 have o1:=h.oT.stored x (.int .i64 m);have hf:=h.far gT (by omega)
 have ho:=o1.1;rw[cellsI_set]at ho;exact⟨h.bw.setCell (by simp;omega) _,h.kN.far (by simp;omega) _,h.oN.kept o1.2 (.inr (by simp[Value.ownBlock];omega)),h.kT.far (by simp;omega) _,ho,h.kK.far (by simp;omega) _,
  h.oK.kept o1.2 (.inr (by simp[Value.ownBlock];omega)),h.kW.far (by simp;omega) _,h.oq.kept o1.2 hf,h.s0,h.s1,h.s2,h.s3,h.s4,h.s5,h.s6,h.s7⟩
theorem PSt.setK(h:PSt W0 wr n gN bN gT bT gK bK gW bW kn nx tw q vq)(x:Nat)(b:Bool):PSt W0 (wr.setCell ⟨gK,x,none⟩ (.bool b)) n gN bN gT bT gK bK gW bW (kn.set x b) nx tw q vq:=by
 have:=h.s0;have:=h.s1;have:=h.s2;have:=h.s3;have:=h.s4;have:=h.s5;have:=h.s6;have:=h.s7
 have o1:=h.oK.stored x (.bool b);have hf:=h.far gK (by omega)
 have ho:=o1.1;rw[cellsB_set]at ho;exact⟨h.bw.setCell (by simp;omega) _,h.kN.far (by simp;omega) _,h.oN.kept o1.2 (.inr (by simp[Value.ownBlock];omega)),h.kT.far (by simp;omega) _,h.oT.kept o1.2 (.inr (by simp[Value.ownBlock];omega)),h.kK.far (by simp;omega) _,ho,
  h.kW.far (by simp;omega) _,h.oq.kept o1.2 hf,h.s0,h.s1,h.s2,h.s3,h.s4,h.s5,h.s6,h.s7⟩
theorem PSt.setQ{w':World}{q':List Int}{vq':Value}(h:PSt W0 wr n gN bN gT bT gK bK gW bW kn nx tw q vq)(hg:wr.grownBy w' vq.ownBlock)(ho:ownsQ w' gW 3 vq' q'.length (cellsI q')):
  PSt W0 (w'.setCell ⟨bW,0,none⟩ vq') n gN bN gT bT gK bK gW bW kn nx tw q' vq':=by
 have:=h.s0;have:=h.s1;have:=h.s2;have:=h.s3;have:=h.s4;have:=h.s5;have:=h.s6;have:=h.s7
 have nb:∀k,(k<gW∨k=bW)→some k≠vq.ownBlock:=fun k hk he=>h.far k hk he.symm
 have kW':=h.kW.grown hg (nb bW (.inr rfl));have hst:(w'.setCell ⟨bW,0,none⟩ vq').heap.size=w'.heap.size:=by simp
 have gs:w'.grownBy (w'.setCell ⟨bW,0,none⟩ vq') (some bW):=⟨rfl,rfl,rfl,by simp,fun k _ hk=>Below.heap_setCell w' _ _ k (fun he=>hk (by rw[he]))⟩
 have bw':Below W0.heap.size W0 w':=h.bw.grown hg h.bw.size (fun k hk=>by have:=(h.oq.lt k hk).1;omega)
 exact⟨bw'.setCell (by simp;omega) _,(h.kN.grown hg (nb _ (by omega))).far (by simp;omega) _,(h.oN.kept hg (.inr (by simpa [Value.ownBlock]using nb gN (by omega)))).kept gs (.inr (by simp[Value.ownBlock];omega)),
  (h.kT.grown hg (nb _ (by omega))).far (by simp;omega) _,(h.oT.kept hg (.inr (by simpa [Value.ownBlock]using nb gT (by omega)))).kept gs (.inr (by simp[Value.ownBlock];omega)),
  (h.kK.grown hg (nb _ (by omega))).far (by simp;omega) _,(h.oK.kept hg (.inr (by simpa [Value.ownBlock]using nb gK (by omega)))).kept gs (.inr (by simp[Value.ownBlock];omega)),
  by simpa using kW'.set 0 vq',ho.far (ho.ne kW' (by decide)) _,h.s0,h.s1,h.s2,h.s3,h.s4,h.s5,h.s6,h.s7⟩
end
def LearnOut(W0:World)(n gN bN gT bT gK bK gW bW:Nat)(kn:List Bool)(nx:List Stp)(tw q:List Int)(e:Ending)(w':World):Prop:=
 ∃vq,e= .returned (.tuple #[])∧PSt W0 w' n gN bN gT bT gK bK gW bW kn nx tw q vq
theorem learn_yes{W0 wr:World}{n gN bN gT bT gK bK gW bW:Nat}{kn:List Bool}{nx:List Stp}{tw q:List Int}{vq:Value}(x:Nat)(v:Int)(i:Nat)(b:Bool)(h:PSt W0 wr n gN bN gT bT gK bK gW bW kn nx tw q vq)(hxn:x<n)(hx:kn[x]?=some true):
  Calls Tryz.prog 54 #[.int .i64 x, .int .i64 v, .agg #[.int .i64 i, .bool b], .pointer (some ⟨bK,0,none⟩), .pointer (some ⟨bN,0,none⟩), .pointer (some ⟨bT,0,none⟩), .pointer (some ⟨bW,0,none⟩)] wr (LearnOut W0 n gN bN gT bT gK bK gW bW kn nx tw q):=by
 have h1:=h.alloc (.cells #[.int .i64 i, .bool b] 93);have k0:=h1.kK.cell 0;have c0:=h1.oK.cellAt x (by omega)
 rw[show(cellsB kn)[x]?=some (.bool true) by simp[cellsB,hx]]at c0
 simp at k0
 clear hx
 go_enter Tryz.func54, Tryz.ntmps54
 go_wp2
 go_end0
 exact⟨vq,rfl,h1⟩
theorem learn_no{W0 wr:World}{n gN bN gT bT gK bK gW bW:Nat}{kn:List Bool}{nx:List Stp}{tw q:List Int}{vq:Value}(x:Nat)(v:Int)(i:Nat)(b:Bool)(h:PSt W0 wr n gN bN gT bT gK bK gW bW kn nx tw q vq)(hxn:x<n)(hq:q.length<100000)(hx:kn[x]?=some false):
  Calls Tryz.prog 54 #[.int .i64 x, .int .i64 v, .agg #[.int .i64 i, .bool b], .pointer (some ⟨bK,0,none⟩), .pointer (some ⟨bN,0,none⟩), .pointer (some ⟨bT,0,none⟩), .pointer (some ⟨bW,0,none⟩)] wr (LearnOut W0 n gN bN gT bT gK bK gW bW (kn.set x true) (nx.set x (i,b)) (tw.set x v) (q++[(x:Int)])):=by
 obtain⟨i0,hi,hz0,hz1,hz2⟩:=info_parts info_int;have h1:=h.alloc (.cells #[.int .i64 i, .bool b] 93);have kB:=Blk.new wr _ rfl 93 #[.int .i64 i, .bool b];have k0:=h1.kK.cell 0;have kn0:=h1.kN.cell 0;have kt0:=h1.kT.cell 0;have kw0:=h1.kW.cell 0;have c0:=h1.oK.cellAt x (by omega)
 rw[show(cellsB kn)[x]?=some (.bool false) by simp[cellsB,hx]]at c0
 simp at k0 kn0 kt0 kw0
 clear hx
 have:=h.s0;have:=h.s1;have:=h.s2;have:=h.s3;have:=h.s4;have:=h.s5;have:=h.s6;have:=h.s7
 have hbl:=h.kW.lt;have hlN:=cellsS_length nx;obtain⟨c1,hc1⟩:∃c1,(cellsS nx)[x*2]?=some c1:=⟨_,List.getElem?_eq_getElem (by have:=h.oN.1;omega)⟩
 obtain⟨c2,hc2⟩:∃c2,(cellsS nx)[x*2+1]?=some c2:=⟨_,List.getElem?_eq_getElem (by have:=h.oN.1;omega)⟩
 obtain⟨c3,hc3⟩:∃c3,(cellsI tw)[x]?=some c3:=⟨_,List.getElem?_eq_getElem (by have:=h.oT.1;omega)⟩
 have d1:=h1.oN.cellAt (x*2) (by omega)
 have d2:=h1.oN.cellAt (x*2+1) (by omega)
 have d3:=h1.oT.cellAt x (by omega)
 rw[hc1]at d1;rw[hc2]at d2;rw[hc3]at d3;have f0:=h1.oK.frozenAt x;have f1:=h1.oN.frozenAt (x*2);have f2:=h1.oN.frozenAt (x*2+1);have f3:=h1.oT.frozenAt x;have S2:=(h1.setK x true).setN x (i,b);have S3:=(S2.setT x v).drawn 1;clear S2 hc1 hc2 hc3 hlN
 go_enter Tryz.func54, Tryz.ntmps54
 go_wp2
 clear h1 h;obtain⟨gB,hgB⟩:∃gB,wr.heap.size=gB:=⟨_,rfl⟩;obtain⟨W,hW⟩:∃W,wr.alloc (.cells #[.int .i64 i, .bool b] 93)=W:=⟨_,rfl⟩;rw[hgB]at kB hbl⊢;rw[hW]at c0 k0 kn0 kt0 kw0 d1 d2 d3 f0 f1 f2 f3 S3 kB⊢;clear hW hgB;have p0:W.cell? ⟨gB,0,none⟩=some (.int .i64 i):=kB.cell 0;have p1:W.cell? ⟨gB,1,none⟩=some (.bool b):=kB.cell 1;clear kB;have n1:gK≠bN:=by omega
 have n2:gK≠bT:=by omega
 have n3:gK≠gB:=by omega
 have n4:gK≠gN:=by omega
 have n5:gK≠gT:=by omega
 have n6:gN≠bT:=by omega
 have n7:gN≠gT:=by omega
 have m1:bN≠gK:=by omega
 have m2:bT≠gK:=by omega
 have m3:gB≠gK:=by omega
 have m4:gN≠gK:=by omega
 have m5:gT≠gK:=by omega
 have m6:bT≠gN:=by omega
 have m7:gT≠gN:=by omega
 go_region
 generalize hW3:World.drewN ((((W.setCell ⟨gK,x,none⟩ (.bool true)).setCell ⟨gN,x*2,none⟩ (.int .i64 i)).setCell ⟨gN,x*2+1,none⟩ (.bool b)).setCell ⟨gT,x,none⟩ (.int .i64 v)) 1=W3 at S3;change Exit.then _ _ _ _ (World.drewN ((((W.setCell ⟨gK,x,none⟩ (.bool true)).setCell ⟨gN,x*2,none⟩ (.int .i64 i)).setCell ⟨gN,x*2+1,none⟩ (.bool b)).setCell ⟨gT,x,none⟩ (.int .i64 v)) 1);rw[hW3];clear hW3;clear c0 k0 kn0 kt0 d1 d2 d3 f0 f1 f2 f3 p0 p1;have kw3:=S3.kW.cell 0;simp at kw3;clear kw0
 go_wp2_with (at_builtin;refine wpList_append_q _ rfl _ _ 36 rfl gW 3 i0 (.int .i64 0) Tryz.underlying36 hi hz0 hz1 hz2 rfl vq q.length (cellsI q) rfl (S3.alloc _).oq ⟨W3.heap.size,0,none⟩ 1 (.int .i64 x) rfl (by simp) rfl (by omega) (by have:=S3.kW.lt;simp;omega) ?_)
 intro vq' W4 o4 g4 _;have kw4:=((S3.alloc (.cells #[.int .i64 x] 3)).kW.grown g4 (fun he=>(S3.far bW (.inr rfl)) he.symm))
 have S5:=(S3.alloc (.cells #[.int .i64 x] 3)).setQ (q':=q++[(x:Int)]) g4 (by simpa [cellsI]using o4)
 obtain⟨gq,oq,cq,rfl,_⟩:=o4.slice;have kw5:=kw4.cell 0;have kf5:=kw4.frozen 0;simp at kw5;clear kw3 kw4 S3 o4 g4
 go_wp2
 go_end0
 exact⟨_,rfl,S5⟩
end Go.Proofs.YtpmlljbebdidgaaGreatDoor
