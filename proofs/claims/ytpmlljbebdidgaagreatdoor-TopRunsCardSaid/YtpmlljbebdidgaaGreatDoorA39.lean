/- Lemmas and walks for the claim: Fr, Fs, Ft, Fu. -/
import Derived.Test.YtpmlljbebdidgaaGreatDoorA0
import Derived.Test.YtpmlljbebdidgaaGreatDoorA35
import Derived.Test.YtpmlljbebdidgaaGreatDoorA1
import Derived.Test.YtpmlljbebdidgaaGreatDoorA36
import Derived.Deep.RegionWith
import Derived.BigRegion
set_option linter.unusedSimpArgs false
set_option maxRecDepth 100000
namespace Go.Proofs.YtpmlljbebdidgaaGreatDoor
def unknown(kn:List Bool):Nat:=kn.countP (fun b=>!b)
theorem zc2:∀{kn:List Bool} {x:Nat},kn[x]?=some false→unknown (kn.set x true)+1=unknown kn
 |[],x,h=>by simp at h
 |b::kn,0,h=>by simp at h;subst h;simp[unknown]
 |b::kn,x+1,h=>by
  have:=zc2 (kn:=kn) (x:=x) (by simpa using h)
  unfold unknown at this⊢;rw[zd,List.countP_cons,List.countP_cons];omega
theorem ziq{n t:Nat}(ht:t<n):unknown ((List.replicate n false).set t true)+1=n:=by
 rw[zc2 (by simp[ht])]
 unfold unknown;rw[List.countP_replicate];simp
def Leads(T:List Edg)(to_:Nat)(kn:List Bool)(nx:List Stp)(tw:List Int):Nat→List Stp→Prop
 |v,[]=>v=to_∧kn[v]?=some true
 |v,s::p=>v≠to_∧kn[v]?=some true∧nx[v]?=some s∧∃m:Nat,tw[v]?=some (m:Int)∧stepOk T v m s∧Leads T to_ kn nx tw m p
structure BInv(T:List Edg)(n to_:Nat)(kn:List Bool)(nx:List Stp)(tw q:List Int)(X:Nat→Stp→Prop):Prop where
 lk:kn.length=n
 ln:nx.length=n
 lt:tw.length=n
 home:kn[to_]?=some true
 leads:∀v:Nat,kn[v]?=some true→∃p,Leads T to_ kn nx tw v p∧Red p∧p.length+unknown kn<n
 queue:∀x∈q,∃u:Nat,x=(u:Int)∧kn[u]?=some true
 closed:∀(u v:Nat) (s:Stp),kn[u]?=some true→(u:Int)∉q→stepOk T u v s→¬X u s→kn[v]?=some true
theorem Leads.walk{T:List Edg}{to_:Nat}{kn:List Bool}{nx:List Stp}{tw:List Int}:∀{p:List Stp} {v:Nat},Leads T to_ kn nx tw v p→Walk T v p to_
 |[],_,h=>h.1
 |_::_,_,⟨_,_,_,m,_,h,h'⟩=>⟨m,h,Leads.walk h'⟩
theorem Leads.known{T:List Edg}{to_:Nat}{kn:List Bool}{nx:List Stp}{tw:List Int}:∀{p:List Stp} {v:Nat},Leads T to_ kn nx tw v p→kn[v]?=some true
 |[],_,h=>h.2
 |_::_,_,h=>h.2.1
theorem Leads.set{T:List Edg}{to_:Nat}{kn:List Bool}{nx:List Stp}{tw:List Int}{x:Nat}(hx:kn[x]?≠some true)(s:Stp)(m:Int):∀{p:List Stp} {v:Nat},Leads T to_ kn nx tw v p→
  Leads T to_ (kn.set x true) (nx.set x s) (tw.set x m) v p
 |[],v,h=>by
  have hne:x≠v:=fun he=>hx (he▸h.2)
  exact⟨h.1,by rw[zaM hne];exact h.2⟩
 |s'::p,v,⟨h1,h2,h3,k,h4,h5,h6⟩=>by
  have hne:x≠v:=fun he=>hx (he▸h2)
  refine⟨h1,?_,?_,k,?_,h5,Leads.set hx s m h6⟩
  ·rw[zaM hne];exact h2
  ·rw[zaM hne];exact h3
  ·rw[zaM hne];exact h4
theorem known_set{kn:List Bool}{x v:Nat}(h:kn[v]?=some true):(kn.set x true)[v]?=some true:=by
 by_cases he:x=v
 ·subst he;rw[zat (zu.1 h).1]
 ·rw[zaM he];exact h
theorem known_of_set{kn:List Bool}{x v:Nat}(h:(kn.set x true)[v]?=some true):v=x∨kn[v]?=some true:=by
 by_cases he:x=v
 ·exact .inl he.symm
 ·rw[zaM he]at h;exact .inr h
theorem BInv.learn{T:List Edg}(hF:Forest T){n to_:Nat}{kn:List Bool}{nx:List Stp}{tw q:List Int}{X:Nat→Stp→Prop}(h:BInv T n to_ kn nx tw q X){x v:Nat}{s:Stp}(hx:kn[x]?≠some true)(hxn:x<n)(hv:kn[v]?=some true)
  (hs:stepOk T x v s):BInv T n to_ (kn.set x true) (nx.set x s) (tw.set x (v:Int)) (q++[(x:Int)]) X:=by
 have hxto:x≠to_:=fun he=>hx (he▸h.home)
 have hun:unknown (kn.set x true)+1=unknown kn:=by
  refine zc2 ?_;obtain⟨b,hb⟩:∃b,kn[x]?=some b:=⟨_,zk (by rw[h.lk];exact hxn)⟩
  cases b
  ·exact hb
  ·exact absurd hb hx
 refine⟨by simp[h.lk],by simp[h.ln],by simp[h.lt],known_set h.home,?_,?_,?_⟩
 ·intro u hu;by_cases he:u=x
  ·subst he;obtain⟨p,hp,hr,hl⟩:=h.leads v hv;refine⟨s::p,⟨hxto,hu,by rw[zat (by rw[h.ln];exact hxn)],v,by rw[zat (by rw[h.lt];exact hxn)],hs,Leads.set hx s v hp⟩,?_,by rw[zaG];omega⟩
   cases p with
   |nil=>trivial
   |cons s' p=>
    refine⟨fun hss=>?_,hr⟩
    obtain⟨_,_,_,m,h4,h5,h6⟩:=hp
    have:=other_end hF hs h5 hss
    subst this;exact hx h6.known
  ·rcases known_of_set hu with rfl|hu
   ·exact absurd rfl he
   ·obtain⟨p,hp,hr,hl⟩:=h.leads u hu;exact⟨p,Leads.set hx s v hp,hr,by omega⟩
 ·intro y hy;rcases zaZ.1 hy with hy|hy
  ·obtain⟨u,rfl,hu⟩:=h.queue y hy;exact⟨u,rfl,known_set hu⟩
  ·simp at hy
   subst hy;exact⟨x,rfl,by rw[zat (by rw[h.lk];exact hxn)]⟩
 ·intro u y s' hu hq hst hX;rcases known_of_set hu with rfl|hu
  ·exact absurd (List.mem_append_right _ za0) hq
  ·exact known_set (h.closed u y s' hu (fun hm=>hq (zbZ _ hm)) hst hX)
theorem BInv.start(T:List Edg){n to_:Nat}(hto:to_<n)(nx:List Stp)(tw:List Int)(hn:nx.length=n)(ht:tw.length=n):
  BInv T n to_ ((List.replicate n false).set to_ true) nx tw [(to_:Int)] (fun _ _=>False):=by
 have only:∀v:Nat,((List.replicate n false).set to_ true)[v]?=some true→v=to_:=by
  intro v hv;rcases known_of_set hv with h|h
  ·exact h
  ·rw[zbh]at h;split at h<;>cases h
 have hk:((List.replicate n false).set to_ true)[to_]?=some true:=by rw[zat (by simpa using hto)]
 refine⟨by simp,hn,ht,hk,?_,?_,?_⟩
 ·intro v hv;obtain rfl:=only v hv;exact⟨[],⟨rfl,hk⟩,trivial,by have:=ziq hto;simp only[zaD];omega⟩
 ·intro x hx;simp at hx;exact⟨to_,hx,hk⟩
 ·intro u v s hu hq _ _;obtain rfl:=only u hu;simp at hq
theorem BInv.pop{T:List Edg}{n to_:Nat}{kn:List Bool}{nx:List Stp}{tw q:List Int}{v:Nat}(h:BInv T n to_ kn nx tw ((v:Int)::q) (fun _ _=>False)):
  kn[v]?=some true∧BInv T n to_ kn nx tw q (fun u _=>u=v):=by
 have hv:kn[v]?=some true:=by
  obtain⟨u,h1,h2⟩:=h.queue (v:Int) za0;obtain rfl:v=u:=by omega
  exact h2
 refine⟨hv,h.lk,h.ln,h.lt,h.home,h.leads,fun x hx=>h.queue x (za2 _ hx),?_⟩
 intro u y s hu hq hs hX;refine h.closed u y s hu ?_ hs (fun h=>h)
 intro hm;rcases zV.1 hm with hm|hm
 ·exact hX (by omega)
 ·exact hq hm
theorem BInv.less{T:List Edg}{n to_:Nat}{kn:List Bool}{nx:List Stp}{tw q:List Int}{X Y:Nat→Stp→Prop}(h:BInv T n to_ kn nx tw q X)(hXY:∀(u v:Nat) (s:Stp),kn[u]?=some true→stepOk T u v s→¬Y u s→¬X u s∨kn[v]?=some true):BInv T n to_ kn nx tw q Y:=by
 refine⟨h.lk,h.ln,h.lt,h.home,h.leads,h.queue,fun u v s hu hq hs hY=>?_⟩
 rcases hXY u v s hu hs hY with hX|hv
 ·exact h.closed u v s hu hq hs hX
 ·exact hv
theorem BInv.all{T:List Edg}{n to_:Nat}{kn:List Bool}{nx:List Stp}{tw:List Int}(h:BInv T n to_ kn nx tw [] (fun _ _=>False)):∀{p:List Stp} {u v:Nat},kn[u]?=some true→Walk T u p v→kn[v]?=some true
 |[],u,v,hu,hp=>by rw[←show u=v from hp];exact hu
 |_::_,u,v,hu,⟨m,h1,h2⟩=>h.all (h.closed u m _ hu (by simp) h1 (fun h=>h)) h2
theorem BInv.next{T:List Edg}{n to_:Nat}{kn:List Bool}{nx:List Stp}{tw q:List Int}{v k:Nat}{tree:List Int}{x:Int}(h:BInv T n to_ kn nx tw q (fun u s=>u=v∧(s.1:Int)∉tree.take k))(hx:tree[k]?=some x)
  (hs:∀(y:Nat) (s:Stp),stepOk T v y s→(s.1:Int)=x→kn[y]?=some true):BInv T n to_ kn nx tw q (fun u s=>u=v∧(s.1:Int)∉tree.take (k+1)):=by
 refine h.less fun u y s _ hst hY=>?_
 by_cases hu:u=v
 ·subst hu;by_cases hm:(s.1:Int)∈tree.take k
  ·exact .inl fun hX=>hX.2 hm
  ·right
   refine hs y s hst ?_;have h1:(s.1:Int)∈tree.take (k+1):=zdb fun hc=>hY ⟨rfl,hc⟩
   rw[zan,hx]at h1;rcases zaZ.1 h1 with h1|h1
   ·exact absurd h1 hm
   ·simpa using h1
 ·exact .inl fun hX=>hu hX.1
end Go.Proofs.YtpmlljbebdidgaaGreatDoor
namespace Go.Proofs.YtpmlljbebdidgaaGreatDoor
open Go.RowKit
def stepCells(s:Stp):List Value:=[.int .i64 s.1, .bool s.2]
def cellsS(p:List Stp):List Value:=p.flatMap stepCells
def zcW(l:List Bool):List Value:=l.map Value.bool
theorem zdO(p:List Stp):(cellsS p).length=p.length*2:=by
 induction p with
 |nil=>rfl
 |cons s p ih=>simp only[cellsS,zdz,zx]at ih⊢;rw[ih];simp[stepCells];omega
theorem zge:∀(p:List Stp) (k:Nat) (s:Stp),p[k]?=some s→(cellsS p)[k*2]?=some (.int .i64 s.1)∧(cellsS p)[k*2+1]?=some (.bool s.2)
 |[],k,s,h=>by simp at h
 |s'::p,0,s,h=>by simp at h;subst h;exact⟨rfl,rfl⟩
 |s'::p,k+1,s,h=>by
  have ih:=zge p k s (by simpa using h)
  have e:cellsS (s'::p)=stepCells s'++cellsS p:=rfl
  rw[e,zO (by simp[stepCells];omega),zO (by simp[stepCells];omega)]
  rw[show(k+1)*2-(stepCells s').length=k*2 by simp[stepCells];omega,show(k+1)*2+1-(stepCells s').length=k*2+1 by simp[stepCells];omega]
  exact ih
theorem zha:∀(p:List Stp) (k:Nat) (s:Stp),((cellsS p).set (k*2) (.int .i64 s.1)).set (k*2+1) (.bool s.2)=cellsS (p.set k s)
 |[],k,s=>by simp[cellsS]
 |s'::p,0,s=>rfl
 |s'::p,k+1,s=>by
  have e:∀s' p,cellsS (s'::p)= .int .i64 s'.1:: .bool s'.2::cellsS p:=fun _ _=>rfl
  rw[zd,e,e,show(k+1)*2=(k*2+1)+1 by omega,zd,zd,zd,show k*2+1+1=k*2+1+1 by rfl,zd,zha]
theorem zhb(l:List Bool)(j:Nat)(b:Bool):(zcW l).set j (.bool b)=zcW (l.set j b):=by simp[zcW,zbn]
structure PSt(W0 wr:World)(n gN bN gT bT gK bK gW bW:Nat)(kn:List Bool)(nx:List Stp)(tw q:List Int)(vq:Value):Prop where
 bw:Below W0.heap.size W0 wr
 kN:Blk wr bN 37 #[.slice (some ⟨gN,0,none⟩) n n]
 oN:wr.ownsRow gN 93 2 (.slice (some ⟨gN,0,none⟩) n n) n (cellsS nx)
 kT:Blk wr bT 36 #[.slice (some ⟨gT,0,none⟩) n n]
 oT:wr.ownsRow gT 3 1 (.slice (some ⟨gT,0,none⟩) n n) n (cellsI tw)
 kK:Blk wr bK 143 #[.slice (some ⟨gK,0,none⟩) n n]
 oK:wr.ownsRow gK 4 1 (.slice (some ⟨gK,0,none⟩) n n) n (zcW kn)
 kW:Blk wr bW 36 #[vq]
 oq:ownsQ wr gW 3 vq q.length (cellsI q)
 s0:W0.heap.size≤gN
 s1:gN<bN
 s2:bN<gT
 s3:gT<bT
 s4:bT<gK
 s5:gK<bK
 s6:bK<gW
 s7:gW<bW
theorem ownsQ.ne{w:World}{base n g:Nat}{e t:TypeId}{v:Value}{xs:List Value}{cs:Array Value}(h:ownsQ w base e v n xs)(hg:Blk w g t cs)(hne:e≠t):v.ownBlock≠some g:=by
 obtain⟨_,g',off,cap,cur,rfl,_,hh,_⟩:=h;intro he;have:g'=g:=by simpa [Value.ownBlock]using he
 subst this;unfold Blk at hg;rw[hh]at hg;injection hg with hg;injection hg with _ ht;exact hne ht
section
variable {W0 wr:World} {n gN bN gT bT gK bK gW bW:Nat} {kn:List Bool} {nx:List Stp} {tw q:List Int} {vq:Value}
theorem PSt.alloc(h:PSt W0 wr n gN bN gT bT gK bK gW bW kn nx tw q vq)(o:Obj):PSt W0 (wr.alloc o) n gN bN gT bT gK bK gW bW kn nx tw q vq:=
 ⟨h.bw.alloc h.bw.size o,h.kN.alloc o,h.oN.alloc o,h.kT.alloc o,h.oT.alloc o,h.kK.alloc o,h.oK.alloc o,h.kW.alloc o,h.oq.alloc o,h.s0,h.s1,h.s2,h.s3,h.s4,h.s5,h.s6,h.s7⟩
theorem PSt.drawn(h:PSt W0 wr n gN bN gT bT gK bK gW bW kn nx tw q vq)(d:Nat):PSt W0 (wr.drewN d) n gN bN gT bT gK bK gW bW kn nx tw q vq:=
 ⟨Below.drewN h.bw d,h.kN,h.oN,h.kT,h.oT,h.kK,h.oK,h.kW,h.oq,h.s0,h.s1,h.s2,h.s3,h.s4,h.s5,h.s6,h.s7⟩
theorem PSt.far(h:PSt W0 wr n gN bN gT bT gK bK gW bW kn nx tw q vq):∀k,(k<gW∨k=bW)→vq.ownBlock≠some k:=by
 intro k hk;rcases hk with hk|rfl
 ·intro he
  have:=(h.oq.lt k he).1
  omega
 ·exact h.oq.ne h.kW (by decide)
theorem PSt.setN(h:PSt W0 wr n gN bN gT bT gK bK gW bW kn nx tw q vq)(x:Nat)(s:Stp):PSt W0 ((wr.setCell ⟨gN,x*2,none⟩ (.int .i64 s.1)).setCell ⟨gN,x*2+1,none⟩ (.bool s.2)) n gN bN gT bT gK bK gW bW kn (nx.set x s) tw q vq:=by
 have:=h.s0;have:=h.s1;have:=h.s2;have:=h.s3;have:=h.s4;have:=h.s5;have:=h.s6;have:=h.s7
 have o1:=h.oN.stored (x*2) (.int .i64 s.1);have o2:=o1.1.stored (x*2+1) (.bool s.2);have hf:=h.far gN (by omega)
 have ho:=o2.1;rw[zha]at ho;exact⟨(h.bw.setCell (by simp;omega) _).setCell (by simp;omega) _,(h.kN.far (by simp;omega) _).far (by simp;omega) _,ho,(h.kT.far (by simp;omega) _).far (by simp;omega) _,
  (h.oT.kept o1.2 (.inr (by simp[Value.ownBlock];omega))).kept o2.2 (.inr (by simp[Value.ownBlock];omega)),(h.kK.far (by simp;omega) _).far (by simp;omega) _,
  (h.oK.kept o1.2 (.inr (by simp[Value.ownBlock];omega))).kept o2.2 (.inr (by simp[Value.ownBlock];omega)),(h.kW.far (by simp;omega) _).far (by simp;omega) _,(h.oq.kept o1.2 hf).kept o2.2 hf,
  h.s0,h.s1,h.s2,h.s3,h.s4,h.s5,h.s6,h.s7⟩
theorem PSt.setT(h:PSt W0 wr n gN bN gT bT gK bK gW bW kn nx tw q vq)(x:Nat)(m:Int):PSt W0 (wr.setCell ⟨gT,x,none⟩ (.int .i64 m)) n gN bN gT bT gK bK gW bW kn nx (tw.set x m) q vq:=by
 have:=h.s0;have:=h.s1;have:=h.s2;have:=h.s3;have:=h.s4;have:=h.s5;have:=h.s6;have:=h.s7
 have o1:=h.oT.stored x (.int .i64 m);have hf:=h.far gT (by omega)
 have ho:=o1.1;rw[zd7]at ho;exact⟨h.bw.setCell (by simp;omega) _,h.kN.far (by simp;omega) _,h.oN.kept o1.2 (.inr (by simp[Value.ownBlock];omega)),h.kT.far (by simp;omega) _,ho,h.kK.far (by simp;omega) _,
  h.oK.kept o1.2 (.inr (by simp[Value.ownBlock];omega)),h.kW.far (by simp;omega) _,h.oq.kept o1.2 hf,h.s0,h.s1,h.s2,h.s3,h.s4,h.s5,h.s6,h.s7⟩
theorem PSt.setK(h:PSt W0 wr n gN bN gT bT gK bK gW bW kn nx tw q vq)(x:Nat)(b:Bool):PSt W0 (wr.setCell ⟨gK,x,none⟩ (.bool b)) n gN bN gT bT gK bK gW bW (kn.set x b) nx tw q vq:=by
 have:=h.s0;have:=h.s1;have:=h.s2;have:=h.s3;have:=h.s4;have:=h.s5;have:=h.s6;have:=h.s7
 have o1:=h.oK.stored x (.bool b);have hf:=h.far gK (by omega)
 have ho:=o1.1;rw[zhb]at ho;exact⟨h.bw.setCell (by simp;omega) _,h.kN.far (by simp;omega) _,h.oN.kept o1.2 (.inr (by simp[Value.ownBlock];omega)),h.kT.far (by simp;omega) _,h.oT.kept o1.2 (.inr (by simp[Value.ownBlock];omega)),h.kK.far (by simp;omega) _,ho,
  h.kW.far (by simp;omega) _,h.oq.kept o1.2 hf,h.s0,h.s1,h.s2,h.s3,h.s4,h.s5,h.s6,h.s7⟩
theorem PSt.setQ{w':World}{q':List Int}{vq':Value}(h:PSt W0 wr n gN bN gT bT gK bK gW bW kn nx tw q vq)(hg:wr.grownBy w' vq.ownBlock)(ho:ownsQ w' gW 3 vq' q'.length (cellsI q')):
  PSt W0 (w'.setCell ⟨bW,0,none⟩ vq') n gN bN gT bT gK bK gW bW kn nx tw q' vq':=by
 have:=h.s0;have:=h.s1;have:=h.s2;have:=h.s3;have:=h.s4;have:=h.s5;have:=h.s6;have:=h.s7
 have nb:∀k,(k<gW∨k=bW)→some k≠vq.ownBlock:=fun k hk he=>h.far k hk he.symm
 have kW':=h.kW.grown hg (nb bW (.inr rfl));have hst:(w'.setCell ⟨bW,0,none⟩ vq').heap.size=w'.heap.size:=by simp
 have gs:w'.grownBy (w'.setCell ⟨bW,0,none⟩ vq') (some bW):=⟨rfl,rfl,rfl,by simp,fun k _ hk=>zaa w' _ _ k (fun he=>hk (by rw[he]))⟩
 have bw':Below W0.heap.size W0 w':=h.bw.grown hg h.bw.size (fun k hk=>by have:=(h.oq.lt k hk).1;omega)
 exact⟨bw'.setCell (by simp;omega) _,(h.kN.grown hg (nb _ (by omega))).far (by simp;omega) _,(h.oN.kept hg (.inr (by simpa [Value.ownBlock]using nb gN (by omega)))).kept gs (.inr (by simp[Value.ownBlock];omega)),
  (h.kT.grown hg (nb _ (by omega))).far (by simp;omega) _,(h.oT.kept hg (.inr (by simpa [Value.ownBlock]using nb gT (by omega)))).kept gs (.inr (by simp[Value.ownBlock];omega)),
  (h.kK.grown hg (nb _ (by omega))).far (by simp;omega) _,(h.oK.kept hg (.inr (by simpa [Value.ownBlock]using nb gK (by omega)))).kept gs (.inr (by simp[Value.ownBlock];omega)),
  by simpa using kW'.set 0 vq',ho.far (ho.ne kW' (by decide)) _,h.s0,h.s1,h.s2,h.s3,h.s4,h.s5,h.s6,h.s7⟩
end
def ziR(W0:World)(n gN bN gT bT gK bK gW bW:Nat)(kn:List Bool)(nx:List Stp)(tw q:List Int)(e:Ending)(w':World):Prop:=
 ∃vq,e= .returned (.tuple #[])∧PSt W0 w' n gN bN gT bT gK bK gW bW kn nx tw q vq
theorem zhX{W0 wr:World}{n gN bN gT bT gK bK gW bW:Nat}{kn:List Bool}{nx:List Stp}{tw q:List Int}{vq:Value}(x:Nat)(v:Int)(i:Nat)(b:Bool)(h:PSt W0 wr n gN bN gT bT gK bK gW bW kn nx tw q vq)(hxn:x<n)(hx:kn[x]?=some true):
  Calls Tryz.prog 54 #[.int .i64 x, .int .i64 v, .agg #[.int .i64 i, .bool b], .pointer (some ⟨bK,0,none⟩), .pointer (some ⟨bN,0,none⟩), .pointer (some ⟨bT,0,none⟩), .pointer (some ⟨bW,0,none⟩)] wr (ziR W0 n gN bN gT bT gK bK gW bW kn nx tw q):=by
 have h1:=h.alloc (.cells #[.int .i64 i, .bool b] 93);have k0:=h1.kK.cell 0;have c0:=h1.oK.cellAt x (by omega)
 rw[show(zcW kn)[x]?=some (.bool true) by simp[zcW,hx]]at c0
 simp at k0
 clear hx
 go_enter Tryz.func54, Tryz.ntmps54
 go_wp2
 go_end0
 exact⟨vq,rfl,h1⟩
theorem ziS{W0 wr:World}{n gN bN gT bT gK bK gW bW:Nat}{kn:List Bool}{nx:List Stp}{tw q:List Int}{vq:Value}(x:Nat)(v:Int)(i:Nat)(b:Bool)(h:PSt W0 wr n gN bN gT bT gK bK gW bW kn nx tw q vq)(hxn:x<n)(hq:q.length<100000)(hx:kn[x]?=some false):
  Calls Tryz.prog 54 #[.int .i64 x, .int .i64 v, .agg #[.int .i64 i, .bool b], .pointer (some ⟨bK,0,none⟩), .pointer (some ⟨bN,0,none⟩), .pointer (some ⟨bT,0,none⟩), .pointer (some ⟨bW,0,none⟩)] wr (ziR W0 n gN bN gT bT gK bK gW bW (kn.set x true) (nx.set x (i,b)) (tw.set x v) (q++[(x:Int)])):=by
 obtain⟨i0,hi,hz0,hz1,hz2⟩:=info_parts zas;have h1:=h.alloc (.cells #[.int .i64 i, .bool b] 93);have kB:=Blk.new wr _ rfl 93 #[.int .i64 i, .bool b];have k0:=h1.kK.cell 0;have kn0:=h1.kN.cell 0;have kt0:=h1.kT.cell 0;have kw0:=h1.kW.cell 0;have c0:=h1.oK.cellAt x (by omega)
 rw[show(zcW kn)[x]?=some (.bool false) by simp[zcW,hx]]at c0
 simp at k0 kn0 kt0 kw0
 clear hx
 have:=h.s0;have:=h.s1;have:=h.s2;have:=h.s3;have:=h.s4;have:=h.s5;have:=h.s6;have:=h.s7
 have hbl:=h.kW.lt;have hlN:=zdO nx;obtain⟨c1,hc1⟩:∃c1,(cellsS nx)[x*2]?=some c1:=⟨_,zk (by have:=h.oN.1;omega)⟩
 obtain⟨c2,hc2⟩:∃c2,(cellsS nx)[x*2+1]?=some c2:=⟨_,zk (by have:=h.oN.1;omega)⟩
 obtain⟨c3,hc3⟩:∃c3,(cellsI tw)[x]?=some c3:=⟨_,zk (by have:=h.oT.1;omega)⟩
 have d1:=h1.oN.cellAt (x*2) (by omega)
 have d2:=h1.oN.cellAt (x*2+1) (by omega)
 have d3:=h1.oT.cellAt x (by omega)
 rw[hc1]at d1;rw[hc2]at d2;rw[hc3]at d3;have f0:=h1.oK.frozenAt x;have f1:=h1.oN.frozenAt (x*2);have f2:=h1.oN.frozenAt (x*2+1);have f3:=h1.oT.frozenAt x;have S2:=(h1.setK x true).setN x (i,b);have S3:=(S2.setT x v).drawn 1;clear S2 hc1 hc2 hc3 hlN
 go_enter Tryz.func54, Tryz.ntmps54
 go_wp2
 clear h1 h;obtain⟨gB,hgB⟩:∃gB,wr.heap.size=gB:=⟨_,rfl⟩;obtain⟨W,hW⟩:∃W,wr.alloc (.cells #[.int .i64 i, .bool b] 93)=W:=⟨_,rfl⟩;rw[hgB]at kB hbl⊢;rw[hW]at c0 k0 kn0 kt0 kw0 d1 d2 d3 f0 f1 f2 f3 S3 kB⊢;clear hW hgB;have p0:W.cell? ⟨gB,0,none⟩=some (.int .i64 i):=kB.cell 0;have p1:W.cell? ⟨gB,1,none⟩=some (.bool b):=kB.cell 1;clear kB;have n1:gK≠bN:=by omega
 have n2:gK≠bT:=by omega
 have n3:gK≠gB:=by omega
 have n4:gK≠gN:=by omega
 have n5:gK≠gT:=by omega
 have n6:gN≠bT:=by omega
 have n7:gN≠gT:=by omega
 have m1:bN≠gK:=by omega
 have m2:bT≠gK:=by omega
 have m3:gB≠gK:=by omega
 have m4:gN≠gK:=by omega
 have m5:gT≠gK:=by omega
 have m6:bT≠gN:=by omega
 have m7:gT≠gN:=by omega
 go_region
 generalize hW3:World.drewN ((((W.setCell ⟨gK,x,none⟩ (.bool true)).setCell ⟨gN,x*2,none⟩ (.int .i64 i)).setCell ⟨gN,x*2+1,none⟩ (.bool b)).setCell ⟨gT,x,none⟩ (.int .i64 v)) 1=W3 at S3;change Exit.then _ _ _ _ (World.drewN ((((W.setCell ⟨gK,x,none⟩ (.bool true)).setCell ⟨gN,x*2,none⟩ (.int .i64 i)).setCell ⟨gN,x*2+1,none⟩ (.bool b)).setCell ⟨gT,x,none⟩ (.int .i64 v)) 1);rw[hW3];clear hW3;clear c0 k0 kn0 kt0 d1 d2 d3 f0 f1 f2 f3 p0 p1;have kw3:=S3.kW.cell 0;simp at kw3;clear kw0
 go_wp2_with (at_builtin;refine zg9 _ rfl _ _ 36 rfl gW 3 i0 (.int .i64 0) Tryz.underlying36 hi hz0 hz1 hz2 rfl vq q.length (cellsI q) rfl (S3.alloc _).oq ⟨W3.heap.size,0,none⟩ 1 (.int .i64 x) rfl (by simp) rfl (by omega) (by have:=S3.kW.lt;simp;omega) ?_)
 intro vq' W4 o4 g4 _;have kw4:=((S3.alloc (.cells #[.int .i64 x] 3)).kW.grown g4 (fun he=>(S3.far bW (.inr rfl)) he.symm))
 have S5:=(S3.alloc (.cells #[.int .i64 x] 3)).setQ (q':=q++[(x:Int)]) g4 (by simpa [cellsI]using o4)
 obtain⟨gq,oq,cq,rfl,_⟩:=o4.slice;have kw5:=kw4.cell 0;have kf5:=kw4.frozen 0;simp at kw5;clear kw3 kw4 S3 o4 g4
 go_wp2
 go_end0
 exact⟨_,rfl,S5⟩
theorem znA(n:Int)(ars:List ArcV)(A:Option Addr)(l c:Nat)(s t:Int)(w:World)(hl:ars.length=l)(hx:∀a∈ars,a.fit)(hr:Rd w w.heap.size A (cellsA ars))(hm:l≤maxLen)(hc:checkF n ars≠0):
  Calls Tryz.prog 29 #[.agg #[.int .i64 n, .slice A l c], .int .i64 s, .int .i64 t] w fun e w'=>e= .returned (.tuple #[.slice none 0 0, .int .i64 (checkF n ars)])∧Below w.heap.size w w':=by
 have b0:=bA_ w (.cells #[.int .i64 n, .slice A l c] 30);have kb:=bN_ b0;obtain⟨q,hq⟩:∃q,checkF n ars=q:=⟨_,rfl⟩;have hne:(q !=0)=true:=by rw[hq]at hc;simpa using hc
 have Hq:=Lh hq;have Hc:=Lh hc;clear hq hc;rw[Hq.out]
 go_enter Tryz.func29, Tryz.ntmps29
 go_wp2_with fail;refine(zl2 n ars A l c _ hl hx ((hr.below b0 lR_).more (by simp)) hm Hc.out).mono ?_;rintro e w1 ⟨rfl,hb1⟩
 rw[Hq.out];have b1:=b0.trans (hb1.mono (by simp))
 have b2:=b1.alloc b1.size (.cells #[.slice none 0 0, .slice none 0 0] 79);clear kb
 go_wp2
 go_ret2;exact⟨rfl,b2⟩
theorem zl5(n:Nat)(ars:List ArcV)(A:Option Addr)(l c:Nat)(s t:Int)(w:World)(hl:ars.length=l)(hx:∀a∈ars,a.fit)(hr:Rd w w.heap.size A (cellsA ars))(hm:l≤maxLen)(hc:checkF n ars=0)(hs:fits s)(ht:fits t)(hst:s<0∨t<0∨n≤s∨n≤t):
  Calls Tryz.prog 29 #[.agg #[.int .i64 n, .slice A l c], .int .i64 s, .int .i64 t] w fun e w'=>e= .returned (.tuple #[.slice none 0 0, .int .i64 100])∧Below w.heap.size w w':=by
 have b0:=bA_ w (.cells #[.int .i64 n, .slice A l c] 30);have kb:=bN_ b0;have Hc:=Lh hc;clear hc;unfold fits at hs ht;by_cases hmn:min s t<0
 all_goals
  go_enter Tryz.func29, Tryz.ntmps29
  go_wp2_with fail;refine(zgx n ars A l c _ hl hx ((hr.below b0 lR_).more (by simp)) hm Hc.out).mono ?_;rintro e w1 ⟨At,ct,gh,rfl,hgh,ot,oh,hb1⟩
  have b1:=b0.trans (hb1.mono (by simp))
  have b2:=b1.alloc b1.size (.cells #[.slice At (treeF n ars).length ct, .slice (some ⟨gh,0,none⟩) n n] 79);have k2:=(kb.below hb1 (by simp)).alloc (.cells #[.slice At (treeF n ars).length ct, .slice (some ⟨gh,0,none⟩) n n] 79)
  have n0:=k2.cell 0;simp at n0;clear kb k2 ot oh
  go_wp2
  all_goals
   go_ret2;exact⟨rfl,b2⟩
theorem zkM(n:Nat)(ars:List ArcV)(A:Option Addr)(l c:Nat)(s t:Nat)(w:World)(hl:ars.length=l)(hx:∀a∈ars,a.fit)(hr:Rd w w.heap.size A (cellsA ars))(hm:l≤maxLen)(hc:checkF n ars=0)(hs:s<n)(ht:t<n)(hst:root (upF n ars) s≠root (upF n ars) t):
  Calls Tryz.prog 29 #[.agg #[.int .i64 n, .slice A l c], .int .i64 s, .int .i64 t] w fun e w'=>e= .returned (.tuple #[.slice none 0 0, .int .i64 110])∧Below w.heap.size w w':=by
 have b0:=bA_ w (.cells #[.int .i64 n, .slice A l c] 30);have kb:=bN_ b0;obtain⟨_,hn32,_,_⟩:=zew hc;have Hc:=Lh hc;clear hc;have c1:=zdd (ars:=ars) hs;have c2:=zdd (ars:=ars) ht;obtain⟨x,hx1⟩:∃x,root (upF n ars) s=x:=⟨_,rfl⟩;obtain⟨y,hy1⟩:∃y,root (upF n ars) t=y:=⟨_,rfl⟩;rw[hx1]at c1 hst;rw[hy1]at c2 hst;have hne:((x:Int) !=(y:Int))=true:=by simp;omega
 have Hc1:=Lh c1;have Hc2:=Lh c2;clear hx1 hy1 c1 c2 hst
 go_enter Tryz.func29, Tryz.ntmps29
 go_wp2_with fail;refine(zgx n ars A l c _ hl hx ((hr.below b0 lR_).more (by simp)) hm Hc.out).mono ?_;rintro e w1 ⟨At,ct,gh,rfl,hgh,ot,oh,hb1⟩
 have b1:=b0.trans (hb1.mono (by simp))
 have b2:=b1.alloc b1.size (.cells #[.slice At (treeF n ars).length ct, .slice (some ⟨gh,0,none⟩) n n] 79);have k2:=(kb.below hb1 (by simp)).alloc (.cells #[.slice At (treeF n ars).length ct, .slice (some ⟨gh,0,none⟩) n n] 79)
 have kF:=Blk.new w1 _ rfl 79 #[.slice At (treeF n ars).length ct, .slice (some ⟨gh,0,none⟩) n n];have oh2:=oh.alloc (.cells #[.slice At (treeF n ars).length ct, .slice (some ⟨gh,0,none⟩) n n] 79);obtain⟨W,hW⟩:∃W,w1.alloc (.cells #[.slice At (treeF n ars).length ct, .slice (some ⟨gh,0,none⟩) n n] 79)=W:=⟨_,rfl⟩;obtain⟨bF,hbF⟩:∃bF,w1.heap.size=bF:=⟨_,rfl⟩;rw[hW]at b2 k2 kF oh2;rw[hbF]at kF;have n0:=k2.cell 0;have f1:=kF.cell 1;have d1:=oh2.cellAt s (by omega)
 have d2:=oh2.cellAt t (by omega)
 rw[show(cellsI (zcq n ars))[s]?=some (.int .i64 x) by simp[cellsI,Hc1.out]]at d1
 rw[show(cellsI (zcq n ars))[t]?=some (.int .i64 y) by simp[cellsI,Hc2.out]]at d2
 simp at n0 f1
 clear kb k2 kF ot oh oh2 b0 b1 hgh hb1
 go_upto_region 4 with fail
 try rw[hW]
 clear hW
 go_cut [30] (fun s wx=>wx=W∧s= .bool false)
 case first=>
  go_wp2_with fail
  all_goals go_meet
  all_goals (refine⟨rfl,?_⟩;first|rfl|(congr 1;simp;done)|(congr 1;simp;omega))
 case rest=>
  obtain⟨rfl,rfl⟩:=hcut
  go_wp2
  go_quiet (fail)
  go_wp2
  go_ret2;exact⟨rfl,Below.drewN b2 _⟩
end Go.Proofs.YtpmlljbebdidgaaGreatDoor
