/- Lemmas and walks for the claim: Ec, Ed. -/
import Derived.Test.YtpmlljbebdidgaaGreatDoorA23
set_option maxHeartbeats 4000000
namespace Go.Proofs.YtpmlljbebdidgaaGreatDoor
open Go.RowKit
theorem get_set{α:Type}{l:List α}{v:Nat}{t t':α}(hv:l[v]?=some t)(u:Nat):(l.set v t')[u]?=if u=v then some t' else l[u]?:=by
 rw[List.getElem?_set];by_cases h:v=u
 ·subst h;rw[if_pos rfl,if_pos (get_lt hv),if_pos rfl]
 ·rw[if_neg h,if_neg fun hc=>h hc.symm]
theorem map_set_same{α β:Type}{l:List α}{v:Nat}{t t':α}(f:α→β)(hv:l[v]?=some t)(hf:f t'=f t):(l.set v t').map f=l.map f:=by
 refine List.ext_getElem? fun u=>?_
 rw[List.getElem?_map,List.getElem?_map,get_set hv];by_cases h:u=v
 ·subst h;rw[if_pos rfl,hv];simp[hf]
 ·rw[if_neg h]
theorem mem_set{α:Type}{l:List α}{v:Nat}{t' x:α}(h:x∈l.set v t'):x=t'∨x∈l:=(List.mem_or_eq_of_mem_set h).symm
def TkV.stat(t:TkV):Nat×List Int×List Int×List Lnk×List Lnk:=(t.bt,t.rin,t.rout,t.src,t.dst)
structure RigV.same(V V':RigV):Prop where
 rg:V'.rg=V.rg
 nE:V'.nE=V.nE
 tk:V'.tasks.map TkV.stat=V.tasks.map TkV.stat
 qs:V'.qs.map (fun q=>(q.g,q.cap))=V.qs.map (fun q=>(q.g,q.cap))
theorem RigV.same.refl(V:RigV):V.same V:=⟨rfl,rfl,rfl,rfl⟩
theorem RigV.same.trans{V V' V'':RigV}(h:V.same V')(h':V'.same V''):V.same V'':=⟨h'.rg.trans h.rg,h'.nE.trans h.nE,h'.tk.trans h.tk,h'.qs.trans h.qs⟩
theorem RigV.same.full{V V':RigV}(h:V.same V')(hf:V.full):V'.full:=fun v t ht=>by
 have h1:=congrArg (fun l=>l[v]?) h.tk
 simp only[List.getElem?_map,ht,Option.map_some]at h1;cases ht2:V.tasks[v]? with
 |none=>rw[ht2]at h1;cases h1
 |some s=>
  rw[ht2]at h1;simp only[Option.map_some,Option.some.injEq,TkV.stat,Prod.mk.injEq]at h1;obtain⟨-,-,-,h1,h2⟩:=h1;rw[h1,h2];exact hf v s ht2
def RigV.bnd(V:RigV)(N:Nat):Prop:=∀t∈V.tasks,0≤t.n∧t.n≤N∧t.wh≤N
def RigV.room(V:RigV):Prop:=(∀q∈V.qs,q.ys.length<17592186044416)∧∀p∈V.tps,p.ys.length<17592186044416
inductive StepE(V:RigV)(v:Nat)(t:TkV)(V':RigV):Bool→Prop
 |take (e g:Nat) (hg:t.gives=false) (hp:t.port<t.rin.length) (hs:t.src[t.port]?=some (.que e g)) (hq:0<V.ql e) (hφ:∀u,V'.φ u=V.φ u) (hh:∀u i,V'.hd u i=if u=v∧i=t.port then V.hd u i+1 else V.hd u i)
  (hr:∀u i,V'.rm u i=V.rm u i) (hl:∀e',V'.ql e'=if e'=e then V.ql e'-1 else V.ql e') (hy:∀e',V'.yl e'≤V.yl e') (hz:∀o,V'.zl o=V.zl o):StepE V v t V' true
 |reckon (hg:t.gives=false) (hp:t.port=t.rin.length) (hφ:∀u,V'.φ u=if u=v then V.φ u+1 else V.φ u) (hh:∀u i,V'.hd u i=if u=v then 0 else V.hd u i)
  (hr:∀u i,V'.rm u i=if u=v then(t.rout[i]?.getD 0).toNat else V.rm u i) (hl:∀e',V'.ql e'=V.ql e') (hy:∀e',V'.yl e'=V.yl e') (hz:∀o,V'.zl o=V.zl o):StepE V v t V' true
 |fail (hg:t.gives=false) (hp:t.port=t.rin.length) (hφ:∀u,V'.φ u=V.φ u) (hh:∀u i,V'.hd u i=V.hd u i) (hr:∀u i,V'.rm u i=V.rm u i) (hl:∀e',V'.ql e'=V.ql e') (hy:∀e',V'.yl e'=V.yl e') (hz:∀o,V'.zl o=V.zl o):StepE V v t V' false
 |giveQ (e g:Nat) (hg:t.gives=true) (hp:t.port<t.rout.length) (hs:t.dst[t.port]?=some (.que e g)) (hφ:∀u,V'.φ u=V.φ u) (hh:∀u i,V'.hd u i=V.hd u i)
  (hr:∀u i,V'.rm u i=if u=v∧i=t.port then V.rm u i-1 else V.rm u i) (hl:∀e',V'.ql e'=if e'=e then V.ql e'+1 else V.ql e') (hy:∀e',V'.yl e'=if e'=e then V.yl e'+1 else V.yl e') (hz:∀o,V'.zl o=V.zl o):StepE V v t V' true
 |giveT (o g:Nat) (hg:t.gives=true) (hp:t.port<t.rout.length) (hs:t.dst[t.port]?=some (.tape o g)) (hφ:∀u,V'.φ u=V.φ u) (hh:∀u i,V'.hd u i=V.hd u i)
  (hr:∀u i,V'.rm u i=if u=v∧i=t.port then V.rm u i-1 else V.rm u i) (hl:∀e',V'.ql e'=V.ql e') (hy:∀e',V'.yl e'=V.yl e') (hz:∀o',V'.zl o'=if o'=o then V.zl o'+1 else V.zl o'):StepE V v t V' true
structure Moved(ρ ρ':Nat→Tg)(w w':World):Prop where
 tag:∀b,b<w.heap.size→ρ' b=ρ b
 only:Only (fun b=>ρ b≠ .fix) w w'
theorem Moved.of_below{ρ:Nat→Tg}{w w':World}(h:Below w.heap.size w w'):Moved ρ ρ w w':=⟨fun _ _=>rfl,Only.of_below h⟩
theorem Moved.trans{ρ ρ' ρ'':Nat→Tg}{w w' w'':World}(h:Moved ρ ρ' w w')(h':Moved ρ' ρ'' w' w''):Moved ρ ρ'' w w'':=by
 have hz:=h.only.size;refine⟨fun b hb=>(h'.tag b (by omega)).trans (h.tag b hb),h'.only.os.trans h.only.os,h'.only.tape.trans h.only.tape,h'.only.output.trans h.only.output,Nat.le_trans hz h'.only.size,fun k hk hX=>?_⟩
 exact(h'.only.block k (by omega) (by rw[h.tag k hk];exact hX)).trans (h.only.block k hk hX)
theorem Moved.below{ρ ρ':Nat→Tg}{w w':World}{B:Nat}(h:Moved ρ ρ' w w')(hB:∀b,b<B→ρ b= .fix)(hs:B≤w.heap.size):Below B w w':=
 ⟨h.only.os,h.only.tape,h.only.output,h.only.size,fun k hk=>h.only.block k (by omega) (by rw[hB k hk];simp)⟩
def StepOut(V:RigV)(ρ:Nat→Tg)(N v:Nat)(t:TkV)(w:World)(e:Ending)(w':World):Prop:=
 ∃ok V' ρ',e= .returned (.bool ok)∧Moved ρ ρ' w w'∧RigM w' ρ' V'∧V.same V'∧V'.failed=V.failed∧V'.bnd (N+1)∧StepE V v t V' ok
theorem φ_set{V:RigV}{v:Nat}{t t':TkV}{qs':List QV}{tps':List TpV}(hv:V.tasks[v]?=some t)(u:Nat):RigV.φ {V with tasks:=V.tasks.set v t',qs:=qs',tps:=tps'} u=if u=v then t'.wh+(if t'.gives=true then 1 else 0)else V.φ u:=by
 unfold RigV.φ;show(match(V.tasks.set v t')[u]? with|some t=>_|none=>_)=_
 rw[get_set hv];by_cases h:u=v
 ·rw[if_pos h,if_pos h]
 ·rw[if_neg h,if_neg h]
  rfl
theorem hd_set{V:RigV}{v:Nat}{t t':TkV}{qs':List QV}{tps':List TpV}(hv:V.tasks[v]?=some t)(u i:Nat):RigV.hd {V with tasks:=V.tasks.set v t',qs:=qs',tps:=tps'} u i=if u=v then t'.hd i else V.hd u i:=by
 unfold RigV.hd;show(match(V.tasks.set v t')[u]? with|some t=>_|none=>_)=_
 rw[get_set hv];by_cases h:u=v
 ·rw[if_pos h,if_pos h]
 ·rw[if_neg h,if_neg h]
  rfl
theorem rm_set{V:RigV}{v:Nat}{t t':TkV}{qs':List QV}{tps':List TpV}(hv:V.tasks[v]?=some t)(u i:Nat):RigV.rm {V with tasks:=V.tasks.set v t',qs:=qs',tps:=tps'} u i=if u=v then t'.rm i else V.rm u i:=by
 unfold RigV.rm;show(match(V.tasks.set v t')[u]? with|some t=>_|none=>_)=_
 rw[get_set hv];by_cases h:u=v
 ·rw[if_pos h,if_pos h]
 ·rw[if_neg h,if_neg h]
  rfl
theorem ql_set{V:RigV}{e:Nat}{q q':QV}{ts:List TkV}{tps':List TpV}(hq:V.qs[e]?=some q)(e':Nat):RigV.ql {V with tasks:=ts,qs:=V.qs.set e q',tps:=tps'} e'=if e'=e then q'.len else V.ql e':=by
 unfold RigV.ql;show(match(V.qs.set e q')[e']? with|some t=>_|none=>_)=_
 rw[get_set hq];by_cases h:e'=e
 ·rw[if_pos h,if_pos h]
 ·rw[if_neg h,if_neg h]
  rfl
theorem yl_set{V:RigV}{e:Nat}{q q':QV}{ts:List TkV}{tps':List TpV}(hq:V.qs[e]?=some q)(e':Nat):RigV.yl {V with tasks:=ts,qs:=V.qs.set e q',tps:=tps'} e'=if e'=e then q'.ys.length else V.yl e':=by
 unfold RigV.yl;show(match(V.qs.set e q')[e']? with|some t=>_|none=>_)=_
 rw[get_set hq];by_cases h:e'=e
 ·rw[if_pos h,if_pos h]
 ·rw[if_neg h,if_neg h]
  rfl
theorem zl_set{V:RigV}{e:Nat}{q q':TpV}{ts:List TkV}{qs':List QV}(hq:V.tps[e]?=some q)(e':Nat):RigV.zl {V with tasks:=ts,qs:=qs',tps:=V.tps.set e q'} e'=if e'=e then q'.ys.length else V.zl e':=by
 unfold RigV.zl;show(match(V.tps.set e q')[e']? with|some t=>_|none=>_)=_
 rw[get_set hq];by_cases h:e'=e
 ·rw[if_pos h,if_pos h]
 ·rw[if_neg h,if_neg h]
  rfl
theorem yl_at{V:RigV}{e:Nat}{q:QV}(hq:V.qs[e]?=some q):V.yl e=q.ys.length:=by unfold RigV.yl;rw[hq]
theorem zl_at{V:RigV}{e:Nat}{q:TpV}(hq:V.tps[e]?=some q):V.zl e=q.ys.length:=by unfold RigV.zl;rw[hq]
theorem φ_at{V:RigV}{v:Nat}{t:TkV}(hv:V.tasks[v]?=some t):V.φ v=t.wh+(if t.gives=true then 1 else 0):=by unfold RigV.φ;rw[hv]
theorem hd_at{V:RigV}{v i:Nat}{t:TkV}(hv:V.tasks[v]?=some t):V.hd v i=t.hd i:=by unfold RigV.hd;rw[hv]
theorem rm_at{V:RigV}{v i:Nat}{t:TkV}(hv:V.tasks[v]?=some t):V.rm v i=t.rm i:=by unfold RigV.rm;rw[hv]
theorem ql_at{V:RigV}{e:Nat}{q:QV}(hq:V.qs[e]?=some q):V.ql e=q.len:=by unfold RigV.ql;rw[hq]
theorem QuT.not_task{w:World}{ρ:Nat→Tg}{e:Nat}{q:QV}(h:QuT w ρ e q){b v r:Nat}(hb:ρ b= .task v r):¬q.own b:=fun hq=>by
 have:=(h.r b hq).symm.trans hb
 cases this
theorem QuT.not_fix{w:World}{ρ:Nat→Tg}{e:Nat}{q:QV}(h:QuT w ρ e q){b:Nat}(hb:ρ b= .fix):¬q.own b:=fun hq=>by
 have:=(h.r b hq).symm.trans hb
 cases this
theorem tag_ne{ρ:Nat→Tg}{a b v r s:Nat}(ha:ρ a= .task v r)(hb:ρ b= .task v s)(h:r≠s):a≠b:=fun he=>by
 subst he
 have:=ha.symm.trans hb
 injection this with _ h'
 exact h h'
theorem take_rig(V:RigV)(ρ:Nat→Tg)(N v e g:Nat)(t:TkV)(q:QV)(w0:World)(h:RigM w0 ρ V)(hb:V.bnd N)(hv:V.tasks[v]?=some t)(hg:t.gives=false)(hp:t.port<t.rin.length)(hs:t.src[t.port]?=some (.que e g))(hq:V.qs[e]?=some q)(hqg:q.g=g)(hl:0<q.len):
  Calls Tryz.prog 66 #[.pointer (some ⟨t.bt,0,none⟩)] w0 (StepOut V ρ N v t w0):=by
 subst hqg;have M:=h.tk v t hv;have Q:=h.qu e q hq;obtain⟨r,hr⟩:=get_of_lt (l:=t.hand) (i:=t.port) (by rw[M.h.lh];exact hp)
 obtain⟨m,hm⟩:=get_of_lt hp;obtain⟨hfi,hfo⟩:=KdV.rates_few M.k.kd.rt;have hm1:=hfi.2 m (get_mem hm);obtain⟨rt,hrt⟩:∃k:Nat,m=(k:Int):=⟨m.toNat,by omega⟩
 subst hrt;have hlt:=(M.sh.h1 hg t.port r _ hr hm).2.1 rfl;obtain⟨ho,hrf,hro⟩:=M.h.own t.port r hr;have kb:=M.bt;unfold TkV.cells at kb;rw[hg]at kb;have hgv:t.gval=t.gv:=by unfold TkV.gval;rw[hg];rfl
 let R:Int→World→Prop:=fun x w1=>∃lv ys k,QuM w1 {q with lv:=lv,ys:=ys,k:=k}∧ys.drop k=q.ys.drop (q.k+1)∧ys.length≤q.ys.length∧Only q.own w0 w1∧∀b,lv.ownBlock=some b→q.lv.ownBlock=some b∨w0.heap.size≤b
 have nbt:¬q.own t.bt:=Q.not_task M.rbt
 have nbh:¬q.own t.bh:=Q.not_task M.h.rbh
 have nbf:¬q.own t.bf:=Q.not_task M.s.rbf
 have nbr:∀b,r.val.ownBlock=some b→¬q.own b:=fun b hb=>Q.not_task (hro b (by rw[RowV.own_val]at hb;exact hb))
 obtain⟨pt,hpt⟩:∃p,p=if r.xs.length+1=rt then t.port+1 else t.port:=⟨_,rfl⟩;refine(tkTake_any0 pt t.bt t.bf t.rin.length t.port _ _ _ _ _ t.I t.cI t.bh (t.src.map Lnk.val) (t.hand.map RowV.val).toArray _ _ _ r.A r.xs.length r.c rt r.xs t.rin R w0 kb M.s.bf M.h.bh hp hfi.1 (map_get Lnk.val hs) (by rw[List.getElem?_toArray];exact map_get RowV.val hr) ho (by omega) hpt hm
  (tag_ne M.rbt M.h.rbh (by omega)) (tag_ne M.s.rbf M.h.rbh (by omega)) (chn_take q.g) chn_take_call (fun w' hb'=>(chTake_any q w' (Q.m.below hb') hl).mono ?_) ?_ ?_).mono ?_
 ·rintro e' w'' ⟨x,rfl,hx,lv,ys,k,h1,h2,h3,h4,h5⟩;exact⟨x,rfl,Q.m.fit x (get_mem hx),lv,ys,k,h1,h2,h3,(Only.of_below hb').trans h4,fun b hb1=>(h5 b hb1).imp id fun h=>Nat.le_trans hb'.size h⟩
 ·rintro x w' ⟨lv,ys,k,h1,h2,h3,h4,h5⟩;exact⟨kb.only h4 nbt,M.s.bf.only h4 nbf,M.h.bh.only h4 nbh,own_only ho h4 nbr,h4.size⟩
 ·rintro x w' ⟨w1,⟨lv,ys,k,h1,h2,h3,h4,h5⟩,h6⟩;refine Rd.onlyT M.s.ins ((h4.mono fun b _ hb1=>Or.inl hb1).trans (h6.mono fun b _ hb1=>Or.inr hb1)) (X:=fun b=>q.own b∨(b=t.bt∨b=t.bh∨(Value.slice r.A r.xs.length r.c).ownBlock=some b)) fun b hb1 hx=>?_
  have hfx:=(M.s.rI b hb1).2;rcases hx with hx|rfl|rfl|hx
  ·exact Q.not_fix hfx hx
  ·exact absurd (hfx.symm.trans M.rbt) (by simp)
  ·exact absurd (hfx.symm.trans M.h.rbh) (by simp)
  ·rw[ownBlock_slice]at hx;exact absurd (hfx.symm.trans (hro b hx)) (by simp)
 ·rintro e' w' ⟨rfl,x,A',c',hxf,⟨w1,⟨lv,ys,k,h1,h2,h3,h4,h5⟩,h6,h7⟩,kh',ho',kb'⟩;have hz1:=h4.size;have hz2:=h6.size;have hO:Only (fun b=>q.own b∨(b=t.bt∨b=t.bh∨(Value.slice r.A r.xs.length r.c).ownBlock=some b)) w0 w':=(h4.mono fun b _ hb1=>Or.inl hb1).trans (h6.mono fun b _ hb1=>Or.inr hb1)
  let ρ':Nat→Tg:=fun b=>if b<w0.heap.size then ρ b else if b<w1.heap.size then .que e else .task v (7+t.port)
  have hρ:∀b,b<w0.heap.size→ρ' b=ρ b:=fun b hb1=>if_pos hb1
  let C:Tg→Prop:=fun g=>g= .que e∨g= .task v 0∨g= .task v 2∨g= .task v (7+t.port)
  have hX:∀b,b<w0.heap.size→(q.own b∨(b=t.bt∨b=t.bh∨(Value.slice r.A r.xs.length r.c).ownBlock=some b))→C (ρ b):=fun b _ hx=>by
   rcases hx with hx|rfl|rfl|hx
   ·exact .inl (Q.r b hx)
   ·exact .inr (.inl M.rbt)
   ·exact .inr (.inr (.inl M.h.rbh))
   ·rw[ownBlock_slice]at hx;exact .inr (.inr (.inr (hro b hx)))
  have hXn:∀(T:Tg),¬C T→∀b,b<w0.heap.size→(q.own b∨(b=t.bt∨b=t.bh∨(Value.slice r.A r.xs.length r.c).ownBlock=some b))→ρ b≠T:=fun T hT b hb1 hx he=>hT (he▸hX b hb1 hx)
  obtain⟨r',hr'⟩:∃r':RowV,r'=⟨A',c',r.xs++[x]⟩:=⟨_,rfl⟩;have hv':r'.val= .slice A' (r.xs.length+1) c':=by rw[hr'];unfold RowV.val;simp
  have hrx:r'.xs=r.xs++[x]:=by rw[hr']
  have hrA:r'.A=A':=by rw[hr']
  have hrl:r'.xs.length=r.xs.length+1:=by rw[hrx,List.length_append];rfl
  obtain⟨t',ht'⟩:∃t':TkV,t'={t with hand:=t.hand.set t.port r',port:=pt}:=⟨_,rfl⟩;have hqT:QuT w' ρ' e {q with lv:=lv,ys:=ys,k:=k}:=by
   refine⟨h1.only h6 fun b hb1 hx=>?_,fun b hb1=>?_⟩
   ·have hlo:b<w0.heap.size→ρ b= .que e:=fun hlt=>by
     rcases hb1 with rfl|hb1
     ·exact Q.r _ (.inl rfl)
     ·rcases h5 b hb1 with h'|h'
      ·exact Q.r b (.inr h')
      ·omega
    rcases hx with rfl|rfl|hx
    ·exact absurd ((hlo M.bt.lt).symm.trans M.rbt) (by simp)
    ·exact absurd ((hlo M.h.bh.lt).symm.trans M.h.rbh) (by simp)
    ·have:=own_lt' ho hx
     rw[ownBlock_slice]at hx;exact absurd ((hlo this).symm.trans (hro b hx)) (by simp)
   ·have hb2:=h1.own_lt hb1;show(if b<w0.heap.size then ρ b else if b<w1.heap.size then Tg.que e else .task v (7+t.port))=_
    by_cases hlt:b<w0.heap.size
    ·rw[if_pos hlt];rcases hb1 with rfl|hb1
     ·exact Q.r _ (.inl rfl)
     ·rcases h5 b hb1 with h'|h'
      ·exact Q.r b (.inr h')
      ·omega
    ·rw[if_neg hlt,if_pos hb2]
  have htM:TkM w' ρ' v t':=by
   rw[ht'];refine⟨?_,(hρ _ M.bt.lt).trans M.rbt,?_,?_,?_,fun hc=>?_,?_⟩
   ·have:TkV.cells {t with hand:=t.hand.set t.port r',port:=pt}=tkC (.pointer (some ⟨t.bb,0,none⟩)) t.bf t.rin.length (.slice (some ⟨t.bo,0,none⟩) t.rout.length t.rout.length) t.I t.cI (.slice t.O t.rout.length t.cO) t.bh t.gval pt (.int .i64 t.wh):=by
     unfold TkV.cells TkV.gval;simp only[hg]
    rw[this];exact kb'
   ·have hs:=M.s.only hO hρ fun b hb1 hx=>⟨hXn .fix (by simp[C]) b hb1 hx,hXn (.task v 5) (by simp[C];omega) b hb1 hx,hXn (.task v 6) (by simp[C];omega) b hb1 hx⟩
    exact{hs with}
   ·have hs:=M.k.only hO hρ fun b hb1 hx=>⟨hXn .fix (by simp[C]) b hb1 hx,hXn (.task v 1) (by simp[C];omega) b hb1 hx⟩
    exact{hs with}
   ·refine⟨?_,(hρ _ M.h.bh.lt).trans M.h.rbh,by rw[List.length_set];exact M.h.lh,fun i s hs=>?_⟩
    ·have:((t.hand.set t.port r').map RowV.val).toArray=(t.hand.map RowV.val).toArray.setIfInBounds t.port (.slice A' (r.xs.length+1) c'):=by
      rw[List.setIfInBounds_toArray,List.map_set,hv']
     rw[this];exact kh'
    ·rw[get_set hr]at hs;by_cases hi:i=t.port
     ·rw[if_pos hi]at hs;obtain rfl:=Option.some.inj hs;subst hi;refine⟨by rw[hv',hrl,hrx];exact ho',by rw[hrx];exact fit_snoc hrf hxf,fun b hb1=>?_⟩
      rw[hrA]at hb1;have hb2:(Value.slice A' (r.xs.length+1) c').ownBlock=some b:=by rw[ownBlock_slice];exact hb1
      show(if b<w0.heap.size then ρ b else if b<w1.heap.size then Tg.que e else .task v (7+t.port))=_
      rcases h7 b hb2 with h'|h'
      ·rw[if_pos (own_lt' ho h')];rw[ownBlock_slice]at h';exact hro b h'
      ·rw[if_neg (by omega),if_neg (by omega)]
     ·rw[if_neg hi]at hs;obtain⟨g1,g2,g3⟩:=M.h.own i s hs;refine⟨own_onlyT g1 hO fun b hb1 hb2 hx=>?_,g2,fun b hb1=>?_⟩
      ·rw[RowV.own_val]at hb2;exact hXn (.task v (7+i)) (by simp[C];omega) b hb1 hx (g3 b hb2)
      ·exact(hρ b (own_lt' g1 (by rw[RowV.own_val];exact hb1))).trans (g3 b hb1)
   ·exact absurd (hc:t.gives=true) (by rw[hg];simp)
   ·refine⟨fun _=>?_,fun hc=>absurd (hc:t.gives=true) (by rw[hg];simp),fun _ i s m' hs hm'=>?_,fun hc=>absurd (hc:t.gives=true) (by rw[hg];simp)⟩
    ·show pt≤t.rin.length
     rw[hpt];split<;>omega
    ·have hs:(t.hand.set t.port r')[i]?=some s:=hs
     have hm':t.rin[i]?=some m':=hm'
     show(i<pt→_)∧(i=pt→_)∧(pt<i→_)
     rw[get_set hr]at hs;by_cases hi:i=t.port
     ·rw[if_pos hi]at hs;obtain rfl:=Option.some.inj hs;subst hi;rw[hm]at hm';obtain rfl:=Option.some.inj hm';rw[hrl,hpt];split<;>refine⟨fun _=>?_,fun _=>?_,fun _=>?_⟩<;>omega
     ·rw[if_neg hi]at hs;obtain⟨a1,a2,a3⟩:=M.sh.h1 hg i s m' hs hm';have hm2:=hfi.2 m' (get_mem hm');rw[hpt];split
      ·refine⟨fun _=>?_,fun _=>?_,fun _=>?_⟩
       ·exact a1 (by omega)
       ·have:=a3 (by omega);omega
       ·exact a3 (by omega)
      ·exact⟨a1,a2,a3⟩
  refine⟨true,{V with tasks:=V.tasks.set v t',qs:=V.qs.set e {q with lv:=lv,ys:=ys,k:=k},tps:=V.tps},ρ',rfl,⟨hρ,hO.mono fun b hb1 hx=>hXn .fix (by simp[C]) b hb1 hx⟩,?_,?_,rfl,?_,?_⟩
  ·refine h.step (C:=C) hO hρ hX (by simp[C]) (by simp[C]) (by simp[C];intro u r h;rcases h with h|h|h<;>exact h.1) hv htM (by rw[ht']) (by rw[ht']) (by rw[ht']) (fun e1=>?_) fun o=> .inl ⟨rfl,by simp[C]⟩
   rw[get_set hq];by_cases he:e1=e
   ·subst he;exact .inr ⟨q,_,hq,if_pos rfl,rfl,hqT⟩
   ·exact .inl ⟨if_neg he,by simp[C,he]⟩
  ·exact⟨rfl,rfl,map_set_same _ hv (by rw[ht'];rfl),map_set_same _ hq rfl⟩
  ·intro s hs;rcases mem_set hs with rfl|hs
   ·have:=hb t (get_mem hv)
    rw[ht'];show 0≤t.n∧t.n≤((N+1:Nat):Int)∧t.wh≤N+1
    omega
   ·have:=hb s hs
    omega
  ·have e1:t'.gives=false:=by rw[ht'];exact hg
   have e2:t'.wh=t.wh:=by rw[ht']
   have hqle:=Q.m.le;have hlen:QV.len {q with lv:=lv,ys:=ys,k:=k}=q.len-1:=by
    have:=congrArg List.length h2
    rw[List.length_drop,List.length_drop]at this;unfold QV.len;show ys.length-k=_
    omega
   refine .take e q.g hg hp hs (by rw[ql_at hq];exact hl) (fun u=>?_) (fun u i=>?_) (fun u i=>?_) (fun e'=>?_) (fun e'=>?_) (fun o=>rfl)
   ·rw[φ_set hv,e1,e2];by_cases hu:u=v
    ·subst hu;rw[if_pos rfl,φ_at hv,hg]
    ·rw[if_neg hu]
   ·rw[hd_set hv];by_cases hu:u=v
    ·subst hu;rw[if_pos rfl,hd_at hv];unfold TkV.hd;rw[e1,hg,ht'];show(match(t.hand.set t.port r')[i]? with|some r=>r.xs.length|none=>0)=_
     rw[get_set hr];by_cases hi:i=t.port
     ·subst hi;rw[if_pos rfl,if_pos ⟨rfl,rfl⟩,hr];exact hrl
     ·rw[if_neg hi,if_neg fun hc=>hi hc.2]
      rfl
    ·rw[if_neg hu,if_neg fun hc=>hu hc.1]
   ·rw[rm_set hv];by_cases hu:u=v
    ·subst hu;rw[if_pos rfl,rm_at hv];unfold TkV.rm;rw[e1,hg]
     rfl
    ·rw[if_neg hu]
   ·rw[ql_set hq];by_cases he:e'=e
    ·subst he;rw[if_pos rfl,if_pos rfl,hlen,ql_at hq]
    ·rw[if_neg he,if_neg he]
   ·rw[yl_set hq];by_cases he:e'=e
    ·subst he;rw[if_pos rfl,yl_at hq];exact h3
    ·rw[if_neg he];exact Nat.le_refl _
theorem own_nil(w:World)(T:TypeId):w.ownsRow 0 T 1 (.slice none 0 0) 0 []:=⟨rfl, .inl ⟨rfl,rfl⟩⟩
def nilR:RowV:=⟨none,0,[]⟩
theorem nilR_map(n:Nat):(List.replicate n nilR).map RowV.val=List.replicate n (Value.slice none 0 0):=by rw[List.map_replicate];rfl
theorem nilR_get{n i:Nat}{r:RowV}(h:(List.replicate n nilR)[i]?=some r):r=nilR:=by
 rw[List.getElem?_replicate]at h;split at h
 ·exact(Option.some.inj h).symm
 ·cases h
theorem TkH.empty{w:World}{ρ:Nat→Tg}{v g:Nat}{t:TkV}(hb:Blk w g 36 (List.replicate t.rin.length (Value.slice none 0 0)).toArray)(hr:ρ g= .task v 2)(e1:t.bh=g)(e2:t.hand=List.replicate t.rin.length nilR):TkH w ρ v t:=by
 refine⟨by rw[e1,e2,nilR_map];exact hb,by rw[e1];exact hr,by rw[e2,List.length_replicate],fun i r h=>?_⟩
 rw[e2]at h;obtain rfl:=nilR_get h;exact⟨own_nil _ _,fun x hx=>(by cases hx),fun q hq=>(by cases hq)⟩
theorem gave_task{w0 w1 w':World}{ρ ρ':Nat→Tg}{v:Nat}{t:TkV}{own:Nat→Prop}{S:Tg}{r:RowV}{cur:Array Value}{b o o2 m d:Nat}(M:TkM w0 ρ v t)(hg:t.gives=true)(hr:t.gift[t.port]?=some r)(hcur:Blk w0 t.gg 36 cur)(hcg:∀(i:Nat) (r:RowV),t.gift[i]?=some r→cur[i]?=some r.val)
  (hrA:r.A=some ⟨b,o,none⟩) (hrl:r.xs.length=m+1) (hrc:r.c=d+1) (ho:Only own w0 w1) (hS:∀b,own b→ρ b=S) (s0:S≠ .fix) (s1:∀u k,S≠ .task u k) (h2:Only (fun q=>q=t.bt∨q=t.gg) w1 w') (ho2:(d=0∧o2=o)∨(d≠0∧o2=o+1))
  (hρ:∀b,b<w0.heap.size→ρ' b=ρ b) (hρ2:∀b,w1.heap.size≤b→ρ' b= .task v 2)
  (G:GaveOut w1 t.bt (.pointer (some ⟨t.bb,0,none⟩)) (.slice (some ⟨t.bf,0,none⟩) t.rin.length t.rin.length) t.bo t.rout.length t.I t.rin.length t.cI t.O t.cO (.slice (some ⟨t.bh,0,none⟩) t.rin.length t.rin.length) t.gg t.cg t.port t.wh cur b o2 m d w'):
  ∃t':TkV,TkM w' ρ' v t'∧t'.stat=t.stat∧t'.n=t.n∧t'.wh≤t.wh+1∧t'.wh+(if t'.gives=true then 1 else 0)=t.wh+1∧(∀i,t'.hd i=0)∧∀i,t'.rm i=if i=t.port then t.rm i-1 else t.rm i:=by
 have TG:=M.g hg;have hp:=M.sh.p1 hg;obtain⟨hfi,hfo⟩:=KdV.rates_few M.k.kd.rt;obtain⟨mo,hmo⟩:=get_of_lt hp;have hgp:=(M.sh.g1 hg t.port r mo hr hmo).2.1 rfl;have hO:Only (fun b=>own b∨(b=t.bt∨b=t.gg)) w0 w':=(ho.mono fun b _ hb1=>Or.inl hb1).trans (h2.mono fun b _ hb1=>Or.inr hb1)
 let C:Tg→Prop:=fun g=>g=S∨g= .task v 0∨g= .task v 3
 have hX:∀b,b<w0.heap.size→(own b∨(b=t.bt∨b=t.gg))→C (ρ b):=fun b _ hx=>by
  rcases hx with hx|rfl|rfl
  ·exact .inl (hS b hx)
  ·exact .inr (.inl M.rbt)
  ·exact .inr (.inr TG.rgg)
 have hXn:∀(T:Tg),¬C T→∀b,b<w0.heap.size→(own b∨(b=t.bt∨b=t.gg))→ρ b≠T:=fun T hT b hb1 hx he=>hT (he▸hX b hb1 hx)
 have cfix:¬C .fix:=fun h=>by
  rcases h with h|h|h
  ·exact s0 h.symm
  ·cases h
  ·cases h
 have ctask:∀k,k≠0→k≠3→¬C (.task v k):=fun k k0 k3 h=>by
  rcases h with h|h|h
  ·exact s1 _ _ h.symm
  ·injection h with _ h;exact k0 h
  ·injection h with _ h;exact k3 h
 have TS':=M.s.only hO hρ fun b hb1 hx=>⟨hXn .fix cfix b hb1 hx,hXn (.task v 5) (ctask 5 (by omega) (by omega)) b hb1 hx,hXn (.task v 6) (ctask 6 (by omega) (by omega)) b hb1 hx⟩
 have TK':=M.k.only hO hρ fun b hb1 hx=>⟨hXn .fix cfix b hb1 hx,hXn (.task v 1) (ctask 1 (by omega) (by omega)) b hb1 hx⟩
 have TH':=M.h.only hO hρ fun b hb1 hx=>⟨hXn (.task v 2) (ctask 2 (by omega) (by omega)) b hb1 hx,fun i=>hXn (.task v (7+i)) (ctask (7+i) (by omega) (by omega)) b hb1 hx⟩
 have hgb:=hcur.lt;obtain⟨rok,rfx⟩:=TG.ok t.port r hr;obtain⟨r',hr'⟩:∃r':RowV,r'=⟨some ⟨b,o2,none⟩,d,r.xs.tail⟩:=⟨_,rfl⟩;have hrl':r'.xs.length=m:=by rw[hr'];show r.xs.tail.length=m;rw[List.length_tail,hrl];rfl
 have hv':r'.val= .slice (some ⟨b,o2,none⟩) m d:=by
  unfold RowV.val;rw[hrl',hr']
 have hbfix:b<w0.heap.size∧ρ b= .fix:=rfx b (by rw[hrA];rfl)
 have rok':r'.ok w' w'.heap.size∧∀q,blkOf r'.A=some q→q<w'.heap.size∧ρ' q= .fix:=by
  refine⟨⟨?_,fun y hy=>?_,?_,?_⟩,fun q hq=>?_⟩
  ·have hrd:=Rd.onlyT rok.rd hO fun q hq hx=>hXn .fix cfix q (rfx q hq).1 hx (rfx q hq).2
   rw[hr'];show Rd w' w'.heap.size (some ⟨b,o2,none⟩) (cellsI r.xs.tail)
   rcases hrd with hrd|⟨b',off,hA,hbl,hc⟩
   ·have:=congrArg List.length hrd
    rw[cellsI_length,hrl]at this;cases this
   ·rw[hrA]at hA;injection hA with hA;injection hA with e1 e2 _;subst e1 e2;rcases ho2 with⟨hd0,rfl⟩|⟨hd0,rfl⟩
    ·have:=rok.cap
     have h0:r.xs.tail=[]:=List.length_eq_zero_iff.1 (by rw[List.length_tail];omega)
     rw[h0];exact .inl rfl
    ·refine .inr ⟨b,o+1,rfl,hbl,fun j u hu=>?_⟩
     have:=hc (j+1) u (by
      rw[←hu];simp[cellsI])
     rw[show o+1+j=o+(j+1) by omega]
     exact this
  ·rw[hr']at hy;exact rok.fit y (List.mem_of_mem_tail hy)
  ·have:=rok.few;omega
  ·rw[hrl',hr']
   have:=rok.cap
   show m≤d
   omega
  ·rw[hr']at hq;have hq:some b=some q:=hq;injection hq with hq;subst hq;exact⟨Nat.lt_of_lt_of_le hbfix.1 hO.size,(hρ b hbfix.1).trans hbfix.2⟩
 have hcs:t.port<cur.size:=(Array.getElem?_eq_some_iff.1 (hcg _ r hr)).1
 have TG':Blk w' t.gg 36 (cur.setIfInBounds t.port (.slice (some ⟨b,o2,none⟩) m d))→∀p',TkG w' ρ' v {t with gift:=t.gift.set t.port r',port:=p'}:=fun hbk p'=>by
  refine⟨(hρ _ hgb).trans TG.rgg,by show(t.gift.set t.port r').length=_;rw[List.length_set];exact TG.lg,⟨_,hbk,fun i s hs=>?_⟩,fun i s hs=>?_⟩
  ·have hs:(t.gift.set t.port r')[i]?=some s:=hs
   rw[get_set hr]at hs;by_cases hi:i=t.port
   ·rw[if_pos hi]at hs;obtain rfl:=Option.some.inj hs;subst hi;rw[Array.getElem?_setIfInBounds_self_of_lt hcs,hv']
   ·rw[if_neg hi]at hs;rw[Array.getElem?_setIfInBounds_ne fun hc=>hi hc.symm]
    exact hcg i s hs
  ·have hs:(t.gift.set t.port r')[i]?=some s:=hs
   rw[get_set hr]at hs;by_cases hi:i=t.port
   ·rw[if_pos hi]at hs;obtain rfl:=Option.some.inj hs;exact rok'
   ·rw[if_neg hi]at hs;obtain⟨g1,g2⟩:=TG.ok i s hs;exact⟨{g1 with rd:=Rd.onlyT g1.rd hO fun q hq hx=>hXn .fix cfix q (g2 q hq).1 hx (g2 q hq).2},fun q hq=>⟨Nat.lt_of_lt_of_le (g2 q hq).1 hO.size,(hρ q (g2 q hq).1).trans (g2 q hq).2⟩⟩
 have hrm:∀(p':Nat) (i:Nat),TkV.rm {t with gift:=t.gift.set t.port r',port:=p'} i=if i=t.port then t.rm i-1 else t.rm i:=fun p' i=>by
  unfold TkV.rm;show(if t.gives=true then(match(t.gift.set t.port r')[i]? with|some r=>r.xs.length|none=>0)else 0)=_
  rw[get_set hr];simp only[hg,if_true];by_cases hi:i=t.port
  ·subst hi;rw[if_pos rfl,if_pos rfl,hr];show r'.xs.length=r.xs.length-1
   omega
  ·rw[if_neg hi,if_neg hi]
   rfl
 have hgvv:∀p',TkV.cells {t with gift:=t.gift.set t.port r',port:=p'}=givC (.pointer (some ⟨t.bb,0,none⟩)) (.slice (some ⟨t.bf,0,none⟩) t.rin.length t.rin.length) t.bo t.rout.length t.I t.rin.length t.cI t.O t.cO (.slice (some ⟨t.bh,0,none⟩) t.rin.length t.rin.length) t.gg t.cg p' t.wh:=fun p'=>by
  unfold TkV.cells TkV.gval;simp only[hg,if_true]
 have hhd:∀(p':Nat) (i:Nat),TkV.hd {t with gift:=t.gift.set t.port r',port:=p'} i=0:=fun p' i=>by
  unfold TkV.hd;simp only[hg,if_true]
 rcases G with⟨hm0,kb',kg'⟩|⟨hm0,hpl,kb',kg'⟩|⟨hm0,hpl,g,kb',kg',hgz⟩
 ·refine⟨{t with gift:=t.gift.set t.port r',port:=t.port},⟨by rw[hgvv];exact kb',(hρ _ M.bt.lt).trans M.rbt,{TS' with},{TK' with},{TH' with},fun _=>TG' kg' _,?_⟩,rfl,rfl,Nat.le_succ _,by simp[hg],hhd _,hrm _⟩
  refine⟨fun hc=>absurd (hg.symm.trans hc) (by simp),fun _=>hp,fun hc=>absurd (hg.symm.trans hc) (by simp),fun _ i s m' hs hm'=>?_⟩
  have hs:(t.gift.set t.port r')[i]?=some s:=hs
  have hm':t.rout[i]?=some m':=hm'
  show(i<t.port→_)∧(i=t.port→_)∧(t.port<i→_)
  rw[get_set hr]at hs;by_cases hi:i=t.port
  ·rw[if_pos hi]at hs;obtain rfl:=Option.some.inj hs;subst hi;rw[hmo]at hm';obtain rfl:=Option.some.inj hm';refine⟨fun _=>?_,fun _=>?_,fun _=>?_⟩<;>omega
  ·rw[if_neg hi]at hs;exact M.sh.g1 hg i s m' hs hm'
 ·refine⟨{t with gift:=t.gift.set t.port r',port:=t.port+1},⟨by rw[hgvv];exact kb',(hρ _ M.bt.lt).trans M.rbt,{TS' with},{TK' with},{TH' with},fun _=>TG' kg' _,?_⟩,rfl,rfl,Nat.le_succ _,by simp[hg],hhd _,hrm _⟩
  refine⟨fun hc=>absurd (hg.symm.trans hc) (by simp),fun _=>hpl,fun hc=>absurd (hg.symm.trans hc) (by simp),fun _ i s m' hs hm'=>?_⟩
  have hs:(t.gift.set t.port r')[i]?=some s:=hs
  have hm':t.rout[i]?=some m':=hm'
  show(i<t.port+1→_)∧(i=t.port+1→_)∧(t.port+1<i→_)
  rw[get_set hr]at hs;by_cases hi:i=t.port
  ·rw[if_pos hi]at hs;obtain rfl:=Option.some.inj hs;subst hi;refine⟨fun _=>?_,fun _=>?_,fun _=>?_⟩<;>omega
  ·rw[if_neg hi]at hs;obtain⟨a1,a2,a3⟩:=M.sh.g1 hg i s m' hs hm'
   have:=hfo.2 m' (get_mem hm')
   refine⟨fun _=>a1 (by omega),fun _=>?_,fun _=>a3 (by omega)⟩
   have:=a3 (by omega)
   omega
 ·refine⟨{t with bh:=g,hand:=List.replicate t.rin.length nilR,gv:= .slice none 0 0,gives:=false,port:=0,wh:=t.wh+1},⟨?_,(hρ _ M.bt.lt).trans M.rbt,{TS' with},{TK' with},TkH.empty kg' (hρ2 g hgz) rfl rfl,fun hc=>(by cases hc),?_⟩,rfl,rfl,Nat.le_refl _,rfl,fun i=>?_,fun i=>?_⟩
  ·have:TkV.cells {t with bh:=g,hand:=List.replicate t.rin.length nilR,gv:= .slice none 0 0,gives:=false,port:=0,wh:=t.wh+1}=#[.pointer (some ⟨t.bb,0,none⟩), .slice (some ⟨t.bf,0,none⟩) t.rin.length t.rin.length, .slice (some ⟨t.bo,0,none⟩) t.rout.length t.rout.length, .slice t.I t.rin.length t.cI, .slice t.O t.rout.length t.cO, .slice (some ⟨g,0,none⟩) t.rin.length t.rin.length, .slice none 0 0, .int .i64 0, .bool false, .int .i64 (t.wh+1)]:=by
    unfold TkV.cells TkV.gval;simp
   rw[this];exact kb'
  ·refine⟨fun _=>Nat.zero_le _,fun hc=>(by cases hc),fun _ i s m' hs hm'=>?_,fun hc=>(by cases hc)⟩
   obtain rfl:=nilR_get hs
   have:=hfi.2 m' (get_mem hm')
   show(i<0→((0:Nat):Int)=m')∧(i=0→((0:Nat):Int)<m')∧(0<i→0=0)
   exact⟨fun h=>by omega,fun _=>by omega,fun _=>rfl⟩
  ·show(if false=true then 0 else match(List.replicate t.rin.length nilR)[i]? with|some r=>r.xs.length|none=>0)=0
   rw[if_neg (by simp)]
   cases hs:(List.replicate t.rin.length nilR)[i]? with
   |none=>rfl
   |some s=>obtain rfl:=nilR_get hs;rfl
  ·show(if false=true then _ else 0)=_
   rw[if_neg (by simp)]
   unfold TkV.rm;rw[if_pos hg];by_cases hi:i=t.port
   ·subst hi;rw[if_pos rfl,hr];show 0=r.xs.length-1
    omega
   ·rw[if_neg hi];cases hs:t.gift[i]? with
    |none=>rfl
    |some s=>
     have hil:=get_lt hs;rw[TG.lg]at hil;obtain⟨m',hm'⟩:=get_of_lt hil;exact((M.sh.g1 hg i s m' hs hm').1 (by omega)).symm
end Go.Proofs.YtpmlljbebdidgaaGreatDoor
