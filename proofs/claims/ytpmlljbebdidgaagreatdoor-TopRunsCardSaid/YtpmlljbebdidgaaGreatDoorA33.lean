/- Lemmas and walks for the claim: Ep, Ov, Es, Et. -/
import Derived.Test.YtpmlljbebdidgaaGreatDoorA0
import Derived.Test.YtpmlljbebdidgaaGreatDoorA28
import Derived.Test.YtpmlljbebdidgaaGreatDoorA32
import Derived.Test.YtpmlljbebdidgaaGreatDoorA29
set_option linter.unusedSimpArgs false
set_option maxRecDepth 100000
set_option maxHeartbeats 4000000
namespace Go.Proofs.YtpmlljbebdidgaaGreatDoor
open Go.RowKit
theorem RigM.stepQ{X:Nat→Prop}{w w':World}{ρ ρ':Nat→Tg}{V:RigV}{e:Nat}{q q':QV}(h:RigM w ρ V)(ho:Only X w w')(hρ:∀b,b<w.heap.size→ρ' b=ρ b)(hX:∀b,b<w.heap.size→X b→ρ b= .que e)(hq:V.qs[e]?=some q)(hq':QuT w' ρ' e q')(hg:q'.g=q.g):RigM w' ρ' {V with qs:=V.qs.set e q'}:=by
 have hn:∀(T:Tg),T≠ .que e→∀b,b<w.heap.size→X b→ρ b≠T:=fun T hT b hb hx he=>hT (he.symm.trans (hX b hb hx))
 have hqg:(V.qs.set e q').map (·.g)=V.qs.map (·.g):=zbm _ hq hg
 refine⟨h.rg.onlyT ho fun hl hx=>hn (.rig 0) (by simp) _ hl hx h.rrg,(hρ _ h.rg.lt).trans h.rrg,h.tl.only ho hρ (hn _ (by simp)),?_,?_,h.pl.only ho hρ (hn _ (by simp)),fun v t ht=>(h.tk v t ht).only ho hρ fun b hb hx=>⟨hn _ (by simp) b hb hx,fun r=>hn _ (by simp) b hb hx⟩,
  fun e' s hs=>?_,fun o p hp=>(h.tp o p hp).only ho hρ (hn _ (by simp)),fun v t ht e' g hm=>?_,h.lt⟩
 ·show zbT w' ρ' 2 _ _ (((V.qs.set e q').take V.nE).map (·.g))
  rw[zbO,hqg,←zbO];exact h.el.only ho hρ (hn _ (by simp))
 ·show zbT w' ρ' 3 _ _ (((V.qs.set e q').drop V.nE).map (·.g))
  rw[zcm,hqg,←zcm];exact h.il.only ho hρ (hn _ (by simp))
 ·have hs:(V.qs.set e q')[e']?=some s:=hs
  rw[zaU hq]at hs;by_cases he:e'=e
  ·subst he;rw[if_pos rfl]at hs;exact zq hs▸hq'
  ·rw[if_neg he]at hs;exact(h.qu e' s hs).only ho hρ (hn _ (by simp;exact he))
 ·obtain⟨s,hs,hsg⟩:=h.lq v t ht e' g hm;by_cases he:e'=e
  ·subst he;obtain rfl:=zq (hq.symm.trans hs);exact⟨q',by show(V.qs.set e' q')[e']?=_;rw[zaU hq,if_pos rfl],hg.trans hsg⟩
  ·exact⟨s,by show(V.qs.set e q')[e']?=_;rw[zaU hq,if_neg he];exact hs,hsg⟩
theorem zkI{gs:List Nat}{i g:Nat}(h:gs[i]?=some g):(gs.map fun g=>Value.pointer (some ⟨g,0,none⟩))[i]?=some (.pointer (some ⟨g,0,none⟩)):=by rw[zp,h];rfl
theorem zjO(V:RigV)(ρ:Nat→Tg)(w:World)(h:RigM w ρ V)(i:Nat)(q:QV)(hq:V.qs[V.nE+i]?=some q)(hcap:q.cap=9223372036854775807)(xs:List Int)(A:Option Addr)(l c:Nat)(hl:xs.length=l)(hx:AllFit xs)(hA:Rd w w.heap.size A (cellsI xs))(hfx:∀b,xs≠[]→blkOf A=some b→ρ b= .fix)(hro:q.ys.length+l≤17592186044416)(hi:i<1048576):
  Calls Tryz.prog 42 #[.pointer (some ⟨V.rg,0,none⟩), .int .i64 (i:Nat), .slice A l c] w fun e w'=>e= .returned (.int .i64 0)∧∃lv ρ',Moved ρ ρ' w w'∧RigM w' ρ' {V with qs:=V.qs.set (V.nE+i) {q with lv:=lv,ys:=q.ys++xs}}:=by
 obtain⟨A0,c0,hil,-⟩:=h.il.len;obtain⟨nI,hnI⟩:∃n,((V.qs.drop V.nE).map (·.g)).length=n:=⟨_,rfl⟩;rw[hnI]at hil;have hin:i<nI:=by
  have:=zao hq
  rw[←hnI,zA,zbd];omega
 have kb:=h.rg;unfold RigV.cells at kb;rw[hil]at kb;have k2:=kb.cellL 2 rfl;have hgi:((V.qs.drop V.nE).map (·.g))[i]?=some q.g:=by rw[zp,List.getElem?_drop,hq];rfl
 obtain⟨rg,hrg⟩:∃n,V.rg=n:=⟨_,rfl⟩;rw[hrg]at k2⊢;obtain⟨e,he⟩:∃n,V.nE+i=n:=⟨_,rfl⟩;rw[he]at hq⊢;have d1:decide ((i:Int)<0)=false:=decide_eq_false (by omega)
 have d2:decide (nI≤i)=false:=decide_eq_false (by omega)
 have h0:(0:Int)≤(i:Int):=by omega
 have h1:(i:Int)<(nI:Int):=by omega
 have HM:=Lh h;have HQ:=Lh hq;have HA:=Lh hA;have HX:=Lh hfx;have HAF:=Lh hx;have Hl:=Lh hl;have Hrg:=Lh hrg;have Hil:=Lh hil;have HnI:=Lh hnI;have Hgi:=Lh hgi;have Hcap:=Lh hcap;have Hro:=Lh hro;clear h hq hA hfx hx hl hrg hil hnI hgi kb hcap hro he
 go_enter Tryz.func42, Tryz.ntmps42
 go_wp2_with fail;clear k2 d1 d2
 go_loopw [24] (fun j wr=>∃(k:Nat) (lv:Value) (ρ':Nat→Tg),k≤l∧j= .int .i64 k∧Moved ρ ρ' w wr∧RigM wr ρ' {V with qs:=V.qs.set e {q with lv:=lv,ys:=q.ys++xs.take k}}) (fun j _=>l-(intOf j).toNat)
 case atStart=>
  refine⟨0,q.lv,ρ,zJ _,rfl,Moved.of_below (zm _ _),?_⟩;have e1:({q with lv:=q.lv,ys:=q.ys++xs.take 0}:QV)=q:=by rw[List.take_zero,zby]
  have e2:V.qs.set e q=V.qs:=by
   refine zaf fun u=>?_
   rw[zaU HQ.out];by_cases hu:u=e
   ·subst hu;rw[if_pos rfl];exact HQ.out.symm
   ·rw[if_neg hu]
  rw[e1,e2];exact HM.out
 case round=>
  clear HM;obtain⟨k,lv,ρ',hk,rfl,hmv,hm⟩:=hrel;by_cases hlt:k<l
  ·obtain⟨x,hxk⟩:=zG (l:=xs) (i:=k) (by rw[Hl.out];exact hlt)
   have hxf:=HAF.out x (zac hxk);have hrd:Rd wr wr.heap.size A (cellsI xs):=Rd.onlyT HA.out hmv.only fun b hb hne=>hne (HX.out b (fun hn=>by rw[hn]at hxk;simp at hxk) hb)
   obtain⟨b0,o0,rfl,hc⟩:∃b o,A=some ⟨b,o,none⟩∧wr.cell? ⟨b,o+k,none⟩=some (.int .i64 x):=by
    rcases hrd with hr|⟨b,off,hA,-,hcell⟩
    ·have h1:=congrArg List.length hr;rw[cellsI_length,zaD,Hl.out]at h1;omega
    ·exact⟨b,off,hA,hcell k _ (by simp[cellsI,hxk])⟩
   have g1:(0:Int)≤(k:Int):=by omega
   have g2:(k:Int)<(l:Int):=by omega
   obtain⟨q',hq'⟩:∃q':QV,q'={q with lv:=lv,ys:=q.ys++xs.take k}:=⟨_,rfl⟩;rw[←hq']at hm;have hqe:(V.qs.set e q')[e]?=some q':=by rw[zaU HQ.out,if_pos rfl]
   have Q:=hm.qu e q' hqe;have hlen:q'.ys.length=q.ys.length+k:=by
    rw[hq'];show(q.ys++xs.take k).length=_
    rw[zx,zaH,Hl.out];omega
   have hfree:0<q'.free:=by
    unfold QV.free QV.len;have e1:q'.cap=9223372036854775807:=by rw[hq'];exact Hcap.out
    rw[e1,hlen]
    have:=Hro.out
    omega
   have hqg:q'.g=q.g:=by rw[hq']
   have hro:=Hro.out;have HP:=Lh (zgY q' x wr Q.m hxf hfree (by omega))
   rw[hqg]at HP;have kr:=hm.rg;have il:=hm.il.m;have eil:((V.qs.set e q').drop V.nE).map (·.g)=(V.qs.drop V.nE).map (·.g):=by rw[zcm,zcm,zbm _ HQ.out hqg]
   change wr.ownsRow 0 _ 1 V.il (((V.qs.set e q').drop V.nE).map (·.g)).length ((((V.qs.set e q').drop V.nE).map (·.g)).map fun g=>Value.pointer (some ⟨g,0,none⟩))at il
   rw[eil,HnI.out,Hil.out]at il;change Blk wr V.rg _ #[V.tl,V.el,V.il,V.pl, .int .i64 V.failed]at kr;rw[Hrg.out,Hil.out]at kr;obtain⟨gi,rfl⟩:=zbi il (by omega)
   have k2:=kr.cellL 2 rfl;have kc:wr.cell? ⟨gi,i,none⟩=some (.pointer (some ⟨q.g,0,none⟩)):=by rw[il.cellAt i (by omega)];exact zkI Hgi.out
   have HMv:=Lh hmv;have Hm:=Lh hm;have HQe:=Lh hqe;have HQQ:=Lh Q;have Hq':=Lh hq';have Hxk:=Lh hxk;obtain⟨qg,hqgn⟩:∃n,q.g=n:=⟨_,rfl⟩;rw[hqgn]at kc HP;have Hqgn:=Lh (hqg.trans hqgn);clear hmv hm hqe Q kr il eil hrd hxk hfree hlen hqgn
   go_wp2_with fail;refine HP.out.mono ?_
   rintro e3 w3 ⟨rfl,lv2,hq3,ho3,hn3⟩;rw[←Hqgn.out]at hq3;obtain⟨ρ2,hρ2⟩:∃f:Nat→Tg,∀b,f b=if b<wr.heap.size then ρ' b else .que e:=⟨_,fun _=>rfl⟩
   have hr2:∀b,b<wr.heap.size→ρ2 b=ρ' b:=fun b hb=>(hρ2 b).trans (if_pos hb)
   have hX2:∀b,b<wr.heap.size→q'.own b→ρ' b= .que e:=fun b _ hb=>HQQ.out.r b hb
   have hQT:QuT w3 ρ2 e {q' with lv:=lv2,ys:=q'.ys++[x]}:=⟨hq3,fun b hb=>by
    by_cases hlt:b<wr.heap.size
    ·rw[hr2 b hlt];rcases hb with hb|hb
     ·exact HQQ.out.r b (.inl hb)
     ·rcases hn3 b hb with h'|h'
      ·exact HQQ.out.r b (.inr h')
      ·omega
    ·rw[hρ2,if_neg hlt]⟩
   have hm3:=Hm.out.stepQ ho3 hr2 hX2 HQe.out hQT rfl;have hmv3:Moved ρ ρ2 w w3:=HMv.out.trans ⟨hr2,ho3.mono fun b hb hx he=>by
    have:=(hX2 b hb hx).symm.trans he
    cases this⟩
   have e5:(V.qs.set e q').set e {q' with lv:=lv2,ys:=q'.ys++[x]}=V.qs.set e {q with lv:=lv2,ys:=q.ys++xs.take (k+1)}:=by
    rw[List.set_set,zan,Hxk.out,Hq'.out];show V.qs.set e _=V.qs.set e _
    congr 2
    simp
   have HM3:Hid (RigM w3 ρ2 {V with qs:=V.qs.set e {q with lv:=lv2,ys:=q.ys++xs.take (k+1)}}):=by
    rw[←e5];exact hm3
   have HMv3:=Lh hmv3;clear hq3 ho3 hn3 hρ2 hr2 hX2 hQT hm3 hmv3 e5 k2 kc hc
   go_wp2_with fail
   go_roundw
   case rel=>exact⟨k+1,lv2,ρ2,by omega,by go_num,HMv3.out,HM3.out⟩
   case measure=>simp[intOf];omega
  ·obtain rfl:l=k:=by omega
   have HMv:=Lh hmv;have Hm:=Lh hm;clear hmv hm
   go_wp2_with fail
   go_ret;refine⟨rfl,lv,ρ',HMv.out,?_⟩
   have:=Hm.out
   rw[zL (by rw[Hl.out];exact zF _),Hrg.out]at this
   exact this
structure FdM(w:World)(B:Nat)(H:Option Addr)(rows:List RowV):Prop where
 row:Rd w B H (rows.map RowV.val)
 ok:∀r∈rows,Rd w B r.A (cellsI r.xs)∧AllFit r.xs∧r.xs.length*8≤140737488351232
theorem FdM.below{w w':World}{B B':Nat}{H:Option Addr}{rows:List RowV}(h:FdM w B H rows)(hb:Below B' w w')(hB:B≤B'):FdM w' B H rows:=⟨h.row.below hb hB,fun r hr=>⟨(h.ok r hr).1.below hb hB,(h.ok r hr).2⟩⟩
theorem FdM.more{w:World}{B B':Nat}{H:Option Addr}{rows:List RowV}(h:FdM w B H rows)(hB:B≤B'):FdM w B' H rows:=⟨h.row.more hB,fun r hr=>⟨(h.ok r hr).1.more hB,(h.ok r hr).2⟩⟩
structure zbe(W1 w:World)(m:Nat)(g:zB)(caps:List Int)(fi:Nat→List Int)(V:RigV)(ρ:Nat→Tg):Prop where
 bel:Below m W1 w
 mw:m≤w.heap.size
 rig:RigM w ρ V
 fx:∀b,b<m→ρ b= .fix
 ef:V.failed= -1
 tl:V.tasks.length=g.acts.length
 tf:∀(v:Nat) (t:TkV),V.tasks[v]?=some t→∃x,g.acts[v]?=some x∧zlX x t
 ts:∀(v:Nat) (t:TkV),V.tasks[v]?=some t→∀(p:Nat) (l:Lnk),t.src[p]?=some l→l.lk=inI g g.ins.length v p
 td:∀(v:Nat) (t:TkV),V.tasks[v]?=some t→∀(p:Nat) (l:Lnk),t.dst[p]?=some l→l.lk=zcQ g g.outs.length v p
 ne:V.nE=g.edges.length
 ql:V.qs.length=g.edges.length+g.ins.length
 qf:∀(e:Nat) (q:QV),V.qs[e]?=some q→q.k=0∧(e<g.edges.length→∃x,g.edges[e]?=some x∧q.ys=x.st∧caps[e]?=some q.cap)∧(g.edges.length≤e→q.ys=fi (e-g.edges.length)∧q.cap=9223372036854775807)
 pl:V.tps.length=g.outs.length
 pf:∀(o:Nat) (p:TpV),V.tps[o]?=some p→p.ys=[]
theorem NewJ.fed{W1 w:World}{m:Nat}{g:zB}{caps:List Int}{rg:Nat}{V:RigV}{ρ:Nat→Tg}(h:NewJ W1 w m g caps rg g.acts.length g.edges.length g.ins.length g.outs.length (inI g g.ins.length) (zcQ g g.outs.length) V ρ):zbe W1 w m g caps (fun _=>[]) V ρ:=
 ⟨h.bel,h.mw,h.rig,h.fx,h.ef,h.tl,h.tf,h.ts,h.td,h.ne,h.ql,h.qf,h.pl,h.pf⟩
theorem zbe.below{W1 w w':World}{m:Nat}{g:zB}{caps:List Int}{fi:Nat→List Int}{V:RigV}{ρ:Nat→Tg}(h:zbe W1 w m g caps fi V ρ)(hb:Below w.heap.size w w'):zbe W1 w' m g caps fi V ρ:=
 {h with
  bel:=h.bel.trans (hb.mono h.mw)
  mw:=zy h.mw hb.size
  rig:=h.rig.below hb}
theorem zbe.feed{W1 w w':World}{m:Nat}{g:zB}{caps:List Int}{fi:Nat→List Int}{V:RigV}{ρ ρ':Nat→Tg}{i:Nat}{q:QV}{lv:Value}{xs:List Int}(h:zbe W1 w m g caps fi V ρ)(hq:V.qs[V.nE+i]?=some q)(hm:Moved ρ ρ' w w')
  (hr:RigM w' ρ' {V with qs:=V.qs.set (V.nE+i) {q with lv:=lv,ys:=q.ys++xs}}):zbe W1 w' m g caps (fun j=>if j=i then fi j++xs else fi j) {V with qs:=V.qs.set (V.nE+i) {q with lv:=lv,ys:=q.ys++xs}} ρ':=
 {h with
  bel:=h.bel.trans (hm.below h.fx h.mw)
  mw:=zy h.mw hm.only.size
  rig:=hr
  fx:=fun b hb=>(hm.tag b (zP hb h.mw)).trans (h.fx b hb)
  ql:=by show(V.qs.set _ _).length=_;rw[zaR];exact h.ql
  qf:=fun e s hs=>by
   have hs:(V.qs.set (V.nE+i) {q with lv:=lv,ys:=q.ys++xs})[e]?=some s:=hs
   have hne:=h.ne;rw[zaU hq]at hs;by_cases he:e=V.nE+i
   ·rw[if_pos he]at hs;obtain rfl:=zq hs;obtain⟨h1,-,h3⟩:=h.qf _ q hq;obtain⟨h3,h4⟩:=h3 (by omega)
    have e1:e-g.edges.length=i:=by omega
    have e2:V.nE+i-g.edges.length=i:=by omega
    rw[e2]at h3;refine⟨h1,fun hc=>absurd hc (by omega),fun _=>⟨?_,h4⟩⟩
    show q.ys++xs=if e-g.edges.length=i then fi (e-g.edges.length)++xs else fi (e-g.edges.length)
    rw[e1,if_pos rfl,h3]
   ·rw[if_neg he]at hs;obtain⟨h1,h2,h3⟩:=h.qf e s hs;refine⟨h1,h2,fun hc=>?_⟩
    show s.ys=(if e-g.edges.length=i then fi (e-g.edges.length)++xs else fi (e-g.edges.length))∧_
    rw[if_neg (by omega)]
    exact h3 hc}
theorem zbe.alike{W1 w:World}{m:Nat}{g:zB}{caps:List Int}{fi fi':Nat→List Int}{V:RigV}{ρ:Nat→Tg}(h:zbe W1 w m g caps fi V ρ)(he:∀j,j<g.ins.length→fi' j=fi j):zbe W1 w m g caps fi' V ρ:=
 {h with
  qf:=fun e q hq=>by
   obtain⟨h1,h2,h3⟩:=h.qf e q hq;have hl:=zao hq
   have:=h.ql
   exact⟨h1,h2,fun hc=>by rw[he _ (by omega)];exact h3 hc⟩}
def fedOf(rows:List RowV)(j:Nat):List Int:=((rows[j]?).map (·.xs)).getD []
def zgb(rows:List RowV)(k j:Nat):List Int:=if j<k then fedOf rows j else []
theorem zkk(g:zB)(caps:List Int)(C:Option Addr)(lC cC:Nat)(rows:List RowV)(H:Option Addr)(lF cF:Nat)(w:World)(hg:g.good w w.heap.size)(hcg:checkG g=0)(hlC:caps.length=lC)(hCf:AllFit caps)(hC:Rd w w.heap.size C (cellsI caps))(hlF:rows.length=lF)(hF:FdM w w.heap.size H rows):
  Calls Tryz.prog 14 #[.agg #[.string g.nm, .slice g.aA g.acts.length g.cA, .slice g.aE g.edges.length g.cE, .slice g.aI g.ins.length g.cI, .slice g.aO g.outs.length g.cO], .slice C lC cC, .slice H lF cF] w fun e w'=>Below w.heap.size w w'∧
   ((e= .returned (.pointer none)∧¬(caps.length=g.edges.length∧∀c∈caps,0≤c))∨∃V ρ,e= .returned (.pointer (some ⟨V.rg,0,none⟩))∧zbe w w' w.heap.size g caps (fedOf rows) V ρ):=by
 obtain⟨B0,hB0⟩:∃b,w.heap.size=b:=⟨_,rfl⟩;rw[hB0]at hg hC hF;have b1:=(zm B0 w).alloc (by omega) (.cells #[.string g.nm, .slice g.aA g.acts.length g.cA, .slice g.aE g.edges.length g.cE, .slice g.aI g.ins.length g.cI, .slice g.aO g.outs.length g.cO] 26)
 have k1:=Blk.new w B0 hB0.symm 26 #[.string g.nm, .slice g.aA g.acts.length g.cA, .slice g.aE g.edges.length g.cE, .slice g.aI g.ins.length g.cI, .slice g.aO g.outs.length g.cO];have z1:(w.alloc (.cells #[.string g.nm, .slice g.aA g.acts.length g.cA, .slice g.aE g.edges.length g.cE, .slice g.aI g.ins.length g.cI, .slice g.aO g.outs.length g.cO] 26)).heap.size=B0+1:=by simp;omega
 obtain⟨W1,hW1⟩:∃W,w.alloc (.cells #[.string g.nm, .slice g.aA g.acts.length g.cA, .slice g.aE g.edges.length g.cE, .slice g.aI g.ins.length g.cI, .slice g.aO g.outs.length g.cO] 26)=W:=⟨_,rfl⟩;rw[hW1]at b1 k1 z1;have hg2:g.good W1 W1.heap.size:=(hg.below b1 lR_).more (by omega)
 have hC1:Rd W1 W1.heap.size C (cellsI caps):=(hC.below b1 lR_).more (by omega)
 have hF1:FdM W1 W1.heap.size H rows:=(hF.below b1 lR_).more (by omega)
 have g0:=k1.cellL 0 rfl;have g1:=k1.cellL 1 rfl;have g2:=k1.cellL 2 rfl;have g3:=k1.cellL 3 rfl;have g4:=k1.cellL 4 rfl;have HNW:=Lh (rigNew_any g caps C lC cC W1 hg2 hcg hlC hCf hC1);have HKG:=Lh k1;have HB1:=Lh b1;have HFD:=Lh hF1;have HLF:=Lh hlF;have HcG:=Lh hcg;clear hcg hg hC hF b1 k1 hg2 hC1 hF1 hCf hlC hlF
 go_enter Tryz.func14, Tryz.ntmps14
 go_wp2_with fail
 try rw[hW1]
 refine HNW.out.mono ?_;rintro e w2 ⟨hb2,hcase⟩;clear g0 g1 g2 g3 g4 hW1;have hz2:=hb2.size;have HB2:=Lh (HB1.out.trans (hb2.mono (by omega)))
 have HB0:=Lh hB0;clear HNW hb2 hB0;rcases hcase with⟨rfl,hbad⟩|⟨V,ρ,rfl,hJ,-⟩
 ·have Hbad:=Lh hbad;clear hbad
  go_wp2_with fail
  go_ret;exact⟨by rw[HB0.out];exact HB2.out, .inl ⟨rfl,Hbad.out⟩⟩
 ·have HJ0:=Lh hJ.fed;obtain⟨rg,hrg⟩:∃n,V.rg=n:=⟨_,rfl⟩;rw[hrg];have Hrg:=Lh hrg;obtain⟨nI,hnI⟩:∃n,g.ins.length=n:=⟨_,rfl⟩;have HnI:=Lh hnI;have hnI16:nI≤16:=by have:=(zdo (za6 HcG.out).1).2.2.2.2.1;rw[hnI]at this;exact this
  clear hJ hrg hnI
  go_wp2_with fail
  go_loopw [9] (fun i wr=>∃(k:Nat) (V':RigV) (ρ':Nat→Tg),k≤nI∧k≤lF∧i= .int .i64 k∧V'.rg=rg∧zbe W1 wr W1.heap.size g caps (zgb rows k) V' ρ') (fun i _=>nI-(intOf i).toNat)
  case atStart=>exact⟨0,V,ρ,zJ _,zJ _,rfl,Hrg.out,HJ0.out.alike fun j _=>if_neg (zau j)⟩
  case round=>
   clear HJ0;obtain⟨k,V',ρ',hk,hkF,rfl,hrg',hJ⟩:=hrel;have y3:=(HKG.out.below hJ.bel HKG.out.lt).cellL 3 rfl;rw[HnI.out]at y3;by_cases hlF:k<lF
   ·by_cases hlI:k<nI
    ·have h0:(0:Int)≤(k:Int):=by omega
     have h1:(k:Int)<(lF:Int):=by omega
     have h2:(k:Int)<(nI:Int):=by omega
     obtain⟨r,hr⟩:=zG (l:=rows) (i:=k) (by rw[HLF.out];exact hlF)
     obtain⟨q,hq⟩:=zG (l:=V'.qs) (i:=V'.nE+k) (by rw[hJ.ql,hJ.ne,HnI.out];omega)
     obtain⟨-,-,hq3⟩:=hJ.qf _ q hq;obtain⟨hqy,hqc⟩:=hq3 (by rw[hJ.ne];omega)
     have hqy0:q.ys=[]:=by
      rw[hqy,hJ.ne,zbF];exact if_neg (zc1 k)
     have FW:=HFD.out.below hJ.bel lR_;obtain⟨rr,rf,rl⟩:=FW.ok r (zac hr);obtain⟨b0,o0,hH,hbm,hc⟩:∃b o,H=some ⟨b,o,none⟩∧b<W1.heap.size∧wr.cell? ⟨b,o+k,none⟩=some r.val:=by
      rcases FW.row with hrow|⟨b,off,hA,hb,hcell⟩
      ·have h1:=congrArg List.length hrow;rw[zA,zaD,HLF.out]at h1;omega
      ·exact⟨b,off,hA,hb,hcell k _ (zbj RowV.val hr)⟩
     subst hH;have rr2:=rr.more hJ.mw;have HFE:=Lh (zjO V' ρ' wr hJ.rig k q hq hqc r.xs r.A r.xs.length r.c rfl rf rr2 (fun b hne hb=>hJ.fx b (by
      rcases rr with hr0|⟨b',off,hA,hb',-⟩
      ·have h1:=congrArg List.length hr0;rw[cellsI_length,zaD]at h1;exact absurd (zaL h1) hne
      ·rw[hA]at hb;obtain rfl:b'=b:=by injection hb
       exact hb')) (by rw[hqy0];simp;omega) (by omega))
     rw[hrg']at HFE;have HJ:=Lh hJ;have Hq:=Lh hq;have Hr:=Lh hr;have Hrg':=Lh hrg';unfold RowV.val at hc;obtain⟨rA,hrA⟩:∃a,r.A=a:=⟨_,rfl⟩;obtain⟨rc,hrc⟩:∃a,r.c=a:=⟨_,rfl⟩;obtain⟨rn,hrn⟩:∃a,r.xs.length=a:=⟨_,rfl⟩;rw[hrA,hrc,hrn]at hc HFE;clear hJ hq hr FW rr rr2 rf hq3 hqy hqc hqy0 hrg' hrA hrc hrn
     go_wp2_with fail;refine HFE.out.mono ?_
     rintro e w3 ⟨rfl,lv,ρ2,hm,hr2⟩;rw[←Hrg'.out]at hr2;have hJ2:=HJ.out.feed Hq.out hm hr2;have hJ3:=hJ2.alike (fi':=zgb rows (k+1)) fun j _=>by
      show zgb rows (k+1) j=if j=k then zgb rows k j++r.xs else zgb rows k j
      unfold zgb;by_cases hj:j=k
      ·subst hj;rw[if_pos rfl,if_pos (by omega),if_neg (by omega)]
       unfold fedOf;rw[Hr.out]
       rfl
      ·rw[if_neg hj];by_cases hjk:j<k
       ·rw[if_pos (by omega),if_pos hjk]
       ·rw[if_neg (by omega),if_neg hjk]
     obtain⟨V2,HJ3,hrg2⟩:∃V2:RigV,Hid (zbe W1 w3 W1.heap.size g caps (zgb rows (k+1)) V2 ρ2)∧V2.rg=rg:=⟨_,hJ3,Hrg'.out⟩;clear hm hr2 hJ2 hJ3 y3 hc
     go_wp2_with fail
     go_roundw
     case rel=>exact⟨k+1,V2,ρ2,by omega,by omega,by go_num,hrg2,HJ3.out⟩
     case measure=>simp[intOf];omega
    ·have h1:(k:Int)<(lF:Int):=by omega
     have h2:¬((k:Int)<(nI:Int)):=by omega
     have HJ:=Lh hJ;have Hrg':=Lh hrg';have hkn:k=nI:=by omega
     have Hkn:=Lh hkn;clear hJ hrg' hkn
     go_wp2_with fail
     go_ret;have hJ:=HJ.out.alike (fi':=fedOf rows) fun j hj=>by
      rw[HnI.out]at hj
      have:=Hkn.out
      exact(if_pos (by omega)).symm
     refine⟨by rw[HB0.out];exact HB1.out.trans (hJ.bel.mono (by omega)), .inr ⟨V',by obtain rfl:=Hrg'.out;rfl,ρ',?_⟩⟩
     exact{hJ with
      bel:=by rw[HB0.out];exact HB1.out.trans (hJ.bel.mono (by omega))
      mw:=by have:=hJ.mw;have:=HB0.out;omega
      fx:=fun b hb=>hJ.fx b (by have:=HB0.out;omega)}
   ·have h1:¬((k:Int)<(lF:Int)):=by omega
    have HJ:=Lh hJ;have Hrg':=Lh hrg';clear hJ hrg'
    go_wp2_with fail
    go_ret;have hJ:=HJ.out.alike (fi':=fedOf rows) fun j hj=>by
     unfold zgb;by_cases hjk:j<k
     ·rw[if_pos hjk]
     ·rw[if_neg hjk];unfold fedOf;rw[zD (by rw[HLF.out];omega)]
      rfl
    refine⟨by rw[HB0.out];exact HB1.out.trans (hJ.bel.mono (by omega)), .inr ⟨V',by obtain rfl:=Hrg'.out;rfl,ρ',?_⟩⟩
    exact{hJ with
     bel:=by rw[HB0.out];exact HB1.out.trans (hJ.bel.mono (by omega))
     mw:=by have:=hJ.mw;have:=HB0.out;omega
     fx:=fun b hb=>hJ.fx b (by have:=HB0.out;omega)}
section
variable {W1 w:World} {m:Nat} {g:zB} {caps:List Int} {fi:Nat→List Int} {V:RigV} {ρ:Nat→Tg}
theorem zbe.G(h:zbe W1 w m g caps fi V ρ):ze1 g V:=
 ⟨h.ne,h.tl,fun v t ht=>by
  obtain⟨x,hx,hF⟩:=h.tf v t ht;exact⟨x,hx,hF.ri,hF.ro⟩,h.ts,h.td⟩
theorem zbe.full(h:zbe W1 w m g caps fi V ρ)(hc:checkG g=0):V.full:=h.G.full hc fun v t ht=>⟨(h.rig.tk v t ht).s.lf,(h.rig.tk v t ht).s.lo⟩
theorem zbe.bnd(h:zbe W1 w m g caps fi V ρ):V.bnd 0:=fun t ht=>by
 obtain⟨v,hv,rfl⟩:=zbH ht;obtain⟨x,-,hF⟩:=h.tf v _ (zk hv);rw[hF.n,hF.wh];exact⟨by omega,by omega,zF _⟩
theorem zbe.φ0(h:zbe W1 w m g caps fi V ρ)(v:Nat):V.φ v=0:=by
 unfold RigV.φ;cases ht:V.tasks[v]? with
 |none=>rfl
 |some t=>
  obtain⟨x,-,hF⟩:=h.tf v t ht;show t.wh+(if t.gives=true then 1 else 0)=0
  rw[hF.wh,hF.gives]
  rfl
theorem zbe.hd0(h:zbe W1 w m g caps fi V ρ)(v i:Nat):V.hd v i=0:=by
 unfold RigV.hd;cases ht:V.tasks[v]? with
 |none=>rfl
 |some t=>
  obtain⟨x,-,hF⟩:=h.tf v t ht;show t.hd i=0
  unfold TkV.hd;rw[hF.gives,hF.hand];cases hr:(List.replicate t.rin.length nilR)[i]? with
  |none=>rfl
  |some r=>
   obtain rfl:=zdS hr
   rfl
theorem zbe.rm0(h:zbe W1 w m g caps fi V ρ)(v i:Nat):V.rm v i=0:=by
 unfold RigV.rm;cases ht:V.tasks[v]? with
 |none=>rfl
 |some t=>
  obtain⟨x,-,hF⟩:=h.tf v t ht;show t.rm i=0
  unfold TkV.rm;rw[hF.gives]
  rfl
theorem zbe.que(h:zbe W1 w m g caps fi V ρ){e:Nat}{x:GEdg}(hx:g.edges[e]?=some x):∃q,V.qs[e]?=some q∧q.ys=x.st∧q.k=0∧caps[e]?=some q.cap:=by
 have hl:=zao hx;obtain⟨q,hq⟩:=zG (l:=V.qs) (i:=e) (by rw[h.ql];omega)
 obtain⟨h1,h2,-⟩:=h.qf e q hq;obtain⟨x',hx',h3,h4⟩:=h2 hl;obtain rfl:=zq (hx.symm.trans hx');exact⟨q,hq,h3,h1,h4⟩
theorem zbe.law{L:Nat}{F:Nat→Int}{vs:List Nat}(h:zbe W1 w m g caps fi V ρ)(hL:∀j,j<g.ins.length→(fi j).length≤L)(hF:∀v∈vs,0≤F v):ze2 g L F vs 0 V:=by
 refine⟨h.G,fun e x hx=>?_,fun v p m x _ _=>?_,fun e x hx=>?_,fun e he=>?_,fun o x hx y m _ _=>?_,fun o ho=>?_,fun v hv=>?_⟩
 ·obtain⟨q,hq,hy,hk,-⟩:=h.que hx;rw[h.φ0,h.φ0,h.hd0,h.rm0,zfJ hq];unfold QV.len;rw[hy,hk];simp
 ·rw[h.φ0,h.rm0];simp
 ·obtain⟨q,hq,hy,hk,-⟩:=h.que hx;rw[h.φ0,h.rm0,zit hq,hy];simp
 ·unfold RigV.yl;cases hq:V.qs[e]? with
  |none=>exact zJ _
  |some q=>
   have hl:=zao hq
   have:=h.ql
   obtain⟨-,-,h3⟩:=h.qf e q hq;show q.ys.length≤L
   rw[(h3 he).1];exact hL _ (by omega)
 ·rw[h.φ0,h.rm0];unfold RigV.zl;cases hq:V.tps[o]? with
  |none=>exact zJ _
  |some p=>
   show p.ys.length+0≤m*0
   rw[h.pf o p hq];simp
 ·unfold RigV.zl;rw[zD (by rw[h.pl];exact ho)]
 ·rw[h.φ0];exact hF v hv
end
def RigV.idle(V:RigV)(n:Nat):Prop:=∀(v:Nat) (t:TkV),v<n→V.tasks[v]?=some t→V.rdy t=false
theorem SeqP.idle{P:RigV→Prop}{k:Nat}{V V':RigV}{c n:Nat}(h:SeqP P k V V' c)(hi:V.idle n)(hk:k≤n):c=0∧V'=V:=by
 induction h with
 |nil=>exact⟨rfl,rfl⟩
 | @snoc k V V1 V2 c b h hp hm hs ih=>
   obtain⟨rfl,rfl⟩:=ih hi (by omega)
   cases hs with
   |no he _=>exact⟨rfl,he⟩
   |yes v t ok hi' hv hf hr _ _=>
    have:=hi v t (by omega) hv
    rw[this]at hr;cases hr
theorem RndP.idle{P:RigV→Prop}{n j:Nat}{V V':RigV}{d:Nat}(h:RndP P n j V V' d)(hi:V.idle n):j=0∧d=0∧V'=V:=by
 induction h with
 |nil=>exact⟨rfl,rfl,rfl⟩
 | @snoc j V V1 V2 d c h hs hc ih=>
   obtain⟨-,-,rfl⟩:=ih hi;exact absurd (hs.idle hi lR_).1 hc
theorem zlZ{V:RigV}(hi:V.idle V.tasks.length):V.rdys V.tasks.length=[]:=by
 unfold RigV.rdys;rw[List.filter_eq_nil_iff];intro v hv;have hl:=zM.1 hv;obtain⟨t,ht⟩:=zG hl;unfold RigV.rdyAt;rw[ht];simp[hi v t hl ht]
end Go.Proofs.YtpmlljbebdidgaaGreatDoor
