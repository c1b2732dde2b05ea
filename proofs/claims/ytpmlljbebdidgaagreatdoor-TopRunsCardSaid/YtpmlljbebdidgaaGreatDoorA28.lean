/- Lemmas and walks for the claim: En, Sy, Pa, Pz, Ab. -/
import Derived.Test.YtpmlljbebdidgaaGreatDoorA0
import Derived.Test.YtpmlljbebdidgaaGreatDoorA25
import Derived.Test.YtpmlljbebdidgaaGreatDoorA27
import Derived.Test.YtpmlljbebdidgaaGreatDoorA11
import Derived.Test.YtpmlljbebdidgaaGreatDoorA10
set_option linter.unusedSimpArgs false
set_option maxHeartbeats 4000000
namespace Go.Proofs.YtpmlljbebdidgaaGreatDoor
open Go.RowKit
def Lnk.lk:Lnk→LkV
 | .no=> .no
 | .que e _=> .que e
 | .tape o _=> .tape o
structure zlX(x:ActV)(t:TkV):Prop where
 ri:t.rin=insOf x
 ro:t.rout=outsOf x
 n:t.n=0
 wh:t.wh=0
 gives:t.gives=false
 port:t.port=0
 hand:t.hand=List.replicate t.rin.length nilR
structure NewJ(W1 w:World)(m:Nat)(g:zB)(caps:List Int)(rg kA kE kI kO:Nat)(S D:LM)(V:RigV)(ρ:Nat→Tg):Prop where
 bel:Below m W1 w
 mw:m≤w.heap.size
 rig:RigM w ρ V
 fx:∀b,b<m→ρ b= .fix
 erg:V.rg=rg
 ef:V.failed= -1
 tl:V.tasks.length=kA
 tf:∀(v:Nat) (t:TkV),V.tasks[v]?=some t→∃x,g.acts[v]?=some x∧zlX x t
 ts:∀(v:Nat) (t:TkV),V.tasks[v]?=some t→∀(p:Nat) (l:Lnk),t.src[p]?=some l→l.lk=S v p
 td:∀(v:Nat) (t:TkV),V.tasks[v]?=some t→∀(p:Nat) (l:Lnk),t.dst[p]?=some l→l.lk=D v p
 ne:V.nE=kE
 ql:V.qs.length=kE+kI
 qf:∀(e:Nat) (q:QV),V.qs[e]?=some q→q.k=0∧(e<kE→∃x,g.edges[e]?=some x∧q.ys=x.st∧caps[e]?=some q.cap)∧(kE≤e→q.ys=[]∧q.cap=9223372036854775807)
 pl:V.tps.length=kO
 pf:∀(o:Nat) (p:TpV),V.tps[o]?=some p→p.ys=[]
section
variable {W1 w wa w':World} {m:Nat} {g:zB} {caps:List Int} {rg kA kE kI kO:Nat} {S D:LM} {V:RigV} {ρ:Nat→Tg}
theorem NewJ.below(h:NewJ W1 w m g caps rg kA kE kI kO S D V ρ)(hb:Below w.heap.size w w'):NewJ W1 w' m g caps rg kA kE kI kO S D V ρ:=
 {h with
  bel:=h.bel.trans (hb.mono h.mw)
  mw:=zy h.mw hb.size
  rig:=h.rig.below hb}
theorem snoc_get{α:Type}{l:List α}{x y:α}{i:Nat}(h:(l++[x])[i]?=some y):l[i]?=some y∨(i=l.length∧y=x):=by
 by_cases hi:i<l.length
 ·rw[zar hi]at h;exact .inl h
 ·rw[zO (by omega)]at h
  have hi2:=zao h;rw[zaE]at hi2;have e:i=l.length:=by omega
  subst e;rw[zbp]at h;exact .inr ⟨rfl,(zq h).symm⟩
theorem zhC{α:Type}{l:List α}{x y:α}{i:Nat}(h:l[i]?=some y):(l++[x])[i]?=some y:=by rw[zar (zao h)];exact h
theorem Only.belowM{X:Nat→Prop}(ho:Only X w w')(hm:m≤w.heap.size)(hX:∀b,b<m→¬X b):Below m w w':=⟨ho.os,ho.tape,ho.output,ho.size,fun k hk=>ho.block k (by omega) (hX k hk)⟩
theorem KdV.ty_far(κ:KdV):κ.ty≠ 125 ∧κ.ty≠ 159 ∧κ.ty≠ 157 ∧κ.ty≠ 36 ∧κ.ty≠ 3 ∧κ.ty≠ 187 :=by cases κ<;>(unfold KdV.ty;simp only;decide)
theorem blk_apart{w:World}{a b:Nat}{s t:TypeId}{cs ds:Array Value}(h:Blk w a s cs)(h':Blk w b t ds)(hn:s≠t):a≠b:=fun he=>by
 subst he;exact hn (zaP h h')
theorem zhT(n:Nat):(List.replicate n Lnk.no).map Lnk.val=List.replicate n Value.nilIface:=by rw[List.map_replicate];rfl
theorem zki{α:Type}{n i:Nat}{a x:α}(h:(List.replicate n a)[i]?=some x):x=a:=by
 rw[zbh]at h;split at h
 ·exact(zq h).symm
 ·cases h
theorem NewJ.task{x:ActV}{k bt bb bk bf bo bh z li lo:Nat}{κ:KdV}{Ai Ao I O:Option Addr}{ci co cI cO:Nat}{v':Value}(h:NewJ W1 w m g caps rg k 0 0 0 noL noL V ρ)(hx:g.acts[k]?=some x)(hli:(insOf x).length=li)(hlo:(outsOf x).length=lo)(hb:Below w.heap.size w wa)
  (kt:Blk wa bt 125 #[.pointer (some ⟨bb,0,none⟩), .slice (some ⟨bf,0,none⟩) li li, .slice (some ⟨bo,0,none⟩) lo lo, .slice I li cI, .slice O lo cO, .slice (some ⟨bh,0,none⟩) li li, .slice none 0 0, .int .i64 0, .bool false, .int .i64 0])
  (kb:Blk wa bb 187 #[.iface κ.pt (.pointer (some ⟨bk,0,none⟩))]) (kd:KdM wa bk κ (insOf x) (outsOf x) Ai ci Ao co 0) (oI:wa.ownsRow w.heap.size 3 1 (.slice I li cI) li (cellsI (insOf x))) (oO:wa.ownsRow w.heap.size 3 1 (.slice O lo cO) lo (cellsI (outsOf x)))
  (kf:Blk wa bf 159 (List.replicate li Value.nilIface).toArray) (ko:Blk wa bo 157 (List.replicate lo Value.nilIface).toArray) (kh:Blk wa bh 36 (List.replicate li (Value.slice none 0 0)).toArray)
  (nb:w.heap.size≤bb) (nk:w.heap.size≤bk) (hfx:∀q,κ.fx Ai Ao q→w.heap.size≤q∧q<z) (zw:w.heap.size≤z) (zt:z≤bt) (zf:z≤bf) (zo:z≤bo) (zh:z≤bh)
  (ho:Only (fun q=>q=rg∨V.tl.ownBlock=some q) wa w') (krg:Blk w' rg 119 #[v',V.el,V.il,V.pl, .int .i64 (-1)])
  (orow:w'.ownsRow 0 120 1 v' (k+1) ((V.tasks.map (·.bt)).map (fun g=>Value.pointer (some ⟨g,0,none⟩))++[.pointer (some ⟨bt,0,none⟩)])) (hv:∀b,v'.ownBlock=some b→V.tl.ownBlock=some b∨wa.heap.size≤b):
  ∃V' ρ',NewJ W1 w' m g caps rg (k+1) 0 0 0 noL noL V' ρ':=by
 subst hli hlo;have hrg:=h.rig.rg;have hrr:=h.rig.rrg;rw[h.erg]at hrg hrr;have hsz:=hb.size;obtain⟨t,ht⟩:∃t:TkV,t={bt:=bt,bb:=bb,bk:=bk,bf:=bf,bo:=bo,bh:=bh,κ:=κ,rin:=insOf x,rout:=outsOf x,Ai:=Ai,ci:=ci,Ao:=Ao,co:=co,n:=0,I:=I,cI:=cI,O:=O,cO:=cO,src:=List.replicate (insOf x).length .no,dst:=List.replicate (outsOf x).length .no,hand:=List.replicate (insOf x).length nilR,gv:= .slice none 0 0,gg:=0,cg:=0,gift:=[],port:=0,wh:=0,gives:=false}:=⟨_,rfl⟩;obtain⟨t1,t2,t3,t4,t5,t6⟩:=κ.ty_far;have a1:=blk_apart kd.blk kt t1;have a2:=blk_apart kd.blk kf t2;have a3:=blk_apart kd.blk ko t3;have a4:=blk_apart kd.blk kh t4;have a5:=blk_apart kd.blk kb t6;have b1:=blk_apart kt kf (by decide)
 have b2:=blk_apart kt ko (by decide)
 have b3:=blk_apart kt kh (by decide)
 have b4:=blk_apart kt kb (by decide)
 have c1:=blk_apart kf ko (by decide)
 have c2:=blk_apart kf kh (by decide)
 have c3:=blk_apart kf kb (by decide)
 have d1:=blk_apart ko kh (by decide)
 have d2:=blk_apart ko kb (by decide)
 have d3:=blk_apart kh kb (by decide)
 have lt0:=kt.lt;have lt1:=kb.lt;have lt2:=kd.blk.lt;have lt3:=kf.lt;have lt4:=ko.lt;have lt5:=kh.lt;obtain⟨ρ',hρ'⟩:∃f:Nat→Tg,∀b,f b=(if b<w.heap.size then ρ b else if b=bt then .task k 0 else if b=bk then .task k 1 else if b=bh then .task k 2 else if b=bf then .task k 5 else if b=bo then .task k 6 else if b<wa.heap.size then .fix else .rig 1):=⟨_,fun _=>rfl⟩
 have hρ:∀b,b<w.heap.size→ρ' b=ρ b:=fun b hb1=>(hρ' b).trans (if_pos hb1)
 have r0:ρ' bt= .task k 0:=by rw[hρ',if_neg (by omega),if_pos rfl]
 have r1:ρ' bk= .task k 1:=by rw[hρ',if_neg (by omega),if_neg a1,if_pos rfl]
 have r2:ρ' bh= .task k 2:=by rw[hρ',if_neg (by omega),if_neg (Ne.symm b3),if_neg (Ne.symm a4),if_pos rfl]
 have r5:ρ' bf= .task k 5:=by rw[hρ',if_neg (by omega),if_neg (Ne.symm b1),if_neg (Ne.symm a2),if_neg c2,if_pos rfl]
 have r6:ρ' bo= .task k 6:=by rw[hρ',if_neg (by omega),if_neg (Ne.symm b2),if_neg (Ne.symm a3),if_neg d1,if_neg (Ne.symm c1),if_pos rfl]
 have rf:∀b,w.heap.size≤b→b<wa.heap.size→b≠bt→b≠bk→b≠bh→b≠bf→b≠bo→ρ' b= .fix:=fun b q1 q2 q3 q4 q5 q6 q7=>by rw[hρ',if_neg (by omega),if_neg q3,if_neg q4,if_neg q5,if_neg q6,if_neg q7,if_pos q2]
 have rI:∀{A:Option Addr} {n c:Nat} {xs:List Value},wa.ownsRow w.heap.size 3 1 (.slice A n c) n xs→∀q,blkOf A=some q→q<wa.heap.size∧ρ' q= .fix:=fun{A n c xs} o q hq=>by
  have hq':(Value.slice A n c).ownBlock=some q:=by rw[ownBlock_slice];exact hq
  obtain⟨cs,hc⟩:=own_block o hq';exact⟨own_lt' o hq',rf q (own_ge o hq') (own_lt' o hq') (blk_apart hc kt (by decide)) (Ne.symm (blk_apart kd.blk hc t5)) (blk_apart hc kh (by decide)) (blk_apart hc kf (by decide)) (blk_apart hc ko (by decide))⟩
 have hfi:=(KdV.rates_few kd.rt).1;have TM:TkM wa ρ' k t:=by
  rw[ht];refine⟨kt,r0,⟨kb,rf bb nb lt1 (Ne.symm b4) (Ne.symm a5) (Ne.symm d3) (Ne.symm c3) (Ne.symm d2),rd_of_own oI,rI oI,rd_of_own oO,rI oO,?_,r5,by simp,?_,r6,by simp⟩,⟨kd,r1,fun q hq=>?_⟩,TkH.empty kh r2 rfl rfl,(fun hc=>(by cases hc)),⟨fun _=>zJ _,(fun hc=>(by cases hc)),fun _ i r mm hr hmm=>?_,(fun hc=>(by cases hc))⟩⟩
  ·show Blk wa bf _ ((List.replicate (insOf x).length Lnk.no).map Lnk.val).toArray
   rw[zhT];exact kf
  ·show Blk wa bo _ ((List.replicate (outsOf x).length Lnk.no).map Lnk.val).toArray
   rw[zhT];exact ko
  ·obtain⟨q1,q2⟩:=hfx q hq;have ql:q<wa.heap.size:=by omega
   exact⟨ql,rf q q1 ql (by omega) (kd.ap q hq) (by omega) (by omega) (by omega)⟩
  ·have hr:(List.replicate (insOf x).length nilR)[i]?=some r:=hr
   obtain rfl:=zdS hr
   have:=hfi.2 mm (zac hmm)
   refine⟨fun hc=>absurd hc (zau _),fun _=>?_,fun _=>rfl⟩
   show((nilR.xs.length:Nat):Int)<mm
   show((0:Nat):Int)<mm
   omega
 have hX:∀b,b<w.heap.size→(b=rg∨V.tl.ownBlock=some b)→∃r,ρ b= .rig r:=fun b _ hx=>by
  rcases hx with rfl|hx
  ·exact⟨0,hrr⟩
  ·exact⟨1,h.rig.tl.r b hx⟩
 have hXa:∀b,b<wa.heap.size→(b=rg∨V.tl.ownBlock=some b)→∃r,ρ' b= .rig r:=fun b _ hx=>by
  have hlt:b<w.heap.size:=by
   rcases hx with rfl|hx
   ·exact hrg.lt
   ·exact own_lt' h.rig.tl.m hx
  rw[hρ b hlt];exact hX b hlt hx
 have hO:Only (fun q=>q=rg∨V.tl.ownBlock=some q) w w':=(Only.of_below hb).trans ho
 have TM':TkM w' ρ' k t:=TM.only ho (fun _ _=>rfl) fun b hb1 hx=>by
  obtain⟨r,hr⟩:=hXa b hb1 hx;exact⟨by rw[hr];simp,fun r'=>by rw[hr];simp⟩
 have hnr:∀r,r≠0→r≠1→∀b,b<w.heap.size→(b=rg∨V.tl.ownBlock=some b)→ρ b≠ .rig r:=fun r q0 q1 b _ hx he=>by
  rcases hx with rfl|hx
  ·have:=hrr.symm.trans he;injection this with this;omega
  ·have:=(h.rig.tl.r b hx).symm.trans he;injection this with this;omega
 have hmw:=h.mw;refine⟨{V with tl:=v',tasks:=V.tasks++[t]},ρ',?_⟩;refine{h with
  bel:=h.bel.trans (hO.belowM h.mw fun b hb1 hx=>?_)
  mw:=zy h.mw hO.size
  rig:=?_
  fx:=fun b hb1=>(hρ b (by omega)).trans (h.fx b hb1)
  tl:=by show(V.tasks++[t]).length=k+1;rw[zx,h.tl];rfl
  tf:=fun v s hs=>?_
  ts:=fun v s hs=>?_
  td:=fun v s hs=>?_}
 ·obtain⟨r,hr⟩:=hX b (by omega) hx
  exact absurd (hr.symm.trans (h.fx b hb1)) (by simp)
 ·refine h.rig.rows (V':={V with tl:=v',tasks:=V.tasks++[t]}) hO hρ hX ?_ ?_ ⟨?_,fun b hb1=>?_⟩ (h.rig.el.only hO hρ (hnr 2 (by omega) (by omega))) (h.rig.il.only hO hρ (hnr 3 (by omega) (by omega))) (h.rig.pl.only hO hρ (hnr 4 (by omega) (by omega))) (fun v s hs=>?_) (fun e q hq=> .inl hq) (fun o p hp=> .inl hp) (fun e q hq=>hq) fun o p hp=>hp
  ·show Blk w' V.rg _ #[v',V.el,V.il,V.pl, .int .i64 V.failed]
   rw[h.erg,h.ef];exact krg
  ·show ρ' V.rg=_
   rw[h.erg,hρ _ hrg.lt];exact hrr
  ·show w'.ownsRow 0 _ 1 v' ((V.tasks++[t]).map (·.bt)).length (((V.tasks++[t]).map (·.bt)).map fun g=>Value.pointer (some ⟨g,0,none⟩))
   rw[zA,zx,h.tl,zad,zad,ht];exact orow
  ·rcases hv b hb1 with h1|h1
   ·rw[hρ b (own_lt' h.rig.tl.m h1)];exact h.rig.tl.r b h1
   ·rw[hρ',if_neg (by omega),if_neg (by omega),if_neg (by omega),if_neg (by omega),if_neg (by omega),if_neg (by omega),if_neg (by omega)]
  ·rcases snoc_get hs with h1|⟨rfl,rfl⟩
   ·exact .inl h1
   ·refine .inr ⟨by rw[h.tl];exact TM',fun l hl=>?_⟩
    rw[ht]at hl;rcases hl with hl|hl<;>exact(zbM.1 hl).2
 ·rcases snoc_get hs with h1|⟨rfl,rfl⟩
  ·exact h.tf v s h1
  ·refine⟨x,by rw[h.tl];exact hx,?_⟩
   rw[ht];exact⟨rfl,rfl,rfl,rfl,rfl,rfl,rfl⟩
 ·rcases snoc_get hs with h1|⟨rfl,rfl⟩
  ·exact h.ts v s h1
  ·intro p l hl;rw[ht]at hl;obtain rfl:=zki hl
   rfl
 ·rcases snoc_get hs with h1|⟨rfl,rfl⟩
  ·exact h.td v s h1
  ·intro p l hl;rw[ht]at hl;obtain rfl:=zki hl
   rfl
theorem NewJ.rigX(h:NewJ W1 w m g caps rg kA kE kI kO S D V ρ){v:Value}{r:Nat}(hv:∀b,v.ownBlock=some b→ρ b= .rig r):(∀b,b<w.heap.size→(b=rg∨v.ownBlock=some b)→∃r,ρ b= .rig r)∧(∀b,b<w.heap.size→(b=rg∨v.ownBlock=some b)→∀s,s≠0→s≠r→ρ b≠ .rig s):=by
 have hrr:=h.rig.rrg;rw[h.erg]at hrr;refine⟨fun b _ hx=>?_,fun b _ hx s s0 s1 he=>?_⟩
 ·rcases hx with rfl|hx
  ·exact⟨0,hrr⟩
  ·exact⟨r,hv b hx⟩
 ·rcases hx with rfl|hx
  ·have:=hrr.symm.trans he;injection this with this;omega
  ·have:=(hv b hx).symm.trans he;injection this with this;omega
theorem NewJ.edge{x:GEdg}{k:Nat}{q:QV}{v':Value}(h:NewJ W1 w m g caps rg kA k 0 0 S D V ρ)(hx:g.edges[k]?=some x)(hb:Below w.heap.size w wa)(hq:QuM wa q)(hqc:caps[k]?=some q.cap)(hqy:q.ys=x.st)(hqk:q.k=0)(hqn:∀b,q.own b→w.heap.size≤b)
  (ho:Only (fun q=>q=rg∨V.el.ownBlock=some q) wa w') (krg:Blk w' rg 119 #[V.tl,v',V.il,V.pl, .int .i64 (-1)])
  (orow:w'.ownsRow 0 155 1 v' (k+1) ((V.qs.map (·.g)).map (fun g=>Value.pointer (some ⟨g,0,none⟩))++[.pointer (some ⟨q.g,0,none⟩)])) (hv:∀b,v'.ownBlock=some b→V.el.ownBlock=some b∨wa.heap.size≤b):
  ∃ρ',NewJ W1 w' m g caps rg kA (k+1) 0 0 S D {V with el:=v',qs:=V.qs++[q],nE:=k+1} ρ':=by
 have hrg:=h.rig.rg;have hrr:=h.rig.rrg;rw[h.erg]at hrg hrr;have hsz:=hb.size;have hql:=h.ql;rw[zab]at hql;obtain⟨ρ',hρ'⟩:∃f:Nat→Tg,∀b,f b=(if b<w.heap.size then ρ b else if b<wa.heap.size then .que k else .rig 2):=⟨_,fun _=>rfl⟩
 have hρ:∀b,b<w.heap.size→ρ' b=ρ b:=fun b hb1=>(hρ' b).trans (if_pos hb1)
 obtain⟨hX,hnr⟩:=h.rigX h.rig.el.r;have hO:Only (fun q=>q=rg∨V.el.ownBlock=some q) w w':=(Only.of_below hb).trans ho
 have hqo:∀b,q.own b→¬(b=rg∨V.el.ownBlock=some b):=fun b hb1 hx=>by
  have h1:=hqn b hb1;rcases hx with rfl|hx
  ·have:=hrg.lt;omega
  ·have:=own_lt' h.rig.el.m hx;omega
 have hQ:QuT w' ρ' k q:=⟨hq.only ho hqo,fun b hb1=>by
  have h1:=hqn b hb1;have h2:=hq.own_lt hb1;rw[hρ',if_neg (by omega),if_pos h2]⟩
 have e1:V.qs.take V.nE=V.qs:=zL (by rw[h.ne];omega)
 have e2:(V.qs++[q]).take (k+1)=V.qs++[q]:=zL (by rw[zx,hql];exact zF _)
 have e3:V.qs.drop V.nE=[]:=List.drop_of_length_le (by rw[h.ne];omega)
 have e4:(V.qs++[q]).drop (k+1)=[]:=List.drop_of_length_le (by rw[zx,hql];exact zF _)
 have hmw:=h.mw;refine⟨ρ',?_⟩;refine{h with
  bel:=h.bel.trans (hO.belowM h.mw fun b hb1 hx=>?_)
  mw:=zy h.mw hO.size
  rig:=?_
  fx:=fun b hb1=>(hρ b (by omega)).trans (h.fx b hb1)
  ne:=rfl
  ql:=by show(V.qs++[q]).length=k+1+0;rw[zx,hql];rfl
  qf:=fun e q' hq'=>?_}
 ·obtain⟨r,hr⟩:=hX b (by omega) hx
  exact absurd (hr.symm.trans (h.fx b hb1)) (by simp)
 ·refine h.rig.rows (V':={V with el:=v',qs:=V.qs++[q],nE:=k+1}) hO hρ hX ?_ ?_ (h.rig.tl.only hO hρ fun b hb1 hx=>hnr b hb1 hx 1 (by omega) (by omega)) ⟨?_,fun b hb1=>?_⟩ ?_ (h.rig.pl.only hO hρ fun b hb1 hx=>hnr b hb1 hx 4 (by omega) (by omega)) (fun v s hs=> .inl hs) (fun e q' hq'=>?_) (fun o p hp=> .inl hp) (fun e q' hq'=>zhC hq') fun o p hp=>hp
  ·show Blk w' V.rg _ #[V.tl,v',V.il,V.pl, .int .i64 V.failed]
   rw[h.erg,h.ef];exact krg
  ·show ρ' V.rg=_
   rw[h.erg,hρ _ hrg.lt];exact hrr
  ·show w'.ownsRow 0 _ 1 v' (((V.qs++[q]).take (k+1)).map (·.g)).length ((((V.qs++[q]).take (k+1)).map (·.g)).map fun g=>Value.pointer (some ⟨g,0,none⟩))
   rw[e2,zA,zx,hql,zad,zad];exact orow
  ·rcases hv b hb1 with h1|h1
   ·rw[hρ b (own_lt' h.rig.el.m h1)];exact h.rig.el.r b h1
   ·rw[hρ',if_neg (by omega),if_neg (by omega)]
  ·have:=h.rig.il.only hO hρ fun b hb1 hx=>hnr b hb1 hx 3 (by omega) (by omega)
   rw[e3]at this;show zbT w' ρ' 3 _ V.il (((V.qs++[q]).drop (k+1)).map (·.g))
   rw[e4];exact this
  ·rcases snoc_get hq' with h1|⟨rfl,rfl⟩
   ·exact .inl h1
   ·exact .inr (by rw[hql];exact hQ)
 ·rcases snoc_get hq' with h1|⟨rfl,rfl⟩
  ·obtain⟨p1,p2,-⟩:=h.qf e q' h1;have hl:=zao h1;exact⟨p1,fun _=>p2 (by omega),fun hc=>absurd hc (by omega)⟩
  ·rw[hql];exact⟨hqk,fun _=>⟨x,hx,hqy,hqc⟩,fun hc=>absurd hc (by omega)⟩
theorem NewJ.input{k:Nat}{q:QV}{v':Value}(h:NewJ W1 w m g caps rg kA kE k 0 S D V ρ)(hb:Below w.heap.size w wa)(hq:QuM wa q)(hqc:q.cap=9223372036854775807)(hqy:q.ys=[])(hqk:q.k=0)(hqn:∀b,q.own b→w.heap.size≤b)
  (ho:Only (fun q=>q=rg∨V.il.ownBlock=some q) wa w') (krg:Blk w' rg 119 #[V.tl,V.el,v',V.pl, .int .i64 (-1)])
  (orow:w'.ownsRow 0 155 1 v' (k+1) (((V.qs.drop V.nE).map (·.g)).map (fun g=>Value.pointer (some ⟨g,0,none⟩))++[.pointer (some ⟨q.g,0,none⟩)])) (hv:∀b,v'.ownBlock=some b→V.il.ownBlock=some b∨wa.heap.size≤b):
  ∃ρ',NewJ W1 w' m g caps rg kA kE (k+1) 0 S D {V with il:=v',qs:=V.qs++[q]} ρ':=by
 have hrg:=h.rig.rg;have hrr:=h.rig.rrg;rw[h.erg]at hrg hrr;have hsz:=hb.size;have hql:=h.ql;obtain⟨ρ',hρ'⟩:∃f:Nat→Tg,∀b,f b=(if b<w.heap.size then ρ b else if b<wa.heap.size then .que (kE+k)else .rig 3):=⟨_,fun _=>rfl⟩
 have hρ:∀b,b<w.heap.size→ρ' b=ρ b:=fun b hb1=>(hρ' b).trans (if_pos hb1)
 obtain⟨hX,hnr⟩:=h.rigX h.rig.il.r;have hO:Only (fun q=>q=rg∨V.il.ownBlock=some q) w w':=(Only.of_below hb).trans ho
 have hqo:∀b,q.own b→¬(b=rg∨V.il.ownBlock=some b):=fun b hb1 hx=>by
  have h1:=hqn b hb1;rcases hx with rfl|hx
  ·have:=hrg.lt;omega
  ·have:=own_lt' h.rig.il.m hx;omega
 have hQ:QuT w' ρ' (kE+k) q:=⟨hq.only ho hqo,fun b hb1=>by
  have h1:=hqn b hb1;have h2:=hq.own_lt hb1;rw[hρ',if_neg (by omega),if_pos h2]⟩
 have e1:(V.qs++[q]).take V.nE=V.qs.take V.nE:=List.take_append_of_le_length (by rw[h.ne];omega)
 have e2:(V.qs++[q]).drop V.nE=V.qs.drop V.nE++[q]:=List.drop_append_of_le_length (by rw[h.ne];omega)
 have hmw:=h.mw;refine⟨ρ',?_⟩;refine{h with
  bel:=h.bel.trans (hO.belowM h.mw fun b hb1 hx=>?_)
  mw:=zy h.mw hO.size
  rig:=?_
  fx:=fun b hb1=>(hρ b (by omega)).trans (h.fx b hb1)
  ql:=by show(V.qs++[q]).length=kE+(k+1);rw[zx,hql];rfl
  qf:=fun e q' hq'=>?_}
 ·obtain⟨r,hr⟩:=hX b (by omega) hx
  exact absurd (hr.symm.trans (h.fx b hb1)) (by simp)
 ·refine h.rig.rows (V':={V with il:=v',qs:=V.qs++[q]}) hO hρ hX ?_ ?_ (h.rig.tl.only hO hρ fun b hb1 hx=>hnr b hb1 hx 1 (by omega) (by omega)) ?_ ⟨?_,fun b hb1=>?_⟩ (h.rig.pl.only hO hρ fun b hb1 hx=>hnr b hb1 hx 4 (by omega) (by omega)) (fun v s hs=> .inl hs) (fun e q' hq'=>?_) (fun o p hp=> .inl hp) (fun e q' hq'=>zhC hq') fun o p hp=>hp
  ·show Blk w' V.rg _ #[V.tl,V.el,v',V.pl, .int .i64 V.failed]
   rw[h.erg,h.ef];exact krg
  ·show ρ' V.rg=_
   rw[h.erg,hρ _ hrg.lt];exact hrr
  ·have:=h.rig.el.only hO hρ fun b hb1 hx=>hnr b hb1 hx 2 (by omega) (by omega)
   show zbT w' ρ' 2 _ V.el (((V.qs++[q]).take V.nE).map (·.g))
   rw[e1];exact this
  ·show w'.ownsRow 0 _ 1 v' (((V.qs++[q]).drop V.nE).map (·.g)).length ((((V.qs++[q]).drop V.nE).map (·.g)).map fun g=>Value.pointer (some ⟨g,0,none⟩))
   rw[e2,zA,zx,zbd,hql,zad,zad];have e5:kE+k-V.nE+[q].length=k+1:=by rw[h.ne,zbF];rfl
   rw[e5];exact orow
  ·rcases hv b hb1 with h1|h1
   ·rw[hρ b (own_lt' h.rig.il.m h1)];exact h.rig.il.r b h1
   ·rw[hρ',if_neg (by omega),if_neg (by omega)]
  ·rcases snoc_get hq' with h1|⟨rfl,rfl⟩
   ·exact .inl h1
   ·exact .inr (by rw[hql];exact hQ)
 ·rcases snoc_get hq' with h1|⟨rfl,rfl⟩
  ·exact h.qf e q' h1
  ·rw[hql];exact⟨hqk,fun hc=>absurd hc (by omega),fun _=>⟨hqy,hqc⟩⟩
theorem NewJ.out{k:Nat}{p:TpV}{v':Value}(h:NewJ W1 w m g caps rg kA kE kI k S D V ρ)(hb:Below w.heap.size w wa)(hp:TpM wa p)(hpy:p.ys=[])(hpn:∀b,p.own b→w.heap.size≤b)
  (ho:Only (fun q=>q=rg∨V.pl.ownBlock=some q) wa w') (krg:Blk w' rg 119 #[V.tl,V.el,V.il,v', .int .i64 (-1)])
  (orow:w'.ownsRow 0 160 1 v' (k+1) ((V.tps.map (·.g)).map (fun g=>Value.pointer (some ⟨g,0,none⟩))++[.pointer (some ⟨p.g,0,none⟩)])) (hv:∀b,v'.ownBlock=some b→V.pl.ownBlock=some b∨wa.heap.size≤b):
  ∃ρ',NewJ W1 w' m g caps rg kA kE kI (k+1) S D {V with pl:=v',tps:=V.tps++[p]} ρ':=by
 have hrg:=h.rig.rg;have hrr:=h.rig.rrg;rw[h.erg]at hrg hrr;have hsz:=hb.size;have hpl:=h.pl;obtain⟨ρ',hρ'⟩:∃f:Nat→Tg,∀b,f b=(if b<w.heap.size then ρ b else if b<wa.heap.size then .tape k else .rig 4):=⟨_,fun _=>rfl⟩
 have hρ:∀b,b<w.heap.size→ρ' b=ρ b:=fun b hb1=>(hρ' b).trans (if_pos hb1)
 obtain⟨hX,hnr⟩:=h.rigX h.rig.pl.r;have hO:Only (fun q=>q=rg∨V.pl.ownBlock=some q) w w':=(Only.of_below hb).trans ho
 have hqo:∀b,p.own b→¬(b=rg∨V.pl.ownBlock=some b):=fun b hb1 hx=>by
  have h1:=hpn b hb1;rcases hx with rfl|hx
  ·have:=hrg.lt;omega
  ·have:=own_lt' h.rig.pl.m hx;omega
 have hQ:TpT w' ρ' k p:=⟨hp.only ho hqo,fun b hb1=>by
  have h1:=hpn b hb1;have h2:=hp.own_lt hb1;rw[hρ',if_neg (by omega),if_pos h2]⟩
 have hmw:=h.mw;refine⟨ρ',?_⟩;refine{h with
  bel:=h.bel.trans (hO.belowM h.mw fun b hb1 hx=>?_)
  mw:=zy h.mw hO.size
  rig:=?_
  fx:=fun b hb1=>(hρ b (by omega)).trans (h.fx b hb1)
  pl:=by show(V.tps++[p]).length=k+1;rw[zx,hpl];rfl
  pf:=fun e q' hq'=>?_}
 ·obtain⟨r,hr⟩:=hX b (by omega) hx
  exact absurd (hr.symm.trans (h.fx b hb1)) (by simp)
 ·refine h.rig.rows (V':={V with pl:=v',tps:=V.tps++[p]}) hO hρ hX ?_ ?_ (h.rig.tl.only hO hρ fun b hb1 hx=>hnr b hb1 hx 1 (by omega) (by omega)) (h.rig.el.only hO hρ fun b hb1 hx=>hnr b hb1 hx 2 (by omega) (by omega)) (h.rig.il.only hO hρ fun b hb1 hx=>hnr b hb1 hx 3 (by omega) (by omega)) ⟨?_,fun b hb1=>?_⟩ (fun v s hs=> .inl hs) (fun e q' hq'=> .inl hq') (fun o p' hp'=>?_) (fun e q' hq'=>hq') fun o p' hp'=>zhC hp'
  ·show Blk w' V.rg _ #[V.tl,V.el,V.il,v', .int .i64 V.failed]
   rw[h.erg,h.ef];exact krg
  ·show ρ' V.rg=_
   rw[h.erg,hρ _ hrg.lt];exact hrr
  ·show w'.ownsRow 0 _ 1 v' ((V.tps++[p]).map (·.g)).length (((V.tps++[p]).map (·.g)).map fun g=>Value.pointer (some ⟨g,0,none⟩))
   rw[zA,zx,hpl,zad,zad];exact orow
  ·rcases hv b hb1 with h1|h1
   ·rw[hρ b (own_lt' h.rig.pl.m h1)];exact h.rig.pl.r b h1
   ·rw[hρ',if_neg (by omega),if_neg (by omega)]
  ·rcases snoc_get hp' with h1|⟨rfl,rfl⟩
   ·exact .inl h1
   ·exact .inr (by rw[hpl];exact hQ)
 ·rcases snoc_get hq' with h1|⟨rfl,rfl⟩
  ·exact h.pf e q' h1
  ·exact hpy
theorem NewJ.links{X:Nat→Prop}{S' D':LM}(h:NewJ W1 w m g caps rg kA kE kI kO S D V ρ)(ho:Only X w w')(hX:∀b,b<w.heap.size→X b→∃v r,ρ b= .task v r∧(r=5∨r=6))(us ud:Nat→List Lnk→List Lnk)
  (hs:∀(v:Nat) (t:TkV),V.tasks[v]?=some t→Blk w' t.bf 159 ((us v t.src).map Lnk.val).toArray∧(us v t.src).length=t.src.length∧(∀l∈us v t.src,l∈t.src∨V.okL l)∧∀(p:Nat) (l:Lnk),(us v t.src)[p]?=some l→l.lk=S' v p)
  (hd:∀(v:Nat) (t:TkV),V.tasks[v]?=some t→Blk w' t.bo 157 ((ud v t.dst).map Lnk.val).toArray∧(ud v t.dst).length=t.dst.length∧(∀l∈ud v t.dst,l∈t.dst∨V.okL l)∧∀(p:Nat) (l:Lnk),(ud v t.dst)[p]?=some l→l.lk=D' v p):
  NewJ W1 w' m g caps rg kA kE kI kO S' D' {V with tasks:=V.tasks.mapIdx fun i t=>{t with src:=us i t.src,dst:=ud i t.dst}} ρ:=by
 have hget:∀(v:Nat) (s:TkV),(V.tasks.mapIdx fun i t=>{t with src:=us i t.src,dst:=ud i t.dst})[v]?=some s→∃t,V.tasks[v]?=some t∧s={t with src:=us v t.src,dst:=ud v t.dst}:=fun v s hv=>by
  rw[List.getElem?_mapIdx]at hv;cases ht:V.tasks[v]? with
  |none=>rw[ht]at hv;cases hv
  |some t=>rw[ht]at hv;exact⟨t,rfl,(zq hv).symm⟩
 have hmw:=h.mw;refine{h with
  bel:=h.bel.trans (ho.belowM h.mw fun b hb1 hx=>?_)
  mw:=zy h.mw ho.size
  rig:=h.rig.links ho hX ?_ fun v s hv=>?_
  tl:=by show(V.tasks.mapIdx _).length=kA;rw[List.length_mapIdx];exact h.tl
  tf:=fun v s hv=>?_
  ts:=fun v s hv=>?_
  td:=fun v s hv=>?_}
 ·obtain⟨v,r,hr,-⟩:=hX b (by omega) hx
  exact absurd (hr.symm.trans (h.fx b hb1)) (by simp)
 ·refine zaf fun v=>?_
  rw[zp,zp,List.getElem?_mapIdx];cases V.tasks[v]?<;>rfl
 ·obtain⟨t,ht,rfl⟩:=hget v s hv;obtain⟨s1,s2,s3,-⟩:=hs v t ht;obtain⟨d1,d2,d3,-⟩:=hd v t ht;exact⟨t,ht,rfl,s1,d1,s2,d2,s3,d3⟩
 ·obtain⟨t,ht,rfl⟩:=hget v s hv;obtain⟨x,hx,hf⟩:=h.tf v t ht;exact⟨x,hx,{hf with}⟩
 ·obtain⟨t,ht,rfl⟩:=hget v s hv;exact(hs v t ht).2.2.2
 ·obtain⟨t,ht,rfl⟩:=hget v s hv;exact(hd v t ht).2.2.2
def zcR(v p:Nat)(l:Lnk):Nat→List Lnk→List Lnk:=fun i ls=>if i=v then ls.set p l else ls
theorem zfL{v p i q:Nat}{l l':Lnk}{ls:List Lnk}{S:LM}(h:(zcR v p l i ls)[q]?=some l')(hS:∀(q:Nat) (l:Lnk),ls[q]?=some l→l.lk=S i q):l'.lk=S.put v p l.lk i q:=by
 unfold zcR at h;by_cases hi:i=v
 ·subst hi;rw[if_pos rfl,zaJ]at h;by_cases hq:p=q
  ·subst hq;rw[LM.put_self];rw[if_pos rfl]at h;split at h
   ·rw[zq h]
   ·cases h
  ·rw[if_neg hq]at h;rw[LM.put_other _ _ (by omega)]
   exact hS q l' h
 ·rw[if_neg hi]at h;rw[LM.put_other _ _ (by omega)]
  exact hS q l' h
theorem setL_mem{v p i:Nat}{l l':Lnk}{ls:List Lnk}(h:l'∈zcR v p l i ls):l'∈ls∨l'=l:=by
 unfold zcR at h;split at h
 ·exact(mem_set h).symm
 ·exact .inl h
theorem zfM(v p i:Nat)(l:Lnk)(ls:List Lnk):(zcR v p l i ls).length=ls.length:=by
 unfold zcR;split
 ·rw[zaR]
 ·rfl
theorem zgw{V:RigV}{v p i:Nat}{l l':Lnk}{ls:List Lnk}(h:l'∈zcR v p l i ls)(hl:V.okL l):l'∈ls∨V.okL l':=by
 rcases setL_mem h with h|h
 ·exact .inl h
 ·exact .inr (h.symm▸hl)
theorem NewJ.link2{f fp t tp:Nat}{tf tt:TkV}{l:Lnk}(h:NewJ W1 w m g caps rg kA kE kI kO S D V ρ)(hf:V.tasks[f]?=some tf)(ht:V.tasks[t]?=some tt)(hl:V.okL l)(ho:Only (fun b=>b=tf.bo∨b=tt.bf) w w')
  (ko:Blk w' tf.bo 157 ((tf.dst.set fp l).map Lnk.val).toArray) (kf:Blk w' tt.bf 159 ((tt.src.set tp l).map Lnk.val).toArray):
  ∃V',NewJ W1 w' m g caps rg kA kE kI kO (S.put t tp l.lk) (D.put f fp l.lk) V' ρ∧V'.qs=V.qs∧V'.tps=V.tps:=by
 have Mf:=(h.rig.tk f tf hf).s;have Mt:=(h.rig.tk t tt ht).s;refine⟨_,h.links ho (fun b _ hx=>?_) (zcR t tp l) (zcR f fp l) (fun v s hs=>⟨?_,zfM _ _ _ _ _,fun l' hl'=>zgw hl' hl,fun p l' hl'=>zfL hl' (h.ts v s hs)⟩) fun v s hs=>⟨?_,zfM _ _ _ _ _,fun l' hl'=>zgw hl' hl,fun p l' hl'=>zfL hl' (h.td v s hs)⟩,rfl,rfl⟩
 ·rcases hx with rfl|rfl
  ·exact⟨f,6,Mf.rbo, .inr rfl⟩
  ·exact⟨t,5,Mt.rbf, .inl rfl⟩
 ·by_cases hv:v=t
  ·subst hv;obtain rfl:=zq (ht.symm.trans hs);unfold zcR;rw[if_pos rfl];exact kf
  ·unfold zcR;rw[if_neg hv];have Ms:=(h.rig.tk v s hs).s;refine Ms.bf.onlyT ho fun _ hx=>?_
   rcases hx with hx|hx
   ·have:=(hx▸Ms.rbf).symm.trans Mf.rbo;injection this with _ this;omega
   ·have:=(hx▸Ms.rbf).symm.trans Mt.rbf;injection this with this;exact hv this
 ·by_cases hv:v=f
  ·subst hv;obtain rfl:=zq (hf.symm.trans hs);unfold zcR;rw[if_pos rfl];exact ko
  ·unfold zcR;rw[if_neg hv];have Ms:=(h.rig.tk v s hs).s;refine Ms.bo.onlyT ho fun _ hx=>?_
   rcases hx with hx|hx
   ·have:=(hx▸Ms.rbo).symm.trans Mf.rbo;injection this with this;exact hv this
   ·have:=(hx▸Ms.rbo).symm.trans Mt.rbf;injection this with _ this;omega
theorem NewJ.linkS{t tp:Nat}{tt:TkV}{l:Lnk}(h:NewJ W1 w m g caps rg kA kE kI kO S D V ρ)(ht:V.tasks[t]?=some tt)(hl:V.okL l)(ho:Only (fun b=>b=tt.bf) w w')
  (kf:Blk w' tt.bf 159 ((tt.src.set tp l).map Lnk.val).toArray):
  ∃V',NewJ W1 w' m g caps rg kA kE kI kO (S.put t tp l.lk) D V' ρ∧V'.qs=V.qs∧V'.tps=V.tps:=by
 have Mt:=(h.rig.tk t tt ht).s;refine⟨_,h.links ho (fun b _ hx=>?_) (zcR t tp l) (fun _ ls=>ls) (fun v s hs=>⟨?_,zfM _ _ _ _ _,fun l' hl'=>zgw hl' hl,fun p l' hl'=>zfL hl' (h.ts v s hs)⟩) fun v s hs=>⟨?_,rfl,fun l' hl'=> .inl hl',h.td v s hs⟩,rfl,rfl⟩
 ·subst hx;exact⟨t,5,Mt.rbf, .inl rfl⟩
 ·by_cases hv:v=t
  ·subst hv;obtain rfl:=zq (ht.symm.trans hs);unfold zcR;rw[if_pos rfl];exact kf
  ·unfold zcR;rw[if_neg hv];have Ms:=(h.rig.tk v s hs).s;refine Ms.bf.onlyT ho fun _ hx=>?_
   have:=(hx▸Ms.rbf).symm.trans Mt.rbf;injection this with this;exact hv this
 ·have Ms:=(h.rig.tk v s hs).s;refine Ms.bo.onlyT ho fun _ hx=>?_
  have:=(hx▸Ms.rbo).symm.trans Mt.rbf;injection this with _ this;omega
theorem NewJ.linkD{f fp:Nat}{tf:TkV}{l:Lnk}(h:NewJ W1 w m g caps rg kA kE kI kO S D V ρ)(hf:V.tasks[f]?=some tf)(hl:V.okL l)(ho:Only (fun b=>b=tf.bo) w w')
  (ko:Blk w' tf.bo 157 ((tf.dst.set fp l).map Lnk.val).toArray):
  ∃V',NewJ W1 w' m g caps rg kA kE kI kO S (D.put f fp l.lk) V' ρ∧V'.qs=V.qs∧V'.tps=V.tps:=by
 have Mf:=(h.rig.tk f tf hf).s;refine⟨_,h.links ho (fun b _ hx=>?_) (fun _ ls=>ls) (zcR f fp l) (fun v s hs=>⟨?_,rfl,fun l' hl'=> .inl hl',h.ts v s hs⟩) fun v s hs=>⟨?_,zfM _ _ _ _ _,fun l' hl'=>zgw hl' hl,fun p l' hl'=>zfL hl' (h.td v s hs)⟩,rfl,rfl⟩
 ·subst hx;exact⟨f,6,Mf.rbo, .inr rfl⟩
 ·have Ms:=(h.rig.tk v s hs).s;refine Ms.bf.onlyT ho fun _ hx=>?_
  have:=(hx▸Ms.rbf).symm.trans Mf.rbo;injection this with _ this;omega
 ·by_cases hv:v=f
  ·subst hv;obtain rfl:=zq (hf.symm.trans hs);unfold zcR;rw[if_pos rfl];exact ko
  ·unfold zcR;rw[if_neg hv];have Ms:=(h.rig.tk v s hs).s;refine Ms.bo.onlyT ho fun _ hx=>?_
   have:=(hx▸Ms.rbo).symm.trans Mf.rbo;injection this with this;exact hv this
end
def countF(xs:List Int)(v:Nat):Int:=(xs.count (v:Int):Nat)
theorem zfW{ars:List ArcV}{n:Nat}{F:Nat→Int}{v:Nat}:mayB ars n F v=true↔v<n∧∀i,i<ars.length→(arcAt ars i).t=v→(arcAt ars i).k≤tokI ars F i:=by
 unfold mayB shortO;rw[zag,decide_eq_true_eq,zE,Option.isNone_iff_eq_none,List.find?_eq_none];constructor
 ·rintro⟨h1,h2⟩;refine⟨by omega,fun i hi ht=>?_⟩
  have:=h2 i (zM.2 hi)
  simp only[ht,decide_true,za3,zd6,decide_eq_true_eq]at this;unfold tokI;omega
 ·rintro⟨h1,h2⟩;refine⟨by omega,fun i hi=>?_⟩
  have hi':=zM.1 hi;simp only[zag,decide_eq_true_eq,zd6,not_and];intro ht
  have:=h2 i hi' ht
  unfold tokI at this;omega
inductive zeP(ars:List ArcV)(n:Nat)(rs:List Int):(Nat→Int)→Prop
 |zero:zeP ars n rs fun _=>0
 |step {F:Nat→Int} {v:Nat}:zeP ars n rs F→0<leftF rs F v→mayB ars n F v=true→zeP ars n rs (bump F v)
def Final(ars:List ArcV)(n:Nat)(rs:List Int)(F:Nat→Int):Prop:=∀v,v<n→0<leftF rs F v→mayB ars n F v=false
theorem zeP.far{ars:List ArcV}{n:Nat}{rs:List Int}{F:Nat→Int}(h:zeP ars n rs F):∀j,n≤j→F j=0:=by
 induction h with
 |zero=>intro j _;rfl
 | @step F v _ _ hm ih=>
   intro j hj
   have:=(zfW.1 hm).1
   unfold bump;rw[zaI (by omega)]
   exact ih j hj
theorem zeP.le_reps{ars:List ArcV}{n:Nat}{rs:List Int}{F:Nat→Int}(hr:∀v:Nat,v<n→0≤repAt rs v)(h:zeP ars n rs F):∀j,j<n→F j≤repAt rs j:=by
 induction h with
 |zero=>intro j hj;exact hr j hj
 | @step F v _ hl hm ih=>
   intro j hj
   have:=ih j hj
   unfold bump;by_cases hjv:j=v
   ·subst hjv;rw[zaW];unfold leftF at hl;omega
   ·rw[zaI hjv];exact this
def zks(ars:List ArcV)(n:Nat)(rs:List Int)(pick:(Nat→Int)→Int):Prop:=∀F,¬0≤pick F→Final ars n rs F
theorem leftSum_zero{n:Nat}{L:Nat→Int}(h:leftSum n L=0):∀v,v<n→L v≤0:=by
 induction n with
 |zero=>intro v hv;omega
 |succ n ih=>
  unfold leftSum at*;rw[zaO,zad,zda]at h;simp only[zcn,zdk,List.sum_cons,List.sum_nil]at h;intro v hv;by_cases hvn:v=n
  ·subst hvn;omega
  ·exact ih (by omega) v (by omega)
theorem znY{ars:List ArcV}{n:Nat}{rs:List Int}{pick:(Nat→Int)→Int}(hp:zhq ars n rs pick)(ha:zks ars n rs pick):∀(f:Nat) (F:Nat→Int),zeP ars n rs F→leftSum n (leftF rs F)≤f→
  zeP ars n rs (runF pick f F).2∧Final ars n rs (runF pick f F).2∧(∀v,countF (runF pick f F).1 v=(runF pick f F).2 v-F v)∧zbP (n:Int) (runF pick f F).1=true:=by
 intro f
 induction f with
 |zero=>
  intro F hR hs;refine⟨hR,fun v hv hl=>?_,fun v=>?_,rfl⟩
  ·have:=leftSum_zero (show leftSum n (leftF rs F)=0 by omega) v hv
   have hl':0<leftF rs F v:=hl
   omega
  ·simp[runF,countF]
 |succ f ih=>
  intro F hR hs;by_cases h:0≤pick F
  ·obtain⟨v,e,hv,hl,hm⟩:=hp F h;have hsum:=zfr (leftF rs F) v n hv hl;rw[←zfg]at hsum;obtain⟨i1,i2,i3,i4⟩:=ih (bump F v) (.step hR hl hm) (by omega)
   simp only[runF];rw[if_pos h,e,zE];refine⟨i1,i2,fun j=>?_,?_⟩
   ·have:=i3 j
    simp only
    unfold countF at this⊢;rw[List.count_cons];unfold bump at this⊢;by_cases hj:j=v
    ·subst hj;rw[zaW]at this;simp only[beq_self_eq_true,if_true];omega
    ·rw[zaI hj]at this;have hb:((v:Int)==(j:Int))=false:=by simp;omega
     rw[hb]
     simpa using this
   ·unfold zbP at i4⊢;simp only[zcZ,i4,Bool.and_true,decide_eq_true_eq];omega
  ·rw[zif h];refine⟨hR,ha F h,fun v=>?_,rfl⟩
   simp[countF]
theorem zmE(ars:List ArcV)(n:Nat)(F Lf K:Nat→Int)(k:Nat)(h:¬0≤bestF ars n F Lf K k):∀v,v<k→0<Lf v→mayB ars n F v=false:=by
 induction k with
 |zero=>intro v hv;omega
 |succ k ih=>
  rw[zeR]at h;unfold zej at h;split at h
  ·exact absurd (show(0:Int)≤(k:Int) by omega) h
  ·rename_i h1
   intro v hv hl;by_cases hvk:v=k
   ·subst hvk;cases hm:mayB ars n F v with
    |false=>rfl
    |true=>exact absurd ⟨hl,hm, .inl (by omega)⟩ h1
   ·exact ih h v (by omega) hl
theorem zmF(ars:List ArcV)(n:Nat)(rs ps:List Int):zks ars n rs (pickS ars n rs ps):=fun _ h v hv hl=>zmE _ _ _ _ _ _ h v hv hl
theorem zjk{n:Int}{ars:List ArcV}{rs ps:List Int}(h:wrongF n ars rs ps=0):∃m:Nat,n=m∧checkF m ars=0∧zbX m ars∧rs.length=m∧rs.all zcy=true∧ars.all (zcG rs)=true∧sumF rs≤2048∧zbP n ps=true:=by
 unfold wrongF at h;split at h
 ·split at h
  ·rename_i h2
   obtain⟨a,b,c,d⟩:=zgJ h2;obtain⟨m,rfl,hN⟩:=netOk_of a;split at h
   ·cases h
   ·split at h
    ·rename_i h3 h4
     exact⟨m,rfl,a,hN,by omega,c,d,by omega,h4⟩
    ·cases h
  ·cases h
 ·rename_i h1;exact absurd h h1
theorem znZ{pick:(Nat→Int)→Int}:∀f F,(runF pick f F).1.length≤f:=by
 intro f
 induction f with
 |zero=>intro F;simp[runF]
 |succ f ih=>
  intro F;simp only[runF];split
  ·have:=ih (bump F (pick F).toNat);simp only[zaG];omega
  ·simp
theorem zlD{rs:List Int}(h:rs.all zcy=true):∀k,k≤rs.length→(leftSum k (leftF rs fun _=>0):Int)=sumF (rs.take k):=by
 intro k
 induction k with
 |zero=>intro _;simp[leftSum,sumF]
 |succ k ih=>
  intro hk;have h1:=ih (by omega)
  have h2:=zca h (f:=k) (by omega)
  have h3:rs[k]?=some (repAt rs k):=by
   unfold repAt;rw[zE,zk (by omega:k<rs.length)]
   rfl
  have h4:leftSum (k+1) (leftF rs fun _=>0)=leftSum k (leftF rs fun _=>0)+(repAt rs k).toNat:=by
   unfold leftSum;rw[zaO,zad,zda];simp[leftF]
  rw[zgp h3,←h1,h4];omega
end Go.Proofs.YtpmlljbebdidgaaGreatDoor
