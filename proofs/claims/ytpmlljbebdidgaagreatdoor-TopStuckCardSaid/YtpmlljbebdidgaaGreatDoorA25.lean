/- Lemmas and walks for the claim: Ee, Ef. -/
import Derived.Test.YtpmlljbebdidgaaGreatDoorA24
import Derived.Test.YtpmlljbebdidgaaGreatDoorA0
set_option maxHeartbeats 4000000
namespace Go.Proofs.YtpmlljbebdidgaaGreatDoor
open Go.RowKit
theorem TpT.not_task{w:World}{ρ:Nat→Tg}{o:Nat}{p:TpV}(h:TpT w ρ o p){b v r:Nat}(hb:ρ b= .task v r):¬p.own b:=fun hq=>by
 have:=(h.r b hq).symm.trans hb
 cases this
theorem TkG.first{w:World}{ρ:Nat→Tg}{v:Nat}{t:TkV}(M:TkM w ρ v t)(hg:t.gives=true):
  ∃r b o m d x cur,t.gift[t.port]?=some r∧r.A=some ⟨b,o,none⟩∧r.xs.length=m+1∧r.c=d+1∧m≤d∧m≤64∧b<w.heap.size∧w.cell? ⟨b,o,none⟩=some (.int .i64 x)∧fits x∧Blk w t.gg 36 cur∧(∀(i:Nat) (r:RowV),t.gift[i]?=some r→cur[i]?=some r.val)∧r.val= .slice (some ⟨b,o,none⟩) (m+1) (d+1):=by
 have TG:=M.g hg;have hp:=M.sh.p1 hg;obtain⟨r,hr⟩:=get_of_lt (l:=t.gift) (i:=t.port) (by rw[TG.lg];exact hp)
 obtain⟨mo,hmo⟩:=get_of_lt hp;have h0:=((M.sh.g1 hg t.port r mo hr hmo).2.1 rfl).1;obtain⟨rok,-⟩:=TG.ok t.port r hr;obtain⟨b,o,x,hA,hb,hx,hxf,hc⟩:=rok.at_ h0;obtain⟨cur,hcb,hcc⟩:=TG.row
 have:=rok.cap
 have:=rok.few
 refine⟨r,b,o,r.xs.length-1,r.c-1,x,cur,hr,hA,by omega,by omega,by omega,by omega,hb,hc,hxf,hcb,hcc,?_⟩
 unfold RowV.val;rw[hA,show r.xs.length-1+1=r.xs.length by omega,show r.c-1+1=r.c by omega]
theorem giveQ_rig(V:RigV)(ρ:Nat→Tg)(N v e g:Nat)(t:TkV)(q:QV)(w0:World)(h:RigM w0 ρ V)(hb:V.bnd N)(hro:V.room)(hN:N<4611686018427387904)(hv:V.tasks[v]?=some t)(hg:t.gives=true)(hs:t.dst[t.port]?=some (.que e g))(hq:V.qs[e]?=some q)(hqg:q.g=g)(hfree:0<q.free):
  Calls Tryz.prog 66 #[.pointer (some ⟨t.bt,0,none⟩)] w0 (StepOut V ρ N v t w0):=by
 subst hqg;have M:=h.tk v t hv;have Q:=h.qu e q hq;have hp:=M.sh.p1 hg;obtain⟨hfi,hfo⟩:=KdV.rates_few M.k.kd.rt;obtain⟨r,b,o,m,d,x,cur,hr,hA,hrl,hrc,hmd,hm64,hbw,hx,hxf,hcb,hcc,hval⟩:=TkG.first M hg;have TG:=M.g hg;have hbt:=hb t (get_mem hv);have hbq:=hro.1 q (get_mem hq);have kb:Blk w0 t.bt 125 (givC (.pointer (some ⟨t.bb,0,none⟩)) (.slice (some ⟨t.bf,0,none⟩) t.rin.length t.rin.length) t.bo t.rout.length t.I t.rin.length t.cI t.O t.cO (.slice (some ⟨t.bh,0,none⟩) t.rin.length t.rin.length) t.gg t.cg t.port t.wh):=by
  have:=M.bt
  unfold TkV.cells TkV.gval at this;simp only[hg,if_true]at this;exact this
 let R:World→Prop:=fun w1=>∃lv,QuM w1 {q with lv:=lv,ys:=q.ys++[x]}∧Only q.own w0 w1∧∀b,lv.ownBlock=some b→q.lv.ownBlock=some b∨w0.heap.size≤b
 have nbt:¬q.own t.bt:=Q.not_task M.rbt
 have nbg:¬q.own t.gg:=Q.not_task TG.rgg
 refine(give_any t.bt t.bo t.rout.length t.port _ _ _ t.I t.rin.length t.cI t.O t.cO t.gg t.cg t.wh (t.dst.map Lnk.val) cur _ _ _ b o m d x R w0 kb M.s.bo hcb hp hfo.1 hfi.1 (by omega) (map_get Lnk.val hs) (by rw[hcc _ r hr,hval]) hmd hm64 hbw hx (tag_ne M.rbt TG.rgg (by omega)) (chn_give q.g) chn_give_call
  (fun w' hb'=>(chGive_any q x w' (Q.m.below hb') hxf hfree (by omega)).mono ?_) ?_).mono ?_
 ·rintro e' w'' ⟨rfl,lv,h1,h4,h5⟩;exact⟨rfl,lv,h1,(Only.of_below hb').trans h4,fun b hb1=>(h5 b hb1).imp id fun h=>Nat.le_trans hb'.size h⟩
 ·rintro w' ⟨lv,h1,h4,h5⟩;exact⟨kb.only h4 nbt,hcb.only h4 nbg⟩
 ·rintro e' w' ⟨rfl,w1,o2,⟨lv,h1,h4,h5⟩,ho2,h6,G⟩;have hz1:=h4.size;have hz2:=h6.size
  let ρ':Nat→Tg:=fun b=>if b<w0.heap.size then ρ b else if b<w1.heap.size then .que e else .task v 2
  have hρ:∀b,b<w0.heap.size→ρ' b=ρ b:=fun b hb1=>if_pos hb1
  obtain⟨t',M',est,en,ewh,eφ,ehd,erm⟩:=gave_task M hg hr hcb hcc hA hrl hrc h4 Q.r (by simp) (by simp) h6 ho2 hρ (fun b hb1=>by
   show(if b<w0.heap.size then ρ b else if b<w1.heap.size then Tg.que e else .task v 2)=_
   rw[if_neg (by omega),if_neg (by omega)]) G
  have hO:Only (fun b=>q.own b∨(b=t.bt∨b=t.gg)) w0 w':=(h4.mono fun b _ hb1=>Or.inl hb1).trans (h6.mono fun b _ hb1=>Or.inr hb1)
  let C:Tg→Prop:=fun g=>g= .que e∨g= .task v 0∨g= .task v 3
  have hX:∀b,b<w0.heap.size→(q.own b∨(b=t.bt∨b=t.gg))→C (ρ b):=fun b _ hx=>by
   rcases hx with hx|rfl|rfl
   ·exact .inl (Q.r b hx)
   ·exact .inr (.inl M.rbt)
   ·exact .inr (.inr TG.rgg)
  have hqT:QuT w' ρ' e {q with lv:=lv,ys:=q.ys++[x]}:=by
   have hlo:∀b,QV.own {q with lv:=lv,ys:=q.ys++[x]} b→b<w0.heap.size→ρ b= .que e:=fun b hb1 hlt=>by
    rcases hb1 with rfl|hb1
    ·exact Q.r _ (.inl rfl)
    ·rcases h5 b hb1 with h'|h'
     ·exact Q.r b (.inr h')
     ·omega
   refine⟨h1.only h6 fun b hb1 hx=>?_,fun b hb1=>?_⟩
   ·rcases hx with rfl|rfl
    ·exact absurd ((hlo _ hb1 M.bt.lt).symm.trans M.rbt) (by simp)
    ·exact absurd ((hlo _ hb1 hcb.lt).symm.trans TG.rgg) (by simp)
   ·have hb2:=h1.own_lt hb1;show(if b<w0.heap.size then ρ b else if b<w1.heap.size then Tg.que e else .task v 2)=_
    by_cases hlt:b<w0.heap.size
    ·rw[if_pos hlt];exact hlo b hb1 hlt
    ·rw[if_neg hlt,if_pos hb2]
  simp only[TkV.stat,Prod.mk.injEq]at est;obtain⟨e1,e2,e3,e4,e5⟩:=est;refine⟨true,{V with tasks:=V.tasks.set v t',qs:=V.qs.set e {q with lv:=lv,ys:=q.ys++[x]},tps:=V.tps},ρ',rfl,⟨hρ,hO.mono fun b hb1 hx he=>by have h':=hX b hb1 hx;rw[he]at h';simp[C]at h'⟩,?_,?_,rfl,?_,?_⟩
  ·refine h.step (C:=C) hO hρ hX (by simp[C]) (by simp[C]) (by simp[C];intro u r h;rcases h with h|h<;>exact h.1) hv M' e1 e4 e5 (fun e1=>?_) fun o=> .inl ⟨rfl,by simp[C]⟩
   rw[get_set hq];by_cases he:e1=e
   ·subst he;exact .inr ⟨q,_,hq,if_pos rfl,rfl,hqT⟩
   ·exact .inl ⟨if_neg he,by simp[C,he]⟩
  ·exact⟨rfl,rfl,map_set_same _ hv (by simp only[TkV.stat,e1,e2,e3,e4,e5]),map_set_same _ hq rfl⟩
  ·intro s hs;rcases mem_set hs with rfl|hs
   ·rw[en];omega
   ·have:=hb s hs
    omega
  ·have hqle:=Q.m.le;have hlen:QV.len {q with lv:=lv,ys:=q.ys++[x]}=q.len+1:=by
    unfold QV.len;show(q.ys++[x]).length-q.k=_
    rw[List.length_append];show q.ys.length+1-q.k=_
    omega
   refine .giveQ e q.g hg hp hs (fun u=>?_) (fun u i=>?_) (fun u i=>?_) (fun e'=>?_) (fun e'=>?_) (fun o=>rfl)
   ·rw[φ_set hv,eφ];by_cases hu:u=v
    ·subst hu;rw[if_pos rfl,φ_at hv,hg];rfl
    ·rw[if_neg hu]
   ·rw[hd_set hv];by_cases hu:u=v
    ·subst hu;rw[if_pos rfl,hd_at hv,ehd];unfold TkV.hd;rw[if_pos hg]
    ·rw[if_neg hu]
   ·rw[rm_set hv];by_cases hu:u=v
    ·subst hu;rw[if_pos rfl,rm_at hv,erm];by_cases hi:i=t.port
     ·rw[if_pos hi,if_pos ⟨rfl,hi⟩]
     ·rw[if_neg hi,if_neg fun hc=>hi hc.2]
    ·rw[if_neg hu,if_neg fun hc=>hu hc.1]
   ·rw[ql_set hq];by_cases he:e'=e
    ·subst he;rw[if_pos rfl,if_pos rfl,hlen,ql_at hq]
    ·rw[if_neg he,if_neg he]
   ·rw[yl_set hq];by_cases he:e'=e
    ·subst he;rw[if_pos rfl,if_pos rfl,yl_at hq];show(q.ys++[x]).length=_
     rw[List.length_append]
     rfl
    ·rw[if_neg he,if_neg he]
theorem giveT_rig(V:RigV)(ρ:Nat→Tg)(N v o' g:Nat)(t:TkV)(q:TpV)(w0:World)(h:RigM w0 ρ V)(hb:V.bnd N)(hro:V.room)(hN:N<4611686018427387904)(hv:V.tasks[v]?=some t)(hg:t.gives=true)(hs:t.dst[t.port]?=some (.tape o' g))(hq:V.tps[o']?=some q)(hqg:q.g=g):
  Calls Tryz.prog 66 #[.pointer (some ⟨t.bt,0,none⟩)] w0 (StepOut V ρ N v t w0):=by
 subst hqg;have M:=h.tk v t hv;have Q:=h.tp o' q hq;have hp:=M.sh.p1 hg;obtain⟨hfi,hfo⟩:=KdV.rates_few M.k.kd.rt;obtain⟨r,b,o,m,d,x,cur,hr,hA,hrl,hrc,hmd,hm64,hbw,hx,hxf,hcb,hcc,hval⟩:=TkG.first M hg;have TG:=M.g hg;have hbt:=hb t (get_mem hv);have hbq:=hro.2 q (get_mem hq);have kb:Blk w0 t.bt 125 (givC (.pointer (some ⟨t.bb,0,none⟩)) (.slice (some ⟨t.bf,0,none⟩) t.rin.length t.rin.length) t.bo t.rout.length t.I t.rin.length t.cI t.O t.cO (.slice (some ⟨t.bh,0,none⟩) t.rin.length t.rin.length) t.gg t.cg t.port t.wh):=by
  have:=M.bt
  unfold TkV.cells TkV.gval at this;simp only[hg,if_true]at this;exact this
 let R:World→Prop:=fun w1=>∃lv,TpM w1 {q with lv:=lv,ys:=q.ys++[x]}∧Only q.own w0 w1∧∀b,lv.ownBlock=some b→q.lv.ownBlock=some b∨w0.heap.size≤b
 have nbt:¬q.own t.bt:=Q.not_task M.rbt
 have nbg:¬q.own t.gg:=Q.not_task TG.rgg
 refine(give_any t.bt t.bo t.rout.length t.port _ _ _ t.I t.rin.length t.cI t.O t.cO t.gg t.cg t.wh (t.dst.map Lnk.val) cur _ _ _ b o m d x R w0 kb M.s.bo hcb hp hfo.1 hfi.1 (by omega) (map_get Lnk.val hs) (by rw[hcc _ r hr,hval]) hmd hm64 hbw hx (tag_ne M.rbt TG.rgg (by omega)) (tap_give q.g) tap_give_call
  (fun w' hb'=>(tpGive_any q x w' (Q.m.below hb') (by omega)).mono ?_) ?_).mono ?_
 ·rintro e' w'' ⟨rfl,lv,h1,h4,h5⟩;exact⟨rfl,lv,h1,(Only.of_below hb').trans h4,fun b hb1=>(h5 b hb1).imp id fun h=>Nat.le_trans hb'.size h⟩
 ·rintro w' ⟨lv,h1,h4,h5⟩;exact⟨kb.only h4 nbt,hcb.only h4 nbg⟩
 ·rintro e' w' ⟨rfl,w1,o2,⟨lv,h1,h4,h5⟩,ho2,h6,G⟩;have hz1:=h4.size;have hz2:=h6.size
  let ρ':Nat→Tg:=fun b=>if b<w0.heap.size then ρ b else if b<w1.heap.size then .tape o' else .task v 2
  have hρ:∀b,b<w0.heap.size→ρ' b=ρ b:=fun b hb1=>if_pos hb1
  obtain⟨t',M',est,en,ewh,eφ,ehd,erm⟩:=gave_task M hg hr hcb hcc hA hrl hrc h4 Q.r (by simp) (by simp) h6 ho2 hρ (fun b hb1=>by
   show(if b<w0.heap.size then ρ b else if b<w1.heap.size then Tg.tape o' else .task v 2)=_
   rw[if_neg (by omega),if_neg (by omega)]) G
  have hO:Only (fun b=>q.own b∨(b=t.bt∨b=t.gg)) w0 w':=(h4.mono fun b _ hb1=>Or.inl hb1).trans (h6.mono fun b _ hb1=>Or.inr hb1)
  let C:Tg→Prop:=fun g=>g= .tape o'∨g= .task v 0∨g= .task v 3
  have hX:∀b,b<w0.heap.size→(q.own b∨(b=t.bt∨b=t.gg))→C (ρ b):=fun b _ hx=>by
   rcases hx with hx|rfl|rfl
   ·exact .inl (Q.r b hx)
   ·exact .inr (.inl M.rbt)
   ·exact .inr (.inr TG.rgg)
  have hqT:TpT w' ρ' o' {q with lv:=lv,ys:=q.ys++[x]}:=by
   have hlo:∀b,TpV.own {q with lv:=lv,ys:=q.ys++[x]} b→b<w0.heap.size→ρ b= .tape o':=fun b hb1 hlt=>by
    rcases hb1 with rfl|hb1
    ·exact Q.r _ (.inl rfl)
    ·rcases h5 b hb1 with h'|h'
     ·exact Q.r b (.inr h')
     ·omega
   refine⟨h1.only h6 fun b hb1 hx=>?_,fun b hb1=>?_⟩
   ·rcases hx with rfl|rfl
    ·exact absurd ((hlo _ hb1 M.bt.lt).symm.trans M.rbt) (by simp)
    ·exact absurd ((hlo _ hb1 hcb.lt).symm.trans TG.rgg) (by simp)
   ·have hb2:=h1.own_lt hb1;show(if b<w0.heap.size then ρ b else if b<w1.heap.size then Tg.tape o' else .task v 2)=_
    by_cases hlt:b<w0.heap.size
    ·rw[if_pos hlt];exact hlo b hb1 hlt
    ·rw[if_neg hlt,if_pos hb2]
  simp only[TkV.stat,Prod.mk.injEq]at est;obtain⟨e1,e2,e3,e4,e5⟩:=est;refine⟨true,{V with tasks:=V.tasks.set v t',qs:=V.qs,tps:=V.tps.set o' {q with lv:=lv,ys:=q.ys++[x]}},ρ',rfl,⟨hρ,hO.mono fun b hb1 hx he=>by have h':=hX b hb1 hx;rw[he]at h';simp[C]at h'⟩,?_,?_,rfl,?_,?_⟩
  ·refine h.step (C:=C) hO hρ hX (by simp[C]) (by simp[C]) (by simp[C];intro u r h;rcases h with h|h<;>exact h.1) hv M' e1 e4 e5 (fun e1=> .inl ⟨rfl,by simp[C]⟩) fun o1=>?_
   rw[get_set hq];by_cases he:o1=o'
   ·subst he;exact .inr ⟨q,_,hq,if_pos rfl,rfl,hqT⟩
   ·exact .inl ⟨if_neg he,by simp[C,he]⟩
  ·exact⟨rfl,rfl,map_set_same _ hv (by simp only[TkV.stat,e1,e2,e3,e4,e5]),rfl⟩
  ·intro s hs;rcases mem_set hs with rfl|hs
   ·rw[en];omega
   ·have:=hb s hs
    omega
  ·refine .giveT o' q.g hg hp hs (fun u=>?_) (fun u i=>?_) (fun u i=>?_) (fun e'=>rfl) (fun e'=>rfl) (fun o1=>?_)
   ·rw[φ_set hv,eφ];by_cases hu:u=v
    ·subst hu;rw[if_pos rfl,φ_at hv,hg];rfl
    ·rw[if_neg hu]
   ·rw[hd_set hv];by_cases hu:u=v
    ·subst hu;rw[if_pos rfl,hd_at hv,ehd];unfold TkV.hd;rw[if_pos hg]
    ·rw[if_neg hu]
   ·rw[rm_set hv];by_cases hu:u=v
    ·subst hu;rw[if_pos rfl,rm_at hv,erm];by_cases hi:i=t.port
     ·rw[if_pos hi,if_pos ⟨rfl,hi⟩]
     ·rw[if_neg hi,if_neg fun hc=>hi hc.2]
    ·rw[if_neg hu,if_neg fun hc=>hu hc.1]
   ·rw[zl_set hq];by_cases he:o1=o'
    ·subst he;rw[if_pos rfl,if_pos rfl,zl_at hq];show(q.ys++[x]).length=_
     rw[List.length_append]
     rfl
    ·rw[if_neg he,if_neg he]
theorem FireOut.from{w w1:World}{bk:Nat}{κ:KdV}{rin rout:List Int}{Ai Ao:Option Addr}{ci co:Nat}{n:Int}{e:Ending}{w':World}(h:FireOut w1 bk κ rin rout Ai ci Ao co n e w')(hb:Below w.heap.size w w1):FireOut w bk κ rin rout Ai ci Ao co n e w':=by
 obtain⟨gv,ec,h1,z,h2,⟨κ',n',h3,h4,h5,h6⟩,h7,h8,h9⟩:=h;exact⟨gv,ec,h1,z,Nat.le_trans hb.size h2,⟨κ',n',h3,h4,h5,fun q hq=>⟨(h6 q hq).1,(h6 q hq).2.imp id fun h=>Nat.le_trans hb.size h⟩⟩,(Only.of_below hb).trans h7,h8,h9⟩
theorem rd_at{w:World}{B b:Nat}{cs:List Value}(h:Rd w B (some ⟨b,0,none⟩) cs){i:Nat}{u:Value}(hu:cs[i]?=some u):w.cell? ⟨b,i,none⟩=some u:=by
 rcases h with h|⟨b',off,hA,-,hc⟩
 ·rw[h]at hu;cases hu
 ·injection hA with hA
  injection hA with e1 e2 _
  subst e1 e2
  have:=hc i u hu
  rwa [Nat.zero_add]at this
theorem TkK.fired{w w1 w':World}{ρ ρ':Nat→Tg}{v:Nat}{t t':TkV}{κ':KdV}{n':Int}{z:Nat}(M:TkM w ρ v t)(K:KdM w1 t.bk κ' t.rin t.rout t.Ai t.ci t.Ao t.co n')(hf:∀q,κ'.fix q→q<z∧(t.κ.fix q∨w.heap.size≤q))(hz:w.heap.size≤w1.heap.size)(ho:Only (fun q=>q=t.bt) w1 w')
  (hρ:∀q,q<w.heap.size→ρ' q=ρ q) (hρ2:∀q,w.heap.size≤q→κ'.fix q→ρ' q= .fix) (e0:t'.bk=t.bk) (e1:t'.κ=κ') (e2:t'.rin=t.rin) (e3:t'.rout=t.rout) (e4:t'.Ai=t.Ai) (e5:t'.ci=t.ci) (e6:t'.Ao=t.Ao) (e7:t'.co=t.co) (e8:t'.n=n'):TkK w' ρ' v t':=by
 have hold:∀q,κ'.fx t.Ai t.Ao q→(q<w.heap.size∧ρ q= .fix)∨(w.heap.size≤q∧κ'.fix q):=fun q hq=>by
  rcases hq with hq|hq|hq
  ·exact .inl (M.k.rfx q (.inl hq))
  ·exact .inl (M.k.rfx q (.inr (.inl hq)))
  ·rcases(hf q hq).2 with h|h
   ·exact .inl (M.k.rfx q (.inr (.inr h)))
   ·exact .inr ⟨h,hq⟩
 refine⟨?_,by rw[e0,hρ _ M.k.kd.blk.lt];exact M.k.rbk,?_⟩
 ·rw[e0,e1,e2,e3,e4,e5,e6,e7,e8];refine K.only ho (tag_ne M.k.rbk M.rbt (by omega)) fun q hq he=>?_
  have hbt:=M.bt.lt;rcases hold q hq with⟨-,h⟩|⟨h,-⟩
  ·rw[he]at h;exact absurd (h.symm.trans M.rbt) (by simp)
  ·omega
 ·rw[e1,e4,e6];intro q hq;rcases hold q hq with⟨h1,h2⟩|⟨h1,h2⟩
  ·exact⟨by have:=ho.size;omega,(hρ q h1).trans h2⟩
  ·exact⟨Nat.lt_of_lt_of_le (K.ex.lt h2) ho.size,hρ2 q h1 h2⟩
theorem reckon_rig(V:RigV)(ρ:Nat→Tg)(N v:Nat)(t:TkV)(w0:World)(h:RigM w0 ρ V)(hb:V.bnd N)(hN:N<4611686018427387904)(hv:V.tasks[v]?=some t)(hg:t.gives=false)(hp:t.port=t.rin.length):
  Calls Tryz.prog 66 #[.pointer (some ⟨t.bt,0,none⟩)] w0 (StepOut V ρ N v t w0):=by
 have M:=h.tk v t hv;obtain⟨hfi,hfo⟩:=KdV.rates_few M.k.kd.rt;have hbt:=hb t (get_mem hv);have kb:Blk w0 t.bt 125 (rckC t.bb (.slice (some ⟨t.bf,0,none⟩) t.rin.length t.rin.length) (.slice (some ⟨t.bo,0,none⟩) t.rout.length t.rout.length) t.I t.rin.length t.cI t.O t.rout.length t.cO t.bh t.gval t.wh):=by
  have:=M.bt
  unfold TkV.cells at this;rw[hg,hp]at this;exact this
 have hgv:t.gval=t.gv:=by unfold TkV.gval;rw[hg];rfl
 have hlen:t.hand.map (fun r=>(r.xs.length:Int))=t.rin:=by
  refine List.ext_getElem? fun i=>?_
  rw[List.getElem?_map];cases hr:t.hand[i]? with
  |none=>
   rw[List.getElem?_eq_none_iff,M.h.lh,←List.getElem?_eq_none_iff]at hr;exact hr.symm
  |some r=>
   obtain⟨m,hm⟩:=get_of_lt (l:=t.rin) (i:=i) (by rw[←M.h.lh];exact get_lt hr)
   have hil:=get_lt hm;rw[hm];show some ((r.xs.length:Int))=some m
   rw[(M.sh.h1 hg i r m hr hm).1 (by omega)]
 have hI:InM w0 w0.heap.size (some ⟨t.bh,0,none⟩) t.hand:=by
  refine⟨rd_blk M.h.bh,fun r hr=>?_,by rw[M.h.lh];exact hfi.1⟩
  obtain⟨i,hi⟩:=List.getElem?_of_mem hr;obtain⟨g1,g2,-⟩:=M.h.own i r hi;have g1':w0.ownsRow 0 3 1 (.slice r.A r.xs.length r.c) r.xs.length (cellsI r.xs):=g1;obtain⟨_,_,hc,hle⟩:=own_slice g1';injection hc with _ _ hc;have hm:((r.xs.length:Nat):Int)∈t.rin:=by rw[←hlen];exact List.mem_map.2 ⟨r,hr,rfl⟩
  have:=hfi.2 _ hm
  exact⟨rd_of_own g1',g2,by omega,by omega⟩
 let R:Value→Int→World→Prop:=fun gv ec w1=>FireOut w0 t.bk t.κ t.rin t.rout t.Ai t.ci t.Ao t.co t.n (.returned (.tuple #[gv, .int .i64 ec])) w1
 have hne:t.bt≠t.bk:=tag_ne M.rbt M.k.rbk (by omega)
 refine(tkReckon_any t.bt t.bb _ _ t.I t.rin.length t.cI t.O t.rout.length t.cO t.bh t.gval t.wh R w0 kb hfi.1 (by omega) (fun w' hb'=>?_) ?_).mono ?_
 ·have:=fireK_any t.bb t.bk t.κ t.rin t.rout t.Ai t.ci t.Ao t.co t.n w' (M.s.bb.below hb' M.s.bb.lt) (M.k.kd.below hb') (by omega) (some ⟨t.bh,0,none⟩) t.hand t.rin.length ((hI.below hb' lR_).more hb'.size) hlen
  rw[M.h.lh]at this;refine this.mono ?_;intro e' w'' hF;have hF':=hF.from hb'
  obtain⟨gv,ec,rfl,-⟩:=hF.from hb'
  exact⟨gv,ec,rfl,hF'⟩
 ·rintro gv ec w' ⟨gv',ec',he,z,hz,-,ho,hec,hgift⟩;injection he with he;injection he with he;have h1:gv=gv':=by
   have:=congrArg (fun a=>a[0]?) he
   simpa using this
  have h2:ec=ec':=by
   have:=congrArg (fun a=>a[1]?) he
   simpa using this
  subst h1 h2;refine⟨kb.only ho hne,hec.imp (fun h0=>⟨h0,?_⟩) id⟩
  obtain⟨outs,G,-⟩:=hgift h0;obtain⟨A,c,hs,-⟩:=own_slice G.row;exact⟨A,_,c,hs⟩
 ·rintro e' w' ⟨ok,rfl,gv,ec,wf,⟨gv',ec',he,z,hz,⟨κ',n',hpt,hn',K,hfix⟩,ho,hec,hgift⟩,hend⟩;injection he with he;injection he with he;have h1:gv=gv':=by
   have:=congrArg (fun a=>a[0]?) he
   simpa using this
  have h2:ec=ec':=by
   have:=congrArg (fun a=>a[1]?) he
   simpa using this
  subst h1 h2;have hz1:=ho.size;have hsame:V.same V:=RigV.same.refl V
  let C:Tg→Prop:=fun g=>g= .task v 0∨g= .task v 1
  have hbd:∀t':TkV,t'.n=n'→t'.wh≤t.wh+1→RigV.bnd {V with tasks:=V.tasks.set v t',qs:=V.qs,tps:=V.tps} (N+1):=fun t' e1 e2=>by
   intro s hs;rcases mem_set hs with rfl|hs
   ·rw[e1];omega
   ·have:=hb s hs
    omega
  have hX:∀b,b<w0.heap.size→(b=t.bk∨b=t.bt)→C (ρ b):=fun b _ hx=>by
   rcases hx with rfl|rfl
   ·exact .inr M.k.rbk
   ·exact .inl M.rbt
  have hXn:∀(T:Tg),¬C T→∀b,b<w0.heap.size→(b=t.bk∨b=t.bt)→ρ b≠T:=fun T hT b hb1 hx he=>hT (he▸hX b hb1 hx)
  have hrate:∀(p:Prop),(t.rin.length≤16→p)→p:=fun p hp=>hp hfi.1
  rcases hend with⟨hne0,rfl,hdr⟩|⟨h0,rfl,hlo,hO2,kb'⟩|⟨h0,rfl,hlo,hO2,g,kb',kg',hgz⟩
  ·
   have hdb:=hdr.below wf.heap.size;have hO:Only (fun b=>b=t.bk∨b=t.bt) w0 w':=(ho.mono fun b _ hb1=>Or.inl hb1).trans (Only.of_below hdb)
   let ρ':Nat→Tg:=fun b=>if b<w0.heap.size then ρ b else .fix
   have hρ:∀b,b<w0.heap.size→ρ' b=ρ b:=fun b hb1=>if_pos hb1
   obtain⟨t',ht'⟩:∃t':TkV,t'={t with κ:=κ',n:=n'}:=⟨_,rfl⟩;have M':TkM w' ρ' v t':=by
    rw[ht'];refine⟨?_,(hρ _ M.bt.lt).trans M.rbt,?_,?_,?_,fun hc=>absurd (hg.symm.trans hc) (by simp),{M.sh with}⟩
    ·have:TkV.cells {t with κ:=κ',n:=n'}=t.cells:=rfl
     rw[this];exact(M.bt.only ho hne).below hdb (M.bt.only ho hne).lt
    ·have hs:=M.s.only hO hρ fun b hb1 hx=>⟨hXn .fix (by simp[C]) b hb1 hx,hXn (.task v 5) (by simp[C]) b hb1 hx,hXn (.task v 6) (by simp[C]) b hb1 hx⟩
     exact{hs with bb:=by show Blk w' t.bb _ #[.iface κ'.pt _];rw[hpt];exact hs.bb}
    ·exact TkK.fired M K hfix hz1 (Only.of_below hdb) hρ (fun q hq _=>if_neg (by omega)) rfl rfl rfl rfl rfl rfl rfl rfl rfl
    ·have hs:=M.h.only hO hρ fun b hb1 hx=>⟨hXn (.task v 2) (by simp[C]) b hb1 hx,fun i=>hXn (.task v (7+i)) (by simp[C];omega) b hb1 hx⟩
     exact{hs with}
   have e1:t'.gives=t.gives:=by rw[ht']
   refine⟨false,{V with tasks:=V.tasks.set v t',qs:=V.qs,tps:=V.tps},ρ',rfl,⟨hρ,hO.mono fun b hb1 hx=>hXn .fix (by simp[C]) b hb1 hx⟩,?_,?_,rfl,hbd t' (by rw[ht']) (by rw[ht'];exact Nat.le_succ _),?_⟩
   ·exact h.step (C:=C) hO hρ hX (by simp[C]) (by simp[C]) (by simp[C];intro u r h;rcases h with h|h<;>exact h.1) hv M' (by rw[ht']) (by rw[ht']) (by rw[ht']) (fun e1=> .inl ⟨rfl,by simp[C]⟩) fun o1=> .inl ⟨rfl,by simp[C]⟩
   ·exact⟨rfl,rfl,map_set_same _ hv (by rw[ht'];rfl),rfl⟩
   ·refine .fail hg hp (fun u=>?_) (fun u i=>?_) (fun u i=>?_) (fun e=>rfl) (fun e=>rfl) fun o=>rfl
    ·rw[φ_set hv,ht'];by_cases hu:u=v
     ·subst hu;rw[if_pos rfl,φ_at hv]
     ·rw[if_neg hu]
    ·rw[hd_set hv,ht'];by_cases hu:u=v
     ·subst hu;rw[if_pos rfl,hd_at hv];rfl
     ·rw[if_neg hu]
    ·rw[rm_set hv,ht'];by_cases hu:u=v
     ·subst hu;rw[if_pos rfl,rm_at hv];rfl
     ·rw[if_neg hu]
  ·
   subst h0;obtain⟨outs,G,hmo⟩:=hgift rfl;have hol:outs.length=t.rout.length:=by rw[←hmo,List.length_map]
   obtain⟨A,c,hgs,hnc⟩:=own_slice G.row;have Grow:=G.row;rw[hgs]at Grow;obtain⟨gg,rfl⟩:=own_addr Grow (by omega)
   obtain⟨cs,hcs⟩:=own_block Grow (b:=gg) rfl;have hggz:=own_ge Grow (k:=gg) rfl;have hggl:=hcs.lt;have hne2:gg≠t.bt:=by have:=M.bt.lt;omega
   have hO:Only (fun b=>b=t.bk∨b=t.bt) w0 w':=(ho.mono fun b _ hb1=>Or.inl hb1).trans (hO2.mono fun b _ hb1=>Or.inr hb1)
   let ρ':Nat→Tg:=fun b=>if b<w0.heap.size then ρ b else if b=gg then .task v 3 else .fix
   have hρ:∀b,b<w0.heap.size→ρ' b=ρ b:=fun b hb1=>if_pos hb1
   have hρf:∀b,w0.heap.size≤b→b≠gg→ρ' b= .fix:=fun b hb1 hb2=>by
    show(if b<w0.heap.size then ρ b else if b=gg then Tg.task v 3 else .fix)=_
    rw[if_neg (by omega),if_neg hb2]
   obtain⟨t',ht'⟩:∃t':TkV,t'={t with κ:=κ',n:=n',gg:=gg,cg:=c,gift:=outs,gives:=true,port:=0}:=⟨_,rfl⟩;have M':TkM w' ρ' v t':=by
    rw[ht'];refine⟨?_,(hρ _ M.bt.lt).trans M.rbt,?_,?_,?_,fun _=>⟨?_,hol,⟨cs,hcs.only hO2 hne2,fun i r hr=>?_⟩,fun i r hr=>?_⟩,?_⟩
    ·have:TkV.cells {t with κ:=κ',n:=n',gg:=gg,cg:=c,gift:=outs,gives:=true,port:=0}=#[.pointer (some ⟨t.bb,0,none⟩), .slice (some ⟨t.bf,0,none⟩) t.rin.length t.rin.length, .slice (some ⟨t.bo,0,none⟩) t.rout.length t.rout.length, .slice t.I t.rin.length t.cI, .slice t.O t.rout.length t.cO, .slice (some ⟨t.bh,0,none⟩) t.rin.length t.rin.length, .slice (some ⟨gg,0,none⟩) outs.length c, .int .i64 (0:Nat), .bool true, .int .i64 t.wh]:=by
      unfold TkV.cells TkV.gval;simp only[if_true,hol]
     rw[this,←hgs];exact kb'
    ·have hs:=M.s.only hO hρ fun b hb1 hx=>⟨hXn .fix (by simp[C]) b hb1 hx,hXn (.task v 5) (by simp[C]) b hb1 hx,hXn (.task v 6) (by simp[C]) b hb1 hx⟩
     exact{hs with bb:=by show Blk w' t.bb _ #[.iface κ'.pt _];rw[hpt];exact hs.bb}
    ·exact TkK.fired M K hfix hz1 hO2 hρ (fun q hq hfx=>hρf q hq fun hc=>by have:=(hfix q hfx).1;omega) rfl rfl rfl rfl rfl rfl rfl rfl rfl
    ·have hs:=M.h.only hO hρ fun b hb1 hx=>⟨hXn (.task v 2) (by simp[C]) b hb1 hx,fun i=>hXn (.task v (7+i)) (by simp[C];omega) b hb1 hx⟩
     exact{hs with}
    ·show(if gg<w0.heap.size then ρ gg else if gg=gg then Tg.task v 3 else .fix)=_
     rw[if_neg (by omega),if_pos rfl]
    ·have h1:=rd_at (rd_of_own Grow) (map_get RowV.val (hr:outs[i]?=some r));rw[hcs.cell i]at h1;exact h1
    ·have hr:outs[i]?=some r:=hr
     have hmem:=get_mem hr;have rok:=G.ok r hmem;have hx0:r.xs≠[]:=fun hc=>by
      have hm1:((r.xs.length:Nat):Int)∈t.rout:=by rw[←hmo];exact List.mem_map.2 ⟨r,hmem,rfl⟩
      have:=hfo.2 _ hm1
      rw[hc]at this;simp at this
     refine⟨{rok with rd:=Rd.onlyT rok.rd hO2 fun q hq he=>by have:=G.far r hmem q hq;have:=M.bt.lt;omega},fun q hq=>?_⟩
     have hfar:=G.far r hmem q hq;have hap:=G.ap r hmem q hq;rw[hgs]at hap;have hqgg:q≠gg:=fun hc=>hap (by rw[hc];rfl)
     exact⟨Nat.lt_of_lt_of_le (Rd.ltN rok.rd hx0 hq) hO2.size,hρf q (by omega) hqgg⟩
    ·refine⟨fun hc=>(by cases hc),fun _=>hlo,fun hc=>(by cases hc),fun _ i r m hr hm=>?_⟩
     have hr:outs[i]?=some r:=hr
     have hm:t.rout[i]?=some m:=hm
     have h1:=congrArg (fun l=>l[i]?) hmo
     simp only[List.getElem?_map,hr,hm,Option.map_some,Option.some.injEq]at h1
     have:=hfo.2 m (get_mem hm)
     show(i<0→_)∧(i=0→_)∧(0<i→_)
     exact⟨fun hc=>by omega,fun _=>by omega,fun _=>h1⟩
   refine⟨true,{V with tasks:=V.tasks.set v t',qs:=V.qs,tps:=V.tps},ρ',rfl,⟨hρ,hO.mono fun b hb1 hx=>hXn .fix (by simp[C]) b hb1 hx⟩,?_,?_,rfl,hbd t' (by rw[ht']) (by rw[ht'];exact Nat.le_succ _),?_⟩
   ·exact h.step (C:=C) hO hρ hX (by simp[C]) (by simp[C]) (by simp[C];intro u r h;rcases h with h|h<;>exact h.1) hv M' (by rw[ht']) (by rw[ht']) (by rw[ht']) (fun e1=> .inl ⟨rfl,by simp[C]⟩) fun o1=> .inl ⟨rfl,by simp[C]⟩
   ·exact⟨rfl,rfl,map_set_same _ hv (by rw[ht'];rfl),rfl⟩
   ·refine .reckon hg hp (fun u=>?_) (fun u i=>?_) (fun u i=>?_) (fun e=>rfl) (fun e=>rfl) fun o=>rfl
    ·rw[φ_set hv,ht'];by_cases hu:u=v
     ·subst hu;rw[if_pos rfl,φ_at hv,hg];simp
     ·rw[if_neg hu,if_neg hu]
    ·rw[hd_set hv,ht'];by_cases hu:u=v
     ·subst hu;rw[if_pos rfl,if_pos rfl];rfl
     ·rw[if_neg hu,if_neg hu]
    ·rw[rm_set hv,ht'];by_cases hu:u=v
     ·subst hu;rw[if_pos rfl,if_pos rfl];show(match outs[i]? with|some r=>r.xs.length|none=>0)=_
      have h1:=congrArg (fun l=>l[i]?) hmo
      simp only[List.getElem?_map]at h1;cases hr:outs[i]? with
      |none=>rw[hr]at h1;rw[←h1];rfl
      |some r=>rw[hr]at h1;rw[←h1];simp
     ·rw[if_neg hu,if_neg hu]
  ·
   subst h0;have hO:Only (fun b=>b=t.bk∨b=t.bt) w0 w':=(ho.mono fun b _ hb1=>Or.inl hb1).trans (hO2.mono fun b _ hb1=>Or.inr hb1)
   let ρ':Nat→Tg:=fun b=>if b<w0.heap.size then ρ b else if b=g then .task v 2 else .fix
   have hρ:∀b,b<w0.heap.size→ρ' b=ρ b:=fun b hb1=>if_pos hb1
   have hρf:∀b,w0.heap.size≤b→b≠g→ρ' b= .fix:=fun b hb1 hb2=>by
    show(if b<w0.heap.size then ρ b else if b=g then Tg.task v 2 else .fix)=_
    rw[if_neg (by omega),if_neg hb2]
   have hro:t.rout=[]:=List.length_eq_zero_iff.1 hlo
   obtain⟨t',ht'⟩:∃t':TkV,t'={t with κ:=κ',n:=n',bh:=g,hand:=List.replicate t.rin.length nilR,gv:= .slice none 0 0,port:=0,wh:=t.wh+1}:=⟨_,rfl⟩;have M':TkM w' ρ' v t':=by
    rw[ht'];refine⟨?_,(hρ _ M.bt.lt).trans M.rbt,?_,?_,TkH.empty kg' ?_ rfl rfl,fun hc=>absurd (hg.symm.trans hc) (by simp),?_⟩
    ·have:TkV.cells {t with κ:=κ',n:=n',bh:=g,hand:=List.replicate t.rin.length nilR,gv:= .slice none 0 0,port:=0,wh:=t.wh+1}=#[.pointer (some ⟨t.bb,0,none⟩), .slice (some ⟨t.bf,0,none⟩) t.rin.length t.rin.length, .slice (some ⟨t.bo,0,none⟩) t.rout.length t.rout.length, .slice t.I t.rin.length t.cI, .slice t.O t.rout.length t.cO, .slice (some ⟨g,0,none⟩) t.rin.length t.rin.length, .slice none 0 0, .int .i64 (0:Nat), .bool false, .int .i64 (t.wh+1)]:=by
      unfold TkV.cells TkV.gval;simp[hg]
     rw[this];exact kb'
    ·have hs:=M.s.only hO hρ fun b hb1 hx=>⟨hXn .fix (by simp[C]) b hb1 hx,hXn (.task v 5) (by simp[C]) b hb1 hx,hXn (.task v 6) (by simp[C]) b hb1 hx⟩
     exact{hs with bb:=by show Blk w' t.bb _ #[.iface κ'.pt _];rw[hpt];exact hs.bb}
    ·exact TkK.fired M K hfix hz1 hO2 hρ (fun q hq hfx=>hρf q hq fun hc=>by have:=K.ex.lt hfx;omega) rfl rfl rfl rfl rfl rfl rfl rfl rfl
    ·show(if g<w0.heap.size then ρ g else if g=g then Tg.task v 2 else .fix)=_
     rw[if_neg (by omega),if_pos rfl]
    ·refine⟨fun _=>Nat.zero_le _,fun hc=>absurd (hg.symm.trans hc) (by simp),fun _ i s m' hs hm'=>?_,fun hc=>absurd (hg.symm.trans hc) (by simp)⟩
     obtain rfl:=nilR_get hs
     have:=hfi.2 m' (get_mem hm')
     show(i<0→((0:Nat):Int)=m')∧(i=0→((0:Nat):Int)<m')∧(0<i→0=0)
     exact⟨fun h=>by omega,fun _=>by omega,fun _=>rfl⟩
   refine⟨true,{V with tasks:=V.tasks.set v t',qs:=V.qs,tps:=V.tps},ρ',rfl,⟨hρ,hO.mono fun b hb1 hx=>hXn .fix (by simp[C]) b hb1 hx⟩,?_,?_,rfl,hbd t' (by rw[ht']) (by rw[ht'];exact Nat.le_refl _),?_⟩
   ·exact h.step (C:=C) hO hρ hX (by simp[C]) (by simp[C]) (by simp[C];intro u r h;rcases h with h|h<;>exact h.1) hv M' (by rw[ht']) (by rw[ht']) (by rw[ht']) (fun e1=> .inl ⟨rfl,by simp[C]⟩) fun o1=> .inl ⟨rfl,by simp[C]⟩
   ·exact⟨rfl,rfl,map_set_same _ hv (by rw[ht'];rfl),rfl⟩
   ·refine .reckon hg hp (fun u=>?_) (fun u i=>?_) (fun u i=>?_) (fun e=>rfl) (fun e=>rfl) fun o=>rfl
    ·rw[φ_set hv,ht'];by_cases hu:u=v
     ·subst hu;rw[if_pos rfl,if_pos rfl,φ_at hv,hg];simp
     ·rw[if_neg hu,if_neg hu]
    ·rw[hd_set hv,ht'];by_cases hu:u=v
     ·subst hu;rw[if_pos rfl,if_pos rfl];unfold TkV.hd;show(if t.gives=true then 0 else match(List.replicate t.rin.length nilR)[i]? with|some r=>r.xs.length|none=>0)=0
      rw[hg,if_neg (by simp)]
      cases hs:(List.replicate t.rin.length nilR)[i]? with
      |none=>rfl
      |some s=>obtain rfl:=nilR_get hs;rfl
     ·rw[if_neg hu,if_neg hu]
    ·rw[rm_set hv,ht'];by_cases hu:u=v
     ·subst hu;rw[if_pos rfl,if_pos rfl,hro];unfold TkV.rm;simp[hg]
     ·rw[if_neg hu,if_neg hu]
theorem step_rig(V:RigV)(ρ:Nat→Tg)(N v:Nat)(t:TkV)(w0:World)(h:RigM w0 ρ V)(hf:V.full)(hb:V.bnd N)(hro:V.room)(hN:N<4611686018427387904)(hv:V.tasks[v]?=some t)(hr:V.rdy t=true):
  Calls Tryz.prog 66 #[.pointer (some ⟨t.bt,0,none⟩)] w0 (StepOut V ρ N v t w0):=by
 have M:=h.tk v t hv;unfold RigV.rdy at hr;cases hg:t.gives with
 |true=>
  have hp:=M.sh.p1 hg;rw[if_pos hg]at hr;obtain⟨l,hl⟩:=get_of_lt (l:=t.dst) (i:=t.port) (by rw[M.s.lo];exact hp)
  rw[hl]at hr;cases l with
  |no=>exact absurd rfl ((hf v t hv).2 _ (get_mem hl))
  |que e g=>
   obtain⟨q,hq,hqg⟩:=h.lq v t hv e g (.inr (get_mem hl));simp only[RigV.qf,hq,decide_eq_true_eq]at hr;exact giveQ_rig V ρ N v e g t q w0 h hb hro hN hv hg hl hq hqg hr
  |tape o g=>
   obtain⟨p,hp1,hpg⟩:=h.lt v t hv o g (get_mem hl);exact giveT_rig V ρ N v o g t p w0 h hb hro hN hv hg hl hp1 hpg
 |false=>
  have hp:=M.sh.p0 hg;rw[if_neg (by rw[hg];simp)]at hr
  by_cases hpe:t.port=t.rin.length
  ·exact reckon_rig V ρ N v t w0 h hb hN hv hg hpe
  ·rw[if_neg hpe]at hr;have hp':t.port<t.rin.length:=by omega
   obtain⟨l,hl⟩:=get_of_lt (l:=t.src) (i:=t.port) (by rw[M.s.lf];exact hp')
   obtain⟨e,g,rfl⟩:=(hf v t hv).1 l (get_mem hl);obtain⟨q,hq,hqg⟩:=h.lq v t hv e g (.inl (get_mem hl));rw[hl]at hr;simp only[RigV.ql,hq,decide_eq_true_eq]at hr;exact take_rig V ρ N v e g t q w0 h hb hv hg hp' hl hq hqg hr
end Go.Proofs.YtpmlljbebdidgaaGreatDoor
