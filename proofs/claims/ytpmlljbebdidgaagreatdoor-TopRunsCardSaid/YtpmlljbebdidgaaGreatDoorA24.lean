/- Lemmas and walks for the claim: Ef, Eg, Eh, Ei, Ej. -/
import Derived.Test.YtpmlljbebdidgaaGreatDoorA0
import Derived.Test.YtpmlljbebdidgaaGreatDoorA23
set_option linter.unusedSimpArgs false
set_option maxRecDepth 100000
set_option maxHeartbeats 4000000
namespace Go.Proofs.YtpmlljbebdidgaaGreatDoor
open Go.RowKit
theorem zfs.from{w w1:World}{bk:Nat}{κ:KdV}{rin rout:List Int}{Ai Ao:Option Addr}{ci co:Nat}{n:Int}{e:Ending}{w':World}(h:zfs w1 bk κ rin rout Ai ci Ao co n e w')(hb:Below w.heap.size w w1):zfs w bk κ rin rout Ai ci Ao co n e w':=by
 obtain⟨gv,ec,h1,z,h2,⟨κ',n',h3,h4,h5,h6⟩,h7,h8,h9⟩:=h;exact⟨gv,ec,h1,z,zy hb.size h2,⟨κ',n',h3,h4,h5,fun q hq=>⟨(h6 q hq).1,(h6 q hq).2.imp id fun h=>zy hb.size h⟩⟩,(Only.of_below hb).trans h7,h8,h9⟩
theorem zoq{w:World}{B b:Nat}{cs:List Value}(h:Rd w B (some ⟨b,0,none⟩) cs){i:Nat}{u:Value}(hu:cs[i]?=some u):w.cell? ⟨b,i,none⟩=some u:=by
 rcases h with h|⟨b',off,hA,-,hc⟩
 ·rw[h]at hu;cases hu
 ·injection hA with hA
  injection hA with e1 e2 _
  subst e1 e2
  have:=hc i u hu
  rwa [zaq]at this
theorem TkK.fired{w w1 w':World}{ρ ρ':Nat→Tg}{v:Nat}{t t':TkV}{κ':KdV}{n':Int}{z:Nat}(M:TkM w ρ v t)(K:KdM w1 t.bk κ' t.rin t.rout t.Ai t.ci t.Ao t.co n')(hf:∀q,κ'.fix q→q<z∧(t.κ.fix q∨w.heap.size≤q))(hz:w.heap.size≤w1.heap.size)(ho:Only (fun q=>q=t.bt) w1 w')
  (hρ:∀q,q<w.heap.size→ρ' q=ρ q) (hρ2:∀q,w.heap.size≤q→κ'.fix q→ρ' q= .fix) (e0:t'.bk=t.bk) (e1:t'.κ=κ') (e2:t'.rin=t.rin) (e3:t'.rout=t.rout) (e4:t'.Ai=t.Ai) (e5:t'.ci=t.ci) (e6:t'.Ao=t.Ao) (e7:t'.co=t.co) (e8:t'.n=n'):TkK w' ρ' v t':=by
 have hold:∀q,κ'.fx t.Ai t.Ao q→(q<w.heap.size∧ρ q= .fix)∨(w.heap.size≤q∧κ'.fix q):=fun q hq=>by
  rcases hq with hq|hq|hq
  ·exact .inl (M.k.rfx q (.inl hq))
  ·exact .inl (M.k.rfx q (.inr (.inl hq)))
  ·rcases(hf q hq).2 with h|h
   ·exact .inl (M.k.rfx q (.inr (.inr h)))
   ·exact .inr ⟨h,hq⟩
 refine⟨?_,by rw[e0,hρ _ M.k.kd.blk.lt];exact M.k.rbk,?_⟩
 ·rw[e0,e1,e2,e3,e4,e5,e6,e7,e8];refine K.only ho (zfx M.k.rbk M.rbt (by omega)) fun q hq he=>?_
  have hbt:=M.bt.lt;rcases hold q hq with⟨-,h⟩|⟨h,-⟩
  ·rw[he]at h;exact absurd (h.symm.trans M.rbt) (by simp)
  ·omega
 ·rw[e1,e4,e6];intro q hq;rcases hold q hq with⟨h1,h2⟩|⟨h1,h2⟩
  ·exact⟨by have:=ho.size;omega,(hρ q h1).trans h2⟩
  ·exact⟨zP (K.ex.lt h2) ho.size,hρ2 q h1 h2⟩
theorem zkG(V:RigV)(ρ:Nat→Tg)(N v:Nat)(t:TkV)(w0:World)(h:RigM w0 ρ V)(hb:V.bnd N)(hN:N<4611686018427387904)(hv:V.tasks[v]?=some t)(hg:t.gives=false)(hp:t.port=t.rin.length):
  Calls Tryz.prog 66 #[.pointer (some ⟨t.bt,0,none⟩)] w0 (zft V ρ N v t w0):=by
 have M:=h.tk v t hv;obtain⟨hfi,hfo⟩:=KdV.rates_few M.k.kd.rt;have hbt:=hb t (zac hv);have kb:Blk w0 t.bt 125 (znk t.bb (.slice (some ⟨t.bf,0,none⟩) t.rin.length t.rin.length) (.slice (some ⟨t.bo,0,none⟩) t.rout.length t.rout.length) t.I t.rin.length t.cI t.O t.rout.length t.cO t.bh t.gval t.wh):=by
  have:=M.bt
  unfold TkV.cells at this;rw[hg,hp]at this;exact this
 have hgv:t.gval=t.gv:=by unfold TkV.gval;rw[hg];rfl
 have hlen:t.hand.map (fun r=>(r.xs.length:Int))=t.rin:=by
  refine zaf fun i=>?_
  rw[zp];cases hr:t.hand[i]? with
  |none=>
   rw[List.getElem?_eq_none_iff,M.h.lh,←List.getElem?_eq_none_iff]at hr;exact hr.symm
  |some r=>
   obtain⟨m,hm⟩:=zG (l:=t.rin) (i:=i) (by rw[←M.h.lh];exact zao hr)
   have hil:=zao hm;rw[hm];show some ((r.xs.length:Int))=some m
   rw[(M.sh.h1 hg i r m hr hm).1 (by omega)]
 have hI:InM w0 w0.heap.size (some ⟨t.bh,0,none⟩) t.hand:=by
  refine⟨zlH M.h.bh,fun r hr=>?_,by rw[M.h.lh];exact hfi.1⟩
  obtain⟨i,hi⟩:=zbY hr;obtain⟨g1,g2,-⟩:=M.h.own i r hi;have g1':w0.ownsRow 0 3 1 (.slice r.A r.xs.length r.c) r.xs.length (cellsI r.xs):=g1;obtain⟨_,_,hc,hle⟩:=zH g1';injection hc with _ _ hc;have hm:((r.xs.length:Nat):Int)∈t.rin:=by rw[←hlen];exact zY.2 ⟨r,hr,rfl⟩
  have:=hfi.2 _ hm
  exact⟨rd_of_own g1',g2,by omega,by omega⟩
 let R:Value→Int→World→Prop:=fun gv ec w1=>zfs w0 t.bk t.κ t.rin t.rout t.Ai t.ci t.Ao t.co t.n (.returned (.tuple #[gv, .int .i64 ec])) w1
 have hne:t.bt≠t.bk:=zfx M.rbt M.k.rbk (by omega)
 refine(ziI t.bt t.bb _ _ t.I t.rin.length t.cI t.O t.rout.length t.cO t.bh t.gval t.wh R w0 kb hfi.1 (by omega) (fun w' hb'=>?_) ?_).mono ?_
 ·have:=zlL t.bb t.bk t.κ t.rin t.rout t.Ai t.ci t.Ao t.co t.n w' (M.s.bb.below hb' M.s.bb.lt) (M.k.kd.below hb') (by omega) (some ⟨t.bh,0,none⟩) t.hand t.rin.length ((hI.below hb' lR_).more hb'.size) hlen
  rw[M.h.lh]at this;refine this.mono ?_;intro e' w'' hF;have hF':=hF.from hb'
  obtain⟨gv,ec,rfl,-⟩:=hF.from hb'
  exact⟨gv,ec,rfl,hF'⟩
 ·rintro gv ec w' ⟨gv',ec',he,z,hz,-,ho,hec,hgift⟩;injection he with he;injection he with he;have h1:gv=gv':=by
   have:=congrArg (fun a=>a[0]?) he
   simpa using this
  have h2:ec=ec':=by
   have:=congrArg (fun a=>a[1]?) he
   simpa using this
  subst h1 h2;refine⟨kb.only ho hne,hec.imp (fun h0=>⟨h0,?_⟩) id⟩
  obtain⟨outs,G,-⟩:=hgift h0;obtain⟨A,c,hs,-⟩:=zH G.row;exact⟨A,_,c,hs⟩
 ·rintro e' w' ⟨ok,rfl,gv,ec,wf,⟨gv',ec',he,z,hz,⟨κ',n',hpt,hn',K,hfix⟩,ho,hec,hgift⟩,hend⟩;injection he with he;injection he with he;have h1:gv=gv':=by
   have:=congrArg (fun a=>a[0]?) he
   simpa using this
  have h2:ec=ec':=by
   have:=congrArg (fun a=>a[1]?) he
   simpa using this
  subst h1 h2;have hz1:=ho.size;have hsame:V.same V:=RigV.same.refl V
  let C:Tg→Prop:=fun g=>g= .task v 0∨g= .task v 1
  have hbd:∀t':TkV,t'.n=n'→t'.wh≤t.wh+1→RigV.bnd {V with tasks:=V.tasks.set v t',qs:=V.qs,tps:=V.tps} (N+1):=fun t' e1 e2=>by
   intro s hs;rcases mem_set hs with rfl|hs
   ·rw[e1];omega
   ·have:=hb s hs
    omega
  have hX:∀b,b<w0.heap.size→(b=t.bk∨b=t.bt)→C (ρ b):=fun b _ hx=>by
   rcases hx with rfl|rfl
   ·exact .inr M.k.rbk
   ·exact .inl M.rbt
  have hXn:∀(T:Tg),¬C T→∀b,b<w0.heap.size→(b=t.bk∨b=t.bt)→ρ b≠T:=fun T hT b hb1 hx he=>hT (he▸hX b hb1 hx)
  have hrate:∀(p:Prop),(t.rin.length≤16→p)→p:=fun p hp=>hp hfi.1
  rcases hend with⟨hne0,rfl,hdr⟩|⟨h0,rfl,hlo,hO2,kb'⟩|⟨h0,rfl,hlo,hO2,g,kb',kg',hgz⟩
  ·
   have hdb:=hdr.below wf.heap.size;have hO:Only (fun b=>b=t.bk∨b=t.bt) w0 w':=(ho.mono fun b _ hb1=>Or.inl hb1).trans (Only.of_below hdb)
   let ρ':Nat→Tg:=fun b=>if b<w0.heap.size then ρ b else .fix
   have hρ:∀b,b<w0.heap.size→ρ' b=ρ b:=fun b hb1=>if_pos hb1
   obtain⟨t',ht'⟩:∃t':TkV,t'={t with κ:=κ',n:=n'}:=⟨_,rfl⟩;have M':TkM w' ρ' v t':=by
    rw[ht'];refine⟨?_,(hρ _ M.bt.lt).trans M.rbt,?_,?_,?_,fun hc=>absurd (hg.symm.trans hc) (by simp),{M.sh with}⟩
    ·have:TkV.cells {t with κ:=κ',n:=n'}=t.cells:=rfl
     rw[this];exact(M.bt.only ho hne).below hdb (M.bt.only ho hne).lt
    ·have hs:=M.s.only hO hρ fun b hb1 hx=>⟨hXn .fix (by simp[C]) b hb1 hx,hXn (.task v 5) (by simp[C]) b hb1 hx,hXn (.task v 6) (by simp[C]) b hb1 hx⟩
     exact{hs with bb:=by show Blk w' t.bb _ #[.iface κ'.pt _];rw[hpt];exact hs.bb}
    ·exact TkK.fired M K hfix hz1 (Only.of_below hdb) hρ (fun q hq _=>if_neg (by omega)) rfl rfl rfl rfl rfl rfl rfl rfl rfl
    ·have hs:=M.h.only hO hρ fun b hb1 hx=>⟨hXn (.task v 2) (by simp[C]) b hb1 hx,fun i=>hXn (.task v (7+i)) (by simp[C];omega) b hb1 hx⟩
     exact{hs with}
   have e1:t'.gives=t.gives:=by rw[ht']
   refine⟨false,{V with tasks:=V.tasks.set v t',qs:=V.qs,tps:=V.tps},ρ',rfl,⟨hρ,hO.mono fun b hb1 hx=>hXn .fix (by simp[C]) b hb1 hx⟩,?_,?_,rfl,hbd t' (by rw[ht']) (by rw[ht'];exact zdK _),?_⟩
   ·exact h.step (C:=C) hO hρ hX (by simp[C]) (by simp[C]) (by simp[C];intro u r h;rcases h with h|h<;>exact h.1) hv M' (by rw[ht']) (by rw[ht']) (by rw[ht']) (fun e1=> .inl ⟨rfl,by simp[C]⟩) fun o1=> .inl ⟨rfl,by simp[C]⟩
   ·exact⟨rfl,rfl,zbm _ hv (by rw[ht'];rfl),rfl⟩
   ·refine .fail hg hp (fun u=>?_) (fun u i=>?_) (fun u i=>?_) (fun e=>rfl) (fun e=>rfl) fun o=>rfl
    ·rw[zfu hv,ht'];by_cases hu:u=v
     ·subst hu;rw[if_pos rfl,zfH hv]
     ·rw[if_neg hu]
    ·rw[zfv hv,ht'];by_cases hu:u=v
     ·subst hu;rw[if_pos rfl,zfI hv];rfl
     ·rw[if_neg hu]
    ·rw[zfw hv,ht'];by_cases hu:u=v
     ·subst hu;rw[if_pos rfl,zeI hv];rfl
     ·rw[if_neg hu]
  ·
   subst h0;obtain⟨outs,G,hmo⟩:=hgift rfl;have hol:outs.length=t.rout.length:=by rw[←hmo,zA]
   obtain⟨A,c,hgs,hnc⟩:=zH G.row;have Grow:=G.row;rw[hgs]at Grow;obtain⟨gg,rfl⟩:=zbi Grow (by omega)
   obtain⟨cs,hcs⟩:=own_block Grow (b:=gg) rfl;have hggz:=own_ge Grow (k:=gg) rfl;have hggl:=hcs.lt;have hne2:gg≠t.bt:=by have:=M.bt.lt;omega
   have hO:Only (fun b=>b=t.bk∨b=t.bt) w0 w':=(ho.mono fun b _ hb1=>Or.inl hb1).trans (hO2.mono fun b _ hb1=>Or.inr hb1)
   let ρ':Nat→Tg:=fun b=>if b<w0.heap.size then ρ b else if b=gg then .task v 3 else .fix
   have hρ:∀b,b<w0.heap.size→ρ' b=ρ b:=fun b hb1=>if_pos hb1
   have hρf:∀b,w0.heap.size≤b→b≠gg→ρ' b= .fix:=fun b hb1 hb2=>by
    show(if b<w0.heap.size then ρ b else if b=gg then Tg.task v 3 else .fix)=_
    rw[if_neg (by omega),if_neg hb2]
   obtain⟨t',ht'⟩:∃t':TkV,t'={t with κ:=κ',n:=n',gg:=gg,cg:=c,gift:=outs,gives:=true,port:=0}:=⟨_,rfl⟩;have M':TkM w' ρ' v t':=by
    rw[ht'];refine⟨?_,(hρ _ M.bt.lt).trans M.rbt,?_,?_,?_,fun _=>⟨?_,hol,⟨cs,hcs.only hO2 hne2,fun i r hr=>?_⟩,fun i r hr=>?_⟩,?_⟩
    ·have:TkV.cells {t with κ:=κ',n:=n',gg:=gg,cg:=c,gift:=outs,gives:=true,port:=0}=#[.pointer (some ⟨t.bb,0,none⟩), .slice (some ⟨t.bf,0,none⟩) t.rin.length t.rin.length, .slice (some ⟨t.bo,0,none⟩) t.rout.length t.rout.length, .slice t.I t.rin.length t.cI, .slice t.O t.rout.length t.cO, .slice (some ⟨t.bh,0,none⟩) t.rin.length t.rin.length, .slice (some ⟨gg,0,none⟩) outs.length c, .int .i64 (0:Nat), .bool true, .int .i64 t.wh]:=by
      unfold TkV.cells TkV.gval;simp only[if_true,hol]
     rw[this,←hgs];exact kb'
    ·have hs:=M.s.only hO hρ fun b hb1 hx=>⟨hXn .fix (by simp[C]) b hb1 hx,hXn (.task v 5) (by simp[C]) b hb1 hx,hXn (.task v 6) (by simp[C]) b hb1 hx⟩
     exact{hs with bb:=by show Blk w' t.bb _ #[.iface κ'.pt _];rw[hpt];exact hs.bb}
    ·exact TkK.fired M K hfix hz1 hO2 hρ (fun q hq hfx=>hρf q hq fun hc=>by have:=(hfix q hfx).1;omega) rfl rfl rfl rfl rfl rfl rfl rfl rfl
    ·have hs:=M.h.only hO hρ fun b hb1 hx=>⟨hXn (.task v 2) (by simp[C]) b hb1 hx,fun i=>hXn (.task v (7+i)) (by simp[C];omega) b hb1 hx⟩
     exact{hs with}
    ·show(if gg<w0.heap.size then ρ gg else if gg=gg then Tg.task v 3 else .fix)=_
     rw[if_neg (by omega),if_pos rfl]
    ·have h1:=zoq (rd_of_own Grow) (zbj RowV.val (hr:outs[i]?=some r));rw[hcs.cell i]at h1;exact h1
    ·have hr:outs[i]?=some r:=hr
     have hmem:=zac hr;have rok:=G.ok r hmem;have hx0:r.xs≠[]:=fun hc=>by
      have hm1:((r.xs.length:Nat):Int)∈t.rout:=by rw[←hmo];exact zY.2 ⟨r,hmem,rfl⟩
      have:=hfo.2 _ hm1
      rw[hc]at this;simp at this
     refine⟨{rok with rd:=Rd.onlyT rok.rd hO2 fun q hq he=>by have:=G.far r hmem q hq;have:=M.bt.lt;omega},fun q hq=>?_⟩
     have hfar:=G.far r hmem q hq;have hap:=G.ap r hmem q hq;rw[hgs]at hap;have hqgg:q≠gg:=fun hc=>hap (by rw[hc];rfl)
     exact⟨zP (Rd.ltN rok.rd hx0 hq) hO2.size,hρf q (by omega) hqgg⟩
    ·refine⟨fun hc=>(by cases hc),fun _=>hlo,fun hc=>(by cases hc),fun _ i r m hr hm=>?_⟩
     have hr:outs[i]?=some r:=hr
     have hm:t.rout[i]?=some m:=hm
     have h1:=congrArg (fun l=>l[i]?) hmo
     simp only[zp,hr,hm,zai,zX]at h1
     have:=hfo.2 m (zac hm)
     show(i<0→_)∧(i=0→_)∧(0<i→_)
     exact⟨fun hc=>by omega,fun _=>by omega,fun _=>h1⟩
   refine⟨true,{V with tasks:=V.tasks.set v t',qs:=V.qs,tps:=V.tps},ρ',rfl,⟨hρ,hO.mono fun b hb1 hx=>hXn .fix (by simp[C]) b hb1 hx⟩,?_,?_,rfl,hbd t' (by rw[ht']) (by rw[ht'];exact zdK _),?_⟩
   ·exact h.step (C:=C) hO hρ hX (by simp[C]) (by simp[C]) (by simp[C];intro u r h;rcases h with h|h<;>exact h.1) hv M' (by rw[ht']) (by rw[ht']) (by rw[ht']) (fun e1=> .inl ⟨rfl,by simp[C]⟩) fun o1=> .inl ⟨rfl,by simp[C]⟩
   ·exact⟨rfl,rfl,zbm _ hv (by rw[ht'];rfl),rfl⟩
   ·refine .reckon hg hp (fun u=>?_) (fun u i=>?_) (fun u i=>?_) (fun e=>rfl) (fun e=>rfl) fun o=>rfl
    ·rw[zfu hv,ht'];by_cases hu:u=v
     ·subst hu;rw[if_pos rfl,zfH hv,hg];simp
     ·rw[if_neg hu,if_neg hu]
    ·rw[zfv hv,ht'];by_cases hu:u=v
     ·subst hu;rw[if_pos rfl,if_pos rfl];rfl
     ·rw[if_neg hu,if_neg hu]
    ·rw[zfw hv,ht'];by_cases hu:u=v
     ·subst hu;rw[if_pos rfl,if_pos rfl];show(match outs[i]? with|some r=>r.xs.length|none=>0)=_
      have h1:=congrArg (fun l=>l[i]?) hmo
      simp only[zp]at h1;cases hr:outs[i]? with
      |none=>rw[hr]at h1;rw[←h1];rfl
      |some r=>rw[hr]at h1;rw[←h1];simp
     ·rw[if_neg hu,if_neg hu]
  ·
   subst h0;have hO:Only (fun b=>b=t.bk∨b=t.bt) w0 w':=(ho.mono fun b _ hb1=>Or.inl hb1).trans (hO2.mono fun b _ hb1=>Or.inr hb1)
   let ρ':Nat→Tg:=fun b=>if b<w0.heap.size then ρ b else if b=g then .task v 2 else .fix
   have hρ:∀b,b<w0.heap.size→ρ' b=ρ b:=fun b hb1=>if_pos hb1
   have hρf:∀b,w0.heap.size≤b→b≠g→ρ' b= .fix:=fun b hb1 hb2=>by
    show(if b<w0.heap.size then ρ b else if b=g then Tg.task v 2 else .fix)=_
    rw[if_neg (by omega),if_neg hb2]
   have hro:t.rout=[]:=zdy.1 hlo
   obtain⟨t',ht'⟩:∃t':TkV,t'={t with κ:=κ',n:=n',bh:=g,hand:=List.replicate t.rin.length nilR,gv:= .slice none 0 0,port:=0,wh:=t.wh+1}:=⟨_,rfl⟩;have M':TkM w' ρ' v t':=by
    rw[ht'];refine⟨?_,(hρ _ M.bt.lt).trans M.rbt,?_,?_,TkH.empty kg' ?_ rfl rfl,fun hc=>absurd (hg.symm.trans hc) (by simp),?_⟩
    ·have:TkV.cells {t with κ:=κ',n:=n',bh:=g,hand:=List.replicate t.rin.length nilR,gv:= .slice none 0 0,port:=0,wh:=t.wh+1}=#[.pointer (some ⟨t.bb,0,none⟩), .slice (some ⟨t.bf,0,none⟩) t.rin.length t.rin.length, .slice (some ⟨t.bo,0,none⟩) t.rout.length t.rout.length, .slice t.I t.rin.length t.cI, .slice t.O t.rout.length t.cO, .slice (some ⟨g,0,none⟩) t.rin.length t.rin.length, .slice none 0 0, .int .i64 (0:Nat), .bool false, .int .i64 (t.wh+1)]:=by
      unfold TkV.cells TkV.gval;simp[hg]
     rw[this];exact kb'
    ·have hs:=M.s.only hO hρ fun b hb1 hx=>⟨hXn .fix (by simp[C]) b hb1 hx,hXn (.task v 5) (by simp[C]) b hb1 hx,hXn (.task v 6) (by simp[C]) b hb1 hx⟩
     exact{hs with bb:=by show Blk w' t.bb _ #[.iface κ'.pt _];rw[hpt];exact hs.bb}
    ·exact TkK.fired M K hfix hz1 hO2 hρ (fun q hq hfx=>hρf q hq fun hc=>by have:=K.ex.lt hfx;omega) rfl rfl rfl rfl rfl rfl rfl rfl rfl
    ·show(if g<w0.heap.size then ρ g else if g=g then Tg.task v 2 else .fix)=_
     rw[if_neg (by omega),if_pos rfl]
    ·refine⟨fun _=>zJ _,fun hc=>absurd (hg.symm.trans hc) (by simp),fun _ i s m' hs hm'=>?_,fun hc=>absurd (hg.symm.trans hc) (by simp)⟩
     obtain rfl:=zdS hs
     have:=hfi.2 m' (zac hm')
     show(i<0→((0:Nat):Int)=m')∧(i=0→((0:Nat):Int)<m')∧(0<i→0=0)
     exact⟨fun h=>by omega,fun _=>by omega,fun _=>rfl⟩
   refine⟨true,{V with tasks:=V.tasks.set v t',qs:=V.qs,tps:=V.tps},ρ',rfl,⟨hρ,hO.mono fun b hb1 hx=>hXn .fix (by simp[C]) b hb1 hx⟩,?_,?_,rfl,hbd t' (by rw[ht']) (by rw[ht'];exact zF _),?_⟩
   ·exact h.step (C:=C) hO hρ hX (by simp[C]) (by simp[C]) (by simp[C];intro u r h;rcases h with h|h<;>exact h.1) hv M' (by rw[ht']) (by rw[ht']) (by rw[ht']) (fun e1=> .inl ⟨rfl,by simp[C]⟩) fun o1=> .inl ⟨rfl,by simp[C]⟩
   ·exact⟨rfl,rfl,zbm _ hv (by rw[ht'];rfl),rfl⟩
   ·refine .reckon hg hp (fun u=>?_) (fun u i=>?_) (fun u i=>?_) (fun e=>rfl) (fun e=>rfl) fun o=>rfl
    ·rw[zfu hv,ht'];by_cases hu:u=v
     ·subst hu;rw[if_pos rfl,if_pos rfl,zfH hv,hg];simp
     ·rw[if_neg hu,if_neg hu]
    ·rw[zfv hv,ht'];by_cases hu:u=v
     ·subst hu;rw[if_pos rfl,if_pos rfl];unfold TkV.hd;show(if t.gives=true then 0 else match(List.replicate t.rin.length nilR)[i]? with|some r=>r.xs.length|none=>0)=0
      rw[hg,if_neg (by simp)]
      cases hs:(List.replicate t.rin.length nilR)[i]? with
      |none=>rfl
      |some s=>obtain rfl:=zdS hs;rfl
     ·rw[if_neg hu,if_neg hu]
    ·rw[zfw hv,ht'];by_cases hu:u=v
     ·subst hu;rw[if_pos rfl,if_pos rfl,hro];unfold TkV.rm;simp[hg]
     ·rw[if_neg hu,if_neg hu]
theorem znr(V:RigV)(ρ:Nat→Tg)(N v:Nat)(t:TkV)(w0:World)(h:RigM w0 ρ V)(hf:V.full)(hb:V.bnd N)(hro:V.room)(hN:N<4611686018427387904)(hv:V.tasks[v]?=some t)(hr:V.rdy t=true):
  Calls Tryz.prog 66 #[.pointer (some ⟨t.bt,0,none⟩)] w0 (zft V ρ N v t w0):=by
 have M:=h.tk v t hv;unfold RigV.rdy at hr;cases hg:t.gives with
 |true=>
  have hp:=M.sh.p1 hg;rw[if_pos hg]at hr;obtain⟨l,hl⟩:=zG (l:=t.dst) (i:=t.port) (by rw[M.s.lo];exact hp)
  rw[hl]at hr;cases l with
  |no=>exact absurd rfl ((hf v t hv).2 _ (zac hl))
  |que e g=>
   obtain⟨q,hq,hqg⟩:=h.lq v t hv e g (.inr (zac hl));simp only[RigV.qf,hq,decide_eq_true_eq]at hr;exact zlV V ρ N v e g t q w0 h hb hro hN hv hg hl hq hqg hr
  |tape o g=>
   obtain⟨p,hp1,hpg⟩:=h.lt v t hv o g (zac hl);exact zlW V ρ N v o g t p w0 h hb hro hN hv hg hl hp1 hpg
 |false=>
  have hp:=M.sh.p0 hg;rw[if_neg (by rw[hg];simp)]at hr
  by_cases hpe:t.port=t.rin.length
  ·exact zkG V ρ N v t w0 h hb hN hv hg hpe
  ·rw[if_neg hpe]at hr;have hp':t.port<t.rin.length:=by omega
   obtain⟨l,hl⟩:=zG (l:=t.src) (i:=t.port) (by rw[M.s.lf];exact hp')
   obtain⟨e,g,rfl⟩:=(hf v t hv).1 l (zac hl);obtain⟨q,hq,hqg⟩:=h.lq v t hv e g (.inl (zac hl));rw[hl]at hr;simp only[RigV.ql,hq,decide_eq_true_eq]at hr;exact take_rig V ρ N v e g t q w0 h hb hv hg hp' hl hq hqg hr
def RigV.rdyAt(V:RigV)(v:Nat):Bool:=match V.tasks[v]? with|some t=>V.rdy t|none=>false
def RigV.rdys(V:RigV)(k:Nat):List Nat:=(List.range k).filter V.rdyAt
def cellsN(l:List Nat):List Value:=cellsI (l.map fun v:Nat=>(v:Int))
theorem zip(l:List Nat):(cellsN l).length=l.length:=by unfold cellsN;rw[cellsI_length,zA]
theorem zgD(l:List Nat)(v:Nat):cellsN (l++[v])=cellsN l++cellsI [(v:Int)]:=by unfold cellsN cellsI;simp
theorem ziJ{V:RigV}{k:Nat}(h:V.rdyAt k=true):V.rdys (k+1)=V.rdys k++[k]:=by unfold RigV.rdys;rw[zaO,zcu];simp[h]
theorem zkh{V:RigV}{k:Nat}(h:V.rdyAt k=false):V.rdys (k+1)=V.rdys k:=by unfold RigV.rdys;rw[zaO,zcu];simp[h]
theorem zns(V:RigV)(k:Nat):(V.rdys k).length≤k:=by
 unfold RigV.rdys
 have:=zaX V.rdyAt (List.range k)
 rw[List.length_range]at this;exact this
theorem zbT.at_{w:World}{ρ:Nat→Tg}{r:Nat}{e:TypeId}{A:Option Addr}{n c:Nat}{gs:List Nat}(h:zbT w ρ r e (.slice A n c) gs){i g:Nat}(hi:gs[i]?=some g):∃b,A=some ⟨b,0,none⟩∧b<w.heap.size∧w.cell? ⟨b,i,none⟩=some (.pointer (some ⟨g,0,none⟩)):=by
 obtain⟨A',c',he,-⟩:=zH h.m;injection he with e1 e2 e3;subst e1 e2 e3;obtain⟨b,rfl⟩:=zbi h.m (by have:=zao hi;omega)
 exact⟨b,rfl,own_lt' h.m rfl,zoq (rd_of_own h.m) (zbj (fun g=>Value.pointer (some ⟨g,0,none⟩)) hi)⟩
theorem zbT.len{w:World}{ρ:Nat→Tg}{r:Nat}{e:TypeId}{v:Value}{gs:List Nat}(h:zbT w ρ r e v gs):∃A c,v= .slice A gs.length c∧gs.length≤c:=zH h.m
theorem ziK(V:RigV)(ρ:Nat→Tg)(w:World)(h:RigM w ρ V)(hf:V.full)(hn:V.tasks.length≤1048576)(hfl:V.failed<0):
  Calls Tryz.prog 44 #[.pointer (some ⟨V.rg,0,none⟩)] w fun e w'=>∃A c,e= .returned (.slice A (V.rdys V.tasks.length).length c)∧Rd w' w'.heap.size A (cellsN (V.rdys V.tasks.length))∧Below w.heap.size w w':=by
 obtain⟨ii,hii,hz0,hz1,hz2⟩:=info_parts zas;obtain⟨A0,c0,htl,-⟩:=h.tl.len;rw[zA]at htl;have kb:=h.rg;unfold RigV.cells at kb;rw[htl]at kb;have TL:=h.tl;rw[htl]at TL;obtain⟨n,hnn⟩:∃n,V.tasks.length=n:=⟨_,rfl⟩;obtain⟨fl,hfl2⟩:∃n,V.failed=n:=⟨_,rfl⟩;obtain⟨rg,hrg⟩:∃n,V.rg=n:=⟨_,rfl⟩;rw[hnn]at kb TL hn⊢;rw[hfl2]at kb hfl;rw[hrg]at kb⊢;have k0:=kb.cellL 0 rfl;have k4:=kb.cellL 4 rfl;have hf0:decide (fl≥0)=false:=by simp;omega
 have HM:=Lh h;have HF:=Lh hf;have HT:=Lh TL;have Hnn:=Lh hnn;clear h hf kb TL hnn htl hfl2 hrg
 go_enter Tryz.func44, Tryz.ntmps44
 go_wp2_with fail;clear k0 k4
 go_loopw [3,20] (fun v i wr=>∃(k:Nat) (A:Option Addr) (c:Nat),k≤n∧i= .int .i64 k∧v= .slice A (V.rdys k).length c∧Below w.heap.size w wr∧wr.ownsRow w.heap.size 3 1 (.slice A (V.rdys k).length c) (V.rdys k).length (cellsN (V.rdys k))) (fun _ i _=>n-(intOf i).toNat)
 case atStart=>exact⟨0,none,0,by omega,rfl,rfl,zm _ _,⟨rfl, .inl ⟨rfl,rfl⟩⟩⟩
 case round=>
  obtain⟨k,A,c,hk,rfl,rfl,hb,ho⟩:=hrel;have hsz:=hb.size;have hle:=zns V k;obtain⟨l,hl⟩:∃l,(V.rdys k).length=l:=⟨_,rfl⟩;rw[hl]at ho hle⊢;by_cases hlt:k<n
  ·obtain⟨t,ht⟩:=zG (l:=V.tasks) (i:=k) (by rw[Hnn.out];exact hlt)
   obtain⟨b0,rfl,hb0,hc⟩:=HT.out.at_ (zbj (fun t=>t.bt) ht)
   have hcr:=(hb.cell (p:=⟨b0,k,none⟩) hb0).trans hc;have h1:(0:Int)≤(k:Int):=by omega
   have h2:(k:Int)<(n:Int):=by omega
   have HR:=Lh (zg1 V ρ k t wr (HM.out.below hb) HF.out ht);have HO:=Lh ho;have HB:=Lh hb;have Hl:=Lh hl;have Hsz:=Lh hsz;obtain⟨bt,hbt⟩:∃b,t.bt=b:=⟨_,rfl⟩;rw[hbt]at HR hcr;have hat:V.rdyAt k=V.rdy t:=by unfold RigV.rdyAt;rw[ht]
   have Hat:=Lh hat;generalize V.rdy t=rd at*;clear ho hb hl hat hc ht hbt hsz
   go_wp2_with fail;refine HR.out.mono ?_
   rintro e w3 ⟨rfl,b3⟩;have hbw:=HB.out.trans (b3.mono Hsz.out);have HBw:=Lh hbw;have o3:=own_below HO.out b3;cases rd with
   |false=>
    have HO3:=Lh o3;clear b3 hbw o3
    go_wp2_with fail
    go_roundw
    case rel=>exact⟨k+1,A,c,by omega,by go_num,by rw[zkh Hat.out,Hl.out],HBw.out,by rw[zkh Hat.out,Hl.out];exact HO3.out⟩
    case measure=>simp[intOf];omega
   |true=>
    have ba:=bA_ w3 (.cells #[.int .i64 (k:Nat)] 3);have o2':=own_below o3 ba;have r2:=zal w3 _ rfl 3 [Value.int .i64 (k:Nat)];have HB2:=Lh (hbw.trans (ba.mono hbw.size));have hz3:=hbw.size;clear b3 hbw o3 ba
    go_wp2_with (at_builtin;refine zR _ rfl _ _ 36 rfl w.heap.size 3 ii (.int .i64 0) 1 8 Tryz.underlying36 hii hz0 hz1 hz2 rfl (by decide) _ l (cellsN (V.rdys k)) rfl o2' _ (some ⟨w3.heap.size,0,none⟩) 1 1 (cellsI [(k:Int)]) rfl rfl r2 (zaA _) (by unfold maxLen;omega) (by omega) (by simp;omega) ?_)
    intro v' w4 o4 g4 h4;obtain⟨A',c',rfl,_⟩:=zH o4;have b4:=HB2.out.grown g4 HB2.out.size (fun q hq=>own_ge o2' hq)
    have HO4:=Lh o4;have HB4:=Lh b4;clear o4 g4 h4 b4 o2' r2
    go_wp2_with fail
    go_roundw
    case rel=>exact⟨k+1,A',c',by omega,by go_num,by rw[ziJ Hat.out,zx,Hl.out];rfl,HB4.out,by rw[ziJ Hat.out,zx,Hl.out,zgD];exact HO4.out⟩
    case measure=>simp[intOf];omega
  ·obtain rfl:k=n:=by omega
   have HO:=Lh ho;have HB:=Lh hb;have Hl:=Lh hl;clear ho hb hl
   go_wp2_with fail
   go_ret;exact⟨A,c,by rw[Hl.out];rfl,rd_of_own HO.out,HB.out⟩
def RigV.whs(V:RigV)(k:Nat):List Nat:=(V.tasks.take k).map (·.wh)
theorem znt{V:RigV}{k:Nat}{t:TkV}(h:V.tasks[k]?=some t):V.whs (k+1)=V.whs k++[t.wh]:=by
 unfold RigV.whs;rw[zan,h,zad]
 rfl
theorem zeY(V:RigV)(ρ:Nat→Tg)(w:World)(h:RigM w ρ V)(hn:V.tasks.length≤1048576):
  Calls Tryz.prog 18 #[.pointer (some ⟨V.rg,0,none⟩)] w fun e w'=>∃A c,e= .returned (.slice A V.tasks.length c)∧Rd w' w'.heap.size A (cellsN (V.tasks.map (·.wh)))∧Below w.heap.size w w':=by
 obtain⟨ii,hii,hz0,hz1,hz2⟩:=info_parts zas;obtain⟨A0,c0,htl,-⟩:=h.tl.len;rw[zA]at htl;have kb:=h.rg;unfold RigV.cells at kb;rw[htl]at kb;have TL:=h.tl;rw[htl]at TL;have hall:V.whs V.tasks.length=V.tasks.map (·.wh):=by unfold RigV.whs;rw[zcT]
 have hwl:∀k,k≤V.tasks.length→(V.whs k).length=k:=fun k hk=>by unfold RigV.whs;rw[zA,zaH];omega
 rw[←hall];obtain⟨n,hnn⟩:∃n,V.tasks.length=n:=⟨_,rfl⟩;obtain⟨rg,hrg⟩:∃n,V.rg=n:=⟨_,rfl⟩;rw[hnn]at kb TL hn hwl⊢;rw[hrg]at kb⊢;have k0:=kb.cellL 0 rfl;have HM:=Lh h;have HT:=Lh TL;have Hnn:=Lh hnn;have HW:=Lh hwl;clear h kb TL hnn htl hrg hall hwl
 go_enter Tryz.func18, Tryz.ntmps18
 go_wp2_with fail;clear k0
 go_loopw [3,13] (fun v i wr=>∃(k:Nat) (A:Option Addr) (c:Nat),k≤n∧i= .int .i64 k∧v= .slice A k c∧Below w.heap.size w wr∧wr.ownsRow w.heap.size 3 1 (.slice A k c) k (cellsN (V.whs k))) (fun _ i _=>n-(intOf i).toNat)
 case atStart=>exact⟨0,none,0,by omega,rfl,rfl,zm _ _,⟨rfl, .inl ⟨rfl,rfl⟩⟩⟩
 case round=>
  obtain⟨k,A,c,hk,rfl,rfl,hb,ho⟩:=hrel;have hsz:=hb.size;by_cases hlt:k<n
  ·obtain⟨t,ht⟩:=zG (l:=V.tasks) (i:=k) (by rw[Hnn.out];exact hlt)
   obtain⟨b0,rfl,hb0,hc⟩:=HT.out.at_ (zbj (fun t=>t.bt) ht)
   have hcr:=(hb.cell (p:=⟨b0,k,none⟩) hb0).trans hc;have h1:(0:Int)≤(k:Int):=by omega
   have h2:(k:Int)<(n:Int):=by omega
   have kt:=(HM.out.tk k t ht).bt;have c9:=(kt.below hb kt.lt).cellL 9 rfl;have hkb:=kt.lt;unfold TkV.cells at c9;have hws:=znt ht;obtain⟨x,hx⟩:∃x,t.wh=x:=⟨_,rfl⟩;obtain⟨bt,hbt⟩:∃b,t.bt=b:=⟨_,rfl⟩;rw[hx]at c9 hws;rw[hbt]at c9 hcr;have Hws:=Lh hws;have ba:=bA_ wr (.cells #[.int .i64 (x:Nat)] 3);have o2':=own_below ho ba;have r2:=zal wr _ rfl 3 [Value.int .i64 (x:Nat)];have HB2:=Lh (hb.trans (ba.mono hsz));clear hws kt hc ht hx hbt ho ba hb
   go_wp2_with (at_builtin;refine zR _ rfl _ _ 36 rfl w.heap.size 3 ii (.int .i64 0) 1 8 Tryz.underlying36 hii hz0 hz1 hz2 rfl (by decide) _ k (cellsN (V.whs k)) rfl o2' _ (some ⟨wr.heap.size,0,none⟩) 1 1 (cellsI [(x:Int)]) rfl rfl r2 (zaA _) (by unfold maxLen;omega) (by omega) (by simp;omega) ?_)
   intro v' w4 o4 g4 h4;obtain⟨A',c',rfl,_⟩:=zH o4;have b4:=HB2.out.grown g4 HB2.out.size (fun q hq=>own_ge o2' hq)
   have HO4:=Lh o4;have HB4:=Lh b4;clear o4 g4 h4 b4 o2' r2
   go_wp2_with fail
   go_roundw
   case rel=>exact⟨k+1,A',c',by omega,by go_num,rfl,HB4.out,by rw[Hws.out,zgD];exact HO4.out⟩
   case measure=>simp[intOf];omega
  ·obtain rfl:k=n:=by omega
   have HO:=Lh ho;have HB:=Lh hb;clear ho hb
   go_wp2_with fail
   go_ret;exact⟨A,c,rfl,rd_of_own HO.out,HB.out⟩
theorem zfi(V:RigV)(ρ:Nat→Tg)(w:World)(h:RigM w ρ V)(hf:V.full)(hn:V.tasks.length≤1048576):
  Calls Tryz.prog 19 #[.pointer (some ⟨V.rg,0,none⟩)] w fun e w'=>e= .returned (.int .u8 (if 0≤V.failed then 3 else if(V.rdys V.tasks.length).length=0 then 5 else 0))∧Below w.heap.size w w':=by
 have kb:=h.rg;unfold RigV.cells at kb;have k4:=kb.cellL 4 rfl;by_cases hfl:0≤V.failed
 ·rw[if_pos hfl];generalize V.failed=fl at*;generalize V.rg=rg at*;have hf0:decide (fl≥0)=true:=by simp;omega
  clear kb h hf
  go_enter Tryz.func19, Tryz.ntmps19
  go_wp2_with fail
  go_ret;exact⟨rfl,zm _ _⟩
 ·rw[if_neg hfl];have HR:=Lh (ziK V ρ w h hf hn (by omega))
  generalize V.failed=fl at*;generalize V.rg=rg at*;generalize (V.rdys V.tasks.length).length=l at*;have hf0:decide (fl≥0)=false:=by simp;omega
  clear kb h hf
  go_enter Tryz.func19, Tryz.ntmps19
  go_wp2_with fail;refine HR.out.mono ?_
  rintro e w2 ⟨A,c,rfl,-,hb⟩;have HB:=Lh hb;clear hb;by_cases hl:l=0
  ·subst hl
   go_wp2_with fail
   go_ret;exact⟨rfl,HB.out⟩
  ·have hd:((l:Int)==0)=false:=by simp;omega
   go_wp2_with fail
   go_ret;exact⟨rfl,HB.out⟩
inductive RStep(V:RigV)(i:Int)(V':RigV):Bool→Prop
 |no (he:V'=V) (hn:0≤V.failed∨∀(v:Nat) (t:TkV),(v:Int)=i→V.tasks[v]?=some t→V.rdy t=false):RStep V i V' false
 |yes (v:Nat) (t:TkV) (ok:Bool) (hi:(v:Int)=i) (hv:V.tasks[v]?=some t) (hf:V.failed<0) (hr:V.rdy t=true) (hs:StepE V v t V' ok) (hfail:V'.failed=if ok=true then V.failed else(v:Int)):RStep V i V' true
def zfy(V:RigV)(ρ:Nat→Tg)(N:Nat)(i:Int)(w:World)(e:Ending)(w':World):Prop:=
 ∃b V' ρ',e= .returned (.bool b)∧Moved ρ ρ' w w'∧RigM w' ρ' V'∧V.same V'∧V'.bnd (N+1)∧RStep V i V' b
theorem StepE.failed{V V':RigV}{v:Nat}{t:TkV}{ok:Bool}(h:StepE V v t V' ok)(f:Int):StepE V v t {V' with failed:=f} ok:=by
 cases h with
 |take e g hg hp hs hq hφ hh hr hl hy hz=>exact .take e g hg hp hs hq hφ hh hr hl hy hz
 |reckon hg hp hφ hh hr hl hy hz=>exact .reckon hg hp hφ hh hr hl hy hz
 |fail hg hp hφ hh hr hl hy hz=>exact .fail hg hp hφ hh hr hl hy hz
 |giveQ e g hg hp hs hφ hh hr hl hy hz=>exact .giveQ e g hg hp hs hφ hh hr hl hy hz
 |giveT o g hg hp hs hφ hh hr hl hy hz=>exact .giveT o g hg hp hs hφ hh hr hl hy hz
theorem RigM.setFailed{w:World}{ρ:Nat→Tg}{V:RigV}(h:RigM w ρ V)(f:Int):RigM (w.setCell ⟨V.rg,4,none⟩ (.int .i64 f)) ρ {V with failed:=f}:=by
 have ho:Only (fun b=>b=V.rg) w (w.setCell ⟨V.rg,4,none⟩ (.int .i64 f)):=(Only.refl _ _).setCell _ _ fun _=>rfl
 have hne:∀(T:Tg),T≠ .rig 0→∀b,b<w.heap.size→b=V.rg→ρ b≠T:=fun T hT b _ hb he=>hT (by rw[←he,hb];exact h.rrg)
 have hr:∀b,b<w.heap.size→ρ b=ρ b:=fun _ _=>rfl
 refine⟨?_,h.rrg,h.tl.only ho hr (hne _ (by simp)),h.el.only ho hr (hne _ (by simp)),h.il.only ho hr (hne _ (by simp)),h.pl.only ho hr (hne _ (by simp)),fun v t ht=>(h.tk v t ht).only ho hr fun b hb hx=>⟨hne _ (by simp) b hb hx,fun r=>hne _ (by simp) b hb hx⟩,
  fun e q hq=>(h.qu e q hq).only ho hr (hne _ (by simp)),fun o p hp=>(h.tp o p hp).only ho hr (hne _ (by simp)),h.lq,h.lt⟩
 have:=h.rg.set 4 (.int .i64 f)
 unfold RigV.cells at this;simp only[zc,ze,zd]at this;exact this
theorem RigM.setFailed'{w:World}{ρ:Nat→Tg}{V:RigV}{rg:Nat}(h:RigM w ρ V)(hr:V.rg=rg)(f:Int):RigM (w.setCell ⟨rg,4,none⟩ (.int .i64 f)) ρ {V with failed:=f}:=by subst hr;exact h.setFailed f
theorem RigV.bnd.more{V:RigV}{N:Nat}(h:V.bnd N):V.bnd (N+1):=fun t ht=>by have:=h t ht;omega
theorem zjM(V:RigV)(ρ:Nat→Tg)(N:Nat)(i:Int)(w:World)(h:RigM w ρ V)(hf:V.full)(hb:V.bnd N)(hro:V.room)(hN:N<4611686018427387904)(hi:fits i):
  Calls Tryz.prog 43 #[.pointer (some ⟨V.rg,0,none⟩), .int .i64 i] w (zfy V ρ N i w):=by
 obtain⟨A0,c0,htl,-⟩:=h.tl.len;rw[zA]at htl;have kb:=h.rg;unfold RigV.cells at kb;rw[htl]at kb;have TL:=h.tl;rw[htl]at TL;have k0:=kb.cellL 0 rfl;have k4:=kb.cellL 4 rfl;have hno:(0≤V.failed∨∀(v:Nat) (t:TkV),(v:Int)=i→V.tasks[v]?=some t→V.rdy t=false)→zfy V ρ N i w (.returned (.bool false)) w:=fun hno=>⟨false,V,ρ,rfl,Moved.of_below (zm _ _),h,RigV.same.refl V,hb.more, .no rfl hno⟩
 by_cases hfl:0≤V.failed
 ·have HN:=Lh (hno (.inl hfl));generalize V.failed=fl at*;generalize V.rg=rg at*;have hf0:decide (fl≥0)=true:=by simp;omega
  clear kb TL h hf hb hro k0 htl hno
  go_enter Tryz.func43, Tryz.ntmps43
  go_wp2_with fail
  go_ret;exact HN.out
 ·by_cases hi0:i<0
  ·have HN:=Lh (hno (.inr fun v t hv=>by omega))
   generalize V.failed=fl at*;generalize V.rg=rg at*;have hf0:decide (fl≥0)=false:=by simp;omega
   have hf1:decide (i<0)=true:=by simp;omega
   clear kb TL h hf hb hro k0 htl hno
   go_enter Tryz.func43, Tryz.ntmps43
   go_wp2_with fail
   go_ret;exact HN.out
  ·obtain⟨v,rfl⟩:∃v:Nat,i=(v:Int):=⟨i.toNat,by omega⟩
   by_cases hvn:v<V.tasks.length
   ·obtain⟨t,ht⟩:=zG hvn;obtain⟨b0,rfl,hb0,hc⟩:=TL.at_ (zbj (fun t=>t.bt) ht)
    have HM:=Lh h;have HF:=Lh hf;have HBn:=Lh hb;have HRo:=Lh hro;have HR:=Lh (zg1 V ρ v t w h hf ht);have HS:=Lh (fun(w':World) (hb':Below w.heap.size w w') (hrd:V.rdy t=true)=>znr V ρ N v t w' (h.below hb') hf hb hro hN ht hrd)
    have HT:=Lh ht;have HNo:=Lh (fun(w':World) (hb':Below w.heap.size w w') (hrd:V.rdy t=false)=>(⟨false,V,ρ,rfl,Moved.of_below hb',h.below hb',RigV.same.refl V,hb.more, .no rfl (.inr fun v' t' hv' ht'=>by
     obtain rfl:v'=v:=by omega
     rw[ht]at ht';exact zq ht'▸hrd)⟩:zfy V ρ N (v:Int) w (.returned (.bool false)) w'))
    have HKB:=Lh kb;have HC:=Lh hc;have HYes:=Lh (fun(ok:Bool) (V':RigV) (ρ':Nat→Tg) (w':World) (hMv:Moved ρ ρ' w w') (hM:RigM w' ρ' V') (hsm:V.same V') (hbn:V'.bnd (N+1)) (hrd:V.rdy t=true) (hs:StepE V v t V' ok) (hfail:V'.failed=if ok=true then V.failed else(v:Int))=>(⟨true,V',ρ',rfl,hMv,hM,hsm,hbn, .yes v t ok rfl ht (by omega) hrd hs hfail⟩:zfy V ρ N (v:Int) w (.returned (.bool true)) w'))
    obtain⟨n,hnn⟩:∃n,V.tasks.length=n:=⟨_,rfl⟩;obtain⟨fl,hfl2⟩:∃n,V.failed=n:=⟨_,rfl⟩;obtain⟨rg,hrg⟩:∃n,V.rg=n:=⟨_,rfl⟩;obtain⟨bt,hbt⟩:∃b,t.bt=b:=⟨_,rfl⟩;rw[hnn]at k0 hvn HKB;rw[hfl2]at k4 hfl HKB HYes;rw[hrg]at k0 k4 HKB⊢;rw[hbt]at HR HS hc HC;have Hrg:=Lh hrg;have Hfl:=Lh hfl2;have h1:(0:Int)≤(v:Int):=by omega
    have h2:(v:Int)<(n:Int):=by omega
    have hf0:decide (fl≥0)=false:=by simp;omega
    have hf1:decide ((v:Int)<0)=false:=by simp
    have hf2:decide (n≤v)=false:=by simp;omega
    clear kb TL h hf hb hro htl hno ht hnn hfl2 hrg hbt;cases hrd:V.rdy t with
    |false=>
     rw[hrd]at HR;have HN2:=Lh fun(w':World) (hb':Below w.heap.size w w')=>HNo.out w' hb' hrd
     clear hrd HYes HS
     go_enter Tryz.func43, Tryz.ntmps43
     go_wp2_with fail;refine HR.out.mono ?_
     rintro e w2 ⟨rfl,b2⟩;have HA:=Lh (HN2.out w2 b2);clear b2
     go_wp2_with fail
     go_ret;exact HA.out
    |true=>
     rw[hrd]at HR;have HS2:=Lh fun(w':World) (hb':Below w.heap.size w w')=>HS.out w' hb' hrd
     have Hrd:=Lh hrd;clear hrd HNo HS
     go_enter Tryz.func43, Tryz.ntmps43
     go_wp2_with fail;refine HR.out.mono ?_
     rintro e w2 ⟨rfl,b2⟩;have kb2:=HKB.out.below b2 HKB.out.lt;have c0:=kb2.cellL 0 rfl;have cc:=(b2.cell (p:=⟨b0,v,none⟩) hb0).trans HC.out;have HS3:=Lh (HS2.out w2 b2);have HB2:=Lh b2;clear b2 kb2 k0 k4 hc
     go_wp2_with fail;refine HS3.out.mono ?_
     rintro e w3 ⟨ok,V',ρ',rfl,hmv,hM,hsm,hfail,hbn,hs⟩;have hMv:=(Moved.of_below (ρ:=ρ) HB2.out).trans hmv;clear c0 cc;cases ok with
     |true=>
      have HA:=Lh (HYes.out true V' ρ' w3 hMv hM hsm hbn Hrd.out hs (by rw[if_pos rfl,hfail,Hfl.out]))
      clear hM hsm hfail hbn hs HYes hmv hMv
      go_wp2_with fail
      go_ret;exact HA.out
     |false=>
      have k3:=hM.rg;have e3:V'.rg=rg:=hsm.rg.trans Hrg.out;have hM2:=hM.setFailed' e3 (v:Int);have hMv2:Moved ρ ρ' w (w3.setCell ⟨rg,4,none⟩ (.int .i64 (v:Int))):=⟨hMv.tag,hMv.only.setCell _ _ fun hlt=>by
       intro he;have h1:=hM.rrg;rw[e3,hMv.tag _ hlt]at h1;exact absurd (he▸h1:Tg.fix= .rig 0) (by simp)⟩
      unfold RigV.cells at k3;rw[e3]at k3;have c4:=k3.cellL 4 rfl;have f4:=k3.frozen 4;have HA:=Lh (HYes.out false {V' with failed:=(v:Int)} ρ' _ hMv2 hM2 ⟨hsm.rg,hsm.nE,hsm.tk,hsm.qs⟩ hbn Hrd.out (hs.failed _) rfl);clear hM hsm hfail hbn hs HYes k3 hM2 hmv hMv hMv2 e3
      go_wp2_with fail
      go_ret;exact HA.out
   ·have HN:=Lh (hno (.inr fun v' t hv ht=>by have:=zao ht;omega))
    generalize V.tasks.length=n at*;generalize V.failed=fl at*;generalize V.rg=rg at*;have hf0:decide (fl≥0)=false:=by simp;omega
    have hf1:decide ((v:Int)<0)=false:=by simp
    have hf2:decide (n≤v)=true:=by simp;omega
    clear kb TL h hf hb hro htl hno
    go_enter Tryz.func43, Tryz.ntmps43
    go_wp2_with fail
    go_ret;exact HN.out
def RigV.shp(V:RigV):Prop:=∀(v:Nat) (t:TkV),V.tasks[v]?=some t→t.sh∧t.hand.length=t.rin.length∧(t.gives=true→t.gift.length=t.rout.length)
theorem RigM.shp{w:World}{ρ:Nat→Tg}{V:RigV}(h:RigM w ρ V):V.shp:=fun v t ht=>⟨(h.tk v t ht).sh,(h.tk v t ht).h.lh,fun hg=>((h.tk v t ht).g hg).lg⟩
structure RigJ(J:Nat→RigV→Prop)(M:Nat):Prop where
 room:∀N V,J N V→N<M→V.room
 step:∀N V V' i b,J N V→N<M→V.shp→V.same V'→RStep V i V' b→J (N+1) V'
 more:∀N V,J N V→J (N+1) V
theorem RigJ.moreN{J:Nat→RigV→Prop}{M:Nat}(h:RigJ J M){N N':Nat}{V:RigV}(hj:J N V)(hn:N≤N'):J N' V:=by
 induction hn with
 |refl=>exact hj
 |step _ ih=>exact h.more _ _ ih
structure zeo(J:Nat→RigV→Prop)(V0:RigV)(ρ0:Nat→Tg)(w0:World)(N:Nat)(V:RigV)(ρ:Nat→Tg)(w:World):Prop where
 m:RigM w ρ V
 s:V0.same V
 b:V.bnd N
 j:J N V
 v:Moved ρ0 ρ w0 w
theorem RigV.same.len{V V':RigV}(h:V.same V'):V'.tasks.length=V.tasks.length:=by
 have:=congrArg List.length h.tk
 rwa [zA,zA]at this
theorem RigV.bnd.moreN{V:RigV}{N N':Nat}(h:V.bnd N)(hn:N≤N'):V.bnd N':=fun t ht=>by have:=h t ht;omega
theorem zeo.start{J:Nat→RigV→Prop}{V:RigV}{ρ:Nat→Tg}{w:World}{N:Nat}(hm:RigM w ρ V)(hb:V.bnd N)(hj:J N V):zeo J V ρ w N V ρ w:=⟨hm,RigV.same.refl V,hb,hj,Moved.of_below (zm _ _)⟩
theorem zeo.rstep{J:Nat→RigV→Prop}{M:Nat}(hJ:RigJ J M){V0 V:RigV}{ρ0 ρ:Nat→Tg}{w0 w:World}{N:Nat}{i:Int}(h:zeo J V0 ρ0 w0 N V ρ w)(hN:N<M){e:Ending}{w':World}(ha:zfy V ρ N i w e w'):
  ∃b V' ρ',e= .returned (.bool b)∧zeo J V0 ρ0 w0 (N+1) V' ρ' w'∧V.same V'∧RStep V i V' b:=by
 obtain⟨b,V',ρ',h1,h2,h3,h4,h5,h6⟩:=ha;exact⟨b,V',ρ',h1,⟨h3,h.s.trans h4,h5,hJ.step N V V' i b h.j hN h.m.shp h4 h6,h.v.trans h2⟩,h4,h6⟩
theorem zkH{l:List Nat}{i v:Nat}(h:l[i]?=some v):(cellsN l)[i]?=some (.int .i64 (v:Nat)):=by unfold cellsN cellsI;simp[h]
end Go.Proofs.YtpmlljbebdidgaaGreatDoor
