/- Lemmas and walks for the claim: Ed, Ee. -/
import Derived.Test.YtpmlljbebdidgaaGreatDoorA0
import Derived.Test.YtpmlljbebdidgaaGreatDoorA22
set_option linter.unusedSimpArgs false
set_option maxHeartbeats 4000000
namespace Go.Proofs.YtpmlljbebdidgaaGreatDoor
open Go.RowKit
theorem zeU(w:World)(T:TypeId):w.ownsRow 0 T 1 (.slice none 0 0) 0 []:=⟨rfl, .inl ⟨rfl,rfl⟩⟩
def nilR:RowV:=⟨none,0,[]⟩
theorem znq(n:Nat):(List.replicate n nilR).map RowV.val=List.replicate n (Value.slice none 0 0):=by rw[List.map_replicate];rfl
theorem zdS{n i:Nat}{r:RowV}(h:(List.replicate n nilR)[i]?=some r):r=nilR:=by
 rw[zbh]at h;split at h
 ·exact(zq h).symm
 ·cases h
theorem TkH.empty{w:World}{ρ:Nat→Tg}{v g:Nat}{t:TkV}(hb:Blk w g 36 (List.replicate t.rin.length (Value.slice none 0 0)).toArray)(hr:ρ g= .task v 2)(e1:t.bh=g)(e2:t.hand=List.replicate t.rin.length nilR):TkH w ρ v t:=by
 refine⟨by rw[e1,e2,znq];exact hb,by rw[e1];exact hr,by rw[e2,zK],fun i r h=>?_⟩
 rw[e2]at h;obtain rfl:=zdS h;exact⟨zeU _ _,fun x hx=>(by cases hx),fun q hq=>(by cases hq)⟩
theorem zhS{w0 w1 w':World}{ρ ρ':Nat→Tg}{v:Nat}{t:TkV}{own:Nat→Prop}{S:Tg}{r:RowV}{cur:Array Value}{b o o2 m d:Nat}(M:TkM w0 ρ v t)(hg:t.gives=true)(hr:t.gift[t.port]?=some r)(hcur:Blk w0 t.gg 36 cur)(hcg:∀(i:Nat) (r:RowV),t.gift[i]?=some r→cur[i]?=some r.val)
  (hrA:r.A=some ⟨b,o,none⟩) (hrl:r.xs.length=m+1) (hrc:r.c=d+1) (ho:Only own w0 w1) (hS:∀b,own b→ρ b=S) (s0:S≠ .fix) (s1:∀u k,S≠ .task u k) (h2:Only (fun q=>q=t.bt∨q=t.gg) w1 w') (ho2:(d=0∧o2=o)∨(d≠0∧o2=o+1))
  (hρ:∀b,b<w0.heap.size→ρ' b=ρ b) (hρ2:∀b,w1.heap.size≤b→ρ' b= .task v 2)
  (G:zkg w1 t.bt (.pointer (some ⟨t.bb,0,none⟩)) (.slice (some ⟨t.bf,0,none⟩) t.rin.length t.rin.length) t.bo t.rout.length t.I t.rin.length t.cI t.O t.cO (.slice (some ⟨t.bh,0,none⟩) t.rin.length t.rin.length) t.gg t.cg t.port t.wh cur b o2 m d w'):
  ∃t':TkV,TkM w' ρ' v t'∧t'.stat=t.stat∧t'.n=t.n∧t'.wh≤t.wh+1∧t'.wh+(if t'.gives=true then 1 else 0)=t.wh+1∧(∀i,t'.hd i=0)∧∀i,t'.rm i=if i=t.port then t.rm i-1 else t.rm i:=by
 have TG:=M.g hg;have hp:=M.sh.p1 hg;obtain⟨hfi,hfo⟩:=KdV.rates_few M.k.kd.rt;obtain⟨mo,hmo⟩:=zG hp;have hgp:=(M.sh.g1 hg t.port r mo hr hmo).2.1 rfl;have hO:Only (fun b=>own b∨(b=t.bt∨b=t.gg)) w0 w':=(ho.mono fun b _ hb1=>Or.inl hb1).trans (h2.mono fun b _ hb1=>Or.inr hb1)
 let C:Tg→Prop:=fun g=>g=S∨g= .task v 0∨g= .task v 3
 have hX:∀b,b<w0.heap.size→(own b∨(b=t.bt∨b=t.gg))→C (ρ b):=fun b _ hx=>by
  rcases hx with hx|rfl|rfl
  ·exact .inl (hS b hx)
  ·exact .inr (.inl M.rbt)
  ·exact .inr (.inr TG.rgg)
 have hXn:∀(T:Tg),¬C T→∀b,b<w0.heap.size→(own b∨(b=t.bt∨b=t.gg))→ρ b≠T:=fun T hT b hb1 hx he=>hT (he▸hX b hb1 hx)
 have cfix:¬C .fix:=fun h=>by
  rcases h with h|h|h
  ·exact s0 h.symm
  ·cases h
  ·cases h
 have ctask:∀k,k≠0→k≠3→¬C (.task v k):=fun k k0 k3 h=>by
  rcases h with h|h|h
  ·exact s1 _ _ h.symm
  ·injection h with _ h;exact k0 h
  ·injection h with _ h;exact k3 h
 have TS':=M.s.only hO hρ fun b hb1 hx=>⟨hXn .fix cfix b hb1 hx,hXn (.task v 5) (ctask 5 (by omega) (by omega)) b hb1 hx,hXn (.task v 6) (ctask 6 (by omega) (by omega)) b hb1 hx⟩
 have TK':=M.k.only hO hρ fun b hb1 hx=>⟨hXn .fix cfix b hb1 hx,hXn (.task v 1) (ctask 1 (by omega) (by omega)) b hb1 hx⟩
 have TH':=M.h.only hO hρ fun b hb1 hx=>⟨hXn (.task v 2) (ctask 2 (by omega) (by omega)) b hb1 hx,fun i=>hXn (.task v (7+i)) (ctask (7+i) (by omega) (by omega)) b hb1 hx⟩
 have hgb:=hcur.lt;obtain⟨rok,rfx⟩:=TG.ok t.port r hr;obtain⟨r',hr'⟩:∃r':RowV,r'=⟨some ⟨b,o2,none⟩,d,r.xs.tail⟩:=⟨_,rfl⟩;have hrl':r'.xs.length=m:=by rw[hr'];show r.xs.tail.length=m;rw[List.length_tail,hrl];rfl
 have hv':r'.val= .slice (some ⟨b,o2,none⟩) m d:=by
  unfold RowV.val;rw[hrl',hr']
 have hbfix:b<w0.heap.size∧ρ b= .fix:=rfx b (by rw[hrA];rfl)
 have rok':r'.ok w' w'.heap.size∧∀q,blkOf r'.A=some q→q<w'.heap.size∧ρ' q= .fix:=by
  refine⟨⟨?_,fun y hy=>?_,?_,?_⟩,fun q hq=>?_⟩
  ·have hrd:=Rd.onlyT rok.rd hO fun q hq hx=>hXn .fix cfix q (rfx q hq).1 hx (rfx q hq).2
   rw[hr'];show Rd w' w'.heap.size (some ⟨b,o2,none⟩) (cellsI r.xs.tail)
   rcases hrd with hrd|⟨b',off,hA,hbl,hc⟩
   ·have:=congrArg List.length hrd
    rw[cellsI_length,hrl]at this;cases this
   ·rw[hrA]at hA;injection hA with hA;injection hA with e1 e2 _;subst e1 e2;rcases ho2 with⟨hd0,rfl⟩|⟨hd0,rfl⟩
    ·have:=rok.cap
     have h0:r.xs.tail=[]:=zdy.1 (by rw[List.length_tail];omega)
     rw[h0];exact .inl rfl
    ·refine .inr ⟨b,o+1,rfl,hbl,fun j u hu=>?_⟩
     have:=hc (j+1) u (by
      rw[←hu];simp[cellsI])
     rw[show o+1+j=o+(j+1) by omega]
     exact this
  ·rw[hr']at hy;exact rok.fit y (List.mem_of_mem_tail hy)
  ·have:=rok.few;omega
  ·rw[hrl',hr']
   have:=rok.cap
   show m≤d
   omega
  ·rw[hr']at hq;have hq:some b=some q:=hq;injection hq with hq;subst hq;exact⟨zP hbfix.1 hO.size,(hρ b hbfix.1).trans hbfix.2⟩
 have hcs:t.port<cur.size:=(zQ.1 (hcg _ r hr)).1
 have TG':Blk w' t.gg 36 (cur.setIfInBounds t.port (.slice (some ⟨b,o2,none⟩) m d))→∀p',TkG w' ρ' v {t with gift:=t.gift.set t.port r',port:=p'}:=fun hbk p'=>by
  refine⟨(hρ _ hgb).trans TG.rgg,by show(t.gift.set t.port r').length=_;rw[zaR];exact TG.lg,⟨_,hbk,fun i s hs=>?_⟩,fun i s hs=>?_⟩
  ·have hs:(t.gift.set t.port r')[i]?=some s:=hs
   rw[zaU hr]at hs;by_cases hi:i=t.port
   ·rw[if_pos hi]at hs;obtain rfl:=zq hs;subst hi;rw[zbD hcs,hv']
   ·rw[if_neg hi]at hs;rw[Array.getElem?_setIfInBounds_ne fun hc=>hi hc.symm]
    exact hcg i s hs
  ·have hs:(t.gift.set t.port r')[i]?=some s:=hs
   rw[zaU hr]at hs;by_cases hi:i=t.port
   ·rw[if_pos hi]at hs;obtain rfl:=zq hs;exact rok'
   ·rw[if_neg hi]at hs;obtain⟨g1,g2⟩:=TG.ok i s hs;exact⟨{g1 with rd:=Rd.onlyT g1.rd hO fun q hq hx=>hXn .fix cfix q (g2 q hq).1 hx (g2 q hq).2},fun q hq=>⟨zP (g2 q hq).1 hO.size,(hρ q (g2 q hq).1).trans (g2 q hq).2⟩⟩
 have hrm:∀(p':Nat) (i:Nat),TkV.rm {t with gift:=t.gift.set t.port r',port:=p'} i=if i=t.port then t.rm i-1 else t.rm i:=fun p' i=>by
  unfold TkV.rm;show(if t.gives=true then(match(t.gift.set t.port r')[i]? with|some r=>r.xs.length|none=>0)else 0)=_
  rw[zaU hr];simp only[hg,if_true];by_cases hi:i=t.port
  ·subst hi;rw[if_pos rfl,if_pos rfl,hr];show r'.xs.length=r.xs.length-1
   omega
  ·rw[if_neg hi,if_neg hi]
   rfl
 have hgvv:∀p',TkV.cells {t with gift:=t.gift.set t.port r',port:=p'}=givC (.pointer (some ⟨t.bb,0,none⟩)) (.slice (some ⟨t.bf,0,none⟩) t.rin.length t.rin.length) t.bo t.rout.length t.I t.rin.length t.cI t.O t.cO (.slice (some ⟨t.bh,0,none⟩) t.rin.length t.rin.length) t.gg t.cg p' t.wh:=fun p'=>by
  unfold TkV.cells TkV.gval;simp only[hg,if_true]
 have hhd:∀(p':Nat) (i:Nat),TkV.hd {t with gift:=t.gift.set t.port r',port:=p'} i=0:=fun p' i=>by
  unfold TkV.hd;simp only[hg,if_true]
 rcases G with⟨hm0,kb',kg'⟩|⟨hm0,hpl,kb',kg'⟩|⟨hm0,hpl,g,kb',kg',hgz⟩
 ·refine⟨{t with gift:=t.gift.set t.port r',port:=t.port},⟨by rw[hgvv];exact kb',(hρ _ M.bt.lt).trans M.rbt,{TS' with},{TK' with},{TH' with},fun _=>TG' kg' _,?_⟩,rfl,rfl,zdK _,by simp[hg],hhd _,hrm _⟩
  refine⟨fun hc=>absurd (hg.symm.trans hc) (by simp),fun _=>hp,fun hc=>absurd (hg.symm.trans hc) (by simp),fun _ i s m' hs hm'=>?_⟩
  have hs:(t.gift.set t.port r')[i]?=some s:=hs
  have hm':t.rout[i]?=some m':=hm'
  show(i<t.port→_)∧(i=t.port→_)∧(t.port<i→_)
  rw[zaU hr]at hs;by_cases hi:i=t.port
  ·rw[if_pos hi]at hs;obtain rfl:=zq hs;subst hi;rw[hmo]at hm';obtain rfl:=zq hm';refine⟨fun _=>?_,fun _=>?_,fun _=>?_⟩<;>omega
  ·rw[if_neg hi]at hs;exact M.sh.g1 hg i s m' hs hm'
 ·refine⟨{t with gift:=t.gift.set t.port r',port:=t.port+1},⟨by rw[hgvv];exact kb',(hρ _ M.bt.lt).trans M.rbt,{TS' with},{TK' with},{TH' with},fun _=>TG' kg' _,?_⟩,rfl,rfl,zdK _,by simp[hg],hhd _,hrm _⟩
  refine⟨fun hc=>absurd (hg.symm.trans hc) (by simp),fun _=>hpl,fun hc=>absurd (hg.symm.trans hc) (by simp),fun _ i s m' hs hm'=>?_⟩
  have hs:(t.gift.set t.port r')[i]?=some s:=hs
  have hm':t.rout[i]?=some m':=hm'
  show(i<t.port+1→_)∧(i=t.port+1→_)∧(t.port+1<i→_)
  rw[zaU hr]at hs;by_cases hi:i=t.port
  ·rw[if_pos hi]at hs;obtain rfl:=zq hs;subst hi;refine⟨fun _=>?_,fun _=>?_,fun _=>?_⟩<;>omega
  ·rw[if_neg hi]at hs;obtain⟨a1,a2,a3⟩:=M.sh.g1 hg i s m' hs hm'
   have:=hfo.2 m' (zac hm')
   refine⟨fun _=>a1 (by omega),fun _=>?_,fun _=>a3 (by omega)⟩
   have:=a3 (by omega)
   omega
 ·refine⟨{t with bh:=g,hand:=List.replicate t.rin.length nilR,gv:= .slice none 0 0,gives:=false,port:=0,wh:=t.wh+1},⟨?_,(hρ _ M.bt.lt).trans M.rbt,{TS' with},{TK' with},TkH.empty kg' (hρ2 g hgz) rfl rfl,fun hc=>(by cases hc),?_⟩,rfl,rfl,zF _,rfl,fun i=>?_,fun i=>?_⟩
  ·have:TkV.cells {t with bh:=g,hand:=List.replicate t.rin.length nilR,gv:= .slice none 0 0,gives:=false,port:=0,wh:=t.wh+1}=#[.pointer (some ⟨t.bb,0,none⟩), .slice (some ⟨t.bf,0,none⟩) t.rin.length t.rin.length, .slice (some ⟨t.bo,0,none⟩) t.rout.length t.rout.length, .slice t.I t.rin.length t.cI, .slice t.O t.rout.length t.cO, .slice (some ⟨g,0,none⟩) t.rin.length t.rin.length, .slice none 0 0, .int .i64 0, .bool false, .int .i64 (t.wh+1)]:=by
    unfold TkV.cells TkV.gval;simp
   rw[this];exact kb'
  ·refine⟨fun _=>zJ _,fun hc=>(by cases hc),fun _ i s m' hs hm'=>?_,fun hc=>(by cases hc)⟩
   obtain rfl:=zdS hs
   have:=hfi.2 m' (zac hm')
   show(i<0→((0:Nat):Int)=m')∧(i=0→((0:Nat):Int)<m')∧(0<i→0=0)
   exact⟨fun h=>by omega,fun _=>by omega,fun _=>rfl⟩
  ·show(if false=true then 0 else match(List.replicate t.rin.length nilR)[i]? with|some r=>r.xs.length|none=>0)=0
   rw[if_neg (by simp)]
   cases hs:(List.replicate t.rin.length nilR)[i]? with
   |none=>rfl
   |some s=>obtain rfl:=zdS hs;rfl
  ·show(if false=true then _ else 0)=_
   rw[if_neg (by simp)]
   unfold TkV.rm;rw[if_pos hg];by_cases hi:i=t.port
   ·subst hi;rw[if_pos rfl,hr];show 0=r.xs.length-1
    omega
   ·rw[if_neg hi];cases hs:t.gift[i]? with
    |none=>rfl
    |some s=>
     have hil:=zao hs;rw[TG.lg]at hil;obtain⟨m',hm'⟩:=zG hil;exact((M.sh.g1 hg i s m' hs hm').1 (by omega)).symm
theorem TpT.not_task{w:World}{ρ:Nat→Tg}{o:Nat}{p:TpV}(h:TpT w ρ o p){b v r:Nat}(hb:ρ b= .task v r):¬p.own b:=fun hq=>by
 have:=(h.r b hq).symm.trans hb
 cases this
theorem TkG.first{w:World}{ρ:Nat→Tg}{v:Nat}{t:TkV}(M:TkM w ρ v t)(hg:t.gives=true):
  ∃r b o m d x cur,t.gift[t.port]?=some r∧r.A=some ⟨b,o,none⟩∧r.xs.length=m+1∧r.c=d+1∧m≤d∧m≤64∧b<w.heap.size∧w.cell? ⟨b,o,none⟩=some (.int .i64 x)∧fits x∧Blk w t.gg 36 cur∧(∀(i:Nat) (r:RowV),t.gift[i]?=some r→cur[i]?=some r.val)∧r.val= .slice (some ⟨b,o,none⟩) (m+1) (d+1):=by
 have TG:=M.g hg;have hp:=M.sh.p1 hg;obtain⟨r,hr⟩:=zG (l:=t.gift) (i:=t.port) (by rw[TG.lg];exact hp)
 obtain⟨mo,hmo⟩:=zG hp;have h0:=((M.sh.g1 hg t.port r mo hr hmo).2.1 rfl).1;obtain⟨rok,-⟩:=TG.ok t.port r hr;obtain⟨b,o,x,hA,hb,hx,hxf,hc⟩:=rok.at_ h0;obtain⟨cur,hcb,hcc⟩:=TG.row
 have:=rok.cap
 have:=rok.few
 refine⟨r,b,o,r.xs.length-1,r.c-1,x,cur,hr,hA,by omega,by omega,by omega,by omega,hb,hc,hxf,hcb,hcc,?_⟩
 unfold RowV.val;rw[hA,show r.xs.length-1+1=r.xs.length by omega,show r.c-1+1=r.c by omega]
theorem zlV(V:RigV)(ρ:Nat→Tg)(N v e g:Nat)(t:TkV)(q:QV)(w0:World)(h:RigM w0 ρ V)(hb:V.bnd N)(hro:V.room)(hN:N<4611686018427387904)(hv:V.tasks[v]?=some t)(hg:t.gives=true)(hs:t.dst[t.port]?=some (.que e g))(hq:V.qs[e]?=some q)(hqg:q.g=g)(hfree:0<q.free):
  Calls Tryz.prog 66 #[.pointer (some ⟨t.bt,0,none⟩)] w0 (zft V ρ N v t w0):=by
 subst hqg;have M:=h.tk v t hv;have Q:=h.qu e q hq;have hp:=M.sh.p1 hg;obtain⟨hfi,hfo⟩:=KdV.rates_few M.k.kd.rt;obtain⟨r,b,o,m,d,x,cur,hr,hA,hrl,hrc,hmd,hm64,hbw,hx,hxf,hcb,hcc,hval⟩:=TkG.first M hg;have TG:=M.g hg;have hbt:=hb t (zac hv);have hbq:=hro.1 q (zac hq);have kb:Blk w0 t.bt 125 (givC (.pointer (some ⟨t.bb,0,none⟩)) (.slice (some ⟨t.bf,0,none⟩) t.rin.length t.rin.length) t.bo t.rout.length t.I t.rin.length t.cI t.O t.cO (.slice (some ⟨t.bh,0,none⟩) t.rin.length t.rin.length) t.gg t.cg t.port t.wh):=by
  have:=M.bt
  unfold TkV.cells TkV.gval at this;simp only[hg,if_true]at this;exact this
 let R:World→Prop:=fun w1=>∃lv,QuM w1 {q with lv:=lv,ys:=q.ys++[x]}∧Only q.own w0 w1∧∀b,lv.ownBlock=some b→q.lv.ownBlock=some b∨w0.heap.size≤b
 have nbt:¬q.own t.bt:=Q.not_task M.rbt
 have nbg:¬q.own t.gg:=Q.not_task TG.rgg
 refine(give_any t.bt t.bo t.rout.length t.port _ _ _ t.I t.rin.length t.cI t.O t.cO t.gg t.cg t.wh (t.dst.map Lnk.val) cur _ _ _ b o m d x R w0 kb M.s.bo hcb hp hfo.1 hfi.1 (by omega) (zbj Lnk.val hs) (by rw[hcc _ r hr,hval]) hmd hm64 hbw hx (zfx M.rbt TG.rgg (by omega)) (znm q.g) zil
  (fun w' hb'=>(zgY q x w' (Q.m.below hb') hxf hfree (by omega)).mono ?_) ?_).mono ?_
 ·rintro e' w'' ⟨rfl,lv,h1,h4,h5⟩;exact⟨rfl,lv,h1,(Only.of_below hb').trans h4,fun b hb1=>(h5 b hb1).imp id fun h=>zy hb'.size h⟩
 ·rintro w' ⟨lv,h1,h4,h5⟩;exact⟨kb.only h4 nbt,hcb.only h4 nbg⟩
 ·rintro e' w' ⟨rfl,w1,o2,⟨lv,h1,h4,h5⟩,ho2,h6,G⟩;have hz1:=h4.size;have hz2:=h6.size
  let ρ':Nat→Tg:=fun b=>if b<w0.heap.size then ρ b else if b<w1.heap.size then .que e else .task v 2
  have hρ:∀b,b<w0.heap.size→ρ' b=ρ b:=fun b hb1=>if_pos hb1
  obtain⟨t',M',est,en,ewh,eφ,ehd,erm⟩:=zhS M hg hr hcb hcc hA hrl hrc h4 Q.r (by simp) (by simp) h6 ho2 hρ (fun b hb1=>by
   show(if b<w0.heap.size then ρ b else if b<w1.heap.size then Tg.que e else .task v 2)=_
   rw[if_neg (by omega),if_neg (by omega)]) G
  have hO:Only (fun b=>q.own b∨(b=t.bt∨b=t.gg)) w0 w':=(h4.mono fun b _ hb1=>Or.inl hb1).trans (h6.mono fun b _ hb1=>Or.inr hb1)
  let C:Tg→Prop:=fun g=>g= .que e∨g= .task v 0∨g= .task v 3
  have hX:∀b,b<w0.heap.size→(q.own b∨(b=t.bt∨b=t.gg))→C (ρ b):=fun b _ hx=>by
   rcases hx with hx|rfl|rfl
   ·exact .inl (Q.r b hx)
   ·exact .inr (.inl M.rbt)
   ·exact .inr (.inr TG.rgg)
  have hqT:QuT w' ρ' e {q with lv:=lv,ys:=q.ys++[x]}:=by
   have hlo:∀b,QV.own {q with lv:=lv,ys:=q.ys++[x]} b→b<w0.heap.size→ρ b= .que e:=fun b hb1 hlt=>by
    rcases hb1 with rfl|hb1
    ·exact Q.r _ (.inl rfl)
    ·rcases h5 b hb1 with h'|h'
     ·exact Q.r b (.inr h')
     ·omega
   refine⟨h1.only h6 fun b hb1 hx=>?_,fun b hb1=>?_⟩
   ·rcases hx with rfl|rfl
    ·exact absurd ((hlo _ hb1 M.bt.lt).symm.trans M.rbt) (by simp)
    ·exact absurd ((hlo _ hb1 hcb.lt).symm.trans TG.rgg) (by simp)
   ·have hb2:=h1.own_lt hb1;show(if b<w0.heap.size then ρ b else if b<w1.heap.size then Tg.que e else .task v 2)=_
    by_cases hlt:b<w0.heap.size
    ·rw[if_pos hlt];exact hlo b hb1 hlt
    ·rw[if_neg hlt,if_pos hb2]
  simp only[TkV.stat,zaj]at est;obtain⟨e1,e2,e3,e4,e5⟩:=est;refine⟨true,{V with tasks:=V.tasks.set v t',qs:=V.qs.set e {q with lv:=lv,ys:=q.ys++[x]},tps:=V.tps},ρ',rfl,⟨hρ,hO.mono fun b hb1 hx he=>by have h':=hX b hb1 hx;rw[he]at h';simp[C]at h'⟩,?_,?_,rfl,?_,?_⟩
  ·refine h.step (C:=C) hO hρ hX (by simp[C]) (by simp[C]) (by simp[C];intro u r h;rcases h with h|h<;>exact h.1) hv M' e1 e4 e5 (fun e1=>?_) fun o=> .inl ⟨rfl,by simp[C]⟩
   rw[zaU hq];by_cases he:e1=e
   ·subst he;exact .inr ⟨q,_,hq,if_pos rfl,rfl,hqT⟩
   ·exact .inl ⟨if_neg he,by simp[C,he]⟩
  ·exact⟨rfl,rfl,zbm _ hv (by simp only[TkV.stat,e1,e2,e3,e4,e5]),zbm _ hq rfl⟩
  ·intro s hs;rcases mem_set hs with rfl|hs
   ·rw[en];omega
   ·have:=hb s hs
    omega
  ·have hqle:=Q.m.le;have hlen:QV.len {q with lv:=lv,ys:=q.ys++[x]}=q.len+1:=by
    unfold QV.len;show(q.ys++[x]).length-q.k=_
    rw[zx];show q.ys.length+1-q.k=_
    omega
   refine .giveQ e q.g hg hp hs (fun u=>?_) (fun u i=>?_) (fun u i=>?_) (fun e'=>?_) (fun e'=>?_) (fun o=>rfl)
   ·rw[zfu hv,eφ];by_cases hu:u=v
    ·subst hu;rw[if_pos rfl,zfH hv,hg];rfl
    ·rw[if_neg hu]
   ·rw[zfv hv];by_cases hu:u=v
    ·subst hu;rw[if_pos rfl,zfI hv,ehd];unfold TkV.hd;rw[if_pos hg]
    ·rw[if_neg hu]
   ·rw[zfw hv];by_cases hu:u=v
    ·subst hu;rw[if_pos rfl,zeI hv,erm];by_cases hi:i=t.port
     ·rw[if_pos hi,if_pos ⟨rfl,hi⟩]
     ·rw[if_neg hi,if_neg fun hc=>hi hc.2]
    ·rw[if_neg hu,if_neg fun hc=>hu hc.1]
   ·rw[zlT hq];by_cases he:e'=e
    ·subst he;rw[if_pos rfl,if_pos rfl,hlen,zfJ hq]
    ·rw[if_neg he,if_neg he]
   ·rw[zlU hq];by_cases he:e'=e
    ·subst he;rw[if_pos rfl,if_pos rfl,zit hq];show(q.ys++[x]).length=_
     rw[zx]
     rfl
    ·rw[if_neg he,if_neg he]
theorem zlW(V:RigV)(ρ:Nat→Tg)(N v o' g:Nat)(t:TkV)(q:TpV)(w0:World)(h:RigM w0 ρ V)(hb:V.bnd N)(hro:V.room)(hN:N<4611686018427387904)(hv:V.tasks[v]?=some t)(hg:t.gives=true)(hs:t.dst[t.port]?=some (.tape o' g))(hq:V.tps[o']?=some q)(hqg:q.g=g):
  Calls Tryz.prog 66 #[.pointer (some ⟨t.bt,0,none⟩)] w0 (zft V ρ N v t w0):=by
 subst hqg;have M:=h.tk v t hv;have Q:=h.tp o' q hq;have hp:=M.sh.p1 hg;obtain⟨hfi,hfo⟩:=KdV.rates_few M.k.kd.rt;obtain⟨r,b,o,m,d,x,cur,hr,hA,hrl,hrc,hmd,hm64,hbw,hx,hxf,hcb,hcc,hval⟩:=TkG.first M hg;have TG:=M.g hg;have hbt:=hb t (zac hv);have hbq:=hro.2 q (zac hq);have kb:Blk w0 t.bt 125 (givC (.pointer (some ⟨t.bb,0,none⟩)) (.slice (some ⟨t.bf,0,none⟩) t.rin.length t.rin.length) t.bo t.rout.length t.I t.rin.length t.cI t.O t.cO (.slice (some ⟨t.bh,0,none⟩) t.rin.length t.rin.length) t.gg t.cg t.port t.wh):=by
  have:=M.bt
  unfold TkV.cells TkV.gval at this;simp only[hg,if_true]at this;exact this
 let R:World→Prop:=fun w1=>∃lv,TpM w1 {q with lv:=lv,ys:=q.ys++[x]}∧Only q.own w0 w1∧∀b,lv.ownBlock=some b→q.lv.ownBlock=some b∨w0.heap.size≤b
 have nbt:¬q.own t.bt:=Q.not_task M.rbt
 have nbg:¬q.own t.gg:=Q.not_task TG.rgg
 refine(give_any t.bt t.bo t.rout.length t.port _ _ _ t.I t.rin.length t.cI t.O t.cO t.gg t.cg t.wh (t.dst.map Lnk.val) cur _ _ _ b o m d x R w0 kb M.s.bo hcb hp hfo.1 hfi.1 (by omega) (zbj Lnk.val hs) (by rw[hcc _ r hr,hval]) hmd hm64 hbw hx (zfx M.rbt TG.rgg (by omega)) (znp q.g) zio
  (fun w' hb'=>(zky q x w' (Q.m.below hb') (by omega)).mono ?_) ?_).mono ?_
 ·rintro e' w'' ⟨rfl,lv,h1,h4,h5⟩;exact⟨rfl,lv,h1,(Only.of_below hb').trans h4,fun b hb1=>(h5 b hb1).imp id fun h=>zy hb'.size h⟩
 ·rintro w' ⟨lv,h1,h4,h5⟩;exact⟨kb.only h4 nbt,hcb.only h4 nbg⟩
 ·rintro e' w' ⟨rfl,w1,o2,⟨lv,h1,h4,h5⟩,ho2,h6,G⟩;have hz1:=h4.size;have hz2:=h6.size
  let ρ':Nat→Tg:=fun b=>if b<w0.heap.size then ρ b else if b<w1.heap.size then .tape o' else .task v 2
  have hρ:∀b,b<w0.heap.size→ρ' b=ρ b:=fun b hb1=>if_pos hb1
  obtain⟨t',M',est,en,ewh,eφ,ehd,erm⟩:=zhS M hg hr hcb hcc hA hrl hrc h4 Q.r (by simp) (by simp) h6 ho2 hρ (fun b hb1=>by
   show(if b<w0.heap.size then ρ b else if b<w1.heap.size then Tg.tape o' else .task v 2)=_
   rw[if_neg (by omega),if_neg (by omega)]) G
  have hO:Only (fun b=>q.own b∨(b=t.bt∨b=t.gg)) w0 w':=(h4.mono fun b _ hb1=>Or.inl hb1).trans (h6.mono fun b _ hb1=>Or.inr hb1)
  let C:Tg→Prop:=fun g=>g= .tape o'∨g= .task v 0∨g= .task v 3
  have hX:∀b,b<w0.heap.size→(q.own b∨(b=t.bt∨b=t.gg))→C (ρ b):=fun b _ hx=>by
   rcases hx with hx|rfl|rfl
   ·exact .inl (Q.r b hx)
   ·exact .inr (.inl M.rbt)
   ·exact .inr (.inr TG.rgg)
  have hqT:TpT w' ρ' o' {q with lv:=lv,ys:=q.ys++[x]}:=by
   have hlo:∀b,TpV.own {q with lv:=lv,ys:=q.ys++[x]} b→b<w0.heap.size→ρ b= .tape o':=fun b hb1 hlt=>by
    rcases hb1 with rfl|hb1
    ·exact Q.r _ (.inl rfl)
    ·rcases h5 b hb1 with h'|h'
     ·exact Q.r b (.inr h')
     ·omega
   refine⟨h1.only h6 fun b hb1 hx=>?_,fun b hb1=>?_⟩
   ·rcases hx with rfl|rfl
    ·exact absurd ((hlo _ hb1 M.bt.lt).symm.trans M.rbt) (by simp)
    ·exact absurd ((hlo _ hb1 hcb.lt).symm.trans TG.rgg) (by simp)
   ·have hb2:=h1.own_lt hb1;show(if b<w0.heap.size then ρ b else if b<w1.heap.size then Tg.tape o' else .task v 2)=_
    by_cases hlt:b<w0.heap.size
    ·rw[if_pos hlt];exact hlo b hb1 hlt
    ·rw[if_neg hlt,if_pos hb2]
  simp only[TkV.stat,zaj]at est;obtain⟨e1,e2,e3,e4,e5⟩:=est;refine⟨true,{V with tasks:=V.tasks.set v t',qs:=V.qs,tps:=V.tps.set o' {q with lv:=lv,ys:=q.ys++[x]}},ρ',rfl,⟨hρ,hO.mono fun b hb1 hx he=>by have h':=hX b hb1 hx;rw[he]at h';simp[C]at h'⟩,?_,?_,rfl,?_,?_⟩
  ·refine h.step (C:=C) hO hρ hX (by simp[C]) (by simp[C]) (by simp[C];intro u r h;rcases h with h|h<;>exact h.1) hv M' e1 e4 e5 (fun e1=> .inl ⟨rfl,by simp[C]⟩) fun o1=>?_
   rw[zaU hq];by_cases he:o1=o'
   ·subst he;exact .inr ⟨q,_,hq,if_pos rfl,rfl,hqT⟩
   ·exact .inl ⟨if_neg he,by simp[C,he]⟩
  ·exact⟨rfl,rfl,zbm _ hv (by simp only[TkV.stat,e1,e2,e3,e4,e5]),rfl⟩
  ·intro s hs;rcases mem_set hs with rfl|hs
   ·rw[en];omega
   ·have:=hb s hs
    omega
  ·refine .giveT o' q.g hg hp hs (fun u=>?_) (fun u i=>?_) (fun u i=>?_) (fun e'=>rfl) (fun e'=>rfl) (fun o1=>?_)
   ·rw[zfu hv,eφ];by_cases hu:u=v
    ·subst hu;rw[if_pos rfl,zfH hv,hg];rfl
    ·rw[if_neg hu]
   ·rw[zfv hv];by_cases hu:u=v
    ·subst hu;rw[if_pos rfl,zfI hv,ehd];unfold TkV.hd;rw[if_pos hg]
    ·rw[if_neg hu]
   ·rw[zfw hv];by_cases hu:u=v
    ·subst hu;rw[if_pos rfl,zeI hv,erm];by_cases hi:i=t.port
     ·rw[if_pos hi,if_pos ⟨rfl,hi⟩]
     ·rw[if_neg hi,if_neg fun hc=>hi hc.2]
    ·rw[if_neg hu,if_neg fun hc=>hu hc.1]
   ·rw[zpe hq];by_cases he:o1=o'
    ·subst he;rw[if_pos rfl,if_pos rfl,zop hq];show(q.ys++[x]).length=_
     rw[zx]
     rfl
    ·rw[if_neg he,if_neg he]
end Go.Proofs.YtpmlljbebdidgaaGreatDoor
