/- Lemmas and walks for the claim: Ek, El, Gg, Gh. -/
import Derived.Test.YtpmlljbebdidgaaGreatDoorA0
import Derived.Test.YtpmlljbebdidgaaGreatDoorA24
import Derived.Test.YtpmlljbebdidgaaGreatDoorA14
set_option linter.unusedSimpArgs false
set_option maxRecDepth 100000
set_option maxHeartbeats 4000000
namespace Go.Proofs.YtpmlljbebdidgaaGreatDoor
open Go.RowKit
inductive SeqP(P:RigV→Prop):Nat→RigV→RigV→Nat→Prop
 |nil (V:RigV):SeqP P 0 V V 0
 |snoc {k:Nat} {V V1 V2:RigV} {c:Nat} {b:Bool} (h:SeqP P k V V1 c) (hp:P V1) (hm:V1.same V2) (hs:RStep V1 (k:Int) V2 b):SeqP P (k+1) V V2 (c+(if b=true then 1 else 0))
inductive RndP(P:RigV→Prop)(n:Nat):Nat→RigV→RigV→Nat→Prop
 |nil (V:RigV):RndP P n 0 V V 0
 |snoc {j:Nat} {V V1 V2:RigV} {d c:Nat} (h:RndP P n j V V1 d) (hs:SeqP P n V1 V2 c) (hc:c≠0):RndP P n (j+1) V V2 (d+c)
def MetP(J:Nat→RigV→Prop)(V:RigV):Prop:=V.shp∧∃N,J N V
theorem SeqP.le{P:RigV→Prop}{k:Nat}{V V':RigV}{c:Nat}(h:SeqP P k V V' c):c≤k:=by
 induction h with
 |nil=>exact zF _
 |snoc h hp hm hs ih=>split<;>omega
theorem RndP.le{P:RigV→Prop}{n k:Nat}{V V':RigV}{c:Nat}(h:RndP P n k V V' c):c≤k*n:=by
 induction h with
 |nil=>exact zJ _
 |snoc h hs hc ih=>
  have:=hs.le
  rw[zdL,zdM];omega
theorem zfZ(J:Nat→RigV→Prop)(M:Nat)(hJ:RigJ J M)(V:RigV)(ρ:Nat→Tg)(N:Nat)(w:World)(h:RigM w ρ V)(hf:V.full)(hb:V.bnd N)(hj:J N V)(hM:M≤4611686018427387904)(n:Nat)(hnn:V.tasks.length=n)(hn:n≤1048576)
  (m:Nat) (hm:m≤4096) (hNl:N+m*n≤M):
  Calls Tryz.prog 16 #[.pointer (some ⟨V.rg,0,none⟩), .int .i64 m] w fun e w'=>∃(d:Nat) (V':RigV) (ρ':Nat→Tg),e= .returned (.int .i64 d)∧zeo J V ρ w (N+m*n) V' ρ' w'∧
   (RndP (MetP J) n m V V' d∨∃j V1,j<m∧RndP (MetP J) n j V V1 d∧SeqP (MetP J) n V1 V' 0):=by
 have HF:=Lh hf;have HS:=Lh (zeo.start h hb hj);have HJ:=Lh hJ;have Hnn:=Lh hnn;obtain⟨rg,hrg⟩:∃n,V.rg=n:=⟨_,rfl⟩;rw[hrg];have Hrg:=Lh hrg;have hmn:m*n≤4096*1048576:=zdx hm hn;obtain⟨mn,hmn2⟩:∃q,m*n=q:=⟨_,rfl⟩;rw[hmn2]at hmn hNl⊢;have Hmn:=Lh hmn2;have e1:min (m:Int) 4096=m:=by omega
 have e2:max (0:Int) (m:Int)=m:=by omega
 clear h hf hb hj hJ hrg hmn2 hnn
 go_enter Tryz.func16, Tryz.ntmps16
 go_wp2_with fail
 go_loopw [5,13] (fun a i wr=>∃(j d:Nat) (V1:RigV) (ρ1:Nat→Tg),j≤m∧i= .int .i64 j∧a= .int .i64 d∧zeo J V ρ w (N+j*n) V1 ρ1 wr∧RndP (MetP J) n j V V1 d) (fun _ i _=>m-(intOf i).toNat)
 case atStart=>exact⟨0,0,V,ρ,by omega,rfl,rfl,by rw[zbA];exact HS.out, .nil V⟩
 case round=>
  clear HS;obtain⟨j,d,V1,ρ1,hj,rfl,rfl,hat,hrp⟩:=hrel;have hdle:=hrp.le;have hjn:j*n≤mn:=by rw[←Hmn.out];exact zb0 n hj
  obtain⟨jn,hjn2⟩:∃q,j*n=q:=⟨_,rfl⟩;rw[hjn2]at hat hdle hjn;by_cases hlt:j<m
  ·have hj1:(j+1)*n≤mn:=by rw[←Hmn.out];exact zb0 n hlt
   rw[zdL,zdM,hjn2]at hj1;have Hjn:=Lh hjn2;have kb:=hat.m.rg;obtain⟨A0,c0,htl,-⟩:=hat.m.tl.len;rw[zA,hat.s.len,Hnn.out]at htl;unfold RigV.cells at kb;rw[htl,hat.s.rg,Hrg.out]at kb;have k0:=kb.cellL 0 rfl;have HAt:=Lh hat;have HRp:=Lh hrp;clear hat hrp htl kb hjn2
   go_wp2_with fail;clear k0
   go_loopw [5,21] (fun a i wx=>∃(k c:Nat) (V2:RigV) (ρ2:Nat→Tg),k≤n∧i= .int .i64 k∧a= .int .i64 ((d+c:Nat):Int)∧zeo J V ρ w (N+jn+k) V2 ρ2 wx∧SeqP (MetP J) k V1 V2 c) (fun _ i _=>n-(intOf i).toNat)
   case atStart=>exact⟨0,0,V1,ρ1,by omega,rfl,rfl,HAt.out, .nil V1⟩
   case round=>
    clear HAt;obtain⟨k,c,V2,ρ2,hk,rfl,rfl,hat,hsq⟩:=hrel;have hcle:=hsq.le;by_cases hlt2:k<n
    ·have HSt:=Lh (zjM V2 ρ2 (N+jn+k) (k:Int) wr hat.m (hat.s.full HF.out) hat.b (HJ.out.room _ _ hat.j (by omega)) (by omega) (by unfold fits;omega))
     have erg:V2.rg=rg:=hat.s.rg.trans Hrg.out
     rw[erg]at HSt;have HAt2:=Lh hat;have HSq:=Lh hsq;have h1:(k:Int)<(n:Int):=by omega
     clear hat hsq erg
     go_wp2_with fail;refine HSt.out.mono ?_
     intro e w3 ha;obtain⟨b3,V3,ρ3,rfl,hat3,hsm,hrs⟩:=HAt2.out.rstep HJ.out (by omega) ha
     have HA3:=Lh hat3;have HSq3:=Lh (SeqP.snoc HSq.out ⟨HAt2.out.m.shp,_,HAt2.out.j⟩ hsm hrs);clear ha hat3 hrs hsm;cases b3 with
     |false=>
      go_wp2_with fail
      go_roundw
      case rel=>exact⟨k+1,c,V3,ρ3,by omega,by go_num,rfl,HA3.out,HSq3.out⟩
      case measure=>simp[intOf];omega
     |true=>
      have ew:IntKind.i64.wrap (((d+c:Nat):Int)+1)=((d+(c+1):Nat):Int):=by rw[IntKind.wrap_i64];omega
      go_wp2_with fail
      go_roundw
      case rel=>exact⟨k+1,c+1,V3,ρ3,by omega,by go_num,by go_num,HA3.out,HSq3.out⟩
      case measure=>simp[intOf];omega
    ·obtain rfl:k=n:=by omega
     have HAt2:=Lh hat;have HSq:=Lh hsq;have h1:¬((k:Int)<(k:Int)):=by omega
     clear hat hsq;by_cases hc0:c=0
     ·subst hc0
      go_wp2_with fail
      go_ret;refine⟨d,rfl,V2,⟨ρ2,HAt2.out.m,HAt2.out.s,HAt2.out.b.moreN (by omega),HJ.out.moreN HAt2.out.j (by omega),HAt2.out.v⟩, .inr ⟨j,hlt,V1,HRp.out,HSq.out⟩⟩
     ·have hne:(((d+c:Nat):Int)==(d:Int))=false:=by simp;omega
      have hne2:((d:Int)+(c:Int)==(d:Int))=false:=by simp;omega
      go_wp2_with fail
      go_roundw
      case rel=>exact⟨j+1,d+c,V2,ρ2,by omega,by go_num,by go_num,by rw[zdL,zdM,Hjn.out,←za4];exact HAt2.out, .snoc HRp.out HSq.out hc0⟩
      case measure=>simp[intOf];omega
  ·obtain rfl:j=m:=by omega
   have HAt:=Lh hat;have HRp:=Lh hrp;rw[Hmn.out]at hjn2;subst hjn2;clear hat hrp
   go_wp2_with fail
   go_ret;exact⟨d,V1,ρ1,rfl,HAt.out, .inl HRp.out⟩
theorem RigM.rows{X:Nat→Prop}{w w':World}{ρ ρ':Nat→Tg}{V V':RigV}(h:RigM w ρ V)(ho:Only X w w')(hρ:∀b,b<w.heap.size→ρ' b=ρ b)(hX:∀b,b<w.heap.size→X b→∃r,ρ b= .rig r)
  (kb:Blk w' V'.rg 119 V'.cells) (rr:ρ' V'.rg= .rig 0) (htl:zbT w' ρ' 1 120 V'.tl (V'.tasks.map (·.bt))) (hel:zbT w' ρ' 2 155 V'.el ((V'.qs.take V'.nE).map (·.g))) (hil:zbT w' ρ' 3 155 V'.il ((V'.qs.drop V'.nE).map (·.g))) (hpl:zbT w' ρ' 4 160 V'.pl (V'.tps.map (·.g)))
  (htk:∀(v:Nat) (t:TkV),V'.tasks[v]?=some t→V.tasks[v]?=some t∨(TkM w' ρ' v t∧∀l,l∈t.src∨l∈t.dst→l= .no))
  (hqu:∀(e:Nat) (q:QV),V'.qs[e]?=some q→V.qs[e]?=some q∨QuT w' ρ' e q) (htp:∀(o:Nat) (p:TpV),V'.tps[o]?=some p→V.tps[o]?=some p∨TpT w' ρ' o p)
  (hqm:∀(e:Nat) (q:QV),V.qs[e]?=some q→V'.qs[e]?=some q) (hpm:∀(o:Nat) (p:TpV),V.tps[o]?=some p→V'.tps[o]?=some p):RigM w' ρ' V':=by
 have hn:∀(T:Tg),(∀r,T≠ .rig r)→∀b,b<w.heap.size→X b→ρ b≠T:=fun T hT b hb hx he=>by
  obtain⟨r,hr⟩:=hX b hb hx;exact hT r (he.symm.trans hr)
 refine⟨kb,rr,htl,hel,hil,hpl,fun v t ht=>?_,fun e q hq=>?_,fun o p hp=>?_,fun v t ht e g hm=>?_,fun v t ht o g hm=>?_⟩
 ·rcases htk v t ht with h1|⟨h1,-⟩
  ·exact(h.tk v t h1).only ho hρ fun b hb hx=>⟨hn _ (by simp) b hb hx,fun r=>hn _ (by simp) b hb hx⟩
  ·exact h1
 ·rcases hqu e q hq with h1|h1
  ·exact(h.qu e q h1).only ho hρ (hn _ (by simp))
  ·exact h1
 ·rcases htp o p hp with h1|h1
  ·exact(h.tp o p h1).only ho hρ (hn _ (by simp))
  ·exact h1
 ·rcases htk v t ht with h1|⟨-,h1⟩
  ·obtain⟨q,h2,h3⟩:=h.lq v t h1 e g hm;exact⟨q,hqm e q h2,h3⟩
  ·have:=h1 _ hm
   cases this
 ·rcases htk v t ht with h1|⟨-,h1⟩
  ·obtain⟨q,h2,h3⟩:=h.lt v t h1 o g hm;exact⟨q,hpm o q h2,h3⟩
  ·have:=h1 _ (.inr hm)
   cases this
def RigV.okL(V:RigV)(l:Lnk):Prop:=(∀e g,l= .que e g→∃q,V.qs[e]?=some q∧q.g=g)∧∀o g,l= .tape o g→∃p,V.tps[o]?=some p∧p.g=g
theorem RigM.links{X:Nat→Prop}{w w':World}{ρ:Nat→Tg}{V:RigV}{ts:List TkV}(h:RigM w ρ V)(ho:Only X w w')(hX:∀b,b<w.heap.size→X b→∃v r,ρ b= .task v r∧(r=5∨r=6))
  (htg:ts.map (·.bt)=V.tasks.map (·.bt)) (hts:∀(v:Nat) (s:TkV),ts[v]?=some s→∃t,V.tasks[v]?=some t∧s={t with src:=s.src,dst:=s.dst}∧Blk w' t.bf 159 (s.src.map Lnk.val).toArray∧Blk w' t.bo 157 (s.dst.map Lnk.val).toArray∧
   s.src.length=t.src.length∧s.dst.length=t.dst.length∧(∀l∈s.src,l∈t.src∨V.okL l)∧∀l∈s.dst,l∈t.dst∨V.okL l):RigM w' ρ {V with tasks:=ts}:=by
 have hr:∀b,b<w.heap.size→ρ b=ρ b:=fun _ _=>rfl
 have hn:∀(T:Tg),(∀v r,T= .task v r→r≠5∧r≠6)→∀b,b<w.heap.size→X b→ρ b≠T:=fun T hT b hb hx he=>by
  obtain⟨v,r,h1,h2⟩:=hX b hb hx
  have:=hT v r (he.symm.trans h1)
  omega
 have hnt:∀(v r:Nat),r≠5→r≠6→∀b,b<w.heap.size→X b→ρ b≠ .task v r:=fun v r h5 h6=>hn _ fun v' r' he=>by
  injection he with _ he
  subst he;exact⟨h5,h6⟩
 refine⟨h.rg.onlyT ho fun hl hx=>hn (.rig 0) (by simp) _ hl hx h.rrg,h.rrg,?_,h.el.only ho hr (hn _ (by simp)),h.il.only ho hr (hn _ (by simp)),h.pl.only ho hr (hn _ (by simp)),fun v s hs=>?_,
  fun e q hq=>(h.qu e q hq).only ho hr (hn _ (by simp)),fun o p hp=>(h.tp o p hp).only ho hr (hn _ (by simp)),fun v s hs e g hm=>?_,fun v s hs o g hm=>?_⟩
 ·show zbT _ ρ 1 _ _ (ts.map (·.bt))
  rw[htg];exact h.tl.only ho hr (hn _ (by simp))
 ·have hs:ts[v]?=some s:=hs
  obtain⟨t,ht,e,kf,kd,l1,l2,-,-⟩:=hts v s hs;have M:=h.tk v t ht;have fx:=hn .fix (by simp)
  obtain⟨S,hS⟩:∃S,s.src=S:=⟨_,rfl⟩;obtain⟨D,hD⟩:∃D,s.dst=D:=⟨_,rfl⟩;rw[hS]at kf l1;rw[hD]at kd l2;rw[hS,hD]at e;subst e;refine⟨M.bt.onlyT ho fun hl hx=>hnt v 0 (by omega) (by omega) _ hl hx M.rbt,M.rbt,?_,?_,?_,fun hg=>?_,{M.sh with}⟩
  ·exact{M.s with
    bb:=M.s.bb.onlyT ho fun hl hx=>fx _ hl hx M.s.rbb
    ins:=Rd.onlyT M.s.ins ho fun q hq hx=>fx q (M.s.rI q hq).1 hx (M.s.rI q hq).2
    rI:=fun q hq=>⟨zP (M.s.rI q hq).1 ho.size,(M.s.rI q hq).2⟩
    outs:=Rd.onlyT M.s.outs ho fun q hq hx=>fx q (M.s.rO q hq).1 hx (M.s.rO q hq).2
    rO:=fun q hq=>⟨zP (M.s.rO q hq).1 ho.size,(M.s.rO q hq).2⟩
    bf:=kf
    bo:=kd
    lf:=l1.trans M.s.lf
    lo:=l2.trans M.s.lo}
  ·have hk:=M.k.only ho hr fun b hb hx=>⟨fx b hb hx,hnt v 1 (by omega) (by omega) b hb hx⟩
   exact{hk with}
  ·have hk:=M.h.only ho hr fun b hb hx=>⟨hnt v 2 (by omega) (by omega) b hb hx,fun i=>hnt v (7+i) (by omega) (by omega) b hb hx⟩
   exact{hk with}
  ·have hk:=(M.g hg).only ho hr fun b hb hx=>⟨fx b hb hx,hnt v 3 (by omega) (by omega) b hb hx⟩
   exact{hk with}
 ·have hs:ts[v]?=some s:=hs
  obtain⟨t,ht,-,-,-,-,-,l3,l4⟩:=hts v s hs;rcases hm with hm|hm
  ·rcases l3 _ hm with h1|h1
   ·exact h.lq v t ht e g (.inl h1)
   ·exact h1.1 e g rfl
  ·rcases l4 _ hm with h1|h1
   ·exact h.lq v t ht e g (.inr h1)
   ·exact h1.1 e g rfl
 ·have hs:ts[v]?=some s:=hs
  obtain⟨t,ht,-,-,-,-,-,-,l4⟩:=hts v s hs;rcases l4 _ hm with h1|h1
  ·exact h.lt v t ht o g h1
  ·exact h1.2 o g rfl
theorem qnew_bad(cap:Int)(v:Value)(w:World)(hc:cap<0):
  Calls Tryz.prog 63 #[.int .i64 cap,v] w fun e w'=>e= .returned (.tuple #[.pointer none, .int .i64 240])∧w'=w:=by
 have hd:decide (cap<0)=true:=decide_eq_true hc
 go_enter Tryz.func63, Tryz.ntmps63
 go_wp2_with fail
 go_ret2;exact⟨rfl,rfl⟩
end Go.Proofs.YtpmlljbebdidgaaGreatDoor
namespace Go.Proofs.YtpmlljbebdidgaaGreatDoor
open Go.RowKit Go.Maps
def edgeM(M:Bool→List (List Bool))(x:GEdg):Bool→List (List Bool):=fun s=>if s then zbf (M true) x.f x.fp else zbf (M false) x.t x.tp
def edgeE(M:Bool→List (List Bool))(x:GEdg):Int:=if takeE (M true) x.f x.fp=0 then(if takeE (M false) x.t x.tp=0 then(if 256<x.st.length then 88 else 0)else takeE (M false) x.t x.tp)else takeE (M true) x.f x.fp
def edgesE:List GEdg→(Bool→List (List Bool))→Int
 |[],_=>0
 |x::xs,M=>if edgeE M x=0 then edgesE xs (edgeM M x)else edgeE M x
def edgesM(xs:List GEdg)(M:Bool→List (List Bool)):Bool→List (List Bool):=xs.foldl edgeM M
theorem zjU{xs:List GEdg}{k:Nat}{x:GEdg}(hx:xs[k]?=some x)(M:Bool→List (List Bool)):edgesM (xs.take (k+1)) M=edgeM (edgesM (xs.take k) M) x:=by
 unfold edgesM;rw[zan,hx,zbQ]
 rfl
theorem zeC(xs:List GEdg):∀(M:Bool→List (List Bool)) (s:Bool),(edgesM xs M s).length=(M s).length:=by
 induction xs with
 |nil=>intro M s;rfl
 |cons x xs ih=>
  intro M s;show(edgesM xs (edgeM M x) s).length=_
  rw[ih];unfold edgeM;cases s<;>exact zde _ _ _
theorem Only.cell{X:Nat→Prop}{w w':World}(h:Only X w w'){a:Addr}(ha:a.block<w.heap.size)(hX:¬X a.block):w'.cell? a=w.cell? a:=by
 unfold World.cell?;rw[h.block a.block ha hX]
theorem CkS.notRow{w0 w:World}{B gc m nn:Nat}{hd:zB}{ns:List (List UInt8)}{Vc V:Bool→Value}{R:Bool→Nat→Nat}{M:Bool→List (List Bool)}(h:CkS w0 w B gc m hd ns nn Vc V R M)(s:Bool){g:Nat}{t:TypeId}{cs:Array Value}(hb:Blk w g t cs)(ht:t≠ 4):¬rowsX (R s) (M s).length g:=by
 rintro⟨j,hj,rfl⟩;obtain⟨cs',hk⟩:=own_block (h.row s j hj) rfl;exact ht (zaP hb hk)
theorem CkS.take{w0 w:World}{B gc m nn:Nat}{hd:zB}{ns:List (List UInt8)}{Vc V:Bool→Value}{R:Bool→Nat→Nat}{M:Bool→List (List Bool)}(h:CkS w0 w B gc m hd ns nn Vc V R M)(s:Bool)(hp:0<(M s).length)(a p:Int):
  Calls Tryz.prog 89 #[V s, .int .i64 a, .int .i64 p] w fun e w'=>e= .returned (.int .i64 (takeE (M s) a p))∧CkS w0 w' B gc m hd ns nn Vc V R (fun x=>if x=s then zbf (M s) a p else M x)∧Only (rowsX (R s) (M s).length) w w':=by
 obtain⟨g,c,hV,hS⟩:=h.side s hp;rw[hV];refine(znF B g c (R s) (M s) a p w hS).mono ?_;rintro e w' ⟨rfl,hS',hO⟩;exact⟨rfl,h.taken s hV hS' hO,hO⟩
theorem zmj(w0:World)(B gc m nn:Nat)(hd:zB)(ns:List (List UInt8))(V:Bool→Value)(R:Bool→Nat→Nat)(M:Bool→List (List Bool))(w:World)(hg:hd.good w0 B)(hl:hd.edges.length≤96)(hM:∀s,0<(M s).length)(h:CkS w0 w B gc m hd ns nn V V R M):
  Calls Tryz.prog 69 #[.pointer (some ⟨gc,0,none⟩)] w fun e w'=>∃a b c:Int,e= .returned (.tuple #[.int .i64 (edgesE hd.edges M), .agg #[.int .u8 a, .int .i64 b, .int .i64 c]])∧Below B w0 w'∧
   (edgesE hd.edges M=0→CkS w0 w' B gc m hd ns nn V V R (edgesM hd.edges M)):=by
 obtain⟨gs,hgs⟩:∃b,w.heap.size=b:=⟨_,rfl⟩;have hlt:=h.blk.lt;have hgc:=h.gcB;have hgsB:B≤gs:=by omega
 obtain⟨E,hE⟩:∃E,edgesE hd.edges M=E:=⟨_,rfl⟩;rw[hE];obtain⟨nA,hnA⟩:∃n,hd.edges.length=n:=⟨_,rfl⟩;obtain⟨aE,haE⟩:∃a,hd.aE=a:=⟨_,rfl⟩;rw[hnA]at hl;have b1:=bA_ w (.cells #[.int .u8 0, .int .i64 0, .int .i64 0] 128);have h1:=h.below b1;have s1:=Blk.new w gs hgs.symm 128 #[.int .u8 0, .int .i64 0, .int .i64 0];obtain⟨W1,hW1⟩:=wN_ b1;rw[hW1]at h1 s1;have c1:=h1.blk.cellL 2 rfl;rw[hnA,haE]at c1;have HE:=Lh hE;have HnA:=Lh hnA;have HaE:=Lh haE;have H1:=Lh h1;have HG:=Lh hg;have hS0:=Lh s1;have HM:=Lh hM;clear hE hnA haE h b1 h1 hg s1 hM
 go_enter Tryz.func69, Tryz.ntmps69
 go_wp2_with fail
 try rw[hgs]
 clear c1 hW1
 go_loopw [14] (fun i wr=>∃k:Nat,k≤nA∧i= .int .i64 k∧Blk wr gs 128 #[.int .u8 0, .int .i64 0, .int .i64 0]∧CkS w0 wr B gc m hd ns nn V V R (edgesM (hd.edges.take k) M)∧Hid (E=edgesE (hd.edges.drop k) (edgesM (hd.edges.take k) M))) (fun i _=>nA-(intOf i).toNat)
 case atStart=>exact⟨0,by omega,rfl,hS0.out,by simpa [edgesM]using H1.out,by unfold Hid;rw[←HE.out];simp[edgesM]⟩
 case round=>
  clear H1 hS0;obtain⟨k,hk,rfl,sp,hC,He⟩:=hrel;have hltc:=hC.blk.lt;by_cases hkA:k<nA
  ·have G:=HG.out.below hC.bel lR_;obtain⟨ab,ao,x,hA,hab,hxk,hxc⟩:=G.rE.flat (f:=GEdg.cells) (n:=5) (by omega) (fun _=>rfl) (k:=k) (by rw[HnA.out];exact hkA)
   rw[HaE.out]at hA;subst hA;have c0:=hxc 0 _ rfl;have c1:=hxc 1 _ rfl;have c2:=hxc 2 _ rfl;have c3:=hxc 3 _ rfl;have c4:=hxc 4 _ rfl;rw[zab]at c0;have gx:=HG.out.gE x (zv hxk);have ba:=bA_ wr (.cells #[.int .i64 x.f, .int .i64 x.fp, .int .i64 x.t, .int .i64 x.tp, .slice x.S x.st.length x.c] 69);have kx:=bN_ ba;have C2:=hC.below ba;have sp2:=sp.below ba sp.lt;obtain⟨ga,hga⟩:∃g,wr.heap.size=g:=⟨_,rfl⟩;obtain⟨W2,hW2⟩:=wN_ ba;rw[hW2]at kx C2 sp2;rw[hga]at kx;have h3:(0:Int)≤(k:Int):=by omega
   have h4:(k:Int)<(nA:Int):=by omega
   have hdr:hd.edges.drop k=x::hd.edges.drop (k+1):=by
    rw[zah (by rw[HnA.out];exact hkA)]
    congr 1
    have:=zk (l:=hd.edges) (i:=k) (by rw[HnA.out];exact hkA)
    rw[hxk]at this;exact(zq this).symm
   have He1:=He.out;rw[hdr,edgesE]at He1;have hst:=zjU hxk M;obtain⟨Mk,hMk⟩:∃v,edgesM (hd.edges.take k) M=v:=⟨_,rfl⟩;have hMl:∀s,0<(Mk s).length:=fun s=>by rw[←hMk,zeC];exact HM.out s
   rw[hMk]at hst He1 C2;have Hst:=Lh hst;have HE1:=Lh He1;have HMl:=Lh hMl;have r0:=C2.blk.cellL 7 rfl;have x0:=kx.cellL 0 rfl;have x1:=kx.cellL 1 rfl;have RA:∀w',Below W2.heap.size W2 w'→CkS w0 w' B gc m hd ns nn V V R Mk:=fun w' hb=>C2.below hb
   have NX1:=C2.notRow true C2.blk (by decide)
   have NX2:=C2.notRow true kx (by decide)
   have NX3:=C2.notRow true sp2 (by decide)
   have hltg:=C2.blk.lt;have hlta:=kx.lt;have HC2:=Lh C2;have HS2:=Lh sp2;have HK2:=Lh kx;have HRA:=Lh RA;clear hC sp ba G hdr He He1 hxc C2 sp2 kx hxk hst hMk hMl RA
   go_upto_region 4 with fail
   try rw[hW2]
   try rw[hga]
   clear hW2 c0 c1 c2 c3 c4
   go_cut [6] (fun a wx=>a= .int .i64 (takeE (Mk true) x.f x.fp)∧CkS w0 wx B gc m hd ns nn V V R (fun y=>if y=true then zbf (Mk true) x.f x.fp else Mk y)∧Blk wx gs 128 #[.int .u8 0, .int .i64 0, .int .i64 0]∧Blk wx ga 69 #[.int .i64 x.f, .int .i64 x.fp, .int .i64 x.t, .int .i64 x.tp, .slice x.S x.st.length x.c])
   case first=>
    go_region_held3 (fun w'=>w'.cell? ⟨gc,7,none⟩=some (V true)∧w'.cell? ⟨ga,0,none⟩=some (.int .i64 x.f)∧w'.cell? ⟨ga,1,none⟩=some (.int .i64 x.fp))
     (go_keep)
     (first
      |(go_at_call 89;refine((HRA.out _ (Below.drewN (zm _ _) 1)).take true (HMl.out true) x.f x.fp).mono ?_;rintro e w4 ⟨rfl,hC4,hO4⟩;have q0:w4.cell? ⟨gc,7,none⟩=some (V true):=(hO4.cell hltg NX1).trans (by simp[*]);have q1:w4.cell? ⟨ga,0,none⟩=some (.int .i64 x.f):=(hO4.cell hlta NX2).trans (by simp[*]);have q2:w4.cell? ⟨ga,1,none⟩=some (.int .i64 x.fp):=(hO4.cell hlta NX2).trans (by simp[*])))
    go_wp2
    go_meet;exact⟨rfl,hC4,(hO4.block gs HS2.out.lt NX3).trans HS2.out,(hO4.block ga HK2.out.lt NX2).trans HK2.out⟩
   case rest=>
    obtain⟨rfl,C4,sp4,kx4⟩:=hcut;obtain⟨E1,hE1⟩:∃e,takeE (Mk true) x.f x.fp=e:=⟨_,rfl⟩;rw[hE1];have HEq1:=Lh hE1;clear hE1 r0 x0 x1 NX1 NX2 NX3 hltg hlta HC2 HS2 HK2 HRA;by_cases hE0:E1=0
    ·subst hE0;obtain⟨M1,hM1⟩:∃v,(fun y=>if y=true then zbf (Mk true) x.f x.fp else Mk y)=v:=⟨_,rfl⟩
     have hMl1:0<(M1 false).length:=by rw[←hM1];exact HMl.out false
     have hM1f:M1 false=Mk false:=by rw[←hM1];rfl
     rw[hM1]at C4;have r0:=C4.blk.cellL 6 rfl;have x0:=kx4.cellL 2 rfl;have x1:=kx4.cellL 3 rfl;have RA:∀w',Below wc.heap.size wc w'→CkS w0 w' B gc m hd ns nn V V R M1:=fun w' hb=>C4.below hb
     have NX1:=C4.notRow false C4.blk (by decide)
     have NX2:=C4.notRow false kx4 (by decide)
     have NX3:=C4.notRow false sp4 (by decide)
     have hltg:=C4.blk.lt;have hlta:=kx4.lt;have HM1:=Lh hM1;have HM1f:=Lh hM1f;have HMl1:=Lh hMl1;have HS4:=Lh sp4;have HK4:=Lh kx4;have HRA:=Lh RA;clear C4 sp4 kx4 hM1 hM1f hMl1 RA
     go_upto_region 7 with fail
     go_cut [7] (fun a wx=>a= .int .i64 (takeE (M1 false) x.t x.tp)∧CkS w0 wx B gc m hd ns nn V V R (fun y=>if y=false then zbf (M1 false) x.t x.tp else M1 y)∧Blk wx gs 128 #[.int .u8 0, .int .i64 0, .int .i64 0]∧Blk wx ga 69 #[.int .i64 x.f, .int .i64 x.fp, .int .i64 x.t, .int .i64 x.tp, .slice x.S x.st.length x.c])
     case first=>
      go_region_held3 (fun w'=>w'.cell? ⟨gc,6,none⟩=some (V false)∧w'.cell? ⟨ga,2,none⟩=some (.int .i64 x.t)∧w'.cell? ⟨ga,3,none⟩=some (.int .i64 x.tp))
       (go_keep)
       (first
        |(go_at_call 89;refine((HRA.out _ (Below.drewN (zm _ _) 1)).take false HMl1.out x.t x.tp).mono ?_;rintro e w4 ⟨rfl,hC4,hO4⟩;have q0:w4.cell? ⟨gc,6,none⟩=some (V false):=(hO4.cell hltg NX1).trans (by simp[*]);have q1:w4.cell? ⟨ga,2,none⟩=some (.int .i64 x.t):=(hO4.cell hlta NX2).trans (by simp[*]);have q2:w4.cell? ⟨ga,3,none⟩=some (.int .i64 x.tp):=(hO4.cell hlta NX2).trans (by simp[*])))
      go_wp2
      go_meet;exact⟨rfl,hC4,(hO4.block gs HS4.out.lt NX3).trans HS4.out,(hO4.block ga HK4.out.lt NX2).trans HK4.out⟩
     case rest=>
      obtain⟨rfl,C7,sp7,kx7⟩:=hcut;rw[HM1f.out]at C7;rw[HM1f.out];obtain⟨E2,hE2⟩:∃e,takeE (Mk false) x.t x.tp=e:=⟨_,rfl⟩;rw[hE2];have HEq2:=Lh hE2;have hfin:(fun y=>if y=false then zbf (Mk false) x.t x.tp else M1 y)=edgesM (hd.edges.take (k+1)) M:=by
       rw[Hst.out,←HM1.out]
       funext y
       unfold edgeM;cases y<;>rfl
      rw[hfin]at C7;clear hE2 hfin r0 x0 x1 NX1 NX2 NX3 hltg hlta HS4 HK4 HRA;by_cases hE2:E2=0
      ·subst hE2;have x4:=kx7.cellL 4 rfl;have hee:edgeE Mk x=if 256<x.st.length then 88 else 0:=by unfold edgeE;rw[HEq1.out,if_pos rfl,HEq2.out,if_pos rfl]
       have He3:=HE1.out;rw[hee,←Hst.out]at He3;obtain⟨ls,hls⟩:∃n,x.st.length=n:=⟨_,rfl⟩;rw[hls]at He3 x4;have HE3:=Lh He3;have HCz:=Lh C7;have spz:=sp7;clear hee He3 hls C7 sp7 kx7;by_cases h256:256<ls
       ·have hd:decide ((256:Int)<(ls:Int))=true:=decide_eq_true (by omega)
        obtain rfl:E=88:=by have:=HE3.out;rw[if_pos h256,if_neg (by decide)]at this;exact this
        have q4:=((spz.set 0 (.int .u8 2)).set 1 (.int .i64 k)).set 2 (.int .i64 0);simp only[zc,ze,zd]at q4;have s0:=q4.cellL 0 rfl;have s1:=q4.cellL 1 rfl;have s2:=q4.cellL 2 rfl;have f0:=spz.frozen 0;have f1:=spz.frozen 1;have f2:=spz.frozen 2;have p0:=spz.cellL 0 rfl;have p1:=spz.cellL 1 rfl;have p2:=spz.cellL 2 rfl;have hO:=za9 wc gs (.int .u8 2) (.int .i64 k) (.int .i64 0);have Cz:=HCz.out.aside spz hgsB (by decide) (by decide) (by decide) hO
        have HCz2:=Lh Cz;clear Cz hO q4 spz HCz
        go_wp2_with fail;refine bodyPost_ret (v:= .tuple #[.int .i64 88, .agg #[.int .u8 2, .int .i64 k, .int .i64 0]]) (by simp[results, Tryz.results69,go_sem,s0,s1,s2]) rfl ?_
        exact⟨_,_,_,rfl,HCz2.out.bel,fun h=>(by cases h)⟩
       ·have hd:decide ((256:Int)<(ls:Int))=false:=decide_eq_false (by omega)
        have HSz:=Lh spz;clear spz
        go_wp2_with fail
        go_roundw
        case rel=>exact⟨k+1,by omega,by go_num,HSz.out,HCz.out,by unfold Hid;rw[HE3.out,if_neg h256,if_pos rfl]⟩
        case measure=>simp[intOf];omega
      ·have hne:(E2 !=0)=true:=by simpa using hE2
       have hee:edgeE Mk x=E2:=by unfold edgeE;rw[HEq1.out,if_pos rfl,HEq2.out,if_neg hE2]
       obtain rfl:E=E2:=by have:=HE1.out;rw[hee,if_neg hE2]at this;exact this
       have HCz:=Lh C7;have spz:=sp7;clear C7 sp7 kx7 hee HE1;have q4:=((spz.set 0 (.int .u8 2)).set 1 (.int .i64 k)).set 2 (.int .i64 2);simp only[zc,ze,zd]at q4;have s0:=q4.cellL 0 rfl;have s1:=q4.cellL 1 rfl;have s2:=q4.cellL 2 rfl;have f0:=spz.frozen 0;have f1:=spz.frozen 1;have f2:=spz.frozen 2;have p0:=spz.cellL 0 rfl;have p1:=spz.cellL 1 rfl;have p2:=spz.cellL 2 rfl;have hO:=za9 wc gs (.int .u8 2) (.int .i64 k) (.int .i64 2);have Cz:=HCz.out.aside spz hgsB (by decide) (by decide) (by decide) hO
       have HCz2:=Lh Cz;clear Cz hO q4 spz HCz
       go_wp2_with fail;refine bodyPost_ret (v:= .tuple #[.int .i64 E, .agg #[.int .u8 2, .int .i64 k, .int .i64 2]]) (by simp[results, Tryz.results69,go_sem,s0,s1,s2]) rfl ?_
       exact⟨_,_,_,rfl,HCz2.out.bel,fun h=>absurd h hE2⟩
    ·have hne:(E1 !=0)=true:=by simpa using hE0
     have hee:edgeE Mk x=E1:=by unfold edgeE;rw[HEq1.out,if_neg hE0]
     obtain rfl:E=E1:=by have:=HE1.out;rw[hee,if_neg hE0]at this;exact this
     have HCz:=Lh C4;have spz:=sp4;clear C4 sp4 kx4 hee HE1;have q4:=((spz.set 0 (.int .u8 2)).set 1 (.int .i64 k)).set 2 (.int .i64 1);simp only[zc,ze,zd]at q4;have s0:=q4.cellL 0 rfl;have s1:=q4.cellL 1 rfl;have s2:=q4.cellL 2 rfl;have f0:=spz.frozen 0;have f1:=spz.frozen 1;have f2:=spz.frozen 2;have p0:=spz.cellL 0 rfl;have p1:=spz.cellL 1 rfl;have p2:=spz.cellL 2 rfl;have hO:=za9 wc gs (.int .u8 2) (.int .i64 k) (.int .i64 1);have Cz:=HCz.out.aside spz hgsB (by decide) (by decide) (by decide) hO
     have HCz2:=Lh Cz;clear Cz hO q4 spz HCz
     go_wp2_with fail;refine bodyPost_ret (v:= .tuple #[.int .i64 E, .agg #[.int .u8 2, .int .i64 k, .int .i64 1]]) (by simp[results, Tryz.results69,go_sem,s0,s1,s2]) rfl ?_
     exact⟨_,_,_,rfl,HCz2.out.bel,fun h=>absurd h hE0⟩
  ·obtain rfl:k=nA:=by omega
   have hfull:hd.edges.take k=hd.edges:=zL (by rw[HnA.out];exact zF _)
   have hnil:hd.edges.drop k=[]:=zS (by rw[HnA.out];exact zF _)
   rw[hfull]at hC;obtain rfl:E=0:=by have:=He.out;rw[hnil]at this;exact this
   have HCz:=Lh hC;have spz:=sp;clear hC sp He hfull hnil;have q4:=((spz.set 0 (.int .u8 0)).set 1 (.int .i64 0)).set 2 (.int .i64 0);simp only[zc,ze,zd]at q4;have s0:=q4.cellL 0 rfl;have s1:=q4.cellL 1 rfl;have s2:=q4.cellL 2 rfl;have f0:=spz.frozen 0;have f1:=spz.frozen 1;have f2:=spz.frozen 2;have p0:=spz.cellL 0 rfl;have p1:=spz.cellL 1 rfl;have p2:=spz.cellL 2 rfl;have hO:=za9 wr gs (.int .u8 0) (.int .i64 0) (.int .i64 0);have Cz:=HCz.out.aside spz hgsB (by decide) (by decide) (by decide) hO
   have HCz2:=Lh Cz;clear Cz hO q4 spz HCz
   go_wp2_with fail;refine bodyPost_ret (v:= .tuple #[.int .i64 0, .agg #[.int .u8 0, .int .i64 0, .int .i64 0]]) (by simp[results, Tryz.results69,go_sem,s0,s1,s2]) rfl ?_
   exact⟨⟨_,_,_,rfl⟩,HCz2.out.bel,HCz2.out⟩
def zfb(ns:List (List UInt8))(M:List (List Bool))(x:PrtV):Int:=if nameE ns x.nm=0 then takeE M x.a x.p else nameE ns x.nm
def portsE:List PrtV→List (List UInt8)→List (List Bool)→Int
 |[],_,_=>0
 |x::xs,ns,M=>if zfb ns M x=0 then portsE xs (ns++[x.nm.data.toList]) (zbf M x.a x.p)else zfb ns M x
def portsM(xs:List PrtV)(M:List (List Bool)):List (List Bool):=xs.foldl (fun M x=>zbf M x.a x.p) M
def namesP(xs:List PrtV):List (List UInt8):=xs.map fun x=>x.nm.data.toList
theorem zjV{xs:List PrtV}{k:Nat}{x:PrtV}(hx:xs[k]?=some x)(M:List (List Bool)):portsM (xs.take (k+1)) M=zbf (portsM (xs.take k) M) x.a x.p:=by
 unfold portsM;rw[zan,hx,zbQ]
 rfl
theorem zcX(xs:List PrtV):∀(M:List (List Bool)),(portsM xs M).length=M.length:=by
 induction xs with
 |nil=>intro M;rfl
 |cons x xs ih=>
  intro M;show(portsM xs (zbf M x.a x.p)).length=_
  rw[ih,zde]
theorem zjW{xs:List PrtV}{k:Nat}{x:PrtV}(hx:xs[k]?=some x):namesP (xs.take (k+1))=namesP (xs.take k)++[x.nm.data.toList]:=by
 unfold namesP;rw[zan,hx,zad]
 rfl
def SpK(w w':World):Prop:=∀g cs,Blk w g 128 cs→Blk w' g 128 cs
theorem SpK.trans{a b c:World}(h:SpK a b)(h':SpK b c):SpK a c:=fun g cs k=>h' g cs (h g cs k)
theorem SpK.below{w w':World}(hb:Below w.heap.size w w'):SpK w w':=fun _ _ k=>k.below hb k.lt
theorem SpK.named{w w':World}{m n:Nat}{D:DataW Unit}{K:TypeId}{E:Value→Option (DataW Unit×List MemPlace)}(h:w.ownsMap Tryz.prog K E m n D)(ho:Only (fun k=>k=m) w w'):SpK w w':=
 fun g _ k=>(ho.block g k.lt (zdf h k)).trans k
theorem SpK.taken{w0 w w':World}{B gc m nn:Nat}{hd:zB}{ns:List (List UInt8)}{Vc V:Bool→Value}{R:Bool→Nat→Nat}{M:Bool→List (List Bool)}(h:CkS w0 w B gc m hd ns nn Vc V R M)(s:Bool){n:Nat}(hn:(M s).length=n)(ho:Only (rowsX (R s) n) w w'):SpK w w':=
 fun g _ k=>(ho.block g k.lt (hn▸h.notRow s k (by decide))).trans k
theorem SpK.aside{v w w':World}{gs:Nat}(h:SpK v w)(hv:v.heap.size=gs)(hs:v.heap.size≤w.heap.size)(ho:Only (fun k=>k=gs) w w'):SpK v w':=
 fun g cs k=>(ho.block g (zP k.lt hs) (by have:=k.lt;omega)).trans (h g cs k)
theorem zeL(w0:World)(B gc m nn:Nat)(hd:zB)(ns:List (List UInt8))(V:Bool→Value)(R:Bool→Nat→Nat)(M:Bool→List (List Bool))(s:Bool)(xs:List PrtV)(A:Option Addr)(nA cA:Nat)(kind en:Int)(w:World)(hrd:Rd w0 B A (zhE xs))(hgx:∀x∈xs,x.good)(hnA:xs.length=nA)(hl:nA≤16)(hnn:nn≤500)(hM:0<(M s).length)(h:CkS w0 w B gc m hd ns nn V V R M):
  Calls Tryz.prog 70 #[.pointer (some ⟨gc,0,none⟩), .slice A nA cA,V s, .int .u8 kind, .int .i64 en] w fun e w'=>∃a b c:Int,e= .returned (.tuple #[.int .i64 (portsE xs ns (M s)), .agg #[.int .u8 a, .int .i64 b, .int .i64 c]])∧(SpK w w'∧∃ns' nn' M',CkS w0 w' B gc m hd ns' nn' V V R M')∧
   (portsE xs ns (M s)=0→CkS w0 w' B gc m hd (ns++namesP xs) (nn+nA) V V R (updB M s (portsM xs (M s)))):=by
 obtain⟨gs,hgs⟩:∃b,w.heap.size=b:=⟨_,rfl⟩;have hlt:=h.blk.lt;have hgc:=h.gcB;have hgsB:B≤gs:=by omega
 obtain⟨E,hE⟩:∃E,portsE xs ns (M s)=E:=⟨_,rfl⟩;rw[hE];have b1:=bA_ w (.cells #[.int .u8 0, .int .i64 0, .int .i64 0] 128);have h1:=h.below b1;have K1:=SpK.below b1;have hz1:=b1.size;have s1:=Blk.new w gs hgs.symm 128 #[.int .u8 0, .int .i64 0, .int .i64 0];obtain⟨W1,hW1⟩:=wN_ b1;rw[hW1]at h1 s1 K1 hz1;have HK1:=Lh K1;have Hhgs:=Lh hgs;obtain⟨Vs,hVs⟩:∃v,V s=v:=⟨_,rfl⟩;rw[hVs];have HVs:=Lh hVs;have HE:=Lh hE;have HnA:=Lh hnA;have H1:=Lh h1;have HRD:=Lh hrd;have HGX:=Lh hgx;have hS0:=Lh s1;have HM:=Lh hM;clear hE hnA h b1 h1 hrd hgx s1 hM hVs K1
 go_enter Tryz.func70, Tryz.ntmps70
 go_wp2_with fail
 try rw[hgs]
 clear hW1
 go_loopw [18] (fun i wr=>∃k:Nat,k≤nA∧i= .int .i64 k∧Blk wr gs 128 #[.int .u8 0, .int .i64 0, .int .i64 0]∧CkS w0 wr B gc m hd (ns++namesP (xs.take k)) (nn+k) V V R (updB M s (portsM (xs.take k) (M s)))∧Hid (SpK w wr)∧w.heap.size≤wr.heap.size∧Hid (E=portsE (xs.drop k) (ns++namesP (xs.take k)) (portsM (xs.take k) (M s)))) (fun i _=>nA-(intOf i).toNat)
 case atStart=>
  refine⟨0,by omega,rfl,hS0.out,?_,HK1,hz1,by unfold Hid;rw[←HE.out];simp[portsM,namesP]⟩
  have e:updB M s (portsM (xs.take 0) (M s))=M:=by
   funext y
   by_cases hy:y=s
   ·subst hy;rw[zaw];simp[portsM]
   ·rw[zaz hy]
  rw[e]
  simpa [namesP]using H1.out
 case round=>
  clear H1 hS0;obtain⟨k,hk,rfl,sp,hC,HKw,hzw,He⟩:=hrel;have hltc:=hC.blk.lt;by_cases hkA:k<nA
  ·obtain⟨ab,ao,x,hA,hab,hxk,hxc⟩:=(HRD.out.below hC.bel lR_).flat (f:=PrtV.cells) (n:=3) (by omega) (fun _=>rfl) (k:=k) (by rw[HnA.out];exact hkA)
   subst hA;have c0:=hxc 0 _ rfl;have c1:=hxc 1 _ rfl;have c2:=hxc 2 _ rfl;rw[zab]at c0;have gx:=HGX.out x (zv hxk);have ba:=bA_ wr (.cells #[.string x.nm, .int .i64 x.a, .int .i64 x.p] 53);have kx:=bN_ ba;have C2:=hC.below ba;have K2:=HKw.out.trans (SpK.below ba);have hz2:=zy hzw ba.size;have sp2:=sp.below ba sp.lt;obtain⟨ga,hga⟩:∃g,wr.heap.size=g:=⟨_,rfl⟩;obtain⟨W2,hW2⟩:=wN_ ba;rw[hW2]at kx C2 sp2 K2 hz2;have HK2w:=Lh K2;rw[hga]at kx;have x0:=kx.cellL 0 rfl;have cm:=C2.blk.cellL 5 rfl;have h3:(0:Int)≤(k:Int):=by omega
   have h4:(k:Int)<(nA:Int):=by omega
   have hdr:xs.drop k=x::xs.drop (k+1):=by
    rw[zah (by rw[HnA.out];exact hkA)]
    congr 1
    have:=zk (l:=xs) (i:=k) (by rw[HnA.out];exact hkA)
    rw[hxk]at this;exact(zq this).symm
   have He1:=He.out;rw[hdr,portsE]at He1;have hst:=zjV hxk (M s);have hsn:=zjW hxk;obtain⟨Mk,hMk⟩:∃v,portsM (xs.take k) (M s)=v:=⟨_,rfl⟩;have hMl:0<Mk.length:=by rw[←hMk,zcX];exact HM.out
   rw[hMk]at hst He1 C2;have Hst:=Lh hst;have Hsn:=Lh hsn;have HE1:=Lh He1;have HMl:=Lh hMl;have HC2:=Lh C2;have HS2:=Lh sp2;have HK2:=Lh kx;clear hC sp ba hdr He He1 hxc C2 sp2 kx hxk hst hsn hMk hMl K2 HKw hzw
   go_wp2_with fail
   try rw[hW2]
   try rw[hga]
   refine(zh0 gc m (nn+k) (ns++namesP (xs.take k)) x.nm W2 gx.nm (by omega) HC2.out.blk.lt cm HC2.out.map).mono ?_
   rintro e w3 ⟨rfl,hm3,ho3⟩;have C3:=HC2.out.named ho3 hm3;have HK3w:=Lh (HK2w.out.trans (SpK.named HC2.out.map ho3));have hz3:=zy hz2 ho3.size;have sp3:Blk w3 gs 128 #[.int .u8 0, .int .i64 0, .int .i64 0]:=(ho3.block gs HS2.out.lt (zdf HC2.out.map HS2.out)).trans HS2.out;have kx3:Blk w3 ga 53 #[.string x.nm, .int .i64 x.a, .int .i64 x.p]:=(ho3.block ga HK2.out.lt (zdf HC2.out.map HK2.out)).trans HK2.out;obtain⟨E1,hE1⟩:∃e,nameE (ns++namesP (xs.take k)) x.nm=e:=⟨_,rfl⟩;rw[hE1];have HN1:=Lh hE1;clear hE1 hm3 ho3 HC2 HS2 HK2 x0 cm hW2 c0 c1 c2 HK2w hz2;by_cases hE0:E1=0
   ·have hnsN:ze4 (ns++namesP (xs.take k)) x.nm=ns++namesP (xs.take (k+1)):=by
     unfold ze4;rw[HN1.out,if_pos hE0,Hsn.out,zbR]
    rw[hnsN]at C3;have hpe:zfb (ns++namesP (xs.take k)) Mk x=takeE Mk x.a x.p:=by unfold zfb;rw[HN1.out,if_pos hE0]
    have He2:=HE1.out;rw[hpe,zbR,←Hsn.out,←Hst.out]at He2;subst hE0;have x1:=kx3.cellL 1 rfl;have x2:=kx3.cellL 2 rfl;have NX3:=C3.notRow s sp3 (by decide)
    have hsl:0<(updB M s Mk s).length:=by rw[zaw];exact HMl.out
    have htk:=C3.take s hsl x.a x.p;rw[HVs.out,zaw]at htk;have HTK:=Lh htk;have HC3:=Lh C3;have HE2:=Lh He2;have HS3:=Lh sp3;clear hnsN hpe He2 C3 sp3 kx3 hsl htk HE1 HN1
    go_wp2_with fail;refine HTK.out.mono ?_
    rintro e wz ⟨rfl,C4,O4⟩;rw[zaw]at NX3;have HK4w:=Lh (HK3w.out.trans (SpK.taken HC3.out s (by rw[zaw]) O4))
    have hz4:=zy hz3 O4.size;have spz:Blk wz gs 128 #[.int .u8 0, .int .i64 0, .int .i64 0]:=(O4.block gs HS3.out.lt NX3).trans HS3.out;have hfin:(fun y=>if y=s then zbf Mk x.a x.p else updB M s Mk y)=updB M s (portsM (xs.take (k+1)) (M s)):=by
     rw[Hst.out]
     funext y
     by_cases hy:y=s
     ·subst hy;rw[if_pos rfl,zaw]
     ·rw[if_neg hy,zaz hy,zaz hy]
    rw[hfin]at C4;obtain⟨E2,hE2⟩:∃e,takeE Mk x.a x.p=e:=⟨_,rfl⟩;rw[hE2];have He3:=HE2.out;rw[hE2]at He3;have HE3:=Lh He3;have HCz:=Lh C4;clear hE2 He3 hfin C4 O4 NX3 HTK HE2 HS3 x1 x2 HC3 HK3w hz3;by_cases hE2:E2=0
    ·subst hE2;have HSz:=Lh spz;clear spz
     go_wp2_with fail
     go_roundw
     case rel=>exact⟨k+1,by omega,by go_num,HSz.out,HCz.out,HK4w,hz4,HE3.out.trans (if_pos (by trivial))⟩
     case measure=>simp[intOf];omega
    ·have hne:(E2 !=0)=true:=by simpa using hE2
     obtain rfl:E=E2:=by have:=HE3.out;rw[if_neg hE2]at this;exact this
     have q4:=((spz.set 0 (.int .u8 kind)).set 1 (.int .i64 k)).set 2 (.int .i64 en);simp only[zc,ze,zd]at q4;have s0:=q4.cellL 0 rfl;have s1:=q4.cellL 1 rfl;have s2:=q4.cellL 2 rfl;have f0:=spz.frozen 0;have f1:=spz.frozen 1;have f2:=spz.frozen 2;have p0:=spz.cellL 0 rfl;have p1:=spz.cellL 1 rfl;have p2:=spz.cellL 2 rfl;have hO:=za9 wz gs (.int .u8 kind) (.int .i64 k) (.int .i64 en);have Cz:=HCz.out.aside spz hgsB (by decide) (by decide) (by decide) hO
     have HCz2:=Lh Cz;clear Cz hO q4 spz HCz
     go_wp2_with fail;refine bodyPost_ret (v:= .tuple #[.int .i64 E, .agg #[.int .u8 kind, .int .i64 k, .int .i64 en]]) (by simp[results, Tryz.results70,go_sem,s0,s1,s2]) rfl ?_
     exact⟨_,_,_,rfl,⟨HK4w.out.aside Hhgs.out hz4 (za9 wz gs _ _ _),_,_,_,HCz2.out⟩,fun h=>absurd h hE2⟩
   ·have hne:(E1 !=0)=true:=by simpa using hE0
    have hpe:zfb (ns++namesP (xs.take k)) Mk x=E1:=by unfold zfb;rw[HN1.out,if_neg hE0]
    obtain rfl:E=E1:=by have:=HE1.out;rw[hpe,if_neg hE0]at this;exact this
    have HCz:=Lh C3;have spz:=sp3;clear C3 sp3 kx3 hpe HE1 HN1;have q4:=((spz.set 0 (.int .u8 kind)).set 1 (.int .i64 k)).set 2 (.int .i64 0);simp only[zc,ze,zd]at q4;have s0:=q4.cellL 0 rfl;have s1:=q4.cellL 1 rfl;have s2:=q4.cellL 2 rfl;have f0:=spz.frozen 0;have f1:=spz.frozen 1;have f2:=spz.frozen 2;have p0:=spz.cellL 0 rfl;have p1:=spz.cellL 1 rfl;have p2:=spz.cellL 2 rfl;have hO:=za9 w3 gs (.int .u8 kind) (.int .i64 k) (.int .i64 0);have Cz:=HCz.out.aside spz hgsB (by decide) (by decide) (by decide) hO
    have HCz2:=Lh Cz;clear Cz hO q4 spz HCz
    go_wp2_with fail;refine bodyPost_ret (v:= .tuple #[.int .i64 E, .agg #[.int .u8 kind, .int .i64 k, .int .i64 0]]) (by simp[results, Tryz.results70,go_sem,s0,s1,s2]) rfl ?_
    exact⟨_,_,_,rfl,⟨HK3w.out.aside Hhgs.out hz3 (za9 w3 gs _ _ _),_,_,_,HCz2.out⟩,fun h=>absurd h hE0⟩
  ·obtain rfl:k=nA:=by omega
   have hfull:xs.take k=xs:=zL (by rw[HnA.out];exact zF _)
   have hnil:xs.drop k=[]:=zS (by rw[HnA.out];exact zF _)
   rw[hfull]at hC;obtain rfl:E=0:=by have:=He.out;rw[hnil]at this;exact this
   have HCz:=Lh hC;have spz:=sp;clear hC sp He hfull hnil;have q4:=((spz.set 0 (.int .u8 0)).set 1 (.int .i64 0)).set 2 (.int .i64 0);simp only[zc,ze,zd]at q4;have s0:=q4.cellL 0 rfl;have s1:=q4.cellL 1 rfl;have s2:=q4.cellL 2 rfl;have f0:=spz.frozen 0;have f1:=spz.frozen 1;have f2:=spz.frozen 2;have p0:=spz.cellL 0 rfl;have p1:=spz.cellL 1 rfl;have p2:=spz.cellL 2 rfl;have hO:=za9 wr gs (.int .u8 0) (.int .i64 0) (.int .i64 0);have Cz:=HCz.out.aside spz hgsB (by decide) (by decide) (by decide) hO
   have HCz2:=Lh Cz;clear Cz hO q4 spz HCz
   go_wp2_with fail;refine bodyPost_ret (v:= .tuple #[.int .i64 0, .agg #[.int .u8 0, .int .i64 0, .int .i64 0]]) (by simp[results, Tryz.results70,go_sem,s0,s1,s2]) rfl ?_
   exact⟨⟨_,_,_,rfl⟩,⟨HKw.out.aside Hhgs.out hzw (za9 wr gs _ _ _),_,_,_,HCz2.out⟩,HCz2.out⟩
end Go.Proofs.YtpmlljbebdidgaaGreatDoor
