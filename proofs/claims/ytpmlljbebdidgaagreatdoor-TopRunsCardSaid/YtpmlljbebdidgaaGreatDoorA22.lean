/- Lemmas and walks for the claim: Ea, Eb, Ec. -/
import Derived.Test.YtpmlljbebdidgaaGreatDoorA0
import Derived.Test.YtpmlljbebdidgaaGreatDoorA21
set_option linter.unusedSimpArgs false
set_option maxHeartbeats 4000000
namespace Go.Proofs.YtpmlljbebdidgaaGreatDoor
open Go.RowKit
inductive Tg
 |fix|task (v r:Nat)|que (e:Nat)|tape (o:Nat)|rig (r:Nat)
inductive Lnk
 |no|que (e g:Nat)|tape (o g:Nat)
def Lnk.val:Lnk→Value
 | .no=> .nilIface
 | .que _ g=> .iface 155 (.agg #[.pointer (some ⟨g,0,none⟩)])
 | .tape _ g=> .iface 160 (.pointer (some ⟨g,0,none⟩))
structure TkV where
 bt:Nat
 bb:Nat
 bk:Nat
 bf:Nat
 bo:Nat
 bh:Nat
 κ:KdV
 rin:List Int
 rout:List Int
 Ai:Option Addr
 ci:Nat
 Ao:Option Addr
 co:Nat
 n:Int
 I:Option Addr
 cI:Nat
 O:Option Addr
 cO:Nat
 src:List Lnk
 dst:List Lnk
 hand:List RowV
 gv:Value
 gg:Nat
 cg:Nat
 gift:List RowV
 port:Nat
 wh:Nat
 gives:Bool
def TkV.gval(t:TkV):Value:=if t.gives=true then .slice (some ⟨t.gg,0,none⟩) t.rout.length t.cg else t.gv
def TkV.cells(t:TkV):Array Value:=
 #[.pointer (some ⟨t.bb,0,none⟩), .slice (some ⟨t.bf,0,none⟩) t.rin.length t.rin.length, .slice (some ⟨t.bo,0,none⟩) t.rout.length t.rout.length, .slice t.I t.rin.length t.cI, .slice t.O t.rout.length t.cO, .slice (some ⟨t.bh,0,none⟩) t.rin.length t.rin.length,t.gval, .int .i64 t.port, .bool t.gives, .int .i64 t.wh]
structure TkV.sh(t:TkV):Prop where
 p0:t.gives=false→t.port≤t.rin.length
 p1:t.gives=true→t.port<t.rout.length
 h1:t.gives=false→∀(i:Nat) (r:RowV) (m:Int),t.hand[i]?=some r→t.rin[i]?=some m→(i<t.port→(r.xs.length:Int)=m)∧(i=t.port→(r.xs.length:Int)<m)∧(t.port<i→r.xs.length=0)
 g1:t.gives=true→∀(i:Nat) (r:RowV) (m:Int),t.gift[i]?=some r→t.rout[i]?=some m→(i<t.port→r.xs.length=0)∧(i=t.port→0<r.xs.length∧(r.xs.length:Int)≤m)∧(t.port<i→(r.xs.length:Int)=m)
structure TkS(w:World)(ρ:Nat→Tg)(v:Nat)(t:TkV):Prop where
 bb:Blk w t.bb 187 #[.iface t.κ.pt (.pointer (some ⟨t.bk,0,none⟩))]
 rbb:ρ t.bb= .fix
 ins:Rd w w.heap.size t.I (cellsI t.rin)
 rI:∀q,blkOf t.I=some q→q<w.heap.size∧ρ q= .fix
 outs:Rd w w.heap.size t.O (cellsI t.rout)
 rO:∀q,blkOf t.O=some q→q<w.heap.size∧ρ q= .fix
 bf:Blk w t.bf 159 (t.src.map Lnk.val).toArray
 rbf:ρ t.bf= .task v 5
 lf:t.src.length=t.rin.length
 bo:Blk w t.bo 157 (t.dst.map Lnk.val).toArray
 rbo:ρ t.bo= .task v 6
 lo:t.dst.length=t.rout.length
structure TkK(w:World)(ρ:Nat→Tg)(v:Nat)(t:TkV):Prop where
 kd:KdM w t.bk t.κ t.rin t.rout t.Ai t.ci t.Ao t.co t.n
 rbk:ρ t.bk= .task v 1
 rfx:∀q,t.κ.fx t.Ai t.Ao q→q<w.heap.size∧ρ q= .fix
structure TkH(w:World)(ρ:Nat→Tg)(v:Nat)(t:TkV):Prop where
 bh:Blk w t.bh 36 (t.hand.map RowV.val).toArray
 rbh:ρ t.bh= .task v 2
 lh:t.hand.length=t.rin.length
 own:∀(i:Nat) (r:RowV),t.hand[i]?=some r→w.ownsRow 0 3 1 r.val r.xs.length (cellsI r.xs)∧AllFit r.xs∧∀q,blkOf r.A=some q→ρ q= .task v (7+i)
structure TkG(w:World)(ρ:Nat→Tg)(v:Nat)(t:TkV):Prop where
 rgg:ρ t.gg= .task v 3
 lg:t.gift.length=t.rout.length
 row:∃cur:Array Value,Blk w t.gg 36 cur∧∀(i:Nat) (r:RowV),t.gift[i]?=some r→cur[i]?=some r.val
 ok:∀(i:Nat) (r:RowV),t.gift[i]?=some r→r.ok w w.heap.size∧∀q,blkOf r.A=some q→q<w.heap.size∧ρ q= .fix
structure TkM(w:World)(ρ:Nat→Tg)(v:Nat)(t:TkV):Prop where
 bt:Blk w t.bt 125 t.cells
 rbt:ρ t.bt= .task v 0
 s:TkS w ρ v t
 k:TkK w ρ v t
 h:TkH w ρ v t
 g:t.gives=true→TkG w ρ v t
 sh:t.sh
theorem Blk.onlyT{X:Nat→Prop}{w w':World}{g:Nat}{t:TypeId}{cs:Array Value}(h:Blk w g t cs)(ho:Only X w w')(hX:g<w.heap.size→¬X g):Blk w' g t cs:=h.only ho (hX h.lt)
theorem Rd.onlyT{X:Nat→Prop}{w w':World}{A:Option Addr}{cs:List Value}(hr:Rd w w.heap.size A cs)(ho:Only X w w')(hX:∀q,blkOf A=some q→¬X q):Rd w' w'.heap.size A cs:=(Rd.only hr ho lR_ hX).more ho.size
theorem zga{X:Nat→Prop}{w w':World}{base:Nat}{e:TypeId}{size n:Nat}{v:Value}{xs:List Value}(h:w.ownsRow base e size v n xs)(ho:Only X w w')(hX:∀q,q<w.heap.size→v.ownBlock=some q→¬X q):w'.ownsRow base e size v n xs:=zae h ho fun q hq=>hX q (own_lt' h hq) hq
theorem TkS.only{X:Nat→Prop}{w w':World}{ρ ρ':Nat→Tg}{v:Nat}{t:TkV}(h:TkS w ρ v t)(ho:Only X w w')(hρ:∀q,q<w.heap.size→ρ' q=ρ q)(hX:∀q,q<w.heap.size→X q→ρ q≠ .fix∧ρ q≠ .task v 5∧ρ q≠ .task v 6):TkS w' ρ' v t:=
 {h with
  bb:=h.bb.onlyT ho fun hl hx=>(hX _ hl hx).1 h.rbb
  rbb:=(hρ _ h.bb.lt).trans h.rbb
  ins:=Rd.onlyT h.ins ho fun q hq hx=>(hX q (h.rI q hq).1 hx).1 (h.rI q hq).2
  rI:=fun q hq=>⟨zP (h.rI q hq).1 ho.size,(hρ q (h.rI q hq).1).trans (h.rI q hq).2⟩
  outs:=Rd.onlyT h.outs ho fun q hq hx=>(hX q (h.rO q hq).1 hx).1 (h.rO q hq).2
  rO:=fun q hq=>⟨zP (h.rO q hq).1 ho.size,(hρ q (h.rO q hq).1).trans (h.rO q hq).2⟩
  bf:=h.bf.onlyT ho fun hl hx=>(hX _ hl hx).2.1 h.rbf
  rbf:=(hρ _ h.bf.lt).trans h.rbf
  bo:=h.bo.onlyT ho fun hl hx=>(hX _ hl hx).2.2 h.rbo
  rbo:=(hρ _ h.bo.lt).trans h.rbo}
theorem TkK.only{X:Nat→Prop}{w w':World}{ρ ρ':Nat→Tg}{v:Nat}{t:TkV}(h:TkK w ρ v t)(ho:Only X w w')(hρ:∀q,q<w.heap.size→ρ' q=ρ q)(hX:∀q,q<w.heap.size→X q→ρ q≠ .fix∧ρ q≠ .task v 1):TkK w' ρ' v t:=
 ⟨h.kd.only ho (fun hx=>(hX _ h.kd.blk.lt hx).2 h.rbk) fun q hq hx=>(hX q (h.rfx q hq).1 hx).1 (h.rfx q hq).2,(hρ _ h.kd.blk.lt).trans h.rbk,
  fun q hq=>⟨zP (h.rfx q hq).1 ho.size,(hρ q (h.rfx q hq).1).trans (h.rfx q hq).2⟩⟩
theorem TkH.only{X:Nat→Prop}{w w':World}{ρ ρ':Nat→Tg}{v:Nat}{t:TkV}(h:TkH w ρ v t)(ho:Only X w w')(hρ:∀q,q<w.heap.size→ρ' q=ρ q)(hX:∀q,q<w.heap.size→X q→ρ q≠ .task v 2∧∀i,ρ q≠ .task v (7+i)):TkH w' ρ' v t:=
 {h with
  bh:=h.bh.onlyT ho fun hl hx=>(hX _ hl hx).1 h.rbh
  rbh:=(hρ _ h.bh.lt).trans h.rbh
  own:=fun i r hr=>by
   obtain⟨h1,h2,h3⟩:=h.own i r hr;refine⟨zga h1 ho fun q hl hq hx=>?_,h2,fun q hq=>?_⟩
   ·rw[RowV.own_val]at hq;exact(hX q hl hx).2 i (h3 q hq)
   ·exact(hρ q (own_lt' h1 (by rw[RowV.own_val];exact hq))).trans (h3 q hq)}
theorem TkG.only{X:Nat→Prop}{w w':World}{ρ ρ':Nat→Tg}{v:Nat}{t:TkV}(h:TkG w ρ v t)(ho:Only X w w')(hρ:∀q,q<w.heap.size→ρ' q=ρ q)(hX:∀q,q<w.heap.size→X q→ρ q≠ .fix∧ρ q≠ .task v 3):TkG w' ρ' v t:=by
 obtain⟨cur,hb,hc⟩:=h.row;refine⟨(hρ _ hb.lt).trans h.rgg,h.lg,⟨cur,hb.onlyT ho fun hl hx=>(hX _ hl hx).2 h.rgg,hc⟩,fun i r hr=>?_⟩
 obtain⟨h1,h2⟩:=h.ok i r hr;exact⟨{h1 with rd:=Rd.onlyT h1.rd ho fun q hq hx=>(hX q (h2 q hq).1 hx).1 (h2 q hq).2},fun q hq=>⟨zP (h2 q hq).1 ho.size,(hρ q (h2 q hq).1).trans (h2 q hq).2⟩⟩
theorem TkM.only{X:Nat→Prop}{w w':World}{ρ ρ':Nat→Tg}{v:Nat}{t:TkV}(h:TkM w ρ v t)(ho:Only X w w')(hρ:∀q,q<w.heap.size→ρ' q=ρ q)(hX:∀q,q<w.heap.size→X q→ρ q≠ .fix∧∀r,ρ q≠ .task v r):TkM w' ρ' v t:=
 ⟨h.bt.onlyT ho fun hl hx=>(hX _ hl hx).2 0 h.rbt,(hρ _ h.bt.lt).trans h.rbt,h.s.only ho hρ fun q hl hx=>⟨(hX q hl hx).1,(hX q hl hx).2 5,(hX q hl hx).2 6⟩,h.k.only ho hρ fun q hl hx=>⟨(hX q hl hx).1,(hX q hl hx).2 1⟩,
  h.h.only ho hρ fun q hl hx=>⟨(hX q hl hx).2 2,fun i=>(hX q hl hx).2 (7+i)⟩,fun hg=>(h.g hg).only ho hρ fun q hl hx=>⟨(hX q hl hx).1,(hX q hl hx).2 3⟩,h.sh⟩
structure QuT(w:World)(ρ:Nat→Tg)(e:Nat)(q:QV):Prop where
 m:QuM w q
 r:∀b,q.own b→ρ b= .que e
theorem QuM.own_lt{w:World}{q:QV}(h:QuM w q){b:Nat}(hb:q.own b):b<w.heap.size:=by
 rcases hb with rfl|hb
 ·exact h.kb.lt
 ·exact own_lt' h.row hb
theorem QuT.only{X:Nat→Prop}{w w':World}{ρ ρ':Nat→Tg}{e:Nat}{q:QV}(h:QuT w ρ e q)(ho:Only X w w')(hρ:∀q,q<w.heap.size→ρ' q=ρ q)(hX:∀b,b<w.heap.size→X b→ρ b≠ .que e):QuT w' ρ' e q:=
 ⟨h.m.only ho fun b hb hx=>hX b (h.m.own_lt hb) hx (h.r b hb),fun b hb=>(hρ b (h.m.own_lt hb)).trans (h.r b hb)⟩
structure TpT(w:World)(ρ:Nat→Tg)(o:Nat)(t:TpV):Prop where
 m:TpM w t
 r:∀b,t.own b→ρ b= .tape o
theorem TpM.own_lt{w:World}{t:TpV}(h:TpM w t){b:Nat}(hb:t.own b):b<w.heap.size:=by
 rcases hb with rfl|hb
 ·exact h.kb.lt
 ·exact own_lt' h.row hb
theorem TpT.only{X:Nat→Prop}{w w':World}{ρ ρ':Nat→Tg}{o:Nat}{t:TpV}(h:TpT w ρ o t)(ho:Only X w w')(hρ:∀q,q<w.heap.size→ρ' q=ρ q)(hX:∀b,b<w.heap.size→X b→ρ b≠ .tape o):TpT w' ρ' o t:=
 ⟨h.m.only ho fun b hb hx=>hX b (h.m.own_lt hb) hx (h.r b hb),fun b hb=>(hρ b (h.m.own_lt hb)).trans (h.r b hb)⟩
structure zbT(w:World)(ρ:Nat→Tg)(r:Nat)(e:TypeId)(v:Value)(gs:List Nat):Prop where
 m:w.ownsRow 0 e 1 v gs.length (gs.map fun g=>Value.pointer (some ⟨g,0,none⟩))
 r:∀b,v.ownBlock=some b→ρ b= .rig r
theorem zbT.only{X:Nat→Prop}{w w':World}{ρ ρ':Nat→Tg}{r:Nat}{e:TypeId}{v:Value}{gs:List Nat}(h:zbT w ρ r e v gs)(ho:Only X w w')(hρ:∀q,q<w.heap.size→ρ' q=ρ q)(hX:∀b,b<w.heap.size→X b→ρ b≠ .rig r):zbT w' ρ' r e v gs:=
 ⟨zga h.m ho fun q hl hq hx=>hX q hl hx (h.r q hq),fun b hb=>(hρ b (own_lt' h.m hb)).trans (h.r b hb)⟩
structure RigV where
 rg:Nat
 tl:Value
 el:Value
 il:Value
 pl:Value
 failed:Int
 tasks:List TkV
 qs:List QV
 nE:Nat
 tps:List TpV
def RigV.cells(V:RigV):Array Value:=#[V.tl,V.el,V.il,V.pl, .int .i64 V.failed]
structure RigM(w:World)(ρ:Nat→Tg)(V:RigV):Prop where
 rg:Blk w V.rg 119 V.cells
 rrg:ρ V.rg= .rig 0
 tl:zbT w ρ 1 120 V.tl (V.tasks.map (·.bt))
 el:zbT w ρ 2 155 V.el ((V.qs.take V.nE).map (·.g))
 il:zbT w ρ 3 155 V.il ((V.qs.drop V.nE).map (·.g))
 pl:zbT w ρ 4 160 V.pl (V.tps.map (·.g))
 tk:∀(v:Nat) (t:TkV),V.tasks[v]?=some t→TkM w ρ v t
 qu:∀(e:Nat) (q:QV),V.qs[e]?=some q→QuT w ρ e q
 tp:∀(o:Nat) (t:TpV),V.tps[o]?=some t→TpT w ρ o t
 lq:∀(v:Nat) (t:TkV),V.tasks[v]?=some t→∀(e g:Nat), .que e g∈t.src∨ .que e g∈t.dst→∃q,V.qs[e]?=some q∧q.g=g
 lt:∀(v:Nat) (t:TkV),V.tasks[v]?=some t→∀(o g:Nat), .tape o g∈t.dst→∃p,V.tps[o]?=some p∧p.g=g
def RigV.full(V:RigV):Prop:=∀(v:Nat) (t:TkV),V.tasks[v]?=some t→(∀l∈t.src,∃e g,l= .que e g)∧(∀l∈t.dst,l≠ .no)
theorem RigM.below{w w':World}{ρ:Nat→Tg}{V:RigV}(h:RigM w ρ V)(hb:Below w.heap.size w w'):RigM w' ρ V:=by
 have ho:Only (fun _=>False) w w':=Only.of_below hb
 exact{h with
  rg:=h.rg.onlyT ho fun _ hx=>hx
  tl:=h.tl.only ho (fun _ _=>rfl) fun _ _ hx=>hx.elim
  el:=h.el.only ho (fun _ _=>rfl) fun _ _ hx=>hx.elim
  il:=h.il.only ho (fun _ _=>rfl) fun _ _ hx=>hx.elim
  pl:=h.pl.only ho (fun _ _=>rfl) fun _ _ hx=>hx.elim
  tk:=fun v t ht=>(h.tk v t ht).only ho (fun _ _=>rfl) fun _ _ hx=>hx.elim
  qu:=fun e q hq=>(h.qu e q hq).only ho (fun _ _=>rfl) fun _ _ hx=>hx.elim
  tp:=fun o t ht=>(h.tp o t ht).only ho (fun _ _=>rfl) fun _ _ hx=>hx.elim}
theorem znl(g:Nat)(w:World):(method 357 155 (.agg #[.pointer (some ⟨g,0,none⟩)]) "pianola/dyn.full").run Tryz.prog w= .ok (122, .agg #[.pointer (some ⟨g,0,none⟩)]) w:=by kernel_rfl
theorem zlS(g:Nat)(w:World):(method 357 155 (.agg #[.pointer (some ⟨g,0,none⟩)]) "pianola/dyn.waits").run Tryz.prog w= .ok (124, .agg #[.pointer (some ⟨g,0,none⟩)]) w:=by kernel_rfl
theorem znm(g:Nat)(w:World):(method 357 155 (.agg #[.pointer (some ⟨g,0,none⟩)]) "pianola/dyn.give").run Tryz.prog w= .ok (64, .agg #[.pointer (some ⟨g,0,none⟩)]) w:=by kernel_rfl
theorem znn(g:Nat)(w:World):(method 357 155 (.agg #[.pointer (some ⟨g,0,none⟩)]) "pianola/dyn.take").run Tryz.prog w= .ok (123, .agg #[.pointer (some ⟨g,0,none⟩)]) w:=by kernel_rfl
theorem zno(g:Nat)(w:World):(method 357 160 (.pointer (some ⟨g,0,none⟩)) "pianola/dyn.full").run Tryz.prog w= .ok (126, .pointer (some ⟨g,0,none⟩)) w:=by kernel_rfl
theorem znp(g:Nat)(w:World):(method 357 160 (.pointer (some ⟨g,0,none⟩)) "pianola/dyn.give").run Tryz.prog w= .ok (127, .pointer (some ⟨g,0,none⟩)) w:=by kernel_rfl
theorem zik(args:Array Value)(w:World):(callFunc 122 args).run Tryz.prog w= .ok (.enter 122 args) w:=by kernel_rfl
theorem zhA(args:Array Value)(w:World):(callFunc 124 args).run Tryz.prog w= .ok (.enter 124 args) w:=by kernel_rfl
theorem zil(args:Array Value)(w:World):(callFunc 64 args).run Tryz.prog w= .ok (.enter 64 args) w:=by kernel_rfl
theorem zim(args:Array Value)(w:World):(callFunc 123 args).run Tryz.prog w= .ok (.enter 123 args) w:=by kernel_rfl
theorem zin(args:Array Value)(w:World):(callFunc 126 args).run Tryz.prog w= .ok (.enter 126 args) w:=by kernel_rfl
theorem zio(args:Array Value)(w:World):(callFunc 127 args).run Tryz.prog w= .ok (.enter 127 args) w:=by kernel_rfl
def RigV.φ(V:RigV)(v:Nat):Nat:=match V.tasks[v]? with|some t=>t.wh+(if t.gives=true then 1 else 0)|none=>0
def TkV.hd(t:TkV)(i:Nat):Nat:=if t.gives=true then 0 else match t.hand[i]? with|some r=>r.xs.length|none=>0
def TkV.rm(t:TkV)(i:Nat):Nat:=if t.gives=true then(match t.gift[i]? with|some r=>r.xs.length|none=>0)else 0
def RigV.hd(V:RigV)(v i:Nat):Nat:=match V.tasks[v]? with|some t=>t.hd i|none=>0
def RigV.rm(V:RigV)(v i:Nat):Nat:=match V.tasks[v]? with|some t=>t.rm i|none=>0
def RigV.ql(V:RigV)(e:Nat):Nat:=match V.qs[e]? with|some q=>q.len|none=>0
def RigV.qf(V:RigV)(e:Nat):Int:=match V.qs[e]? with|some q=>q.free|none=>0
def RigV.yl(V:RigV)(e:Nat):Nat:=match V.qs[e]? with|some q=>q.ys.length|none=>0
def RigV.zl(V:RigV)(o:Nat):Nat:=match V.tps[o]? with|some p=>p.ys.length|none=>0
def RigV.rdy(V:RigV)(t:TkV):Bool:=
 if t.gives=true then(match t.dst[t.port]? with|some (.que e _)=>decide (0<V.qf e)|_=>true)
 else if t.port=t.rin.length then true else(match t.src[t.port]? with|some (.que e _)=>decide (0<V.ql e)|_=>false)
theorem zac{α:Type}{l:List α}{i:Nat}{x:α}(h:l[i]?=some x):x∈l:=zv h
theorem zbj{α β:Type}{l:List α}{i:Nat}{x:α}(f:α→β)(h:l[i]?=some x):(l.map f)[i]?=some (f x):=by rw[zp,h];rfl
theorem zao{α:Type}{l:List α}{i:Nat}{x:α}(h:l[i]?=some x):i<l.length:=(zu.1 h).1
theorem zG{α:Type}{l:List α}{i:Nat}(h:i<l.length):∃x,l[i]?=some x:=⟨l[i],zk h⟩
theorem zg1(V:RigV)(ρ:Nat→Tg)(v:Nat)(t:TkV)(w:World)(h:RigM w ρ V)(hf:V.full)(hv:V.tasks[v]?=some t):
  Calls Tryz.prog 65 #[.pointer (some ⟨t.bt,0,none⟩)] w fun e w'=>e= .returned (.bool (V.rdy t))∧Below w.heap.size w w':=by
 have M:=h.tk v t hv;have kb:=M.bt;unfold TkV.cells at kb;unfold RigV.rdy;cases hg:t.gives with
 |true=>
  rw[hg]at kb;have hp:=M.sh.p1 hg;obtain⟨l,hl⟩:=zG (l:=t.dst) (i:=t.port) (by rw[M.s.lo];exact hp)
  rw[hl];cases l with
  |no=>exact absurd rfl ((hf v t hv).2 _ (zac hl))
  |que e g=>
   obtain⟨q,hq,rfl⟩:=h.lq v t hv e g (.inr (zac hl));refine(zgC t.bt t.bo t.rout.length t.port _ _ _ _ _ _ _ (t.dst.map Lnk.val) _ _ _ (decide (q.free=0)) w kb M.s.bo hp (zbj Lnk.val hl) (znl q.g) zik fun w' hb=>chFull_any q w' ((h.qu e q hq).m.below hb)).mono ?_
   rintro e' w' ⟨rfl,hb⟩;refine⟨?_,hb⟩;have h0:0≤q.free:=by unfold QV.free;omega
   simp only[RigV.qf,hq,if_pos]
   congr 1
   congr 1
   by_cases hz:q.free=0
   ·simp[hz]
   ·simp[hz];omega
  |tape o g=>
   refine(zgC t.bt t.bo t.rout.length t.port _ _ _ _ _ _ _ (t.dst.map Lnk.val) _ _ _ false w kb M.s.bo hp (zbj Lnk.val hl) (zno g) zin fun w' hb=>(zkx g w').mono ?_).mono ?_
   ·rintro e' w'' ⟨rfl,rfl⟩;exact⟨rfl,zm _ _⟩
   ·rintro e' w' ⟨rfl,hb⟩;exact⟨rfl,hb⟩
 |false=>
  rw[hg]at kb;have hp:=M.sh.p0 hg;by_cases hpe:t.port=t.rin.length
  ·refine(ziH t.bt t.rin.length t.port _ _ _ _ _ _ _ _ _ w kb hpe).mono ?_;rintro e' w' ⟨rfl,hb⟩;exact⟨by simp[hpe],hb⟩
  ·have hp':t.port<t.rin.length:=by omega
   obtain⟨l,hl⟩:=zG (l:=t.src) (i:=t.port) (by rw[M.s.lf];exact hp')
   obtain⟨e,g,rfl⟩:=(hf v t hv).1 l (zac hl);obtain⟨q,hq,rfl⟩:=h.lq v t hv e g (.inl (zac hl));refine(zjK t.bt t.bf t.rin.length t.port _ _ _ _ _ _ _ _ (t.src.map Lnk.val) _ _ _ (decide (q.len=0)) w kb M.s.bf hp' (zbj Lnk.val hl) (zlS q.g) zhA fun w' hb=>chWaits_any q w' ((h.qu e q hq).m.below hb)).mono ?_
   rintro e' w' ⟨rfl,hb⟩;refine⟨?_,hb⟩;simp only[hl,RigV.ql,hq,hpe,if_false]
   congr 1
   congr 1
   by_cases hz:q.len=0
   ·simp[hz]
   ·simp[hz];omega
theorem RigM.step{C:Tg→Prop}{X:Nat→Prop}{w w':World}{ρ ρ':Nat→Tg}{V:RigV}{v:Nat}{t t':TkV}{qs':List QV}{tps':List TpV}(h:RigM w ρ V)(ho:Only X w w')(hρ:∀q,q<w.heap.size→ρ' q=ρ q)(hX:∀b,b<w.heap.size→X b→C (ρ b))
  (c0:¬C .fix) (c1:∀r,¬C (.rig r)) (c2:∀u r,C (.task u r)→u=v) (hv:V.tasks[v]?=some t) (ht':TkM w' ρ' v t') (e1:t'.bt=t.bt) (e2:t'.src=t.src) (e3:t'.dst=t.dst)
  (hq:∀e:Nat,(qs'[e]?=V.qs[e]?∧¬C (.que e))∨∃q q',V.qs[e]?=some q∧qs'[e]?=some q'∧q'.g=q.g∧QuT w' ρ' e q')
  (hp:∀o:Nat,(tps'[o]?=V.tps[o]?∧¬C (.tape o))∨∃p p',V.tps[o]?=some p∧tps'[o]?=some p'∧p'.g=p.g∧TpT w' ρ' o p'):
  RigM w' ρ' {V with tasks:=V.tasks.set v t',qs:=qs',tps:=tps'}:=by
 have hqg:qs'.map (·.g)=V.qs.map (·.g):=by
  refine zaf fun e=>?_
  rw[zp,zp];rcases hq e with⟨h1,-⟩|⟨q,q',h1,h2,h3,-⟩
  ·rw[h1]
  ·rw[h1,h2];simp[h3]
 have hpg:tps'.map (·.g)=V.tps.map (·.g):=by
  refine zaf fun e=>?_
  rw[zp,zp];rcases hp e with⟨h1,-⟩|⟨q,q',h1,h2,h3,-⟩
  ·rw[h1]
  ·rw[h1,h2];simp[h3]
 have htg:(V.tasks.set v t').map (·.bt)=V.tasks.map (·.bt):=by
  refine zaf fun e=>?_
  rw[zp,zp,zaJ];by_cases hve:v=e
  ·subst hve;rw[if_pos rfl,if_pos (zao hv),hv];simp[e1]
  ·rw[if_neg hve]
 have hset:∀(u:Nat) (s:TkV),(V.tasks.set v t')[u]?=some s→(u=v∧s=t')∨(u≠v∧V.tasks[u]?=some s):=fun u s hs=>by
  rw[zaJ]at hs;by_cases hvu:v=u
  ·subst hvu;rw[if_pos rfl,if_pos (zao hv)]at hs;exact .inl ⟨rfl,(zq hs).symm⟩
  ·rw[if_neg hvu]at hs;exact .inr ⟨fun hc=>hvu hc.symm,hs⟩
 have hql:∀(e:Nat) (q:QV),V.qs[e]?=some q→∃q',qs'[e]?=some q'∧q'.g=q.g:=fun e q hq1=>by
  rcases hq e with⟨h1,-⟩|⟨q2,q',h1,h2,h3,-⟩
  ·exact⟨q,h1.trans hq1,rfl⟩
  ·rw[hq1]at h1;injection h1 with h1;subst h1;exact⟨q',h2,h3⟩
 have hpl:∀(e:Nat) (q:TpV),V.tps[e]?=some q→∃q',tps'[e]?=some q'∧q'.g=q.g:=fun e q hq1=>by
  rcases hp e with⟨h1,-⟩|⟨q2,q',h1,h2,h3,-⟩
  ·exact⟨q,h1.trans hq1,rfl⟩
  ·rw[hq1]at h1;injection h1 with h1;subst h1;exact⟨q',h2,h3⟩
 refine⟨h.rg.onlyT ho fun hl hx=>c1 0 (h.rrg▸hX _ hl hx),(hρ _ h.rg.lt).trans h.rrg,?_,?_,?_,?_,?_,?_,?_,?_,?_⟩
 ·show zbT w' ρ' 1 _ _ ((V.tasks.set v t').map (·.bt))
  rw[htg];exact h.tl.only ho hρ fun b hb hx he=>c1 1 (he▸hX b hb hx)
 ·show zbT w' ρ' 2 _ _ ((qs'.take V.nE).map (·.g))
  rw[zbO,hqg,←zbO];exact h.el.only ho hρ fun b hb hx he=>c1 2 (he▸hX b hb hx)
 ·show zbT w' ρ' 3 _ _ ((qs'.drop V.nE).map (·.g))
  rw[zcm,hqg,←zcm];exact h.il.only ho hρ fun b hb hx he=>c1 3 (he▸hX b hb hx)
 ·show zbT w' ρ' 4 _ _ (tps'.map (·.g))
  rw[hpg];exact h.pl.only ho hρ fun b hb hx he=>c1 4 (he▸hX b hb hx)
 ·intro u s hs;rcases hset u s hs with⟨rfl,rfl⟩|⟨hne,hs⟩
  ·exact ht'
  ·exact(h.tk u s hs).only ho hρ fun b hb hx=>⟨fun he=>c0 (he▸hX b hb hx),fun r he=>hne (c2 u r (he▸hX b hb hx))⟩
 ·intro e q hqe;rcases hq e with⟨h1,h2⟩|⟨q2,q',h1,h2,h3,h4⟩
  ·exact(h.qu e q (h1.symm.trans hqe)).only ho hρ fun b hb hx he=>h2 (he▸hX b hb hx)
  ·have he:q'=q:=zq (h2.symm.trans hqe)
   subst he;exact h4
 ·intro e q hqe;rcases hp e with⟨h1,h2⟩|⟨q2,q',h1,h2,h3,h4⟩
  ·exact(h.tp e q (h1.symm.trans hqe)).only ho hρ fun b hb hx he=>h2 (he▸hX b hb hx)
  ·have he:q'=q:=zq (h2.symm.trans hqe)
   subst he;exact h4
 ·intro u s hs e g hm;have:∃q,V.qs[e]?=some q∧q.g=g:=by
   rcases hset u s hs with⟨rfl,rfl⟩|⟨hne,hs⟩
   ·rw[e2,e3]at hm;exact h.lq _ t hv e g hm
   ·exact h.lq u s hs e g hm
  obtain⟨q,hq1,hq2⟩:=this;obtain⟨q',hq3,hq4⟩:=hql e q hq1;exact⟨q',hq3,hq4.trans hq2⟩
 ·intro u s hs o g hm;have:∃q,V.tps[o]?=some q∧q.g=g:=by
   rcases hset u s hs with⟨rfl,rfl⟩|⟨hne,hs⟩
   ·rw[e3]at hm;exact h.lt _ t hv o g hm
   ·exact h.lt u s hs o g hm
  obtain⟨q,hq1,hq2⟩:=this;obtain⟨q',hq3,hq4⟩:=hpl o q hq1;exact⟨q',hq3,hq4.trans hq2⟩
theorem zaU{α:Type}{l:List α}{v:Nat}{t t':α}(hv:l[v]?=some t)(u:Nat):(l.set v t')[u]?=if u=v then some t' else l[u]?:=by
 rw[zaJ];by_cases h:v=u
 ·subst h;rw[if_pos rfl,if_pos (zao hv),if_pos rfl]
 ·rw[if_neg h,if_neg fun hc=>h hc.symm]
theorem zbm{α β:Type}{l:List α}{v:Nat}{t t':α}(f:α→β)(hv:l[v]?=some t)(hf:f t'=f t):(l.set v t').map f=l.map f:=by
 refine zaf fun u=>?_
 rw[zp,zp,zaU hv];by_cases h:u=v
 ·subst h;rw[if_pos rfl,hv];simp[hf]
 ·rw[if_neg h]
theorem mem_set{α:Type}{l:List α}{v:Nat}{t' x:α}(h:x∈l.set v t'):x=t'∨x∈l:=(zdc h).symm
def TkV.stat(t:TkV):Nat×List Int×List Int×List Lnk×List Lnk:=(t.bt,t.rin,t.rout,t.src,t.dst)
structure RigV.same(V V':RigV):Prop where
 rg:V'.rg=V.rg
 nE:V'.nE=V.nE
 tk:V'.tasks.map TkV.stat=V.tasks.map TkV.stat
 qs:V'.qs.map (fun q=>(q.g,q.cap))=V.qs.map (fun q=>(q.g,q.cap))
theorem RigV.same.refl(V:RigV):V.same V:=⟨rfl,rfl,rfl,rfl⟩
theorem RigV.same.trans{V V' V'':RigV}(h:V.same V')(h':V'.same V''):V.same V'':=⟨h'.rg.trans h.rg,h'.nE.trans h.nE,h'.tk.trans h.tk,h'.qs.trans h.qs⟩
theorem RigV.same.full{V V':RigV}(h:V.same V')(hf:V.full):V'.full:=fun v t ht=>by
 have h1:=congrArg (fun l=>l[v]?) h.tk
 simp only[zp,ht,zai]at h1;cases ht2:V.tasks[v]? with
 |none=>rw[ht2]at h1;cases h1
 |some s=>
  rw[ht2]at h1;simp only[zai,zX,TkV.stat,zaj]at h1;obtain⟨-,-,-,h1,h2⟩:=h1;rw[h1,h2];exact hf v s ht2
def RigV.bnd(V:RigV)(N:Nat):Prop:=∀t∈V.tasks,0≤t.n∧t.n≤N∧t.wh≤N
def RigV.room(V:RigV):Prop:=(∀q∈V.qs,q.ys.length<17592186044416)∧∀p∈V.tps,p.ys.length<17592186044416
inductive StepE(V:RigV)(v:Nat)(t:TkV)(V':RigV):Bool→Prop
 |take (e g:Nat) (hg:t.gives=false) (hp:t.port<t.rin.length) (hs:t.src[t.port]?=some (.que e g)) (hq:0<V.ql e) (hφ:∀u,V'.φ u=V.φ u) (hh:∀u i,V'.hd u i=if u=v∧i=t.port then V.hd u i+1 else V.hd u i)
  (hr:∀u i,V'.rm u i=V.rm u i) (hl:∀e',V'.ql e'=if e'=e then V.ql e'-1 else V.ql e') (hy:∀e',V'.yl e'≤V.yl e') (hz:∀o,V'.zl o=V.zl o):StepE V v t V' true
 |reckon (hg:t.gives=false) (hp:t.port=t.rin.length) (hφ:∀u,V'.φ u=if u=v then V.φ u+1 else V.φ u) (hh:∀u i,V'.hd u i=if u=v then 0 else V.hd u i)
  (hr:∀u i,V'.rm u i=if u=v then(t.rout[i]?.getD 0).toNat else V.rm u i) (hl:∀e',V'.ql e'=V.ql e') (hy:∀e',V'.yl e'=V.yl e') (hz:∀o,V'.zl o=V.zl o):StepE V v t V' true
 |fail (hg:t.gives=false) (hp:t.port=t.rin.length) (hφ:∀u,V'.φ u=V.φ u) (hh:∀u i,V'.hd u i=V.hd u i) (hr:∀u i,V'.rm u i=V.rm u i) (hl:∀e',V'.ql e'=V.ql e') (hy:∀e',V'.yl e'=V.yl e') (hz:∀o,V'.zl o=V.zl o):StepE V v t V' false
 |giveQ (e g:Nat) (hg:t.gives=true) (hp:t.port<t.rout.length) (hs:t.dst[t.port]?=some (.que e g)) (hφ:∀u,V'.φ u=V.φ u) (hh:∀u i,V'.hd u i=V.hd u i)
  (hr:∀u i,V'.rm u i=if u=v∧i=t.port then V.rm u i-1 else V.rm u i) (hl:∀e',V'.ql e'=if e'=e then V.ql e'+1 else V.ql e') (hy:∀e',V'.yl e'=if e'=e then V.yl e'+1 else V.yl e') (hz:∀o,V'.zl o=V.zl o):StepE V v t V' true
 |giveT (o g:Nat) (hg:t.gives=true) (hp:t.port<t.rout.length) (hs:t.dst[t.port]?=some (.tape o g)) (hφ:∀u,V'.φ u=V.φ u) (hh:∀u i,V'.hd u i=V.hd u i)
  (hr:∀u i,V'.rm u i=if u=v∧i=t.port then V.rm u i-1 else V.rm u i) (hl:∀e',V'.ql e'=V.ql e') (hy:∀e',V'.yl e'=V.yl e') (hz:∀o',V'.zl o'=if o'=o then V.zl o'+1 else V.zl o'):StepE V v t V' true
structure Moved(ρ ρ':Nat→Tg)(w w':World):Prop where
 tag:∀b,b<w.heap.size→ρ' b=ρ b
 only:Only (fun b=>ρ b≠ .fix) w w'
theorem Moved.of_below{ρ:Nat→Tg}{w w':World}(h:Below w.heap.size w w'):Moved ρ ρ w w':=⟨fun _ _=>rfl,Only.of_below h⟩
theorem Moved.trans{ρ ρ' ρ'':Nat→Tg}{w w' w'':World}(h:Moved ρ ρ' w w')(h':Moved ρ' ρ'' w' w''):Moved ρ ρ'' w w'':=by
 have hz:=h.only.size;refine⟨fun b hb=>(h'.tag b (by omega)).trans (h.tag b hb),h'.only.os.trans h.only.os,h'.only.tape.trans h.only.tape,h'.only.output.trans h.only.output,zy hz h'.only.size,fun k hk hX=>?_⟩
 exact(h'.only.block k (by omega) (by rw[h.tag k hk];exact hX)).trans (h.only.block k hk hX)
theorem Moved.below{ρ ρ':Nat→Tg}{w w':World}{B:Nat}(h:Moved ρ ρ' w w')(hB:∀b,b<B→ρ b= .fix)(hs:B≤w.heap.size):Below B w w':=
 ⟨h.only.os,h.only.tape,h.only.output,h.only.size,fun k hk=>h.only.block k (by omega) (by rw[hB k hk];simp)⟩
def zft(V:RigV)(ρ:Nat→Tg)(N v:Nat)(t:TkV)(w:World)(e:Ending)(w':World):Prop:=
 ∃ok V' ρ',e= .returned (.bool ok)∧Moved ρ ρ' w w'∧RigM w' ρ' V'∧V.same V'∧V'.failed=V.failed∧V'.bnd (N+1)∧StepE V v t V' ok
theorem zfu{V:RigV}{v:Nat}{t t':TkV}{qs':List QV}{tps':List TpV}(hv:V.tasks[v]?=some t)(u:Nat):RigV.φ {V with tasks:=V.tasks.set v t',qs:=qs',tps:=tps'} u=if u=v then t'.wh+(if t'.gives=true then 1 else 0)else V.φ u:=by
 unfold RigV.φ;show(match(V.tasks.set v t')[u]? with|some t=>_|none=>_)=_
 rw[zaU hv];by_cases h:u=v
 ·rw[if_pos h,if_pos h]
 ·rw[if_neg h,if_neg h]
  try rfl
theorem zfv{V:RigV}{v:Nat}{t t':TkV}{qs':List QV}{tps':List TpV}(hv:V.tasks[v]?=some t)(u i:Nat):RigV.hd {V with tasks:=V.tasks.set v t',qs:=qs',tps:=tps'} u i=if u=v then t'.hd i else V.hd u i:=by
 unfold RigV.hd;show(match(V.tasks.set v t')[u]? with|some t=>_|none=>_)=_
 rw[zaU hv];by_cases h:u=v
 ·rw[if_pos h,if_pos h]
 ·rw[if_neg h,if_neg h]
  try rfl
theorem zfw{V:RigV}{v:Nat}{t t':TkV}{qs':List QV}{tps':List TpV}(hv:V.tasks[v]?=some t)(u i:Nat):RigV.rm {V with tasks:=V.tasks.set v t',qs:=qs',tps:=tps'} u i=if u=v then t'.rm i else V.rm u i:=by
 unfold RigV.rm;show(match(V.tasks.set v t')[u]? with|some t=>_|none=>_)=_
 rw[zaU hv];by_cases h:u=v
 ·rw[if_pos h,if_pos h]
 ·rw[if_neg h,if_neg h]
  try rfl
theorem zlT{V:RigV}{e:Nat}{q q':QV}{ts:List TkV}{tps':List TpV}(hq:V.qs[e]?=some q)(e':Nat):RigV.ql {V with tasks:=ts,qs:=V.qs.set e q',tps:=tps'} e'=if e'=e then q'.len else V.ql e':=by
 unfold RigV.ql;show(match(V.qs.set e q')[e']? with|some t=>_|none=>_)=_
 rw[zaU hq];by_cases h:e'=e
 ·rw[if_pos h,if_pos h]
 ·rw[if_neg h,if_neg h]
  try rfl
theorem zlU{V:RigV}{e:Nat}{q q':QV}{ts:List TkV}{tps':List TpV}(hq:V.qs[e]?=some q)(e':Nat):RigV.yl {V with tasks:=ts,qs:=V.qs.set e q',tps:=tps'} e'=if e'=e then q'.ys.length else V.yl e':=by
 unfold RigV.yl;show(match(V.qs.set e q')[e']? with|some t=>_|none=>_)=_
 rw[zaU hq];by_cases h:e'=e
 ·rw[if_pos h,if_pos h]
 ·rw[if_neg h,if_neg h]
  try rfl
theorem zpe{V:RigV}{e:Nat}{q q':TpV}{ts:List TkV}{qs':List QV}(hq:V.tps[e]?=some q)(e':Nat):RigV.zl {V with tasks:=ts,qs:=qs',tps:=V.tps.set e q'} e'=if e'=e then q'.ys.length else V.zl e':=by
 unfold RigV.zl;show(match(V.tps.set e q')[e']? with|some t=>_|none=>_)=_
 rw[zaU hq];by_cases h:e'=e
 ·rw[if_pos h,if_pos h]
 ·rw[if_neg h,if_neg h]
  try rfl
theorem zit{V:RigV}{e:Nat}{q:QV}(hq:V.qs[e]?=some q):V.yl e=q.ys.length:=by unfold RigV.yl;rw[hq]
theorem zop{V:RigV}{e:Nat}{q:TpV}(hq:V.tps[e]?=some q):V.zl e=q.ys.length:=by unfold RigV.zl;rw[hq]
theorem zfH{V:RigV}{v:Nat}{t:TkV}(hv:V.tasks[v]?=some t):V.φ v=t.wh+(if t.gives=true then 1 else 0):=by unfold RigV.φ;rw[hv]
theorem zfI{V:RigV}{v i:Nat}{t:TkV}(hv:V.tasks[v]?=some t):V.hd v i=t.hd i:=by unfold RigV.hd;rw[hv]
theorem zeI{V:RigV}{v i:Nat}{t:TkV}(hv:V.tasks[v]?=some t):V.rm v i=t.rm i:=by unfold RigV.rm;rw[hv]
theorem zfJ{V:RigV}{e:Nat}{q:QV}(hq:V.qs[e]?=some q):V.ql e=q.len:=by unfold RigV.ql;rw[hq]
theorem QuT.not_task{w:World}{ρ:Nat→Tg}{e:Nat}{q:QV}(h:QuT w ρ e q){b v r:Nat}(hb:ρ b= .task v r):¬q.own b:=fun hq=>by
 have:=(h.r b hq).symm.trans hb
 cases this
theorem QuT.not_fix{w:World}{ρ:Nat→Tg}{e:Nat}{q:QV}(h:QuT w ρ e q){b:Nat}(hb:ρ b= .fix):¬q.own b:=fun hq=>by
 have:=(h.r b hq).symm.trans hb
 cases this
theorem zfx{ρ:Nat→Tg}{a b v r s:Nat}(ha:ρ a= .task v r)(hb:ρ b= .task v s)(h:r≠s):a≠b:=fun he=>by
 subst he
 have:=ha.symm.trans hb
 injection this with _ h'
 exact h h'
theorem take_rig(V:RigV)(ρ:Nat→Tg)(N v e g:Nat)(t:TkV)(q:QV)(w0:World)(h:RigM w0 ρ V)(hb:V.bnd N)(hv:V.tasks[v]?=some t)(hg:t.gives=false)(hp:t.port<t.rin.length)(hs:t.src[t.port]?=some (.que e g))(hq:V.qs[e]?=some q)(hqg:q.g=g)(hl:0<q.len):
  Calls Tryz.prog 66 #[.pointer (some ⟨t.bt,0,none⟩)] w0 (zft V ρ N v t w0):=by
 subst hqg;have M:=h.tk v t hv;have Q:=h.qu e q hq;obtain⟨r,hr⟩:=zG (l:=t.hand) (i:=t.port) (by rw[M.h.lh];exact hp)
 obtain⟨m,hm⟩:=zG hp;obtain⟨hfi,hfo⟩:=KdV.rates_few M.k.kd.rt;have hm1:=hfi.2 m (zac hm);obtain⟨rt,hrt⟩:∃k:Nat,m=(k:Int):=⟨m.toNat,by omega⟩
 subst hrt;have hlt:=(M.sh.h1 hg t.port r _ hr hm).2.1 rfl;obtain⟨ho,hrf,hro⟩:=M.h.own t.port r hr;have kb:=M.bt;unfold TkV.cells at kb;rw[hg]at kb;have hgv:t.gval=t.gv:=by unfold TkV.gval;rw[hg];rfl
 let R:Int→World→Prop:=fun x w1=>∃lv ys k,QuM w1 {q with lv:=lv,ys:=ys,k:=k}∧ys.drop k=q.ys.drop (q.k+1)∧ys.length≤q.ys.length∧Only q.own w0 w1∧∀b,lv.ownBlock=some b→q.lv.ownBlock=some b∨w0.heap.size≤b
 have nbt:¬q.own t.bt:=Q.not_task M.rbt
 have nbh:¬q.own t.bh:=Q.not_task M.h.rbh
 have nbf:¬q.own t.bf:=Q.not_task M.s.rbf
 have nbr:∀b,r.val.ownBlock=some b→¬q.own b:=fun b hb=>Q.not_task (hro b (by rw[RowV.own_val]at hb;exact hb))
 obtain⟨pt,hpt⟩:∃p,p=if r.xs.length+1=rt then t.port+1 else t.port:=⟨_,rfl⟩;refine(zjL pt t.bt t.bf t.rin.length t.port _ _ _ _ _ t.I t.cI t.bh (t.src.map Lnk.val) (t.hand.map RowV.val).toArray _ _ _ r.A r.xs.length r.c rt r.xs t.rin R w0 kb M.s.bf M.h.bh hp hfi.1 (zbj Lnk.val hs) (by rw[zC];exact zbj RowV.val hr) ho (by omega) hpt hm
  (zfx M.rbt M.h.rbh (by omega)) (zfx M.s.rbf M.h.rbh (by omega)) (znn q.g) zim (fun w' hb'=>(chTake_any q w' (Q.m.below hb') hl).mono ?_) ?_ ?_).mono ?_
 ·rintro e' w'' ⟨x,rfl,hx,lv,ys,k,h1,h2,h3,h4,h5⟩;exact⟨x,rfl,Q.m.fit x (zac hx),lv,ys,k,h1,h2,h3,(Only.of_below hb').trans h4,fun b hb1=>(h5 b hb1).imp id fun h=>zy hb'.size h⟩
 ·rintro x w' ⟨lv,ys,k,h1,h2,h3,h4,h5⟩;exact⟨kb.only h4 nbt,M.s.bf.only h4 nbf,M.h.bh.only h4 nbh,zae ho h4 nbr,h4.size⟩
 ·rintro x w' ⟨w1,⟨lv,ys,k,h1,h2,h3,h4,h5⟩,h6⟩;refine Rd.onlyT M.s.ins ((h4.mono fun b _ hb1=>Or.inl hb1).trans (h6.mono fun b _ hb1=>Or.inr hb1)) (X:=fun b=>q.own b∨(b=t.bt∨b=t.bh∨(Value.slice r.A r.xs.length r.c).ownBlock=some b)) fun b hb1 hx=>?_
  have hfx:=(M.s.rI b hb1).2;rcases hx with hx|rfl|rfl|hx
  ·exact Q.not_fix hfx hx
  ·exact absurd (hfx.symm.trans M.rbt) (by simp)
  ·exact absurd (hfx.symm.trans M.h.rbh) (by simp)
  ·rw[ownBlock_slice]at hx;exact absurd (hfx.symm.trans (hro b hx)) (by simp)
 ·rintro e' w' ⟨rfl,x,A',c',hxf,⟨w1,⟨lv,ys,k,h1,h2,h3,h4,h5⟩,h6,h7⟩,kh',ho',kb'⟩;have hz1:=h4.size;have hz2:=h6.size;have hO:Only (fun b=>q.own b∨(b=t.bt∨b=t.bh∨(Value.slice r.A r.xs.length r.c).ownBlock=some b)) w0 w':=(h4.mono fun b _ hb1=>Or.inl hb1).trans (h6.mono fun b _ hb1=>Or.inr hb1)
  let ρ':Nat→Tg:=fun b=>if b<w0.heap.size then ρ b else if b<w1.heap.size then .que e else .task v (7+t.port)
  have hρ:∀b,b<w0.heap.size→ρ' b=ρ b:=fun b hb1=>if_pos hb1
  let C:Tg→Prop:=fun g=>g= .que e∨g= .task v 0∨g= .task v 2∨g= .task v (7+t.port)
  have hX:∀b,b<w0.heap.size→(q.own b∨(b=t.bt∨b=t.bh∨(Value.slice r.A r.xs.length r.c).ownBlock=some b))→C (ρ b):=fun b _ hx=>by
   rcases hx with hx|rfl|rfl|hx
   ·exact .inl (Q.r b hx)
   ·exact .inr (.inl M.rbt)
   ·exact .inr (.inr (.inl M.h.rbh))
   ·rw[ownBlock_slice]at hx;exact .inr (.inr (.inr (hro b hx)))
  have hXn:∀(T:Tg),¬C T→∀b,b<w0.heap.size→(q.own b∨(b=t.bt∨b=t.bh∨(Value.slice r.A r.xs.length r.c).ownBlock=some b))→ρ b≠T:=fun T hT b hb1 hx he=>hT (he▸hX b hb1 hx)
  obtain⟨r',hr'⟩:∃r':RowV,r'=⟨A',c',r.xs++[x]⟩:=⟨_,rfl⟩;have hv':r'.val= .slice A' (r.xs.length+1) c':=by rw[hr'];unfold RowV.val;simp
  have hrx:r'.xs=r.xs++[x]:=by rw[hr']
  have hrA:r'.A=A':=by rw[hr']
  have hrl:r'.xs.length=r.xs.length+1:=by rw[hrx,zx];rfl
  obtain⟨t',ht'⟩:∃t':TkV,t'={t with hand:=t.hand.set t.port r',port:=pt}:=⟨_,rfl⟩;have hqT:QuT w' ρ' e {q with lv:=lv,ys:=ys,k:=k}:=by
   refine⟨h1.only h6 fun b hb1 hx=>?_,fun b hb1=>?_⟩
   ·have hlo:b<w0.heap.size→ρ b= .que e:=fun hlt=>by
     rcases hb1 with rfl|hb1
     ·exact Q.r _ (.inl rfl)
     ·rcases h5 b hb1 with h'|h'
      ·exact Q.r b (.inr h')
      ·omega
    rcases hx with rfl|rfl|hx
    ·exact absurd ((hlo M.bt.lt).symm.trans M.rbt) (by simp)
    ·exact absurd ((hlo M.h.bh.lt).symm.trans M.h.rbh) (by simp)
    ·have:=own_lt' ho hx
     rw[ownBlock_slice]at hx;exact absurd ((hlo this).symm.trans (hro b hx)) (by simp)
   ·have hb2:=h1.own_lt hb1;show(if b<w0.heap.size then ρ b else if b<w1.heap.size then Tg.que e else .task v (7+t.port))=_
    by_cases hlt:b<w0.heap.size
    ·rw[if_pos hlt];rcases hb1 with rfl|hb1
     ·exact Q.r _ (.inl rfl)
     ·rcases h5 b hb1 with h'|h'
      ·exact Q.r b (.inr h')
      ·omega
    ·rw[if_neg hlt,if_pos hb2]
  have htM:TkM w' ρ' v t':=by
   rw[ht'];refine⟨?_,(hρ _ M.bt.lt).trans M.rbt,?_,?_,?_,fun hc=>?_,?_⟩
   ·have:TkV.cells {t with hand:=t.hand.set t.port r',port:=pt}=tkC (.pointer (some ⟨t.bb,0,none⟩)) t.bf t.rin.length (.slice (some ⟨t.bo,0,none⟩) t.rout.length t.rout.length) t.I t.cI (.slice t.O t.rout.length t.cO) t.bh t.gval pt (.int .i64 t.wh):=by
     unfold TkV.cells TkV.gval;simp only[hg]
    rw[this];exact kb'
   ·have hs:=M.s.only hO hρ fun b hb1 hx=>⟨hXn .fix (by simp[C]) b hb1 hx,hXn (.task v 5) (by simp[C];omega) b hb1 hx,hXn (.task v 6) (by simp[C];omega) b hb1 hx⟩
    exact{hs with}
   ·have hs:=M.k.only hO hρ fun b hb1 hx=>⟨hXn .fix (by simp[C]) b hb1 hx,hXn (.task v 1) (by simp[C];omega) b hb1 hx⟩
    exact{hs with}
   ·refine⟨?_,(hρ _ M.h.bh.lt).trans M.h.rbh,by rw[zaR];exact M.h.lh,fun i s hs=>?_⟩
    ·have:((t.hand.set t.port r').map RowV.val).toArray=(t.hand.map RowV.val).toArray.setIfInBounds t.port (.slice A' (r.xs.length+1) c'):=by
      rw[zc,zbn,hv']
     rw[this];exact kh'
    ·rw[zaU hr]at hs;by_cases hi:i=t.port
     ·rw[if_pos hi]at hs;obtain rfl:=zq hs;subst hi;refine⟨by rw[hv',hrl,hrx];exact ho',by rw[hrx];exact zfG hrf hxf,fun b hb1=>?_⟩
      rw[hrA]at hb1;have hb2:(Value.slice A' (r.xs.length+1) c').ownBlock=some b:=by rw[ownBlock_slice];exact hb1
      show(if b<w0.heap.size then ρ b else if b<w1.heap.size then Tg.que e else .task v (7+t.port))=_
      rcases h7 b hb2 with h'|h'
      ·rw[if_pos (own_lt' ho h')];rw[ownBlock_slice]at h';exact hro b h'
      ·rw[if_neg (by omega),if_neg (by omega)]
     ·rw[if_neg hi]at hs;obtain⟨g1,g2,g3⟩:=M.h.own i s hs;refine⟨zga g1 hO fun b hb1 hb2 hx=>?_,g2,fun b hb1=>?_⟩
      ·rw[RowV.own_val]at hb2;exact hXn (.task v (7+i)) (by simp[C];omega) b hb1 hx (g3 b hb2)
      ·exact(hρ b (own_lt' g1 (by rw[RowV.own_val];exact hb1))).trans (g3 b hb1)
   ·exact absurd (hc:t.gives=true) (by rw[hg];simp)
   ·refine⟨fun _=>?_,fun hc=>absurd (hc:t.gives=true) (by rw[hg];simp),fun _ i s m' hs hm'=>?_,fun hc=>absurd (hc:t.gives=true) (by rw[hg];simp)⟩
    ·show pt≤t.rin.length
     rw[hpt];split<;>omega
    ·have hs:(t.hand.set t.port r')[i]?=some s:=hs
     have hm':t.rin[i]?=some m':=hm'
     show(i<pt→_)∧(i=pt→_)∧(pt<i→_)
     rw[zaU hr]at hs;by_cases hi:i=t.port
     ·rw[if_pos hi]at hs;obtain rfl:=zq hs;subst hi;rw[hm]at hm';obtain rfl:=zq hm';rw[hrl,hpt];split<;>refine⟨fun _=>?_,fun _=>?_,fun _=>?_⟩<;>omega
     ·rw[if_neg hi]at hs;obtain⟨a1,a2,a3⟩:=M.sh.h1 hg i s m' hs hm';have hm2:=hfi.2 m' (zac hm');rw[hpt];split
      ·refine⟨fun _=>?_,fun _=>?_,fun _=>?_⟩
       ·exact a1 (by omega)
       ·have:=a3 (by omega);omega
       ·exact a3 (by omega)
      ·exact⟨a1,a2,a3⟩
  refine⟨true,{V with tasks:=V.tasks.set v t',qs:=V.qs.set e {q with lv:=lv,ys:=ys,k:=k},tps:=V.tps},ρ',rfl,⟨hρ,hO.mono fun b hb1 hx=>hXn .fix (by simp[C]) b hb1 hx⟩,?_,?_,rfl,?_,?_⟩
  ·refine h.step (C:=C) hO hρ hX (by simp[C]) (by simp[C]) (by simp[C];intro u r h;rcases h with h|h|h<;>exact h.1) hv htM (by rw[ht']) (by rw[ht']) (by rw[ht']) (fun e1=>?_) fun o=> .inl ⟨rfl,by simp[C]⟩
   rw[zaU hq];by_cases he:e1=e
   ·subst he;exact .inr ⟨q,_,hq,if_pos rfl,rfl,hqT⟩
   ·exact .inl ⟨if_neg he,by simp[C,he]⟩
  ·exact⟨rfl,rfl,zbm _ hv (by rw[ht'];rfl),zbm _ hq rfl⟩
  ·intro s hs;rcases mem_set hs with rfl|hs
   ·have:=hb t (zac hv)
    rw[ht'];show 0≤t.n∧t.n≤((N+1:Nat):Int)∧t.wh≤N+1
    omega
   ·have:=hb s hs
    omega
  ·have e1:t'.gives=false:=by rw[ht'];exact hg
   have e2:t'.wh=t.wh:=by rw[ht']
   have hqle:=Q.m.le;have hlen:QV.len {q with lv:=lv,ys:=ys,k:=k}=q.len-1:=by
    have:=congrArg List.length h2
    rw[zbd,zbd]at this;unfold QV.len;show ys.length-k=_
    omega
   refine .take e q.g hg hp hs (by rw[zfJ hq];exact hl) (fun u=>?_) (fun u i=>?_) (fun u i=>?_) (fun e'=>?_) (fun e'=>?_) (fun o=>rfl)
   ·rw[zfu hv,e1,e2];by_cases hu:u=v
    ·subst hu;rw[if_pos rfl,zfH hv,hg]
    ·rw[if_neg hu]
   ·rw[zfv hv];by_cases hu:u=v
    ·subst hu;rw[if_pos rfl,zfI hv];unfold TkV.hd;rw[e1,hg,ht'];show(match(t.hand.set t.port r')[i]? with|some r=>r.xs.length|none=>0)=_
     rw[zaU hr];by_cases hi:i=t.port
     ·subst hi;rw[if_pos rfl,if_pos ⟨rfl,rfl⟩,hr];exact hrl
     ·rw[if_neg hi,if_neg fun hc=>hi hc.2]
      rfl
    ·rw[if_neg hu,if_neg fun hc=>hu hc.1]
   ·rw[zfw hv];by_cases hu:u=v
    ·subst hu;rw[if_pos rfl,zeI hv];unfold TkV.rm;rw[e1,hg]
     rfl
    ·rw[if_neg hu]
   ·rw[zlT hq];by_cases he:e'=e
    ·subst he;rw[if_pos rfl,if_pos rfl,hlen,zfJ hq]
    ·rw[if_neg he,if_neg he]
   ·rw[zlU hq];by_cases he:e'=e
    ·subst he;rw[if_pos rfl,zit hq];exact h3
    ·rw[if_neg he];exact zF _
end Go.Proofs.YtpmlljbebdidgaaGreatDoor
