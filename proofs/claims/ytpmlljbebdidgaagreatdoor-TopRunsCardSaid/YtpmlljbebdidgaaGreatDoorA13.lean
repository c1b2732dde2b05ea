/- Lemmas and walks for the claim: Gd, Ge. -/
import Derived.Test.YtpmlljbebdidgaaGreatDoorA0
import Derived.Test.YtpmlljbebdidgaaGreatDoorA12
import Derived.Test.YtpmlljbebdidgaaGreatDoorA3
import Derived.Test.YtpmlljbebdidgaaGreatDoorA7
set_option linter.unusedSimpArgs false
set_option maxRecDepth 100000
set_option maxHeartbeats 4000000
namespace Go.Proofs.YtpmlljbebdidgaaGreatDoor
open Go.RowKit Go.Maps
structure ActV where
 nm:ByteArray
 tag:Int
 ps:List Int
 P:Option Addr
 c:Nat
structure GEdg where
 f:Int
 fp:Int
 t:Int
 tp:Int
 st:List Int
 S:Option Addr
 c:Nat
structure PrtV where
 nm:ByteArray
 a:Int
 p:Int
def ActV.cells(x:ActV):List Value:=[.string x.nm, .int .u8 x.tag, .slice x.P x.ps.length x.c]
def GEdg.cells(x:GEdg):List Value:=[.int .i64 x.f, .int .i64 x.fp, .int .i64 x.t, .int .i64 x.tp, .slice x.S x.st.length x.c]
def PrtV.cells(x:PrtV):List Value:=[.string x.nm, .int .i64 x.a, .int .i64 x.p]
def zoK(l:List ActV):List Value:=l.flatMap ActV.cells
def zoL(l:List GEdg):List Value:=l.flatMap GEdg.cells
def zhE(l:List PrtV):List Value:=l.flatMap PrtV.cells
structure zB where
 nm:ByteArray
 acts:List ActV
 edges:List GEdg
 ins:List PrtV
 outs:List PrtV
 aA:Option Addr
 cA:Nat
 aE:Option Addr
 cE:Nat
 aI:Option Addr
 cI:Nat
 aO:Option Addr
 cO:Nat
def zB.val(g:zB):Value:= .agg #[.string g.nm, .slice g.aA g.acts.length g.cA, .slice g.aE g.edges.length g.cE, .slice g.aI g.ins.length g.cI, .slice g.aO g.outs.length g.cO]
structure ActV.good(w:World)(B:Nat)(x:ActV):Prop where
 nm:x.nm.size≤maxLen
 tag:0≤x.tag∧x.tag≤255
 fit:AllFit x.ps
 len:x.ps.length≤maxLen
 wide:x.ps.length*8≤140737488351232
 rd:Rd w B x.P (cellsI x.ps)
structure GEdg.good(w:World)(B:Nat)(x:GEdg):Prop where
 f:fits x.f
 fp:fits x.fp
 t:fits x.t
 tp:fits x.tp
 fit:AllFit x.st
 len:x.st.length≤maxLen
 wide:x.st.length*8≤140737488351232
 rd:Rd w B x.S (cellsI x.st)
structure PrtV.good(x:PrtV):Prop where
 nm:x.nm.size≤maxLen
 a:fits x.a
 p:fits x.p
structure zB.good(w:World)(B:Nat)(g:zB):Prop where
 nm:g.nm.size≤maxLen
 lA:g.acts.length≤maxLen
 lE:g.edges.length≤maxLen
 lI:g.ins.length≤maxLen
 lO:g.outs.length≤maxLen
 rA:Rd w B g.aA (zoK g.acts)
 rE:Rd w B g.aE (zoL g.edges)
 rI:Rd w B g.aI (zhE g.ins)
 rO:Rd w B g.aO (zhE g.outs)
 gA:∀x∈g.acts,x.good w B
 gE:∀x∈g.edges,x.good w B
 gI:∀x∈g.ins,x.good
 gO:∀x∈g.outs,x.good
theorem ActV.good.below{w w':World}{B B':Nat}{x:ActV}(h:x.good w B)(hb:Below B' w w')(hB:B≤B'):x.good w' B:={h with rd:=h.rd.below hb hB}
theorem GEdg.good.below{w w':World}{B B':Nat}{x:GEdg}(h:x.good w B)(hb:Below B' w w')(hB:B≤B'):x.good w' B:={h with rd:=h.rd.below hb hB}
theorem zB.good.below{w w':World}{B B':Nat}{g:zB}(h:g.good w B)(hb:Below B' w w')(hB:B≤B'):g.good w' B:=
 {h with rA:=h.rA.below hb hB,rE:=h.rE.below hb hB,rI:=h.rI.below hb hB,rO:=h.rO.below hb hB,gA:=fun x hx=>(h.gA x hx).below hb hB,gE:=fun x hx=>(h.gE x hx).below hb hB}
theorem ActV.good.more{w:World}{B B':Nat}{x:ActV}(h:x.good w B)(hB:B≤B'):x.good w B':={h with rd:=h.rd.more hB}
theorem GEdg.good.more{w:World}{B B':Nat}{x:GEdg}(h:x.good w B)(hB:B≤B'):x.good w B':={h with rd:=h.rd.more hB}
theorem zB.good.more{w:World}{B B':Nat}{g:zB}(h:g.good w B)(hB:B≤B'):g.good w B':=
 {h with rA:=h.rA.more hB,rE:=h.rE.more hB,rI:=h.rI.more hB,rO:=h.rO.more hB,gA:=fun x hx=>(h.gA x hx).more hB,gE:=fun x hx=>(h.gE x hx).more hB}
theorem zoM{α:Type}(f:α→List Value)(n:Nat)(hf:∀x,(f x).length=n):∀(l:List α) (k:Nat) (x:α),l[k]?=some x→∀j u,(f x)[j]?=some u→(l.flatMap f)[k*n+j]?=some u:=by
 intro l
 induction l with
 |nil=>intro k x h;simp at h
 |cons y l ih=>
  intro k x h j u hu;have e:(y::l).flatMap f=f y++l.flatMap f:=rfl;cases k with
  |zero=>
   simp only[zI,zX]at h;subst h;rw[e,zbA,zaq,zar (zu.1 hu).1];exact hu
  |succ k=>
   simp only[zT]at h;have h1:=ih k x h j u hu;have hk:(k+1)*n+j=n+(k*n+j):=by rw[Nat.succ_mul];omega
   rw[e,zO (by rw[hf,hk];omega),hf,hk,zbF]
   exact h1
theorem zjT{α:Type}(f:α→List Value)(n:Nat)(hf:∀x,(f x).length=n)(l:List α):(l.flatMap f).length=l.length*n:=by
 induction l with
 |nil=>simp
 |cons y l ih=>rw[zdz,zx,ih,hf,zaG,Nat.succ_mul];omega
theorem Rd.flat{α:Type}{f:α→List Value}{n:Nat}(hn:0<n)(hf:∀x,(f x).length=n){w:World}{B:Nat}{A:Option Addr}{l:List α}(h:Rd w B A (l.flatMap f)){k:Nat}(hk:k<l.length):
  ∃b off x,A=some ⟨b,off,none⟩∧b<B∧l[k]?=some x∧∀j u,(f x)[j]?=some u→w.cell? ⟨b,off+k*n+j,none⟩=some u:=by
 rcases h with h|⟨b,off,hA,hb,hc⟩
 ·have:=zjT f n hf l
  rw[h]at this;have:0<l.length*n:=zbw (by omega) hn
  simp at*
  omega
 ·exact⟨b,off,l[k],hA,hb,zk hk,fun j u hu=>by rw[za4];exact hc _ _ (zoM f n hf l k _ (zk hk) j u hu)⟩
def hdrs(R:Nat→Nat)(M:List (List Bool)):List Value:=(List.range M.length).map fun j=> .slice (some ⟨R j,0,none⟩) (M.getD j []).length (M.getD j []).length
def upd2(f:Nat→Nat)(i v:Nat):Nat→Nat:=fun j=>if j=i then v else f j
theorem ziY{α:Type}{l l':List α}{j:Nat}{d:α}(h:j<l.length):(l++l').getD j d=l.getD j d:=by
 rw[zz,zar h,←zz]
theorem zgf(f:Nat→Nat)(i v:Nat):upd2 f i v i=v:=if_pos rfl
theorem zfR{f:Nat→Nat}{i v j:Nat}(h:j≠i):upd2 f i v j=f j:=if_neg h
structure CkS(w0 w:World)(B gc m:Nat)(hd:zB)(ns:List (List UInt8))(nn:Nat)(Vc V:Bool→Value)(R:Bool→Nat→Nat)(M:Bool→List (List Bool)):Prop where
 bel:Below B w0 w
 gcB:B≤gc
 mB:B≤m
 blk:Blk w gc 168 #[.string hd.nm, .slice hd.aA hd.acts.length hd.cA, .slice hd.aE hd.edges.length hd.cE, .slice hd.aI hd.ins.length hd.cI, .slice hd.aO hd.outs.length hd.cO, .map (some m),Vc false,Vc true]
 map:w.ownsMap Tryz.prog 9 (plainElem (H:=Unit) Tryz.prog 3) m nn (zfn ns)
 hdr:∀s,w.ownsRow B 143 1 (V s) (M s).length (hdrs (R s) (M s))
 row:∀s j,j<(M s).length→w.ownsRow B 4 1 (.slice (some ⟨R s j,0,none⟩) ((M s).getD j []).length ((M s).getD j []).length) ((M s).getD j []).length (cellsO ((M s).getD j []))
 inj:∀s j s' j',j<(M s).length→j'<(M s').length→R s j=R s' j'→s=s'∧j=j'
 gtd:∀b,(V false).ownBlock=some b→(V true).ownBlock≠some b
theorem zdf{w:World}{m n:Nat}{D:DataW Unit}{K:TypeId}{E:Value→Option (DataW Unit×List MemPlace)}(h:w.ownsMap Tryz.prog K E m n D){g:Nat}{t:TypeId}{cs:Array Value}(hg:Blk w g t cs):g≠m:=by
 rintro rfl;obtain⟨es,clock,hb,-⟩:=h
 have:=hb.symm.trans hg
 injection this with this
 cases this
theorem own_map_ne{w:World}{m n:Nat}{D:DataW Unit}{K:TypeId}{E:Value→Option (DataW Unit×List MemPlace)}(h:w.ownsMap Tryz.prog K E m n D){base:Nat}{e:TypeId}{size k:Nat}{v:Value}{xs:List Value}(ho:w.ownsRow base e size v k xs){b:Nat}(hb:v.ownBlock=some b):b≠m:=by
 obtain⟨cs,hk⟩:=own_block ho hb;exact zdf h hk
theorem zmh{w w':World}{m n:Nat}{D:DataW Unit}{K:TypeId}{E:Value→Option (DataW Unit×List MemPlace)}(h:w.ownsMap Tryz.prog K E m n D)(hb:Below w.heap.size w w'):w'.ownsMap Tryz.prog K E m n D:=
 h.kept (row:=none) ⟨hb.os,hb.tape,hb.output,hb.size,fun k hk _=>hb.block k hk⟩ (by simp)
theorem zgR{X:Nat→Prop}{w w':World}{m n:Nat}{D:DataW Unit}{K:TypeId}{E:Value→Option (DataW Unit×List MemPlace)}(h:w.ownsMap Tryz.prog K E m n D)(ho:Only X w w')(hm:¬X m):w'.ownsMap Tryz.prog K E m n D:=by
 have hl:=h.lt;obtain⟨es,clock,hb,r⟩:=h;exact⟨es,clock,(ho.block m hl hm).trans hb,r⟩
theorem CkS.below{w0 w w':World}{B gc m nn:Nat}{hd:zB}{ns:List (List UInt8)}{Vc V:Bool→Value}{R:Bool→Nat→Nat}{M:Bool→List (List Bool)}(h:CkS w0 w B gc m hd ns nn Vc V R M)(hb:Below w.heap.size w w'):CkS w0 w' B gc m hd ns nn Vc V R M:=
 {h with
  bel:=h.bel.trans ⟨hb.os,hb.tape,hb.output,hb.size,fun k hk=>hb.block k (by have:=h.blk.lt;have:=h.gcB;omega)⟩
  blk:=h.blk.below hb h.blk.lt
  map:=zmh h.map hb
  hdr:=fun s=>own_below (h.hdr s) hb
  row:=fun s j hj=>own_below (h.row s j hj) hb}
theorem CkS.named{w0 w w':World}{B gc m nn nn':Nat}{hd:zB}{ns ns':List (List UInt8)}{Vc V:Bool→Value}{R:Bool→Nat→Nat}{M:Bool→List (List Bool)}(h:CkS w0 w B gc m hd ns nn Vc V R M)(ho:Only (fun k=>k=m) w w')(hm:w'.ownsMap Tryz.prog 9 (plainElem (H:=Unit) Tryz.prog 3) m nn' (zfn ns')):CkS w0 w' B gc m hd ns' nn' Vc V R M:=
 {h with
  bel:=h.bel.trans ⟨ho.os,ho.tape,ho.output,ho.size,fun k hk=>ho.block k (by have:=h.blk.lt;have:=h.gcB;omega) (by have:=h.mB;omega)⟩
  blk:=(ho.block gc h.blk.lt (zdf h.map h.blk)).trans h.blk
  map:=hm
  hdr:=fun s=>zae (h.hdr s) ho fun b hb=>own_map_ne h.map (h.hdr s) hb
  row:=fun s j hj=>zae (h.row s j hj) ho fun b hb=>own_map_ne h.map (h.row s j hj) hb}
theorem CkS.side{w0 w:World}{B gc m nn:Nat}{hd:zB}{ns:List (List UInt8)}{Vc V:Bool→Value}{R:Bool→Nat→Nat}{M:Bool→List (List Bool)}(h:CkS w0 w B gc m hd ns nn Vc V R M)(s:Bool)(hp:0<(M s).length):
  ∃g c,V s= .slice (some ⟨g,0,none⟩) (M s).length c∧zdP w B g c (R s) (M s):=by
 have h1:=h.hdr s;obtain⟨A,c,hA,-⟩:=zH h1;rw[hA]at h1;obtain⟨g,rfl⟩:=zbi h1 hp;exact⟨g,c,hA,h1,h.row s,fun j j' hj hj' e=>(h.inj s j s j' hj hj' e).2⟩
theorem CkS.taken{w0 w w':World}{B gc m nn:Nat}{hd:zB}{ns:List (List UInt8)}{Vc V:Bool→Value}{R:Bool→Nat→Nat}{M:Bool→List (List Bool)}(h:CkS w0 w B gc m hd ns nn Vc V R M)(s:Bool){g c:Nat}(hV:V s= .slice (some ⟨g,0,none⟩) (M s).length c){a p:Int}(hS:zdP w' B g c (R s) (zbf (M s) a p))(ho:Only (rowsX (R s) (M s).length) w w'):CkS w0 w' B gc m hd ns nn Vc V R (fun x=>if x=s then zbf (M s) a p else M x):=by
 have hrow:∀j,j<(M s).length→∃cs,Blk w (R s j) 4 cs:=fun j hj=>own_block (h.row s j hj) rfl
 have hnew:∀k,rowsX (R s) (M s).length k→B≤k:=by
  rintro k ⟨j,hj,rfl⟩;exact own_ge (h.row s j hj) rfl
 have hlen:∀x,(if x=s then zbf (M s) a p else M x).length=(M x).length:=by
  intro x;by_cases hx:x=s
  ·subst hx;rw[if_pos rfl,zde]
  ·rw[if_neg hx]
 refine{h with
  bel:=h.bel.trans ⟨ho.os,ho.tape,ho.output,ho.size,fun k hk=>ho.block k (by have:=h.blk.lt;have:=h.gcB;omega) (fun hX=>by have:=hnew k hX;omega)⟩
  blk:=(ho.block gc h.blk.lt ?_).trans h.blk
  map:=zgR h.map ho ?_
  hdr:=fun x=>?_
  row:=fun x j hj=>?_
  inj:=fun x j x' j' hj hj' e=>h.inj x j x' j' (by rw[←hlen x];exact hj) (by rw[←hlen x'];exact hj') e}
 ·rintro⟨j,hj,e⟩;obtain⟨cs,hk⟩:=hrow j hj;rw[←e]at hk;exact absurd (zaP h.blk hk) (by decide)
 ·rintro⟨j,hj,e⟩;obtain⟨cs,hk⟩:=hrow j hj;exact zdf h.map hk e.symm
 ·by_cases hx:x=s
  ·subst hx;rw[if_pos rfl,hV,zde];have h1:=hS.hdr;unfold hdrs;rw[zde]at h1⊢;exact h1
  ·rw[if_neg hx];refine zae (h.hdr x) ho fun b hb=>?_
   rintro⟨j,hj,e⟩;obtain⟨cs,hk⟩:=hrow j hj;obtain⟨cs',hk'⟩:=own_block (h.hdr x) hb;rw[←e]at hk;exact absurd (zaP hk' hk) (by decide)
 ·by_cases hx:x=s
  ·subst hx;rw[if_pos rfl]at hj⊢;exact hS.row j hj
  ·rw[if_neg hx]at hj⊢;refine zae (h.row x j hj) ho fun b hb=>?_
   injection hb with hb
   subst hb;rintro⟨j',hj',e⟩;exact hx (h.inj x j s j' hj hj' e).1
def updB{α:Type}(f:Bool→α)(s:Bool)(v:α):Bool→α:=fun x=>if x=s then v else f x
theorem zaw{α:Type}(f:Bool→α)(s:Bool)(v:α):updB f s v s=v:=if_pos rfl
theorem zaz{α:Type}{f:Bool→α}{s x:Bool}{v:α}(h:x≠s):updB f s v x=f x:=if_neg h
structure NewR(w:World)(B n rb:Nat)(R:Bool→Nat→Nat)(M:Bool→List (List Bool)):Prop where
 own:w.ownsRow B 4 1 (.slice (some ⟨rb,0,none⟩) n n) n (cellsO (List.replicate n false))
 new:∀s j,j<(M s).length→R s j≠rb
theorem NewR.below{w w':World}{B n rb:Nat}{R:Bool→Nat→Nat}{M:Bool→List (List Bool)}(h:NewR w B n rb R M)(hb:Below w.heap.size w w'):NewR w' B n rb R M:=⟨own_below h.own hb,h.new⟩
theorem zmi(R:Nat→Nat)(M:List (List Bool))(n rb:Nat):hdrs (upd2 R M.length rb) (M++[List.replicate n false])=hdrs R M++[.slice (some ⟨rb,0,none⟩) n n]:=by
 unfold hdrs;rw[zx,zaE,zaO,zad,List.map_singleton]
 congr 1
 ·refine zaV fun j hj=>?_
  have hj:=zM.1 hj;rw[ziY hj,zfR (by omega)]
 ·have e:(M++[List.replicate n false]).getD M.length []=List.replicate n false:=by
   rw[zz,zO lR_,zbp];rfl
  rw[e,zK,zgf]
theorem CkS.push{w0 w w':World}{B gc m nn n rb:Nat}{hd:zB}{ns:List (List UInt8)}{Vc V:Bool→Value}{R:Bool→Nat→Nat}{M:Bool→List (List Bool)}(h:CkS w0 w B gc m hd ns nn Vc V R M)(hn:NewR w B n rb R M)(s:Bool){v':Value}(hg:w.grownBy w' (V s).ownBlock)
  (ho:w'.ownsRow B 143 1 v' ((M s).length+1) (hdrs (R s) (M s)++[.slice (some ⟨rb,0,none⟩) n n])) (hl:v'.ownBlock=(V s).ownBlock∨v'.ownBlock=some w.heap.size):
  CkS w0 w' B gc m hd ns nn Vc (updB V s v') (updB R s (upd2 (R s) (M s).length rb)) (updB M s (M s++[List.replicate n false])):=by
 have hty:∀b,(V s).ownBlock=some b→∃cs,Blk w b 143 cs:=fun b hb=>own_block (h.hdr s) hb
 have hrow:∀{base n k:Nat} {v:Value} {xs:List Value},w.ownsRow base 4 1 v n xs→v.ownBlock=some k→w'.ownsRow base 4 1 v n xs:=fun hr hk=>hr.kept hg (.inr fun hc=>by
  obtain⟨cs,h1⟩:=hty _ (hc.symm.trans hk);obtain⟨cs',h2⟩:=own_block hr hk;exact absurd (zaP h2 h1) (by decide))
 refine{h with
  bel:=h.bel.grown hg (by have:=h.blk.lt;have:=h.gcB;omega) fun k hk=>?_
  blk:=h.blk.grown hg fun hc=>?_
  map:=h.map.kept hg fun hc=>?_
  hdr:=fun x=>?_
  row:=fun x j hj=>?_
  inj:=fun x j x' j' hj hj' e=>?_
  gtd:=fun b hb hb'=>?_}
 ·have:=own_ge (h.hdr s) hk;omega
 ·obtain⟨cs,h1⟩:=hty _ hc.symm;exact absurd (zaP h.blk h1) (by decide)
 ·obtain⟨cs,h1⟩:=hty _ hc.symm;exact zdf h.map h1 rfl
 ·by_cases hx:x=s
  ·subst hx;rw[zaw,zaw,zaw,zmi,zx];exact ho
  ·rw[zaz hx,zaz hx,zaz hx];refine(h.hdr x).kept hg ?_;cases hb:(V x).ownBlock with
   |none=>exact .inl rfl
   |some b=>
    refine .inr fun hc=>?_
    cases x<;>cases s<;>first|exact hx rfl|exact h.gtd b hb hc.symm|exact h.gtd b hc.symm hb
 ·by_cases hx:x=s
  ·subst hx;rw[zaw]at hj⊢;rw[zaw];rw[zx,zaE]at hj;by_cases hjl:j<(M x).length
   ·rw[ziY hjl,zfR (by omega)]
    exact hrow (h.row x j hjl) rfl
   ·obtain rfl:j=(M x).length:=by omega
    have e:(M x++[List.replicate n false]).getD (M x).length []=List.replicate n false:=by
     rw[zz,zO lR_,zbp];rfl
    rw[e,zgf,zK];exact hrow hn.own rfl
  ·rw[zaz hx]at hj⊢;rw[zaz hx];exact hrow (h.row x j hj) rfl
 ·have key:∀(y:Bool) (i:Nat),i<(updB M s (M s++[List.replicate n false]) y).length→(y=s∧i=(M s).length∧updB R s (upd2 (R s) (M s).length rb) y i=rb)∨(i<(M y).length∧updB R s (upd2 (R s) (M s).length rb) y i=R y i):=by
   intro y i hi;by_cases hy:y=s
   ·subst hy;rw[zaw,zx,zaE]at hi;rw[zaw];by_cases hil:i<(M y).length
    ·exact .inr ⟨hil,zfR (by omega)⟩
    ·obtain rfl:i=(M y).length:=by omega
     exact .inl ⟨rfl,rfl,zgf _ _ _⟩
   ·rw[zaz hy]at hi;rw[zaz hy];exact .inr ⟨hi,rfl⟩
  rcases key x j hj with⟨h1,h2,h3⟩|⟨h1,h2⟩
  ·rcases key x' j' hj' with⟨h4,h5,h6⟩|⟨h4,h5⟩
   ·exact⟨h1.trans h4.symm,h2.trans h5.symm⟩
   ·rw[h3,h5]at e;exact absurd e.symm (hn.new x' j' h4)
  ·rcases key x' j' hj' with⟨h4,h5,h6⟩|⟨h4,h5⟩
   ·rw[h2,h6]at e;exact absurd e (hn.new x j h1)
   ·rw[h2,h5]at e;exact h.inj x j x' j' h1 h4 e
 ·have hlt:∀x b,(V x).ownBlock=some b→b<w.heap.size:=fun x b hb=>((h.hdr x).lt b hb).2
  cases s with
  |false=>
   rw[zaw]at hb;rw[zaz (by decide)]at hb'
   rcases hl with hl|hl
   ·exact h.gtd b (hl▸hb) hb'
   ·have:=hlt _ _ hb'
    rw[hl]at hb;injection hb with hb;omega
  |true=>
   rw[zaz (by decide)]at hb
   rw[zaw]at hb';rcases hl with hl|hl
   ·exact h.gtd b hb (hl▸hb')
   ·have:=hlt _ _ hb
    rw[hl]at hb';injection hb' with hb';omega
theorem CkS.stored{w0 w:World}{B gc m nn:Nat}{hd:zB}{ns:List (List UInt8)}{Vc V:Bool→Value}{R:Bool→Nat→Nat}{M:Bool→List (List Bool)}(h:CkS w0 w B gc m hd ns nn Vc V R M)(s:Bool):CkS w0 (w.setCell ⟨gc,if s then 7 else 6,none⟩ (V s)) B gc m hd ns nn (updB Vc s (V s)) V R M:=by
 have hO:=zbl w ⟨gc,if s then 7 else 6,none⟩ (V s);have hne:∀{base n b:Nat} {e:TypeId} {v:Value} {xs:List Value},w.ownsRow base e 1 v n xs→e≠ 168 →v.ownBlock=some b→b≠gc:=fun ho he hb hc=>by
  obtain⟨cs,h1⟩:=own_block ho hb;rw[hc]at h1;exact he (zaP h1 h.blk)
 refine{h with
  bel:=h.bel.setCell (p:=⟨gc,if s then 7 else 6,none⟩) h.gcB (V s)
  blk:=?_
  map:=zgR h.map hO (fun hc=>zdf h.map h.blk hc.symm)
  hdr:=fun x=>zae (h.hdr x) hO fun b hb=>hne (h.hdr x) (by decide) hb
  row:=fun x j hj=>zae (h.row x j hj) hO fun b hb=>hne (h.row x j hj) (by decide) hb}
 have h1:=h.blk.set (if s then 7 else 6) (V s);cases s<;>exact h1
def headE(g:zB):Int:=
 if nameB g.nm=true then(if g.acts.length=0 then 80 else if 32<g.acts.length then 81 else if 96<g.edges.length then 81 else if 16<g.ins.length then 81 else if 16<g.outs.length then 81 else 0)else 82
theorem CkS.aside{w0 w w':World}{B gc m nn g:Nat}{t:TypeId}{cs:Array Value}{hd:zB}{ns:List (List UInt8)}{Vc V:Bool→Value}{R:Bool→Nat→Nat}{M:Bool→List (List Bool)}(h:CkS w0 w B gc m hd ns nn Vc V R M)(hb:Blk w g t cs)(hg:B≤g)(h1:t≠ 168)(h2:t≠ 4)(h3:t≠ 143)(ho:Only (fun k=>k=g) w w'):CkS w0 w' B gc m hd ns nn Vc V R M:=
 {h with
  bel:=h.bel.trans ⟨ho.os,ho.tape,ho.output,ho.size,fun k hk=>ho.block k (by have:=h.blk.lt;have:=h.gcB;omega) (by omega)⟩
  blk:=(ho.block gc h.blk.lt (fun hc=>by rw[←hc]at hb;exact h1 (zaP hb h.blk))).trans h.blk
  map:=zgR h.map ho (fun hc=>zdf h.map hb hc.symm)
  hdr:=fun x=>zae (h.hdr x) ho fun b hb' hc=>by
   obtain⟨cs',hk⟩:=own_block (h.hdr x) hb';rw[hc]at hk;exact h3 (zaP hb hk)
  row:=fun x j hj=>zae (h.row x j hj) ho fun b hb' hc=>by
   obtain⟨cs',hk⟩:=own_block (h.row x j hj) hb';rw[hc]at hk;exact h2 (zaP hb hk)}
theorem znG(g:zB)(gc:Nat)(u v x:Value)(w:World)(hb:Blk w gc 168 #[.string g.nm, .slice g.aA g.acts.length g.cA, .slice g.aE g.edges.length g.cE, .slice g.aI g.ins.length g.cI, .slice g.aO g.outs.length g.cO,u,v,x])(hs:g.nm.size≤maxLen):
  Calls Tryz.prog 67 #[.pointer (some ⟨gc,0,none⟩)] w fun e w'=>∃a b c:Int,e= .returned (.tuple #[.int .i64 (headE g), .agg #[.int .u8 a, .int .i64 b, .int .i64 c]])∧Below w.heap.size w w':=by
 obtain⟨B,hB⟩:∃B,w.heap.size=B:=⟨_,rfl⟩;have hlt:=hb.lt;obtain⟨r,hr⟩:∃r,nameB g.nm=r:=⟨_,rfl⟩;obtain⟨E,hE⟩:∃E,headE g=E:=⟨_,rfl⟩;unfold headE at hE;rw[hr]at hE;rw[hB,show headE g=E from by unfold headE;rw[hr];exact hE]
 have HR:=Lh hr;have b1:=(zm B w).alloc (by omega) (.cells #[.int .u8 0, .int .i64 0, .int .i64 0] 128)
 have k1:=hb.alloc (.cells #[.int .u8 0, .int .i64 0, .int .i64 0] 128);have q1:=Blk.new w B hB.symm 128 #[.int .u8 0, .int .i64 0, .int .i64 0];have z1:(w.alloc (.cells #[.int .u8 0, .int .i64 0, .int .i64 0] 128)).heap.size=B+1:=by simp;omega
 obtain⟨W1,hW1⟩:∃W,w.alloc (.cells #[.int .u8 0, .int .i64 0, .int .i64 0] 128)=W:=⟨_,rfl⟩;rw[hW1]at b1 k1 q1 z1;have c0:=k1.cellL 0 rfl;have c1:=k1.cellL 1 rfl;have c2:=k1.cellL 2 rfl;have c3:=k1.cellL 3 rfl;have c4:=k1.cellL 4 rfl;obtain⟨nA,hnA⟩:∃n,g.acts.length=n:=⟨_,rfl⟩;obtain⟨nE,hnE⟩:∃n,g.edges.length=n:=⟨_,rfl⟩;obtain⟨nI,hnI⟩:∃n,g.ins.length=n:=⟨_,rfl⟩;obtain⟨nO,hnO⟩:∃n,g.outs.length=n:=⟨_,rfl⟩;rw[hnA,hnE,hnI,hnO]at hE;rw[hnA]at c1;rw[hnE]at c2;rw[hnI]at c3;rw[hnO]at c4;have HE:=Lh hE;clear hr hE hb k1 hnA hnE hnI hnO;have b2:=b1.alloc (by omega) (.cells #[.string g.nm, .slice g.aA nA g.cA, .slice g.aE nE g.cE, .slice g.aI nI g.cI, .slice g.aO nO g.cO] 26)
 have k2:=Blk.new W1 (B+1) z1.symm 26 #[.string g.nm, .slice g.aA nA g.cA, .slice g.aE nE g.cE, .slice g.aI nI g.cI, .slice g.aO nO g.cO];have q2:=q1.alloc (.cells #[.string g.nm, .slice g.aA nA g.cA, .slice g.aE nE g.cE, .slice g.aI nI g.cI, .slice g.aO nO g.cO] 26);obtain⟨W2,hW2⟩:∃W,W1.alloc (.cells #[.string g.nm, .slice g.aA nA g.cA, .slice g.aE nE g.cE, .slice g.aI nI g.cI, .slice g.aO nO g.cO] 26)=W:=⟨_,rfl⟩;rw[hW2]at b2 k2 q2;have d0:=k2.cellL 0 rfl
 go_enter Tryz.func67, Tryz.ntmps67
 go_wp2_with fail
 try rw[hW1]
 try rw[hW2]
 refine(ziW g.nm _ hs).mono ?_;rintro e w3 ⟨rfl,hb3⟩;rw[HR.out];have z2:=b2.size;have b3:=b2.trans (hb3.mono (by omega))
 have k3:=k2.below hb3 k2.lt;have q3:=q2.below hb3 q2.lt;have d1:=k3.cellL 1 rfl;have d2:=k3.cellL 2 rfl;have d3:=k3.cellL 3 rfl;have d4:=k3.cellL 4 rfl;have p0:=q3.cellL 0 rfl;have p1:=q3.cellL 1 rfl;have p2:=q3.cellL 2 rfl;have f0:=q3.frozen 0;have f1:=q3.frozen 1;have f2:=q3.frozen 2;clear b1 b2 q1 k2 q2 hb3 k3 d0 c0 c1 c2 c3 c4 hW1 hW2 z1 z2;cases r with
 |false=>
  obtain rfl:E=82:=by rw[←HE.out];simp
  have q4:=((q3.set 0 (.int .u8 0)).set 1 (.int .i64 0)).set 2 (.int .i64 0);simp only[zc,ze,zd]at q4;have s0:=q4.cellL 0 rfl;have s1:=q4.cellL 1 rfl;have s2:=q4.cellL 2 rfl;have b4:=((b3.setCell (p:=⟨B,0,none⟩) lR_ (.int .u8 0)).setCell (p:=⟨B,1,none⟩) lR_ (.int .i64 0)).setCell (p:=⟨B,2,none⟩) lR_ (.int .i64 0);clear q3 q4 b3
  go_wp2_with fail;refine bodyPost_ret (v:= .tuple #[.int .i64 82, .agg #[.int .u8 0, .int .i64 0, .int .i64 0]]) (by simp[results, Tryz.results67,go_sem,s0,s1,s2]) rfl ?_
  exact⟨_,_,_,rfl,b4⟩
 |true=>
  by_cases h0:nA=0
  ·have g0:((nA:Int)==0)=true:=by simp[h0]
   have H0:=Lh h0;clear h0;obtain rfl:E=80:=by rw[←HE.out];simp[H0.out]
   have q4:=((q3.set 0 (.int .u8 0)).set 1 (.int .i64 0)).set 2 (.int .i64 0);simp only[zc,ze,zd]at q4;have s0:=q4.cellL 0 rfl;have s1:=q4.cellL 1 rfl;have s2:=q4.cellL 2 rfl;have b4:=((b3.setCell (p:=⟨B,0,none⟩) lR_ (.int .u8 0)).setCell (p:=⟨B,1,none⟩) lR_ (.int .i64 0)).setCell (p:=⟨B,2,none⟩) lR_ (.int .i64 0);clear q3 q4 b3
   go_wp2_with fail;refine bodyPost_ret (v:= .tuple #[.int .i64 80, .agg #[.int .u8 0, .int .i64 0, .int .i64 0]]) (by simp[results, Tryz.results67,go_sem,s0,s1,s2]) rfl ?_
   exact⟨_,_,_,rfl,b4⟩
  ·have g0:((nA:Int)==0)=false:=by simp[h0]
   by_cases h1:32<nA
   ·have g1:decide ((32:Int)<(nA:Int))=true:=decide_eq_true (by omega)
    obtain rfl:E=81:=by rw[←HE.out];simp[h0,h1]
    have q4:=((q3.set 0 (.int .u8 1)).set 1 (.int .i64 32)).set 2 (.int .i64 0);simp only[zc,ze,zd]at q4;have s0:=q4.cellL 0 rfl;have s1:=q4.cellL 1 rfl;have s2:=q4.cellL 2 rfl;have b4:=((b3.setCell (p:=⟨B,0,none⟩) lR_ (.int .u8 1)).setCell (p:=⟨B,1,none⟩) lR_ (.int .i64 32)).setCell (p:=⟨B,2,none⟩) lR_ (.int .i64 0);clear q3 q4 b3
    go_wp2_with fail;refine bodyPost_ret (v:= .tuple #[.int .i64 81, .agg #[.int .u8 1, .int .i64 32, .int .i64 0]]) (by simp[results, Tryz.results67,go_sem,s0,s1,s2]) rfl ?_
    exact⟨_,_,_,rfl,b4⟩
   ·have g1:decide ((32:Int)<(nA:Int))=false:=decide_eq_false (by omega)
    by_cases h2:96<nE
    ·have g2:decide ((96:Int)<(nE:Int))=true:=decide_eq_true (by omega)
     obtain rfl:E=81:=by rw[←HE.out];simp[h0,h1,h2]
     have q4:=((q3.set 0 (.int .u8 2)).set 1 (.int .i64 96)).set 2 (.int .i64 0);simp only[zc,ze,zd]at q4;have s0:=q4.cellL 0 rfl;have s1:=q4.cellL 1 rfl;have s2:=q4.cellL 2 rfl;have b4:=((b3.setCell (p:=⟨B,0,none⟩) lR_ (.int .u8 2)).setCell (p:=⟨B,1,none⟩) lR_ (.int .i64 96)).setCell (p:=⟨B,2,none⟩) lR_ (.int .i64 0);clear q3 q4 b3
     go_wp2_with fail;refine bodyPost_ret (v:= .tuple #[.int .i64 81, .agg #[.int .u8 2, .int .i64 96, .int .i64 0]]) (by simp[results, Tryz.results67,go_sem,s0,s1,s2]) rfl ?_
     exact⟨_,_,_,rfl,b4⟩
    ·have g2:decide ((96:Int)<(nE:Int))=false:=decide_eq_false (by omega)
     by_cases h3:16<nI
     ·have g3:decide ((16:Int)<(nI:Int))=true:=decide_eq_true (by omega)
      obtain rfl:E=81:=by rw[←HE.out];simp[h0,h1,h2,h3]
      have q4:=((q3.set 0 (.int .u8 3)).set 1 (.int .i64 16)).set 2 (.int .i64 0);simp only[zc,ze,zd]at q4;have s0:=q4.cellL 0 rfl;have s1:=q4.cellL 1 rfl;have s2:=q4.cellL 2 rfl;have b4:=((b3.setCell (p:=⟨B,0,none⟩) lR_ (.int .u8 3)).setCell (p:=⟨B,1,none⟩) lR_ (.int .i64 16)).setCell (p:=⟨B,2,none⟩) lR_ (.int .i64 0);clear q3 q4 b3
      go_wp2_with fail;refine bodyPost_ret (v:= .tuple #[.int .i64 81, .agg #[.int .u8 3, .int .i64 16, .int .i64 0]]) (by simp[results, Tryz.results67,go_sem,s0,s1,s2]) rfl ?_
      exact⟨_,_,_,rfl,b4⟩
     ·have g3:decide ((16:Int)<(nI:Int))=false:=decide_eq_false (by omega)
      by_cases h4:16<nO
      ·have g4:decide ((16:Int)<(nO:Int))=true:=decide_eq_true (by omega)
       obtain rfl:E=81:=by rw[←HE.out];simp[h0,h1,h2,h3,h4]
       have q4:=((q3.set 0 (.int .u8 4)).set 1 (.int .i64 16)).set 2 (.int .i64 0);simp only[zc,ze,zd]at q4;have s0:=q4.cellL 0 rfl;have s1:=q4.cellL 1 rfl;have s2:=q4.cellL 2 rfl;have b4:=((b3.setCell (p:=⟨B,0,none⟩) lR_ (.int .u8 4)).setCell (p:=⟨B,1,none⟩) lR_ (.int .i64 16)).setCell (p:=⟨B,2,none⟩) lR_ (.int .i64 0);clear q3 q4 b3
       go_wp2_with fail;refine bodyPost_ret (v:= .tuple #[.int .i64 81, .agg #[.int .u8 4, .int .i64 16, .int .i64 0]]) (by simp[results, Tryz.results67,go_sem,s0,s1,s2]) rfl ?_
       exact⟨_,_,_,rfl,b4⟩
      ·have g4:decide ((16:Int)<(nO:Int))=false:=decide_eq_false (by omega)
       obtain rfl:E=0:=by rw[←HE.out];simp[h0,h1,h2,h3,h4]
       have q4:=((q3.set 0 (.int .u8 0)).set 1 (.int .i64 0)).set 2 (.int .i64 0);simp only[zc,ze,zd]at q4;have s0:=q4.cellL 0 rfl;have s1:=q4.cellL 1 rfl;have s2:=q4.cellL 2 rfl;have b4:=((b3.setCell (p:=⟨B,0,none⟩) lR_ (.int .u8 0)).setCell (p:=⟨B,1,none⟩) lR_ (.int .i64 0)).setCell (p:=⟨B,2,none⟩) lR_ (.int .i64 0);clear q3 q4 b3
       go_wp2_with fail;refine bodyPost_ret (v:= .tuple #[.int .i64 0, .agg #[.int .u8 0, .int .i64 0, .int .i64 0]]) (by simp[results, Tryz.results67,go_sem,s0,s1,s2]) rfl ?_
       exact⟨_,_,_,rfl,b4⟩
end Go.Proofs.YtpmlljbebdidgaaGreatDoor
