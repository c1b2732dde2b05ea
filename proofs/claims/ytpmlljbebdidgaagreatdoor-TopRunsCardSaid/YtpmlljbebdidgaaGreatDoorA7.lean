/- Lemmas and walks for the claim: Sv, Se. -/
import Derived.Test.YtpmlljbebdidgaaGreatDoorA0
import Derived.Test.YtpmlljbebdidgaaGreatDoorA5
import Derived.Test.YtpmlljbebdidgaaGreatDoorA3
set_option linter.unusedSimpArgs false
namespace Go.Proofs.YtpmlljbebdidgaaGreatDoor
open Go.RowKit
def up2{α:Type}(f:Bool→Nat→α)(s:Bool)(t:Nat)(v:α):Bool→Nat→α:=fun s' j=>if s'=s∧j=t then v else f s' j
theorem zcb{α:Type}(f:Bool→Nat→α)(s:Bool)(t:Nat)(v:α):up2 f s t v s t=v:=by simp[up2]
theorem zcY{α:Type}(f:Bool→Nat→α)(s:Bool)(t:Nat)(v:α){s':Bool}{j:Nat}(h:¬(s'=s∧j=t)):up2 f s t v s' j=f s' j:=by simp only[up2,if_neg h]
structure Wv(w0 w:World)(B:Nat)(gt:Bool→Nat)(n:Nat)(va:Value)(ars:List ArcV)(bs:List (Nat×TypeId×Array Value))(T V:Bool→Nat→Value)(R:Bool→Nat→List Nat):Prop where
 bel:Below B w0 w
 arcs:w.ownsRow B 76 5 va ars.length (cellsA ars)
 tab:∀s,w.ownsRow B 36 1 (.slice (some ⟨gt s,0,none⟩) n n) n ((List.range n).map (T s))
 row:∀s j,j<n→w.ownsRow B 3 1 (V s j) (R s j).length (cellsI (ints (R s j)))
 dis:∀s j s' j',j<n→j'<n→(s,j)≠(s',j')→∀b,(V s j).ownBlock=some b→(V s' j').ownBlock≠some b
 gtd:gt false≠gt true
 bys:∀p∈bs,Blk w p.1 p.2.1 p.2.2
 bty:∀p∈bs,p.2.1≠ 3 ∧p.2.1≠ 36
theorem own_block{w:World}{base:Nat}{e:TypeId}{size n:Nat}{v:Value}{xs:List Value}(h:w.ownsRow base e size v n xs){b:Nat}(hb:v.ownBlock=some b):∃cs,Blk w b e cs:=by
 rcases h.2 with⟨rfl,_⟩|⟨g,cap,cur,rfl,_,hg,_⟩
 ·cases hb
 ·simp only[Value.ownBlock]at hb;injection hb with hb;subst hb;exact⟨cur,hg⟩
theorem zaP{w:World}{g:Nat}{e t:TypeId}{cs cs':Array Value}(h:Blk w g e cs)(h':Blk w g t cs'):e=t:=by
 have:=h.symm.trans h'
 injection this with this
 injection this
theorem Wv.below{w0 w w':World}{B:Nat}{gt:Bool→Nat}{n:Nat}{va:Value}{ars:List ArcV}{bs:List (Nat×TypeId×Array Value)}{T V:Bool→Nat→Value}{R:Bool→Nat→List Nat}
  (h:Wv w0 w B gt n va ars bs T V R) (hb:Below w.heap.size w w'):Wv w0 w' B gt n va ars bs T V R:=
 have hB:B≤w.heap.size:=by
  have:=(h.tab false).lt (gt false) rfl
  omega
 ⟨⟨hb.os.trans h.bel.os,hb.tape.trans h.bel.tape,hb.output.trans h.bel.output,zy h.bel.size hb.size,fun k hk=>(hb.block k (by omega)).trans (h.bel.block k hk)⟩,
  own_below h.arcs hb,fun s=>own_below (h.tab s) hb,fun s j hj=>own_below (h.row s j hj) hb,h.dis,h.gtd,fun p hp=>(h.bys p hp).below hb (h.bys p hp).lt,h.bty⟩
theorem Wv.append{w0 w w':World}{B:Nat}{gt:Bool→Nat}{n:Nat}{va:Value}{ars:List ArcV}{bs:List (Nat×TypeId×Array Value)}{T V:Bool→Nat→Value}{R:Bool→Nat→List Nat}
  (h:Wv w0 w B gt n va ars bs T V R) (hB0:B≤w0.heap.size) (s:Bool) (t:Nat) (ht:t<n) (v':Value) (i:Nat) (hg:w.grownBy w' (V s t).ownBlock)
  (hv:v'.ownBlock=(V s t).ownBlock∨v'.ownBlock=some w.heap.size) (ho:w'.ownsRow B 3 1 v' ((R s t).length+1) (cellsI (ints (R s t))++[.int .i64 (i:Int)])):
  Wv w0 w' B gt n va ars bs T (up2 V s t v') (up2 R s t (R s t++[i])):=by
 have hrow:=h.row s t ht;have far:∀{e:TypeId} {size m:Nat} {v:Value} {xs:List Value},w.ownsRow B e size v m xs→e≠ 3 →v.ownBlock=none∨v.ownBlock≠(V s t).ownBlock:=by
  intro e size m v xs hx he;cases hv:v.ownBlock with
  |none=>exact .inl rfl
  |some b=>
   refine .inr fun hc=>?_
   obtain⟨c1,k1⟩:=own_block hx hv;obtain⟨c2,k2⟩:=own_block hrow hc.symm;exact he (zaP k1 k2)
 have hB:B≤w.heap.size:=zy hB0 h.bel.size
 refine⟨h.bel.grown hg hB fun k hk=>own_ge hrow hk,h.arcs.kept hg (far h.arcs (by decide)),fun s'=>(h.tab s').kept hg (far (h.tab s') (by decide)),fun s' j hj=>?_,fun s1 j1 s2 j2 h1 h2 hne b hb=>?_,h.gtd,fun p hp=>?_,h.bty⟩
 ·by_cases he:s'=s∧j=t
  ·obtain⟨rfl,rfl⟩:=he;rw[zcb,zcb];have e1:cellsI (ints (R s' j++[i]))=cellsI (ints (R s' j))++[.int .i64 (i:Int)]:=by simp[cellsI,ints]
   rw[e1,zx];exact ho
  ·rw[zcY _ _ _ _ he,zcY _ _ _ _ he];refine(h.row s' j hj).kept hg ?_;cases hv:(V s' j).ownBlock with
   |none=>exact .inl rfl
   |some b=>exact .inr fun hc=>h.dis s' j s t hj ht (fun h=>he ⟨congrArg Prod.fst h,congrArg Prod.snd h⟩) b hv hc.symm
 ·by_cases e1:s1=s∧j1=t
  ·obtain⟨rfl,rfl⟩:=e1;rw[zcb]at hb;rw[zcY _ _ _ _ (fun hc=>hne (by rw[hc.1,hc.2]))]
   rcases hv with hv|hv
   ·exact h.dis s1 j1 s2 j2 h1 h2 hne b (hv▸hb)
   ·intro hc;have h3:=(h.row s2 j2 h2).lt b hc;rw[hv]at hb;injection hb with hb;omega
  ·rw[zcY _ _ _ _ e1]at hb;by_cases e2:s2=s∧j2=t
   ·obtain⟨rfl,rfl⟩:=e2;rw[zcb];rcases hv with hv|hv
    ·rw[hv];exact h.dis s1 j1 s2 j2 h1 h2 hne b hb
    ·intro hc;have h3:=(h.row s1 j1 h1).lt b hb;rw[hv]at hc;injection hc with hc;omega
   ·rw[zcY _ _ _ _ e2];exact h.dis s1 j1 s2 j2 h1 h2 hne b hb
 ·refine(h.bys p hp).grown hg fun hc=>?_
  obtain⟨c2,k2⟩:=own_block hrow hc.symm;exact(h.bty p hp).1 (zaP (h.bys p hp) k2)
theorem zpa{n t:Nat}(f:Nat→Value)(v:Value):((List.range n).map f).set t v=(List.range n).map fun j=>if j=t then v else f j:=by
 apply zbb
 ·simp
 ·intro j h1 h2;simp only[List.getElem_set,List.getElem_map,List.getElem_range];by_cases h:t=j
  ·subst h;simp
  ·rw[if_neg h,if_neg (fun hc=>h hc.symm)]
theorem Wv.store{w0 w:World}{B:Nat}{gt:Bool→Nat}{n:Nat}{va:Value}{ars:List ArcV}{bs:List (Nat×TypeId×Array Value)}{T V:Bool→Nat→Value}{R:Bool→Nat→List Nat}
  (h:Wv w0 w B gt n va ars bs T V R) (s:Bool) (t:Nat) (v':Value):Wv w0 (w.setCell ⟨gt s,t,none⟩ v') B gt n va ars bs (up2 T s t v') V R:=by
 have htab:=h.tab s;obtain⟨c1,k1⟩:=own_block htab rfl;have hg1:=htab.lt (gt s) rfl;refine⟨h.bel.setCell hg1.1 _,zap h.arcs k1 (by decide) _ _,fun s'=>?_,fun s' j hj=>zap (h.row s' j hj) k1 (by decide) _ _,h.dis,h.gtd,fun p hp=>(h.bys p hp).far (fun hc=>?_) _,h.bty⟩
 ·by_cases he:s'=s
  ·subst he;have h2:=htab.stored t v';rw[zpa _ _]at h2;have e2:(fun j=>if j=t then v' else T s' j)=up2 T s' t v' s':=by funext j;simp[up2]
   rw[e2]at h2;exact h2.1
  ·have e2:up2 T s t v' s'=T s':=by funext j;exact zcY _ _ _ _ (fun hc=>he hc.1)
   rw[e2];refine(h.tab s').kept (htab.stored t v').2 (.inr fun hc=>?_)
   simp only[Value.ownBlock]at hc;injection hc with hc
   have:=h.gtd
   cases s<;>cases s'<;>simp_all
 ·have hb:=h.bys p hp;rw[hc]at hb;exact(h.bty p hp).2 (zaP hb k1)
theorem Wv.by_{w0 w:World}{B:Nat}{gt:Bool→Nat}{n:Nat}{va:Value}{ars:List ArcV}{bs bs':List (Nat×TypeId×Array Value)}{T V:Bool→Nat→Value}{R:Bool→Nat→List Nat}
  (h:Wv w0 w B gt n va ars bs T V R) (h1:∀p∈bs',Blk w p.1 p.2.1 p.2.2) (h2:∀p∈bs',p.2.1≠ 3 ∧p.2.1≠ 36):Wv w0 w B gt n va ars bs' T V R:=
 ⟨h.bel,h.arcs,h.tab,h.row,h.dis,h.gtd,h1,h2⟩
theorem zgq{w w':World}{B:Nat}{e:TypeId}{size n b:Nat}{v:Value}{xs:List Value}{t:TypeId}{cs:Array Value}(h:w.ownsRow B e size v n xs)(hk:Blk w b t cs)(ho:Only (fun k=>k=b) w w')(he:e≠t):w'.ownsRow B e size v n xs:=by
 refine zae h ho fun b' hb hc=>?_
 obtain⟨c1,k1⟩:=own_block h hb;subst hc;exact he (zaP k1 hk)
theorem Wv.only{w0 w w':World}{B b:Nat}{gt:Bool→Nat}{n:Nat}{va:Value}{ars:List ArcV}{bs:List (Nat×TypeId×Array Value)}{T V:Bool→Nat→Value}{R:Bool→Nat→List Nat}{t:TypeId}{cs:Array Value}
  (h:Wv w0 w B gt n va ars bs T V R) (hk:Blk w b t cs) (hb:B≤b) (ho:Only (fun k=>k=b) w w') (h1: 3 ≠t) (h2: 36 ≠t) (h3: 76 ≠t):Wv w0 w' B gt n va ars [] T V R:=by
 have hlt:=hk.lt;exact⟨⟨ho.os.trans h.bel.os,ho.tape.trans h.bel.tape,ho.output.trans h.bel.output,zy h.bel.size ho.size,fun k hk=>(ho.block k (by omega) (by omega)).trans (h.bel.block k hk)⟩,
  zgq h.arcs hk ho h3,fun s=>zgq (h.tab s) hk ho h2,fun s j hj=>zgq (h.row s j hj) hk ho h1,h.dis,h.gtd,(by intros; contradiction),(by intros; contradiction)⟩
theorem Wv.cons{w0 w:World}{B:Nat}{gt:Bool→Nat}{n:Nat}{va:Value}{ars:List ArcV}{bs:List (Nat×TypeId×Array Value)}{T V:Bool→Nat→Value}{R:Bool→Nat→List Nat}
  (h:Wv w0 w B gt n va ars bs T V R) {g:Nat} {t:TypeId} {cs:Array Value} (hk:Blk w g t cs) (h1:t≠ 3) (h2:t≠ 36):Wv w0 w B gt n va ars ((g,t,cs)::bs) T V R:=by
 refine h.by_ (fun p hp=>?_) (fun p hp=>?_)
 ·rcases zV.1 hp with rfl|hp
  ·exact hk
  ·exact h.bys p hp
 ·rcases zV.1 hp with rfl|hp
  ·exact⟨h1,h2⟩
  ·exact h.bty p hp
theorem Wv.tail{w0 w:World}{B:Nat}{gt:Bool→Nat}{n:Nat}{va:Value}{ars:List ArcV}{b:Nat×TypeId×Array Value}{bs:List (Nat×TypeId×Array Value)}{T V:Bool→Nat→Value}{R:Bool→Nat→List Nat}
  (h:Wv w0 w B gt n va ars (b::bs) T V R):Wv w0 w B gt n va ars bs T V R:=
 h.by_ (fun p hp=>h.bys p (za2 _ hp)) (fun p hp=>h.bty p (za2 _ hp))
theorem zn7:(Tryz.prog.info? 76).map (fun i=>(i.zero.map (·.cells.size),i.size,i.bytes))=some (some 5,5,40):=by kernel_rfl
theorem zll(ars:List ArcV):∀u∈cellsA ars,u.oneCell'=true:=by
 intro u hu;obtain⟨a,_,h⟩:=List.mem_flatMap.1 hu;simp only[ArcV.cells,zV,zcV,or_false]at h;rcases h with rfl|rfl|rfl|rfl|rfl<;>rfl
theorem zie:∃i, Tryz.prog.info? 76 =some i∧∃z,i.zero=some z∧i.size=5∧i.bytes=40∧z.cells.size=5:=by
 obtain⟨i,hi,h⟩:=zcD.1 zn7;simp only[zaj]at h;obtain⟨h1,h2,h3⟩:=h;obtain⟨z,hz,h4⟩:=zcD.1 h1;exact⟨i,hi,z,hz,h2,h3,h4⟩
theorem zjo(w:World)(b:Nat)(hb:b=w.heap.size)(n:Nat)(hn:n≤maxLen):(w.alloc (.cells (madeCells #[.slice none 0 0] n) 36)).ownsRow b 36 1 (.slice (some ⟨b,0,none⟩) n n) n ((List.range n).map fun _=> .slice none 0 0):=by
 subst hb;exact⟨by simp, .inr ⟨w.heap.size,n,_,rfl,zF _,heap_alloc_new w _,zF _,hn,by simp[size_madeCells],by rw[zkw];exact zL (by simp)⟩⟩
structure WvI(w0:World)(B gn gr n:Nat)(A:Option Addr)(c:Nat)(ars:List ArcV)(L:Nat→Bool)(V:Nat→Value)(w:World):Prop where
 bel:Below B w0 w
 gnr:gn<B+2∧gr<B+2∧B+2≤w.heap.size
 net:Blk w gn 30 #[.int .i64 n, .slice A ars.length c]
 res:Blk w gr 104 #[.slice none 0 0, .slice none 0 0, .slice none 0 0]
 rd:Rd w B A (cellsA ars)
 f0:L 0=true→L 3=false→∃g,V 6= .slice (some ⟨g,0,none⟩) 0 0∧w.ownsRow (B+2) 76 5 (V 6) 0 []
 f1:L 1=true→V 7= .pointer (some ⟨gn,1,none⟩)
 f2:L 2=true→V 8= .slice A ars.length c
 f3:L 3=true→w.ownsRow (B+2) 76 5 (V 9) ars.length (cellsA ars)
 f4:L 4=true→V 10= .pointer (some ⟨gn,0,none⟩)
 f5:L 5=true→V 11= .int .i64 n
 f6:L 6=true→∃g,V 12= .slice (some ⟨g,0,none⟩) n n∧w.ownsRow (B+2) 36 1 (V 12) n ((List.range n).map fun _=> .slice none 0 0)
 f7:L 7=true→V 13= .pointer (some ⟨gn,0,none⟩)
 f8:L 8=true→V 14= .int .i64 n
 f9:L 9=true→∃g,V 15= .slice (some ⟨g,0,none⟩) n n∧w.ownsRow (B+2) 36 1 (V 15) n ((List.range n).map fun _=> .slice none 0 0)
 fd:L 6=true→L 9=true→∀b,(V 12).ownBlock=some b→(V 15).ownBlock≠some b
 f10:L 10=true→L 3=true∧L 6=true∧L 9=true∧V 16= .agg #[V 9,V 12,V 15]
 f11:L 11=true→L 12=false→∃g,V 3= .pointer (some ⟨g,0,none⟩)∧B+2≤g∧Blk w g 104 #[.slice none 0 0, .slice none 0 0, .slice none 0 0]
 f12:L 12=true→L 10=true∧L 11=true∧∃g,V 3= .pointer (some ⟨g,0,none⟩)∧B+2≤g∧Blk w g 104 #[V 9,V 12,V 15]
theorem WvI.below{w0 w w':World}{B gn gr n:Nat}{A:Option Addr}{c:Nat}{ars:List ArcV}{L:Nat→Bool}{V:Nat→Value}(h:WvI w0 B gn gr n A c ars L V w)(hb:Below w.heap.size w w'):WvI w0 B gn gr n A c ars L V w':=by
 have hs:=hb.size;obtain⟨g1,g2,g3⟩:=h.gnr;exact{h with
  bel:=⟨hb.os.trans h.bel.os,hb.tape.trans h.bel.tape,hb.output.trans h.bel.output,zy h.bel.size hb.size,fun k hk=>(hb.block k (by omega)).trans (h.bel.block k hk)⟩
  gnr:=⟨g1,g2,by omega⟩
  net:=h.net.below hb h.net.lt
  res:=h.res.below hb h.res.lt
  rd:=h.rd.below hb (by omega)
  f0:=fun h1 h2=>by obtain⟨g,e,o⟩:=h.f0 h1 h2;exact⟨g,e,own_below o hb⟩
  f3:=fun h1=>own_below (h.f3 h1) hb
  f6:=fun h1=>by obtain⟨g,e,o⟩:=h.f6 h1;exact⟨g,e,own_below o hb⟩
  f9:=fun h1=>by obtain⟨g,e,o⟩:=h.f9 h1;exact⟨g,e,own_below o hb⟩
  f11:=fun h1 h2=>by obtain⟨g,e,hg,k⟩:=h.f11 h1 h2;exact⟨g,e,hg,k.below hb k.lt⟩
  f12:=fun h1=>by obtain⟨l1,l2,g,e,hg,k⟩:=h.f12 h1;exact⟨l1,l2,g,e,hg,k.below hb k.lt⟩}
theorem WvI.alloc{w0 w:World}{B gn gr n:Nat}{A:Option Addr}{c:Nat}{ars:List ArcV}{L:Nat→Bool}{V:Nat→Value}(h:WvI w0 B gn gr n A c ars L V w)(o:Obj):WvI w0 B gn gr n A c ars L V (w.alloc o):=
 h.below ((zm _ _).alloc lR_ o)
theorem zd0(V:Nat→Value)(d:Nat)(v:Value):zg V d v d=v:=by simp[zg]
structure RgI(w0:World)(B:Nat)(gt:Bool→Nat)(n:Nat)(va:Value)(ars:List ArcV)(bs:List (Nat×TypeId×Array Value))(T:Bool→Nat→Value)(R:Bool→Nat→List Nat)
  (g ga c f d:Nat) (s:Bool) (t k:Nat) (L:Nat→Bool) (V:Nat→Value) (w:World):Prop where
 bys:∀p∈bs,Blk w p.1 p.2.1 p.2.2
 tab:∀j u,j<n→L 14=false→T s j=u→w.cell? ⟨gt s,j,none⟩=some u
 siz:B≤w.heap.size
 p0:L 12=false→Wv w0 w B gt n va ars bs T T R
 p1:L 12=true→L 11=true∧L 9=true∧(L 14=false→Wv w0 w B gt n va ars bs T (up2 T s t (V (d+12))) (up2 R s t (R s t++[k])))
 p2:L 14=true→L 12=true∧∃T',Wv w0 w B gt n va ars bs T' T' (up2 R s t (R s t++[k]))
 b:L 11=true→L 12=false→∃gb,V (d+11)= .slice (some ⟨gb,0,none⟩) 1 1∧gb<w.heap.size∧w.cell? ⟨gb,0,none⟩=some (.int .i64 k)
 e0:L 0=true→V (d+0)= .pointer (some ⟨g,c,none⟩)
 e1:L 1=true→V (d+1)= .slice (some ⟨gt s,0,none⟩) n n
 e2:L 2=true→V (d+2)= .pointer (some ⟨ga,f,none⟩)
 e3:L 3=true→V (d+3)= .int .i64 t
 e4:L 4=true→V (d+4)= .pointer (some ⟨g,c,none⟩)
 e5:L 5=true→V (d+5)= .slice (some ⟨gt s,0,none⟩) n n
 e6:L 6=true→V (d+6)= .pointer (some ⟨ga,f,none⟩)
 e7:L 7=true→V (d+7)= .int .i64 t
 e8:L 8=true→V (d+8)= .pointer (some ⟨gt s,t,none⟩)
 e9:L 9=true→V (d+9)=T s t
 e10:L 10=true→V (d+10)= .int .i64 k
 e13:L 13=true→V (d+13)= .pointer (some ⟨gt s,t,none⟩)
end Go.Proofs.YtpmlljbebdidgaaGreatDoor
