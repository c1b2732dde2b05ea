/- Lemmas and walks for the claim: Sf, Sq, Sr. -/
import Derived.Test.YtpmlljbebdidgaaGreatDoorA0
import Derived.Test.YtpmlljbebdidgaaGreatDoorA8
import Derived.BigQuiet
import Derived.Deep.QuietTactic
set_option linter.unusedSimpArgs false
set_option maxRecDepth 100000
set_option maxHeartbeats 4000000
namespace Go.Proofs.YtpmlljbebdidgaaGreatDoor
open Go.RowKit
theorem Wv.rebase{w0 w1 w:World}{B B1:Nat}{gt:Bool→Nat}{n:Nat}{va:Value}{ars:List ArcV}{bs:List (Nat×TypeId×Array Value)}{T V:Bool→Nat→Value}{R:Bool→Nat→List Nat}
  (h:Wv w1 w B1 gt n va ars bs T V R) (h0:Below B w0 w1) (hB:B≤B1):Wv w0 w B gt n va ars bs T V R:=
 ⟨⟨h.bel.os.trans h0.os,h.bel.tape.trans h0.tape,h.bel.output.trans h0.output,zy h0.size h.bel.size,fun k hk=>(h.bel.block k (by omega)).trans (h0.block k hk)⟩,
  h.arcs.mono hB,fun s=>(h.tab s).mono hB,fun s j hj=>(h.row s j hj).mono hB,h.dis,h.gtd,h.bys,h.bty⟩
structure NwI(w0:World)(B n:Nat)(A:Option Addr)(c:Nat)(ars:List ArcV)(L:Nat→Bool)(V:Nat→Value)(w:World):Prop where
 bel:Below B w0 w
 siz:B+1≤w.heap.size
 net:Blk w B 30 #[.int .i64 n, .slice A ars.length c]
 rd:Rd w B A (cellsA ars)
 f0:L 0=true→V 13= .agg #[.int .i64 n, .slice A ars.length c]
 f1:L 1=true→∃gt A' c' T,V 14= .agg #[.slice A' ars.length c', .slice (some ⟨gt false,0,none⟩) n n, .slice (some ⟨gt true,0,none⟩) n n]∧Wv w0 w B gt n (.slice A' ars.length c') ars [] T T (rowsF ars ars.length)∧
  (L 5=true→∀s j,j<n→∀b,(V 18).ownBlock=some b→(T s j).ownBlock≠some b)∧(L 8=true→∀s j,j<n→∀b,(V 21).ownBlock=some b→(T s j).ownBlock≠some b)
 f2:L 2=true→V 15= .pointer (some ⟨B,1,none⟩)
 f3:L 3=true→V 16= .slice A ars.length c
 f4:L 4=true→V 17= .int .i64 ars.length
 f5:L 5=true→∃g,V 18= .slice (some ⟨g,0,none⟩) ars.length ars.length∧w.ownsRow (B+1) 3 1 (V 18) ars.length (cellsI (rowF (fun _=>0) ars.length))
 f6:L 6=true→V 19= .pointer (some ⟨B,0,none⟩)
 f7:L 7=true→V 20= .int .i64 n
 f8:L 8=true→∃g,V 21= .slice (some ⟨g,0,none⟩) n n∧w.ownsRow (B+1) 3 1 (V 21) n (cellsI (rowF (fun _=>0) n))
 f9:L 9=true→L 1=true∧L 5=true∧L 8=true∧∃a b c,V 14= .agg #[a,b,c]∧V 22= .agg #[a,b,c,V 18,V 21]
 f10:L 10=true→L 9=true∧∃g a b c,V 14= .agg #[a,b,c]∧V 23= .pointer (some ⟨g,0,none⟩)∧B+1≤g∧Blk w g 107 #[a,b,c,V 18,V 21]
 f11:L 11=true→L 10=true∧V 5=V 23
 fd:L 5=true→L 8=true→∀b,(V 18).ownBlock=some b→(V 21).ownBlock≠some b
theorem NwI.below{w0 w w':World}{B n:Nat}{A:Option Addr}{c:Nat}{ars:List ArcV}{L:Nat→Bool}{V:Nat→Value}(h:NwI w0 B n A c ars L V w)(hb:Below w.heap.size w w'):NwI w0 B n A c ars L V w':=by
 have hs:=hb.size;have hz:=h.siz;exact{h with
  bel:=⟨hb.os.trans h.bel.os,hb.tape.trans h.bel.tape,hb.output.trans h.bel.output,zy h.bel.size hb.size,fun k hk=>(hb.block k (by omega)).trans (h.bel.block k hk)⟩
  siz:=by omega
  net:=h.net.below hb h.net.lt
  rd:=h.rd.below hb (by omega)
  f1:=fun h1=>by obtain⟨gt,A',c',T,e,o,o1,o2⟩:=h.f1 h1;exact⟨gt,A',c',T,e,o.below hb,o1,o2⟩
  f5:=fun h1=>by obtain⟨g,e,o⟩:=h.f5 h1;exact⟨g,e,own_below o hb⟩
  f8:=fun h1=>by obtain⟨g,e,o⟩:=h.f8 h1;exact⟨g,e,own_below o hb⟩
  f10:=fun h1=>by obtain⟨l9,g,a,b,c,e,e2,hg,k⟩:=h.f10 h1;exact⟨l9,g,a,b,c,e,e2,hg,k.below hb k.lt⟩}
theorem NwI.alloc{w0 w:World}{B n:Nat}{A:Option Addr}{c:Nat}{ars:List ArcV}{L:Nat→Bool}{V:Nat→Value}(h:NwI w0 B n A c ars L V w)(o:Obj):NwI w0 B n A c ars L V (w.alloc o):=
 h.below ((zm _ _).alloc lR_ o)
def adrOf:Value→Option Addr
 | .slice A _ _=>A
 |_=>none
def zgA:Value→Nat
 | .slice _ _ c=>c
 |_=>0
theorem zn8{w0 w:World}{B g gk gf n c':Nat}{gt:Bool→Nat}{A':Option Addr}{ars:List ArcV}{T:Bool→Nat→Value}{T0 F0:Nat→Int}(hW:Wv w0 w B gt n (.slice A' ars.length c') ars [] T T (rowsF ars ars.length))
  (hk:Blk w g 107 #[.slice A' ars.length c', .slice (some ⟨gt false,0,none⟩) n n, .slice (some ⟨gt true,0,none⟩) n n, .slice (some ⟨gk,0,none⟩) ars.length ars.length, .slice (some ⟨gf,0,none⟩) n n])
  (ht:w.ownsRow B 3 1 (.slice (some ⟨gk,0,none⟩) ars.length ars.length) ars.length (cellsI (rowF T0 ars.length))) (hf:w.ownsRow B 3 1 (.slice (some ⟨gf,0,none⟩) n n) n (cellsI (rowF F0 n)))
  (d1:∀s j,j<n→(T s j).ownBlock≠some gk) (d2:∀s j,j<n→(T s j).ownBlock≠some gf) (d3:gk≠gf):
  StT w B ⟨g,gt false,gt true,gk,gf,A',c',fun j=>adrOf (T false j),fun j=>zgA (T false j),fun j=>adrOf (T true j),fun j=>zgA (T true j)⟩ n ars T0 F0:=by
 obtain⟨ck,kk⟩:=own_block ht rfl;obtain⟨cf,kf⟩:=own_block hf rfl;have tb:∀s,∃cs,Blk w (gt s) 36 cs:=fun s=>own_block (hW.tab s) rfl
 have ne:∀{a b:Nat} {e t:TypeId} {cs cs':Array Value},Blk w a e cs→Blk w b t cs'→e≠t→a≠b:=by
  intro a b e t cs cs' h1 h2 h3 h4;subst h4;exact h3 (zaP h1 h2)
 have row:∀s j,j<n→∃A c,T s j= .slice A (rowsF ars ars.length s j).length c∧Rd w w.heap.size A (cellsI (ints (rowsF ars ars.length s j))):=by
  intro s j hj;have h:=hW.row s j hj;obtain⟨A,c,e,_⟩:=zH h;rw[e]at h;exact⟨A,c,e,rd_of_own h⟩
 have cel:∀s j,j<n→w.cell? ⟨gt s,j,none⟩=some (.slice (adrOf (T s j)) (rowsF ars ars.length s j).length (zgA (T s j))):=by
  intro s j hj;rw[(hW.tab s).cellAt j (by omega)]
  obtain⟨A,c,e,_⟩:=row s j hj;simp[hj,e,adrOf,zgA]
 have red:∀s j,j<n→Rd w w.heap.size (adrOf (T s j)) (cellsI (ints (rowsF ars ars.length s j))):=by
  intro s j hj;obtain⟨A,c,e,r⟩:=row s j hj;rw[e];exact r
 have adr:∀s j,j<n→∀b,(T s j).ownBlock≠some b→blkOf (adrOf (T s j))≠some b:=by
  intro s j hj b h;obtain⟨A,c,e,r⟩:=row s j hj;rw[e]at h⊢;rw[ownBlock_slice]at h;exact h
 have arc:∀{b:Nat} {cs:Array Value},Blk w b 3 cs→blkOf A'≠some b:=by
  intro b cs hb he;obtain⟨c1,k1⟩:=own_block hW.arcs (b:=b) (by rw[ownBlock_slice];exact he)
  exact absurd (zaP k1 hb) (by decide)
 obtain⟨c0,t0⟩:=tb false;obtain⟨c1,t1⟩:=tb true;exact⟨hk,rd_of_own hW.arcs,cel false,cel true,red false,red true,ht,hf,t0.lt,t1.lt,d3,ne hk kk (by decide),ne hk kf (by decide),ne t0 kk (by decide),ne t0 kf (by decide),ne t1 kk (by decide),ne t1 kf (by decide),
  arc kk,arc kf,fun j hj=>adr false j hj _ (d1 false j hj),fun j hj=>adr false j hj _ (d2 false j hj),fun j hj=>adr true j hj _ (d1 true j hj),fun j hj=>adr true j hj _ (d2 true j hj)⟩
theorem zhp(n:Nat)(A:Option Addr)(c:Nat)(ars:List ArcV)(w:World)(hC:checkF n ars=0)(hN:zbX n ars)(hr:Rd w w.heap.size A (cellsA ars)):
  Calls Tryz.prog 9 #[.agg #[.int .i64 n, .slice A ars.length c]] w fun e w'=>∃s:SM,e= .returned (.tuple #[.pointer (some ⟨s.gs,0,none⟩), .int .i64 0])∧St w' w.heap.size s n ars (fun _=>0)∧Below w.heap.size w w'∧w.heap.size≤s.gs:=by
 have n32:=hN.n32;have l96:=hN.l96;have hmk:=run_make_row' (P:= Tryz.prog) 36 3 (.int .i64 0) 8 Tryz.underlying36 zas rfl .i64 .i64 n (by omega) (by omega)
 have hml:=run_make_row' (P:= Tryz.prog) 36 3 (.int .i64 0) 8 Tryz.underlying36 zas rfl .i64 .i64 ars.length (by omega) (by omega)
 rw[zez]at hmk hml;obtain⟨B,hB⟩:∃B,w.heap.size=B:=⟨_,rfl⟩;rw[hB]
 go_enter Tryz.func9, Tryz.ntmps9
 go_wp2_with fail;have b0:=(zm B w).alloc (by omega) (.cells #[.int .i64 n, .slice A ars.length c] 30)
 have k0:=Blk.new w B hB.symm 30 #[.int .i64 n, .slice A ars.length c];have hs0:(w.alloc (.cells #[.int .i64 n, .slice A ars.length c] 30)).heap.size=B+1:=by simp;omega
 have r0:=(hB▸hr).below b0 lR_;refine(zeu n ars A ars.length c _ rfl hN.fit (r0.more (by omega)) (by unfold maxLen;omega)).mono ?_;rintro e w1 ⟨rfl,b1⟩
 rw[hC];rw[hs0]at b1;have hz1:=b1.size;rw[hs0]at hz1;have k1:=k0.below b1 (by omega)
 have r1:=r0.below b1 (by omega)
 have b2:=b0.trans ⟨b1.os,b1.tape,b1.output,b1.size,fun k hk=>b1.block k (by omega)⟩
 clear b0 k0 r0 b1 hs0 hC hr
 go_wp2_with fail;have hI0:∀V,NwI w B n A c ars (fun _=>false) V w1.drew:=fun V=>
  ⟨Below.drewN b2 1,hz1,k1,r1.below (Drawn.below _ ((Drawn.refl w1).drewN 1)) lR_,(by intros; contradiction),(by intros; contradiction),(by intros; contradiction),(by intros; contradiction),(by intros; contradiction),(by intros; contradiction),(by intros; contradiction),(by intros; contradiction),(by intros; contradiction),(by intros; contradiction),(by intros; contradiction),(by intros; contradiction),(by intros; contradiction)⟩
 clear b2 hz1 k1 r1;have HN:=Lh hN;clear hN;refine zeF [13,14,15,16,17,18,19,20,21,22,23,5] (NwI w B n A c ars) (by kernel_rfl) (by kernel_rfl) ?_ ?_ ?_
 ·exact hI0 _
 ·clear hI0;intro i o ho L V w2 hi hL h K hK;have d0:=h.net.cellL 0 rfl;have d1:=h.net.cellL 1 rfl;have hsz:=h.siz;simp only[putAll,zi,zj,zc,ze,zd];rcases i with _|_|_|_|_|_|_|_|_|_|_|_|i
  ·cases ho
   clear hL
   go_simp;refine hK (zg V 13 (.agg #[.int .i64 n, .slice A ars.length c])) _ _ (by simp[putAll,zg]) ?_
   exact{h with f0:=fun _=>rfl}
  ·cases ho
   have e0:V 13=_:=h.f0 (hL ⟨0, .data⟩ (by simp) rfl)
   clear hL
   go_simp;refine(zmN n A c ars w2 n32 l96 HN.out (h.rd.more (by omega))).mono ?_
   rintro e w3 ⟨gt,A',c',T,rfl,hW⟩;refine hK (zg V 14 (.agg #[.slice A' ars.length c', .slice (some ⟨gt false,0,none⟩) n n, .slice (some ⟨gt true,0,none⟩) n n])) _ _ (by simp[putAll,zg,e0]) ?_
   have h3:=h.below hW.bel;exact{h3 with
    f1:=fun _=>⟨gt,A',c',T,rfl,hW.rebase h.bel (by omega),fun h5 s j hj b hb hc=>by
     obtain⟨g,e,o⟩:=h.f5 h5;have h6:=o.lt b hb;have h7:=(hW.row s j hj).lt b hc;omega,fun h8 s j hj b hb hc=>by
     obtain⟨g,e,o⟩:=h.f8 h8;have h6:=o.lt b hb;have h7:=(hW.row s j hj).lt b hc;omega⟩
    f9:=fun h9=>(by cases ((h.f9 h9).1.symm.trans hi))
    f10:=fun h9=>(by cases ((h.f9 (h.f10 h9).1).1.symm.trans hi))}
  ·cases ho
   clear hL
   go_simp;refine hK (zg V 15 (.pointer (some ⟨B,1,none⟩))) _ _ (by simp[putAll,zg]) ?_
   exact{h with f2:=fun _=>rfl}
  ·cases ho
   have e2:V 15=_:=h.f2 (hL ⟨2, .data⟩ (by simp) rfl)
   clear hL
   go_simp;refine hK (zg V 16 (.slice A ars.length c)) _ _ (by simp[putAll,zg,e2]) ?_
   exact{h with f3:=fun _=>rfl}
  ·cases ho
   have e3:V 16=_:=h.f3 (hL ⟨3, .data⟩ (by simp) rfl)
   clear hL
   go_simp;refine hK (zg V 17 (.int .i64 ars.length)) _ _ (by simp[putAll,zg,e3]) ?_
   exact{h with f4:=fun _=>rfl}
  ·cases ho
   have e4:V 17=_:=h.f4 (hL ⟨4, .data⟩ (by simp) rfl)
   clear hL
   go_simp;refine hK (zg V 18 (.slice (some ⟨w2.heap.size,0,none⟩) ars.length ars.length)) _ _ (by simp[putAll,zg,e4]) ?_
   have h':=h.alloc (.cells (cellsI (rowF (fun _=>0) ars.length)).toArray 3)
   have o2:=(zbL w2 _ rfl 3 (cellsI (rowF (fun _=>0) ars.length)) ars.length (by rw[cellsI_length,zaS]) (by unfold maxLen;omega)).mono hsz
   exact{h' with
    f5:=fun _=>⟨_,rfl,o2⟩
    f1:=fun h1=>by
     obtain⟨gt,A',c',T,e,o,o3,o4⟩:=h.f1 h1;refine⟨gt,A',c',T,e,o.below ((zm _ _).alloc lR_ _),fun _ s j hj b hb hc=>?_,o4⟩
     have h7:=(o.row s j hj).lt b hc;simp only[zd0,Value.ownBlock]at hb;injection hb with hb;omega
    f9:=fun h9=>(by cases ((h.f9 h9).2.1.symm.trans hi))
    f10:=fun h9=>(by cases ((h.f9 (h.f10 h9).1).2.1.symm.trans hi))
    fd:=fun _ h8 b hb hc=>by
     obtain⟨g,e,o⟩:=h.f8 h8
     have:=o.lt b hc
     simp only[zd0,Value.ownBlock]at hb;injection hb with hb;omega}
  ·cases ho
   clear hL
   go_simp;refine hK (zg V 19 (.pointer (some ⟨B,0,none⟩))) _ _ (by simp[putAll,zg]) ?_
   exact{h with f6:=fun _=>rfl}
  ·cases ho
   have e6:V 19=_:=h.f6 (hL ⟨6, .data⟩ (by simp) rfl)
   clear hL
   go_simp;refine hK (zg V 20 (.int .i64 n)) _ _ (by simp[putAll,zg,e6]) ?_
   exact{h with f7:=fun _=>rfl}
  ·cases ho
   have e7:V 20=_:=h.f7 (hL ⟨7, .data⟩ (by simp) rfl)
   clear hL
   go_simp;refine hK (zg V 21 (.slice (some ⟨w2.heap.size,0,none⟩) n n)) _ _ (by simp[putAll,zg,e7]) ?_
   have h':=h.alloc (.cells (cellsI (rowF (fun _=>0) n)).toArray 3)
   have o2:=(zbL w2 _ rfl 3 (cellsI (rowF (fun _=>0) n)) n (by rw[cellsI_length,zaS]) (by unfold maxLen;omega)).mono hsz
   exact{h' with
    f8:=fun _=>⟨_,rfl,o2⟩
    f1:=fun h1=>by
     obtain⟨gt,A',c',T,e,o,o3,o4⟩:=h.f1 h1;refine⟨gt,A',c',T,e,o.below ((zm _ _).alloc lR_ _),o3,fun _ s j hj b hb hc=>?_⟩
     have h7:=(o.row s j hj).lt b hc;simp only[zd0,Value.ownBlock]at hb;injection hb with hb;omega
    f9:=fun h9=>(by cases ((h.f9 h9).2.2.1.symm.trans hi))
    f10:=fun h9=>(by cases ((h.f9 (h.f10 h9).1).2.2.1.symm.trans hi))
    fd:=fun h5 _ b hb hc=>by
     obtain⟨g,e,o⟩:=h.f5 h5
     have:=o.lt b hb
     simp only[zd0,Value.ownBlock]at hc;injection hc with hc;omega}
  ·cases ho
   have l1:=hL ⟨1, .data⟩ (by simp) rfl
   have l5:=hL ⟨5, .data⟩ (by simp) rfl
   have l8:=hL ⟨8, .data⟩ (by simp) rfl
   clear hL;obtain⟨gt,A',c',T,e1,o,o3,o4⟩:=h.f1 l1;obtain⟨g5,e5,o5⟩:=h.f5 l5;obtain⟨g8,e8,o8⟩:=h.f8 l8
   go_simp;refine hK (zg V 22 (.agg #[.slice A' ars.length c', .slice (some ⟨gt false,0,none⟩) n n, .slice (some ⟨gt true,0,none⟩) n n,V 18,V 21])) _ _ (by simp[putAll,zg,e1,e5,e8]) ?_
   exact{h with
    f9:=fun _=>⟨l1,l5,l8,_,_,_,e1,rfl⟩
    f10:=fun h10=>(by cases ((h.f10 h10).1.symm.trans hi))}
  ·cases ho
   have l9:=hL ⟨9, .data⟩ (by simp) rfl
   clear hL;obtain⟨l1,l5,l8,x,y,z,e14,e22⟩:=h.f9 l9
   go_simp;refine hK (zg V 23 (.pointer (some ⟨w2.heap.size,0,none⟩))) _ _ (by simp[putAll,zg,e22,e14]) ?_
   have h':=h.alloc (.cells #[x,y,z,V 18,V 21] 107);exact{h' with
    f10:=fun _=>⟨l9,_,x,y,z,e14,rfl,hsz,Blk.new w2 _ rfl _ _⟩
    f11:=fun h11=>(by cases ((h.f11 h11).1.symm.trans hi))}
  ·cases ho
   have l10:=hL ⟨10, .data⟩ (by simp) rfl
   clear hL;obtain⟨l9,g,x,y,z,e14,e23,hg,k⟩:=h.f10 l10
   go_simp;refine hK (zg V 5 (V 23)) _ _ (by simp[putAll,zg,e23,e14]) ?_
   exact{h with f11:=fun _=>⟨l10,rfl⟩}
  ·simp at ho
 ·clear hI0;intro L V w2 hL h;obtain⟨gt,A',c',T,e14,hW,d1,d2⟩:=h.f1 (hL 1 (by simp))
  obtain⟨gk,e18,o18⟩:=h.f5 (hL 5 (by simp))
  obtain⟨gf,e21,o21⟩:=h.f8 (hL 8 (by simp))
  have d3:=h.fd (hL 5 (by simp)) (hL 8 (by simp)) gk (by rw[e18];rfl)
  replace d1:=fun s j hj=>d1 (hL 5 (by simp)) s j hj gk (by rw[e18];rfl)
  replace d2:=fun s j hj=>d2 (hL 8 (by simp)) s j hj gf (by rw[e21];rfl)
  obtain⟨-,gs,x,y,z,e14',e23,hgs,hks⟩:=h.f10 (hL 10 (by simp))
  have e5:=(h.f11 (hL 11 (by simp))).2
  rw[e23]at e5;rw[e14]at e14';injection e14' with e14';obtain⟨rfl,rfl,rfl⟩:Value.slice A' ars.length c'=x∧Value.slice (some ⟨gt false,0,none⟩) n n=y∧Value.slice (some ⟨gt true,0,none⟩) n n=z:=by simpa using e14'
  rw[e21]at o21 hks d3;rw[e18]at o18 hks;have hst:=zn8 hW hks (o18.mono (by omega)) (o21.mono (by omega)) d1 d2 (fun hc=>d3 (by rw[hc];rfl))
  generalize hs:(⟨gs,gt false,gt true,gk,gf,A',c',fun j=>adrOf (T false j),fun j=>zgA (T false j),fun j=>adrOf (T true j),fun j=>zgA (T true j)⟩:SM)=s at hst
  have hgs':s.gs=gs:=by rw[←hs]
  have hbel:=h.bel;have hnet:=h.net;have hrd:=h.rd;simp only[putAll,zi,zj,zc,ze,zd,e5];have HS:=Lh hst;rw[←hgs']at hgs⊢;clear h hL hW d1 d2 d3 e14' e23 o18 o21 hks hst hs hgs' e14 e18 e21 e5;have c0:=hnet.cellL 1 rfl;have Hbel:=Lh hbel;have Hnet:=Lh hnet;have Hrd:=Lh hrd;clear hbel hnet hrd
  go_wp2_with fail
  go_loopw [27] (fun i wr=>∃k:Nat,k≤ars.length∧i= .int .i64 k∧Below B w wr∧Rd wr B A (cellsA ars)∧StT wr B s n ars (fun i=>if i<k then(arcAt ars i).s else 0) (fun _=>0)) (fun i _=>ars.length-(intOf i).toNat)
  case atStart=>exact⟨0,zJ _,rfl,Hbel.out,Hrd.out,HS.out.congr (fun i hi=>by simp) (fun _ _=>rfl)⟩
  case round=>
   clear HS Hbel Hrd Hnet c0;obtain⟨k,hk,rfl,hb,hr,hS⟩:=hrel;by_cases hlt:k<ars.length
   ·obtain⟨b,off,a,rfl,hbl,hf,c00,c01,c02,c03,c04,hd,hat⟩:=hr.arc HN.out.fit hlt;have haa:=zdt hat.out;have ba:=bA_ wr (.cells #[.int .i64 a.f, .int .i64 a.t, .int .i64 a.g, .int .i64 a.k, .int .i64 a.s] 76);have ka:=bN_ ba;have hz:=hb.size;have hb2:=hb.alloc (by omega) (.cells #[.int .i64 a.f, .int .i64 a.t, .int .i64 a.g, .int .i64 a.k, .int .i64 a.s] 76)
    have hS2:=hS.below ba;have hr2:=hr.below ba (by omega)
    have S3:=hS2.setTok k a.s;have ct:=hS2.tokCell hlt;rw[if_neg (zc1 k)]at ct;have fro:=hS2.tok.frozenAt k;have hgk:=(hS2.tok.lt s.gt rfl).1;have d3:=hS2.blk.cellL 3 rfl;have d4:=ka.cellL 4 rfl;have hb3:=hb2.setCell (p:=⟨s.gt,k,none⟩) hgk (.int .i64 a.s);have hr3:Rd ((wr.alloc (.cells #[.int .i64 a.f, .int .i64 a.t, .int .i64 a.g, .int .i64 a.k, .int .i64 a.s] 76)).setCell ⟨s.gt,k,none⟩ (.int .i64 a.s)) B (some ⟨b,off,none⟩) (cellsA ars):=
     hr2.below ((zm B _).setCell (p:=⟨s.gt,k,none⟩) hgk (.int .i64 a.s)) lR_
    have S4:StT ((wr.alloc (.cells #[.int .i64 a.f, .int .i64 a.t, .int .i64 a.g, .int .i64 a.k, .int .i64 a.s] 76)).setCell ⟨s.gt,k,none⟩ (.int .i64 a.s)) B s n ars (fun i=>if i<k+1 then(arcAt ars i).s else 0) (fun _=>0):=S3.congr (fun i hi=>by
     unfold upd;by_cases h1:i=k
     ·subst h1;rw[if_pos rfl,if_pos (by omega),haa]
     ·rw[if_neg h1];show(if i<k then(arcAt ars i).s else 0)=_
      by_cases h2:i<k
      ·rw[if_pos h2,if_pos (by omega)]
      ·rw[if_neg h2,if_neg (by omega)]) (fun _ _=>rfl)
    clear hb hb2 hS hS2 hr2 S3 hz ba ka haa hd hf
    go_wp2_with fail;clear c00 c01 c02 c03 c04
    have h1:(0:Int)≤(k:Int):=by omega
    have h2:(k:Int)<(ars.length:Int):=by omega
    go_region
    go_wp2
    go_roundw
    case rel=>exact⟨k+1,by omega,by go_num,Below.drewN hb3 1,hr3.below (Drawn.below _ ((Drawn.refl _).drewN 1)) lR_,S4.drawn ⟨1,rfl⟩⟩
    case measure=>simp[intOf];omega
   ·obtain rfl:k=ars.length:=by omega
    go_wp2_with fail
    go_ret2;exact⟨s,rfl,hS.congr (fun i hi=>by show(if i<ars.length then(arcAt ars i).s else 0)=_;rw[if_pos hi];simp[tokI,zc6]) (fun _ _=>rfl),hb,by omega⟩
theorem zdv{P:Program}{f:FuncId}{args:Array Value}{w:World}{n:Nat}{v:Value}
  (h:Calls P f args (w.drewN n) fun e w'=>e= .returned v∧Drawn (w.drewN n) w'):Calls P f args (w.drewN n) fun e w''=>e= .returned v∧∃m,w''=w.drewN m:=
 h.mono fun _ _ ⟨he,hd⟩=>⟨he,Drawn.trans ⟨n,rfl⟩ hd⟩
structure RM where
 gr:Nat
 gl:Nat
 cl:Nat
 gk:Nat
structure zhK(w:World)(B:Nat)(r:RM)(s:SM)(n:Nat)(ars:List ArcV)(F Lf K:Nat→Int)(v:Value):Prop where
 blk:Blk w r.gr 99 #[.pointer (some ⟨s.gs,0,none⟩), .slice (some ⟨r.gl,0,none⟩) n r.cl, .slice (some ⟨r.gk,0,none⟩) n n,v]
 st:St w B s n ars F
 lef:w.ownsRow B 3 1 (.slice (some ⟨r.gl,0,none⟩) n r.cl) n (cellsI (rowF Lf n))
 rnk:w.ownsRow B 3 1 (.slice (some ⟨r.gk,0,none⟩) n n) n (cellsI (rowF K n))
def zej(ars:List ArcV)(n:Nat)(F Lf K:Nat→Int)(v:Int)(x:Nat):Int:=if 0<Lf x∧mayB ars n F x=true∧(v<0∨K x<K v.toNat)then x else v
def bestF(ars:List ArcV)(n:Nat)(F Lf K:Nat→Int)(k:Nat):Int:=(List.range k).foldl (zej ars n F Lf K) (-1)
theorem zeR(ars:List ArcV)(n:Nat)(F Lf K:Nat→Int)(k:Nat):bestF ars n F Lf K (k+1)=zej ars n F Lf K (bestF ars n F Lf K k) k:=by
 unfold bestF;rw[zaO,zbQ];rfl
theorem zn9(ars:List ArcV)(n:Nat)(F Lf K:Nat→Int)(k:Nat): -1≤bestF ars n F Lf K k∧bestF ars n F Lf K k<k:=by
 induction k with
 |zero=>simp[bestF]
 |succ k ih=>
  rw[zeR];unfold zej;split
  ·omega
  ·omega
theorem zjq(n:Nat)(ars:List ArcV)(F Lf K:Nat→Int)(B:Nat)(r:RM)(s:SM)(v:Value)(w:World)(hN:zbX n ars)(hF:zeQ n F)(hR:zhK w B r s n ars F Lf K v):
  Calls Tryz.prog 32 #[.pointer (some ⟨r.gr,0,none⟩)] w fun e w'=>e= .returned (.int .i64 (bestF ars n F Lf K n))∧Drawn w w':=by
 have n32:=hN.n32;have c0:=hR.blk.cellL 0 rfl;have c1:=hR.blk.cellL 1 rfl;have c2:=hR.blk.cellL 2 rfl;obtain⟨res,hres⟩:∃r,bestF ars n F Lf K n=r:=⟨_,rfl⟩;rw[hres];have HN:=Lh hN;have HF:=Lh hF;have HR:=Lh hR;have Hres:=Lh hres;clear hN hF hR hres
 go_enter Tryz.func32, Tryz.ntmps32
 go_wp2_with fail
 go_loopw [3,10] (fun b i wr=>∃k:Nat,k≤n∧i= .int .i64 k∧b= .int .i64 (bestF ars n F Lf K k)∧Drawn w wr) (fun _ i _=>n-(intOf i).toNat)
 case atStart=>exact⟨0,by omega,rfl,rfl,Drawn.refl w⟩
 case round=>
  obtain⟨k,hk,rfl,rfl,hd⟩:=hrel;by_cases hlt:k<n
  ·obtain⟨b,hb⟩:∃b,bestF ars n F Lf K k=b:=⟨_,rfl⟩;have hlim:=zn9 ars n F Lf K k;have hstep:=zeR ars n F Lf K k;rw[hb]at hlim hstep⊢;have cl:=(hd.cell _).trans (zbK HR.out.lef hlt);have ck:=(hd.cell _).trans (zbK HR.out.rnk hlt);have d0:=(hd.cell _).trans c0;have d1:=(hd.cell _).trans c1;have d2:=(hd.cell _).trans c2;obtain⟨lk,hlk⟩:∃lk,Lf k=lk:=⟨_,rfl⟩;obtain⟨kk,hkk⟩:∃kk,K k=kk:=⟨_,rfl⟩;unfold zej at hstep;rw[hlk]at cl hstep;rw[hkk]at ck hstep;have Hb:=Lh hb;clear hb hlk hkk;have h1:(0:Int)≤(k:Int):=by omega
   have h2:(k:Int)<(n:Int):=by omega
   have hS:∀m,St (wr.drewN m) B s n ars F:=fun m=>HR.out.st.drawn (hd.drewN m)
   by_cases hl:0<lk
   ·have hm:=fun m=>zkt k n ars F B s (wr.drewN m) HN.out HF.out (hS m)
    clear hS;by_cases hmay:mayB ars n F k=true
    ·rw[hmay]at hm;by_cases hbn:b<0
     ·have hs:bestF ars n F Lf K (k+1)=k:=by rw[hstep,if_pos ⟨hl,hmay, .inl hbn⟩]
      clear hstep
      go_wp2_with fail
      go_quiet ((go_at_call 36;exact zdv (hm _)))
      go_wp2
      go_roundw
      case rel=>exact⟨k+1,by omega,by go_num,by rw[hs],hd.drewN _⟩
      case measure=>simp[intOf];omega
     ·obtain⟨j,rfl⟩:∃j:Nat,b=j:=⟨b.toNat,by omega⟩
      have hj:j<n:=by omega
      have cj:=(hd.cell _).trans (zbK HR.out.rnk hj);obtain⟨kj,hkj⟩:∃kj,K j=kj:=⟨_,rfl⟩;rw[zE,hkj]at hstep;rw[hkj]at cj;have hdb:decide ((j:Int)<0)=false:=decide_eq_false hbn;have h3:(0:Int)≤(j:Int):=by omega
      have h4:(j:Int)<(n:Int):=by omega
      clear hkj hbn;by_cases hkk:kk<kj
      ·have hs:bestF ars n F Lf K (k+1)=k:=by rw[hstep,if_pos ⟨hl,hmay, .inr hkk⟩]
       clear hstep
       go_wp2_with fail
       go_quiet ((go_at_call 36;exact zdv (hm _)))
       go_wp2
       go_roundw
       case rel=>exact⟨k+1,by omega,by go_num,by rw[hs],hd.drewN _⟩
       case measure=>simp[intOf];omega
      ·have hs:bestF ars n F Lf K (k+1)=j:=by rw[hstep,if_neg (by intro h;rcases h.2.2 with h|h<;>omega)]
       have hkk2:kj≤kk:=by omega
       clear hstep
       go_wp2_with fail
       go_quiet ((go_at_call 36;exact zdv (hm _)))
       go_wp2
       go_roundw
       case rel=>exact⟨k+1,by omega,by go_num,by rw[hs],hd.drewN _⟩
       case measure=>simp[intOf];omega
    ·have hmf:mayB ars n F k=false:=by simpa using hmay
     rw[hmf]at hm;have hs:bestF ars n F Lf K (k+1)=b:=by rw[hstep,if_neg (fun h=>hmay h.2.1)]
     clear hstep
     go_wp2_with fail
     go_quiet ((go_at_call 36;exact zdv (hm _)))
     go_wp2
     go_roundw
     case rel=>exact⟨k+1,by omega,by go_num,by rw[hs],hd.drewN _⟩
     case measure=>simp[intOf];omega
   ·have hs:bestF ars n F Lf K (k+1)=b:=by rw[hstep,if_neg (fun h=>hl h.1)]
    have hl0:decide (0<lk)=false:=decide_eq_false hl
    have hl2:lk≤0:=by omega
    clear hstep hS
    go_wp2_with fail
    go_quiet (fail)
    go_wp2
    go_roundw
    case rel=>exact⟨k+1,by omega,by go_num,by rw[hs],hd.drewN _⟩
    case measure=>simp[intOf];omega
  ·obtain rfl:k=n:=by omega
   have hres:=Hres.out;rw[hres]
   go_wp2
   go_ret;exact⟨rfl,hd⟩
structure BlkV where
 v:Int
 f:Int
 a:Int
def BlkV.cells(b:BlkV):List Value:=[.int .i64 b.v, .int .i64 b.f, .int .i64 b.a]
def zba(bs:List BlkV):List Value:=bs.flatMap BlkV.cells
def blocksF(ars:List ArcV)(_n:Nat)(F Lf:Nat→Int)(k:Nat):List BlkV:=((List.range k).filter fun v:Nat=>decide (0<Lf v)).map fun v:Nat=>⟨v,F v,optI (shortO ars F v)⟩
theorem zjr(ars:List ArcV)(n:Nat)(F Lf:Nat→Int)(k:Nat):blocksF ars n F Lf (k+1)=blocksF ars n F Lf k++if 0<Lf k then [⟨k,F k,optI (shortO ars F k)⟩]else []:=by
 unfold blocksF;rw[zaO,zcu,zad]
 congr 1
 by_cases h:0<Lf k<;>simp[h]
theorem zhL(ars:List ArcV)(n:Nat)(F Lf:Nat→Int)(k:Nat):(blocksF ars n F Lf k).length≤k:=by
 unfold blocksF
 have:=zaX (fun v:Nat=>decide (0<Lf v)) (List.range k)
 simpa using this
theorem zis(bs:List BlkV):(zba bs).length=bs.length*3:=by
 induction bs with
 |nil=>rfl
 |cons b bs ih=>simp only[zba,zdz,zx,zaG]at*;rw[ih];simp[BlkV.cells];omega
theorem zoa:(Tryz.prog.info? 136).map (fun i=>(i.zero.map (·.cells.size),i.size,i.bytes))=some (some 3,3,24):=by kernel_rfl
theorem zmR:∃i, Tryz.prog.info? 136 =some i∧∃z,i.zero=some z∧i.size=3∧i.bytes=24∧z.cells.size=3:=by
 obtain⟨i,hi,h⟩:=zcD.1 zoa;simp only[zaj]at h;obtain⟨h1,h2,h3⟩:=h;obtain⟨z,hz,h4⟩:=zcD.1 h1;exact⟨i,hi,z,hz,h2,h3,h4⟩
theorem zhK.below{w w':World}{B:Nat}{r:RM}{s:SM}{n:Nat}{ars:List ArcV}{F Lf K:Nat→Int}{v:Value}(h:zhK w B r s n ars F Lf K v)(hb:Below w.heap.size w w'):zhK w' B r s n ars F Lf K v:=
 ⟨h.blk.below hb h.blk.lt,h.st.below hb,own_below h.lef hb,own_below h.rnk hb⟩
structure BkP(w0:World)(n:Nat)(F:Nat→Int)(gf cf:Nat)(bs:List BlkV)(out:Value)(w:World):Prop where
 fir:w.ownsRow w0.heap.size 3 1 (.slice (some ⟨gf,0,none⟩) n cf) n (cellsI (rowF F n))
 out:w.ownsRow w0.heap.size 136 3 out bs.length (zba bs)
 bel:Below w0.heap.size w0 w
theorem BkP.below{w0 w w':World}{n:Nat}{F:Nat→Int}{gf cf:Nat}{bs:List BlkV}{out:Value}(h:BkP w0 n F gf cf bs out w)(hb:Below w.heap.size w w'):BkP w0 n F gf cf bs out w':=
 ⟨own_below h.fir hb,own_below h.out hb,h.bel.trans ⟨hb.os,hb.tape,hb.output,hb.size,fun k hk=>hb.block k (by have:=h.bel.size;omega)⟩⟩
theorem BkP.append{w0 w w':World}{n:Nat}{F:Nat→Int}{gf cf:Nat}{bs:List BlkV}{out v':Value}(h:BkP w0 n F gf cf bs out w)(b:BlkV)(hg:w.grownBy w' out.ownBlock)(ho:w'.ownsRow w0.heap.size 136 3 v' (bs.length+1) (zba bs++b.cells)):BkP w0 n F gf cf (bs++[b]) v' w':=by
 refine⟨h.fir.kept hg (.inr fun hc=>?_),?_,h.bel.grown hg h.bel.size fun k hk=>own_ge h.out hk⟩
 ·obtain⟨c1,k1⟩:=own_block h.fir rfl;obtain⟨c2,k2⟩:=own_block h.out (b:=gf) hc.symm;exact absurd (zaP k1 k2) (by decide)
 ·have e:zba (bs++[b])=zba bs++b.cells:=by simp[zba]
  rw[e,zx];exact ho
structure BkI(w0:World)(n:Nat)(ars:List ArcV)(F:Nat→Int)(gr gs k gf cf:Nat)(bs:List BlkV)(out:Value)(L:Nat→Bool)(V:Nat→Value)(w:World):Prop where
 p0:L 14=false→BkP w0 n F gf cf bs out w
 p1:L 14=true→BkP w0 n F gf cf (bs++[⟨k,F k,optI (shortO ars F k)⟩]) (V 38) w
 a15:L 15=true→V 3=V 38
 f3:L 15=false→V 3=out
 e11:L 11=true→V 35= .int .i64 (optI (shortO ars F k))
 b:L 13=true→L 14=false→∃gb,V 37= .slice (some ⟨gb,0,none⟩) 1 1∧gb<w.heap.size∧w.cell? ⟨gb,0,none⟩=some (.int .i64 k)∧w.cell? ⟨gb,1,none⟩=some (.int .i64 (F k))∧w.cell? ⟨gb,2,none⟩=some (.int .i64 (optI (shortO ars F k)))
 e0:L 0=true→V 24=out
 e1:L 1=true→V 25= .int .i64 k
 e2:L 2=true→V 26= .slice (some ⟨gf,0,none⟩) n cf
 e3:L 3=true→V 27= .int .i64 k
 e4:L 4=true→V 28= .pointer (some ⟨gf,k,none⟩)
 e5:L 5=true→V 29= .int .i64 (F k)
 e6:L 6=true→V 30= .pointer (some ⟨gr,0,none⟩)
 e7:L 7=true→V 31= .pointer (some ⟨gr,0,none⟩)
 e8:L 8=true→V 32= .pointer (some ⟨gr,0,none⟩)
 e9:L 9=true→V 33= .pointer (some ⟨gs,0,none⟩)
 e10:L 10=true→V 34= .int .i64 k
 e12:L 12=true→V 36= .agg #[.int .i64 k, .int .i64 (F k), .int .i64 (optI (shortO ars F k))]
theorem zlq(n:Nat)(ars:List ArcV)(F Lf K:Nat→Int)(B:Nat)(r:RM)(s:SM)(v:Value)(w:World)(hN:zbX n ars)(hF:zeQ n F)(hR:zhK w B r s n ars F Lf K v):
  Calls Tryz.prog 33 #[.pointer (some ⟨r.gr,0,none⟩)] w fun e w'=>∃out,e= .returned out∧w'.ownsRow w.heap.size 136 3 out (blocksF ars n F Lf n).length (zba (blocksF ars n F Lf n))∧Below w.heap.size w w':=by
 obtain⟨ib,hib,zb,hzb,hb1,hb2,hb3⟩:=zmR;have n32:=hN.n32;have c0:=hR.blk.cellL 0 rfl;have c1:=hR.blk.cellL 1 rfl;have HN:=Lh hN;have HF:=Lh hF;have HR:=Lh hR;clear hF hR
 go_enter Tryz.func33, Tryz.ntmps33
 go_wp2_with fail;refine(zmM n ars F B s w hN HR.out.st).mono ?_
 rintro e w1 ⟨Af,cf,rfl,of,bf⟩;clear hN;obtain⟨gf,rfl⟩:∃g,Af=some ⟨g,0,none⟩:=zbi of (by have:=HN.out.pos;omega)
 have hR1:=HR.out.below bf;have d0:=hR1.blk.cellL 0 rfl;have d1:=hR1.blk.cellL 1 rfl;have P0:BkP w n F gf cf (blocksF ars n F Lf 0) (.slice none 0 0) w1:=⟨of,zr _ _ _ _,bf⟩;clear of bf hR1
 go_wp2_with fail;clear c0 c1 d0 d1
 go_loopw [3,17] (fun o i wr=>∃k:Nat,k≤n∧i= .int .i64 k∧BkP w n F gf cf (blocksF ars n F Lf k) o wr) (fun _ i _=>n-(intOf i).toNat)
 case atStart=>exact⟨0,zJ _,rfl,P0⟩
 case round=>
  clear P0;obtain⟨k,hk',rfl,P⟩:=hrel;by_cases hk:k<n
  ·have hR2:=HR.out.below P.bel;have hc:=zbK hR2.lef hk;obtain⟨lk,hlk⟩:∃lk,Lf k=lk:=⟨_,rfl⟩;have hs:=zjr ars n F Lf k;rw[hlk]at hc hs;have h1:(0:Int)≤(k:Int):=by omega
   have h2:(k:Int)<(n:Int):=by omega
   have HP:=Lh P;clear P hR2 hlk;by_cases hl:0<lk
   ·rw[if_pos hl]at hs;obtain⟨bs,hbs⟩:∃bs,blocksF ars n F Lf k=bs:=⟨_,rfl⟩;have hbl:=zhL ars n F Lf k;rw[hbs]at HP hs hbl;have Hbs:=Lh hbs;clear hbs;obtain⟨Ao,co,rfl,-⟩:=zH HP.out.out
    go_wp2_with fail;have hI0:∀V:Nat→Value,V 3= .slice Ao bs.length co→BkI w n ars F r.gr s.gs k gf cf bs (.slice Ao bs.length co) (fun _=>false) V wr.drew:=fun V hV3=>
     by
     have h0:=HP.out.below (Drawn.below _ ((Drawn.refl wr).drewN 1));constructor
     all_goals first
      |exact fun _=>h0
      |exact fun _=>hV3
      |(intro h;cases h)
    refine zei [24,25,26,27,28,29,30,31,32,33,34,35,36,37,38,3] (BkI w n ars F r.gr s.gs k gf cf bs (.slice Ao bs.length co)) (by kernel_rfl) (by kernel_rfl) ?_ ?_ ?_
    ·exact hI0 _ rfl
    ·intro i o ho L V w1 hi hL hno h K hK;rcases i with _|_|_|_|_|_|_|_|_|_|_|_|_|_|_|_|i
     ·cases ho
      simp only[putAll,zi,zj,zc,ze,zd];have e3:V 3=_:=h.f3 (hno 15 (by kernel_rfl))
      clear hL hno
      go_simp;exact hK (zg V 24 _) _ _ (by simp[putAll,zg,e3]) {h with e0:=fun _=>rfl}
     ·cases ho
      simp only[putAll,zi,zj,zc,ze,zd];clear hL hno
      go_simp;exact hK (zg V 25 _) _ _ (by simp[putAll,zg]) {h with e1:=fun _=>rfl}
     ·cases ho
      simp only[putAll,zi,zj,zc,ze,zd];clear hL hno
      go_simp;exact hK (zg V 26 _) _ _ (by simp[putAll,zg]) {h with e2:=fun _=>rfl}
     ·cases ho
      simp only[putAll,zi,zj,zc,ze,zd];clear hL hno
      go_simp;exact hK (zg V 27 _) _ _ (by simp[putAll,zg]) {h with e3:=fun _=>rfl}
     ·cases ho
      simp only[putAll,zi,zj,zc,ze,zd];have e2:=h.e2 (hL ⟨2, .data⟩ (by simp) rfl)
      have e3:=h.e3 (hL ⟨3, .data⟩ (by simp) rfl)
      clear hL hno
      go_simp;exact hK (zg V 28 _) _ _ (by simp[putAll,zg,e2,e3]) {h with e4:=fun _=>rfl}
     ·cases ho
      simp only[putAll,zi,zj,zc,ze,zd];have e4:=h.e4 (hL ⟨4, .data⟩ (by simp) rfl)
      have l14:=hno 14 (by kernel_rfl)
      have ct:=zbK (h.p0 l14).fir hk;clear hL hno
      go_simp;exact hK (zg V 29 _) _ _ (by simp[putAll,zg,e4]) {h with e5:=fun _=>rfl}
     ·cases ho
      simp only[putAll,zi,zj,zc,ze,zd];clear hL hno
      go_simp;exact hK (zg V 30 _) _ _ (by simp[putAll,zg]) {h with e6:=fun _=>rfl}
     ·cases ho
      simp only[putAll,zi,zj,zc,ze,zd];have e6:=h.e6 (hL ⟨6, .data⟩ (by simp) rfl)
      clear hL hno
      go_simp;exact hK (zg V 31 _) _ _ (by simp[putAll,zg,e6]) {h with e7:=fun _=>rfl}
     ·cases ho
      simp only[putAll,zi,zj,zc,ze,zd];have e7:=h.e7 (hL ⟨7, .data⟩ (by simp) rfl)
      clear hL hno
      go_simp;exact hK (zg V 32 _) _ _ (by simp[putAll,zg,e7]) {h with e8:=fun _=>rfl}
     ·cases ho
      simp only[putAll,zi,zj,zc,ze,zd];have e8:=h.e8 (hL ⟨8, .data⟩ (by simp) rfl)
      have l14:=hno 14 (by kernel_rfl)
      have ct:=(HR.out.below (h.p0 l14).bel).blk.cellL 0 rfl;clear hL hno
      go_simp;exact hK (zg V 33 _) _ _ (by simp[putAll,zg,e8]) {h with e9:=fun _=>rfl}
     ·cases ho
      simp only[putAll,zi,zj,zc,ze,zd];clear hL hno
      go_simp;exact hK (zg V 34 _) _ _ (by simp[putAll,zg]) {h with e10:=fun _=>rfl}
     ·cases ho
      have e9:=h.e9 (hL ⟨9, .data⟩ (by simp) rfl)
      have e10:=h.e10 (hL ⟨10, .data⟩ (by simp) rfl)
      have l14:=hno 14 (by kernel_rfl)
      clear hL hno;simp only[putAll,zi,zj,zc,ze,zd]
      go_simp;refine(zid k n ars F B s w1 HN.out HF.out (HR.out.below (h.p0 l14).bel).st hk).mono ?_
      rintro e w3 ⟨rfl,hd⟩;refine hK (zg V 35 (.int .i64 (optI (shortO ars F k)))) _ _ (by simp[putAll,zg,e9,e10]) ?_
      exact{h with
       p0:=fun h14=>BkP.below (h.p0 h14) (hd.below _)
       b:=fun h13 _=>by obtain⟨gb,e,hgb,hc0,hc1,hc2⟩:=h.b h13 l14;exact⟨gb,e,by rw[hd.size];exact hgb,(hd.cell _).trans hc0,(hd.cell _).trans hc1,(hd.cell _).trans hc2⟩
       p1:=fun h14=>(by cases (h14.symm.trans l14))
       e11:=fun _=>rfl}
     ·cases ho
      simp only[putAll,zi,zj,zc,ze,zd];have e1:=h.e1 (hL ⟨1, .data⟩ (by simp) rfl)
      have e5:=h.e5 (hL ⟨5, .data⟩ (by simp) rfl)
      have e11:=h.e11 (hL ⟨11, .data⟩ (by simp) rfl)
      clear hL hno
      go_simp;exact hK (zg V 36 _) _ _ (by simp[putAll,zg,e1,e5,e11]) {h with e12:=fun _=>rfl}
     ·cases ho
      have e12:=h.e12 (hL ⟨12, .data⟩ (by simp) rfl)
      have l14:=hno 14 (by kernel_rfl)
      clear hL hno;simp only[putAll,zi,zj,zc,ze,zd];have hb:=bA_ w1 (.cells #[.int .i64 k, .int .i64 (F k), .int .i64 (optI (shortO ars F k))] 136);have hnew:=bN_ hb
      go_simp;refine hK (zg V 37 (.slice (some ⟨w1.heap.size,0,none⟩) 1 1)) _ _ (by simp[putAll,zg,e12]) ?_
      exact{h with
       p0:=fun h14=>BkP.below (h.p0 h14) hb
       b:=fun _ _=>⟨_,rfl,by simp,hnew.cell 0,hnew.cell 1,hnew.cell 2⟩
       p1:=fun h14=>(by cases (h14.symm.trans l14))}
     ·cases ho
      have e0:=h.e0 (hL ⟨0, .data⟩ (by simp) rfl)
      obtain⟨gb,e13',hgb,hc0,hc1,hc2⟩:=h.b (hL ⟨13, .data⟩ (by simp) rfl) hi
      have e13:V 37=_:=e13'
      have l15:=hno 15 (by kernel_rfl)
      clear hL hno;have hp:=h.p0 hi;have hlen:=hbl;refine zaQ rfl _ _ 42 rfl w.heap.size 136 ib zb 3 24 Tryz.underlying42 hib hzb hb1 hb2 hb3 (by decide) (.slice Ao bs.length co) bs.length _ (by simp[putAll,Act.eval,e0]) hp.out w1.heap.size (some ⟨gb,0,none⟩) 1 1 (BlkV.cells ⟨k,F k,optI (shortO ars F k)⟩) (by simp[putAll,Act.eval,e13]) rfl (.inr ⟨gb,0,rfl,hgb,fun j u hu=>?_⟩) (by simp[BlkV.cells,Value.oneCell']) (by unfold maxLen;omega) (by omega) hp.bel.size ?_
      ·match j,hu with
       |0,hu=>cases hu;exact hc0
       |1,hu=>cases hu;exact hc1
       |2,hu=>cases hu;exact hc2
       |j+3,hu=>simp[BlkV.cells]at hu
      intro v' w2 o2 g2 hv2;have hnext:=BkP.append hp ⟨k,F k,optI (shortO ars F k)⟩ g2 o2;refine hK (zg V 38 v') _ _ (by simp[putAll,Act.put,zg]) ?_
      exact{h with
       p0:=nT_
       b:=fun _ hn=>(by cases hn)
       a15:=fun h15=>(by cases (h15.symm.trans l15))
       p1:=fun _=>hnext}
     ·cases ho
      have l14:=hL ⟨14, .data⟩ (by simp) rfl
      clear hL hno;simp only[putAll,zi,zj,zc,ze,zd];have hp:=h.p1 l14;obtain⟨Ax,cx,e14,_⟩:=zH hp.out
      go_simp;refine hK (zg V 3 (V 38)) _ _ (by simp[putAll,zg,e14]) ?_
      exact{h with a15:=fun _=>rfl,f3:=nT_}
     ·simp at ho
    ·clear hI0;intro L V w2 hL h;have hp:=h.p1 (hL 14 (by simp))
     have e15:=h.a15 (hL 15 (by simp))
     rw[←hs,←e15]at hp;simp only[putAll,zi,zj,zc,ze,zd];clear h hL HP hs
     go_wp2_with fail;refine⟨⟨k+1,by omega,by go_num,hp⟩,by simp[intOf];omega⟩
   ·rw[if_neg hl,zby]at hs;have hl2:lk≤0:=by omega
    rw[←hs]at HP
    go_wp2_with fail;refine⟨⟨k+1,by omega,by go_num,HP.out⟩,by simp[intOf];omega⟩
  ·obtain rfl:k=n:=by omega
   go_wp2
   go_ret;exact⟨_,rfl,P.out,P.bel⟩
end Go.Proofs.YtpmlljbebdidgaaGreatDoor
