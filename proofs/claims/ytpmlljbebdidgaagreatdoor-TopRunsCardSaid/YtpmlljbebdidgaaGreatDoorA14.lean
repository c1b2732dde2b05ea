/- Lemmas and walks for the claim: Gf. -/
import Derived.Test.YtpmlljbebdidgaaGreatDoorA0
import Derived.Test.YtpmlljbebdidgaaGreatDoorA13
set_option linter.unusedSimpArgs false
set_option maxRecDepth 100000
set_option maxHeartbeats 4000000
namespace Go.Proofs.YtpmlljbebdidgaaGreatDoor
open Go.RowKit Go.Maps
def gbOf:Value→Nat
 | .slice (some a) _ _=>a.block
 |_=>0
def sAddr:Value→Option Addr
 | .slice a _ _=>a
 |_=>none
def sCap:Value→Nat
 | .slice _ _ c=>c
 |_=>0
theorem zdg{w:World}{base n size:Nat}{e:TypeId}{v:Value}{xs:List Value}(h:w.ownsRow base e size v n xs):v= .slice (sAddr v) n (sCap v):=by
 obtain⟨A,c,rfl,-⟩:=zH h
 rfl
def actE(ns:List (List UInt8))(x:ActV):Int:=if nameE ns x.nm=0 then(shapeR x.tag x.ps).2.2 else nameE ns x.nm
def actorsE:List ActV→List (List UInt8)→Int
 |[],_=>0
 |x::xs,ns=>if actE ns x=0 then actorsE xs (ns++[x.nm.data.toList])else actE ns x
def zdC(s:Bool)(x:ActV):Nat:=if s then(shapeR x.tag x.ps).2.1.length else(shapeR x.tag x.ps).1.length
def sideM(acts:List ActV)(s:Bool):List (List Bool):=acts.map fun x=>List.replicate (zdC s x) false
def namesA(acts:List ActV):List (List UInt8):=acts.map fun x=>x.nm.data.toList
theorem zep(tag:Int)(ps:List Int):(shapeR tag ps).1.length≤16∧(shapeR tag ps).2.1.length≤16:=by
 have hw:∀{n:Int},withinB n 16=true→n.toNat≤16:=fun h=>by unfold withinB at h;simp at h;omega
 have hp:∀{l:Nat} {n m:Int},pairB l n m=true→n.toNat≤16:=fun h=>by have:=zdB h;omega
 unfold shapeR;split
 ·simp
 ·unfold zZ;split
  ·simp
  split
  ·simp
  split
  ·simp
  split
  ·rename_i h;have:=hp h.2;simp;omega
  split
  ·rename_i h;have:=hp h.2;simp;omega
  split
  ·rename_i h;have:=hw h.2.2;simp;omega
  split
  ·simp
  split
  ·rename_i h;have:=hw h.2.2;simp;omega
  split
  ·simp
  split
  ·simp
  ·simp
theorem zhf:(Tryz.prog.info? 4).map (fun i=>(i.zero,i.size,i.bytes))=some (some (.bool false),1,1):=by kernel_rfl
theorem zkT:(Tryz.prog.info? 143).map (fun i=>(i.zero,i.size,i.bytes))=some (some (.slice none 0 0),1,24):=by kernel_rfl
theorem zkU(n:Nat):madeCells #[Value.bool false] n=(cellsO (List.replicate n false)).toArray:=by
 apply Array.ext'
 apply zbb
 ·simp[madeCells,cellsO]
 ·intro j h1 h2;simp[madeCells,cellsO,zc4]
theorem zh1{w0 w:World}{B gc m nn:Nat}{hd:zB}{ns:List (List UInt8)}{Vc V:Bool→Value}{R:Bool→Nat→Nat}{M:Bool→List (List Bool)}(h:CkS w0 w B gc m hd ns nn Vc V R M)(n:Nat)(hn:n≤1000):NewR (w.alloc (.cells (madeCells #[.bool false] n) 4)) B n w.heap.size R M:=by
 rw[zkU];refine⟨World.ownsRow.mono (zbL w _ rfl 4 (cellsO (List.replicate n false)) n (by rw[zir,zK]) (by unfold maxLen;omega)) (by have:=h.blk.lt;have:=h.gcB;omega),fun s j hj=>?_⟩
 have:=((h.row s j hj).lt (R s j) rfl).2
 omega
theorem zkV{acts:List ActV}{k:Nat}{x:ActV}(hx:acts[k]?=some x){li lo:Nat}(h1:zdC false x=li)(h2:zdC true x=lo):
  updB (updB (sideM (acts.take k)) false (sideM (acts.take k) false++[List.replicate li false])) true (updB (sideM (acts.take k)) false (sideM (acts.take k) false++[List.replicate li false]) true++[List.replicate lo false])=sideM (acts.take (k+1)):=by
 funext s
 have e:∀s,sideM (acts.take (k+1)) s=sideM (acts.take k) s++[List.replicate (zdC s x) false]:=fun s=>by
  unfold sideM;rw[zan,hx,zad]
  rfl
 cases s with
 |false=>rw[zaz (by decide),zaw,e,h1]
 |true=>rw[zaw,zaz (by decide),e,h2]
theorem zgH{acts:List ActV}{k:Nat}{x:ActV}(hx:acts[k]?=some x):namesA (acts.take (k+1))=namesA (acts.take k)++[x.nm.data.toList]:=by
 unfold namesA;rw[zan,hx,zad]
 rfl
theorem za9(w:World)(g:Nat)(a b c:Value):Only (fun k=>k=g) w (((w.setCell ⟨g,0,none⟩ a).setCell ⟨g,1,none⟩ b).setCell ⟨g,2,none⟩ c):=
 ((zbl w ⟨g,0,none⟩ a).trans (zbl _ ⟨g,1,none⟩ b)).trans (zbl _ ⟨g,2,none⟩ c)
theorem Blk.setOther{w:World}{g g':Nat}{t t':TypeId}{cs cs':Array Value}(h:Blk w g t cs)(h':Blk w g' t' cs')(ht:t≠t')(i:Nat)(v:Value):Blk (w.setCell ⟨g',i,none⟩ v) g t cs:=
 ((zbl w ⟨g',i,none⟩ v).block g h.lt (fun hc=>by
   have hc:g=g':=hc
   subst hc;exact ht (zaP h h'))).trans h
structure PuI6(w0:World)(B gc m:Nat)(hd:zB)(ns:List (List UInt8))(nn:Nat)(V0:Bool→Value)(R:Bool→Nat→Nat)(M:Bool→List (List Bool))(gs:Nat)(spc:Array Value)(n:Nat)(src:Value)(L:Nat→Bool)(V:Nat→Value)(w:World):Prop where
 p0:L 9=false→CkS w0 w B gc m hd ns nn V0 V0 R M
 sp:Blk w gs 128 spc
 r:L 7=true→V 42= .slice (some ⟨gbOf (V 42),0,none⟩) n n
 rn:L 7=true→L 9=false→NewR w B n (gbOf (V 42)) R M
 o8:L 8=true→L 7=true
 o:L 8=true→L 9=false→V 43= .slice (some ⟨gbOf (V 43),0,none⟩) 1 1∧Rd w w.heap.size (some ⟨gbOf (V 43),0,none⟩) [V 42]
 l9:L 12=true→L 9=true
 a9:L 9=true→V 44= .slice (sAddr (V 44)) ((M false).length+1) (sCap (V 44))
 p1:L 9=true→L 12=false→CkS w0 w B gc m hd ns nn V0 (updB V0 false (V 44)) (updB R false (upd2 (R false) (M false).length (gbOf (V 42)))) (updB M false (M false++[List.replicate n false]))
 p2:L 12=true→CkS w0 w B gc m hd ns nn (updB V0 false (V 44)) (updB V0 false (V 44)) (updB R false (upd2 (R false) (M false).length (gbOf (V 42)))) (updB M false (M false++[List.replicate n false]))
 e0:L 0=true→V 35= .pointer (some ⟨gc,0,none⟩)
 e1:L 1=true→V 36= .pointer (some ⟨gc,0,none⟩)
 e2:L 2=true→V 37= .pointer (some ⟨gc,0,none⟩)
 e3:L 3=true→V 38= .pointer (some ⟨gc,6,none⟩)
 e4:L 4=true→V 39=V0 false
 e5:L 5=true→V 40=src
 e6:L 6=true→V 41= .int .i64 n
 e10:L 10=true→V 45= .pointer (some ⟨gc,0,none⟩)
 e11:L 11=true→V 46= .pointer (some ⟨gc,6,none⟩)
structure PuI7(w0:World)(B gc m:Nat)(hd:zB)(ns:List (List UInt8))(nn:Nat)(V0:Bool→Value)(R:Bool→Nat→Nat)(M:Bool→List (List Bool))(gs:Nat)(spc:Array Value)(n:Nat)(src:Value)(L:Nat→Bool)(V:Nat→Value)(w:World):Prop where
 p0:L 9=false→CkS w0 w B gc m hd ns nn V0 V0 R M
 sp:Blk w gs 128 spc
 r:L 7=true→V 54= .slice (some ⟨gbOf (V 54),0,none⟩) n n
 rn:L 7=true→L 9=false→NewR w B n (gbOf (V 54)) R M
 o8:L 8=true→L 7=true
 o:L 8=true→L 9=false→V 55= .slice (some ⟨gbOf (V 55),0,none⟩) 1 1∧Rd w w.heap.size (some ⟨gbOf (V 55),0,none⟩) [V 54]
 l9:L 12=true→L 9=true
 a9:L 9=true→V 56= .slice (sAddr (V 56)) ((M true).length+1) (sCap (V 56))
 p1:L 9=true→L 12=false→CkS w0 w B gc m hd ns nn V0 (updB V0 true (V 56)) (updB R true (upd2 (R true) (M true).length (gbOf (V 54)))) (updB M true (M true++[List.replicate n false]))
 p2:L 12=true→CkS w0 w B gc m hd ns nn (updB V0 true (V 56)) (updB V0 true (V 56)) (updB R true (upd2 (R true) (M true).length (gbOf (V 54)))) (updB M true (M true++[List.replicate n false]))
 e0:L 0=true→V 47= .pointer (some ⟨gc,0,none⟩)
 e1:L 1=true→V 48= .pointer (some ⟨gc,0,none⟩)
 e2:L 2=true→V 49= .pointer (some ⟨gc,0,none⟩)
 e3:L 3=true→V 50= .pointer (some ⟨gc,7,none⟩)
 e4:L 4=true→V 51=V0 true
 e5:L 5=true→V 52=src
 e6:L 6=true→V 53= .int .i64 n
 e10:L 10=true→V 57= .pointer (some ⟨gc,0,none⟩)
 e11:L 11=true→V 58= .pointer (some ⟨gc,7,none⟩)
theorem zkW(w0:World)(B gc m nn:Nat)(hd:zB)(ns:List (List UInt8))(V:Bool→Value)(R:Bool→Nat→Nat)(w:World)(hg:hd.good w0 B)(hl:hd.acts.length≤32)(hnn:nn≤100)(h:CkS w0 w B gc m hd ns nn V V R (sideM [])):
  Calls Tryz.prog 68 #[.pointer (some ⟨gc,0,none⟩)] w fun e w'=>∃a b c:Int,e= .returned (.tuple #[.int .i64 (actorsE hd.acts ns), .agg #[.int .u8 a, .int .i64 b, .int .i64 c]])∧Below B w0 w'∧
   (actorsE hd.acts ns=0→∃V' R',CkS w0 w' B gc m hd (ns++namesA hd.acts) (nn+hd.acts.length) V' V' R' (sideM hd.acts)):=by
 obtain⟨i1,hi1,hx0,hx1,hx2⟩:=info_parts zkT;obtain⟨gs,hgs⟩:∃b,w.heap.size=b:=⟨_,rfl⟩;have hlt:=h.blk.lt;have hgc:=h.gcB;have hgsB:B≤gs:=by omega
 obtain⟨E,hE⟩:∃E,actorsE hd.acts ns=E:=⟨_,rfl⟩;rw[hE];obtain⟨nA,hnA⟩:∃n,hd.acts.length=n:=⟨_,rfl⟩;obtain⟨aA,haA⟩:∃a,hd.aA=a:=⟨_,rfl⟩;rw[hnA]at hl⊢;have b1:=bA_ w (.cells #[.int .u8 0, .int .i64 0, .int .i64 0] 128);have h1:=h.below b1;have s1:=Blk.new w gs hgs.symm 128 #[.int .u8 0, .int .i64 0, .int .i64 0];obtain⟨W1,hW1⟩:=wN_ b1;rw[hW1]at h1 s1;have c1:=h1.blk.cellL 1 rfl;rw[hnA,haA]at c1;have HE:=Lh hE;have HnA:=Lh hnA;have HaA:=Lh haA;have H1:=Lh h1;have HG:=Lh hg;have hS0:=Lh s1;clear hE hnA haA h b1 h1 hg s1
 go_enter Tryz.func68, Tryz.ntmps68
 go_wp2_with fail
 try rw[hgs]
 clear c1 hW1
 go_loopw [15] (fun i wr=>∃(k:Nat) (V:Bool→Value) (R:Bool→Nat→Nat),k≤nA∧i= .int .i64 k∧Blk wr gs 128 #[.int .u8 0, .int .i64 0, .int .i64 0]∧CkS w0 wr B gc m hd (ns++namesA (hd.acts.take k)) (nn+k) V V R (sideM (hd.acts.take k))∧Hid (E=actorsE (hd.acts.drop k) (ns++namesA (hd.acts.take k)))) (fun i _=>nA-(intOf i).toNat)
 case atStart=>exact⟨0,V,R,by omega,rfl,hS0.out,by simpa [namesA]using H1.out,by unfold Hid;rw[←HE.out];simp[namesA]⟩
 case round=>
  clear H1 hS0;obtain⟨k,V,R,hk,rfl,sp,hC,He⟩:=hrel;have hltc:=hC.blk.lt;have hmB:=hC.mB;by_cases hkA:k<nA
  ·have G:=HG.out.below hC.bel lR_;obtain⟨ab,ao,x,hA,hab,hxk,hxc⟩:=G.rA.flat (f:=ActV.cells) (n:=3) (by omega) (fun _=>rfl) (k:=k) (by rw[HnA.out];exact hkA)
   rw[HaA.out]at hA;subst hA;have c0:=hxc 0 _ rfl;have c1:=hxc 1 _ rfl;have c2:=hxc 2 _ rfl;rw[zab]at c0;have gx:=HG.out.gA x (zv hxk);have ba:=bA_ wr (.cells #[.string x.nm, .int .u8 x.tag, .slice x.P x.ps.length x.c] 72);have kx:=bN_ ba;have C2:=hC.below ba;have sp2:=sp.below ba sp.lt;obtain⟨ga,hga⟩:∃g,wr.heap.size=g:=⟨_,rfl⟩;obtain⟨W2,hW2⟩:=wN_ ba;rw[hW2]at kx C2 sp2;rw[hga]at kx;have x0:=kx.cellL 0 rfl;have cm:=C2.blk.cellL 5 rfl;have h3:(0:Int)≤(k:Int):=by omega
   have h4:(k:Int)<(nA:Int):=by omega
   have hdr:hd.acts.drop k=x::hd.acts.drop (k+1):=by
    rw[zah (by rw[HnA.out];exact hkA)]
    congr 1
    have:=zk (l:=hd.acts) (i:=k) (by rw[HnA.out];exact hkA)
    rw[hxk]at this;exact(zq this).symm
   have He1:=He.out;rw[hdr,actorsE]at He1;have HX:=Lh hxk;have HE1:=Lh He1;have HC2:=Lh C2;have HS2:=Lh sp2;have HK2:=Lh kx;clear hC sp ba G hdr He He1 hxc C2 sp2 kx hxk
   go_wp2_with fail
   try rw[hW2]
   try rw[hga]
   refine(zh0 gc m (nn+k) (ns++namesA (hd.acts.take k)) x.nm W2 gx.nm (by omega) HC2.out.blk.lt cm HC2.out.map).mono ?_
   rintro e w3 ⟨rfl,hm3,ho3⟩;have C3:=HC2.out.named ho3 hm3;have sp3:Blk w3 gs 128 #[.int .u8 0, .int .i64 0, .int .i64 0]:=(ho3.block gs HS2.out.lt (zdf HC2.out.map HS2.out)).trans HS2.out;have kx3:Blk w3 ga 72 #[.string x.nm, .int .u8 x.tag, .slice x.P x.ps.length x.c]:=(ho3.block ga HK2.out.lt (zdf HC2.out.map HK2.out)).trans HK2.out;obtain⟨E1,hE1⟩:∃e,nameE (ns++namesA (hd.acts.take k)) x.nm=e:=⟨_,rfl⟩;rw[hE1];have HN1:=Lh hE1;clear hE1 hm3 ho3 HC2 HS2 HK2 x0 cm;by_cases hE0:E1=0
   ·have hnsN:ze4 (ns++namesA (hd.acts.take k)) x.nm=ns++namesA (hd.acts.take (k+1)):=by
     unfold ze4;rw[HN1.out,if_pos hE0,zgH HX.out,zbR]
    rw[hnsN]at C3;have hact:actE (ns++namesA (hd.acts.take k)) x=(shapeR x.tag x.ps).2.2:=by unfold actE;rw[HN1.out,if_pos hE0]
    have He2:=HE1.out;rw[hact,zbR,←zgH HX.out]at He2;subst hE0;obtain⟨nsN,hns2⟩:∃n,ns++namesA (hd.acts.take (k+1))=n:=⟨_,rfl⟩;rw[hns2]at C3 He2;obtain⟨hli,hlo⟩:=zep x.tag x.ps;have gx3:=(gx.below C3.bel lR_).rd;have hz3:B≤w3.heap.size:=by have:=C3.blk.lt;omega
    have x1:=kx3.cellL 1 rfl;have x2:=kx3.cellL 2 rfl;obtain⟨E2,hE2⟩:∃e,(shapeR x.tag x.ps).2.2=e:=⟨_,rfl⟩;rw[hE2]at He2;have hpN1:zdC false x=(shapeR x.tag x.ps).1.length:=rfl;have hpN2:zdC true x=(shapeR x.tag x.ps).2.1.length:=rfl;have HEq2:=Lh hE2;have HP1:=Lh hpN1;have HP2:=Lh hpN2;have HE2:=Lh He2;have Hns2:=Lh hns2;have HC3:=Lh C3;have HS3:=Lh sp3;clear hE2 hnsN hact hns2 hpN1 hpN2 He2 C3 sp3 kx3 HE1 HN1
    go_wp2_with fail;refine(shape_any x.tag x.ps x.P x.ps.length x.c w3 rfl gx.fit (gx3.more hz3) gx.len).mono ?_
    rintro e w4 ⟨Ai,ci,Ao,co,rfl,-,-,hb4⟩;have C4:=HC3.out.below hb4;have sp4:=HS3.out.below hb4 HS3.out.lt;obtain⟨li,hli2⟩:∃n,(shapeR x.tag x.ps).1.length=n:=⟨_,rfl⟩;obtain⟨lo,hlo2⟩:∃n,(shapeR x.tag x.ps).2.1.length=n:=⟨_,rfl⟩;rw[hli2]at hli;rw[hlo2]at hlo;rw[HEq2.out,hli2,hlo2];have hP1:zdC false x=li:=HP1.out.trans hli2;have hP2:zdC true x=lo:=HP2.out.trans hlo2;have hstep:=zkV HX.out hP1 hP2;have hM0:∀s,(sideM (hd.acts.take k) s).length≤32:=fun s=>by unfold sideM;rw[zA,zaH];have:=HnA.out;omega
    obtain⟨M0,hM0e⟩:∃M,sideM (hd.acts.take k)=M:=⟨_,rfl⟩;rw[hM0e]at C4 hstep hM0;obtain⟨V0,hV0⟩:∃v,V=v:=⟨_,rfl⟩;obtain⟨R0,hR0⟩:∃v,R=v:=⟨_,rfl⟩;obtain⟨nnN,hnnN⟩:∃v,nn+k+1=v:=⟨_,rfl⟩;rw[hV0,hR0,hnnN]at C4;have HnnN:=Lh hnnN;have Hst:=Lh hstep;have HLn:=Lh (hM0 false);have HLt:=Lh (hM0 true);have HC4:=Lh C4;have HS4:=Lh sp4;clear hP1 hP2 hstep hM0 hM0e hV0 hR0 hnnN hli2 hlo2 C4 sp4 hb4 HC3 HS3 gx3 x1 x2 c0 c1 c2 HP1 HP2;have HLn:Hid ((M0 false).length≤32):=HLn
    go_wp2_with fail;have hI0:∀V,PuI6 w0 B gc m hd nsN nnN V0 R0 M0 gs #[.int .u8 0, .int .i64 0, .int .i64 0] li (.slice Ai li ci) (fun _=>false) V w4.drew:=fun V=>by
     have h0:=HC4.out.below (Drawn.below _ ((Drawn.refl w4).drewN 1));have h5:=HS4.out.below (Drawn.below _ ((Drawn.refl w4).drewN 1)) HS4.out.lt;constructor
     all_goals first
      |exact h5
      |exact fun _=>h0
      |(intro h;cases h)
    obtain⟨spc,hspc⟩:∃s,(#[.int .u8 0, .int .i64 0, .int .i64 0]:Array Value)=s:=⟨_,rfl⟩;rw[hspc]at hI0;have Hspc:=Lh hspc;clear hspc;refine zN [35,36,37,38,39,40,41,42,43,44,45,46] (PuI6 w0 B gc m hd nsN nnN (V0) (R0) (M0) gs spc li (.slice Ai li ci)) (by kernel_rfl) (by kernel_rfl) ?_ ?_ ?_
    ·exact hI0 _
    ·intro i o ho L V w1 hi hL hno h K hK;rcases i with _|_|_|_|_|_|_|_|_|_|_|_|_|i
     ·obtain rfl:=sJ ho;simp only[putAll,zi,zj,zc,ze,zd];clear hL hno
      go_simp;exact hK (zg V 35 _) _ _ (by simp[putAll,zg]) {h with e0:=fun _=>rfl}
     ·obtain rfl:=sJ ho;simp only[putAll,zi,zj,zc,ze,zd];clear hL hno
      go_simp;exact hK (zg V 36 _) _ _ (by simp[putAll,zg]) {h with e1:=fun _=>rfl}
     ·obtain rfl:=sJ ho;simp only[putAll,zi,zj,zc,ze,zd];have e1:=h.e1 (hL ⟨1, .data⟩ (by simp) rfl)
      clear hL hno
      go_simp;exact hK (zg V 37 _) _ _ (by simp[putAll,zg,e1]) {h with e2:=fun _=>rfl}
     ·obtain rfl:=sJ ho;simp only[putAll,zi,zj,zc,ze,zd];have e2:=h.e2 (hL ⟨2, .data⟩ (by simp) rfl)
      clear hL hno
      go_simp;exact hK (zg V 38 _) _ _ (by simp[putAll,zg,e2]) {h with e3:=fun _=>rfl}
     ·obtain rfl:=sJ ho;simp only[putAll,zi,zj,zc,ze,zd];have e3:=h.e3 (hL ⟨3, .data⟩ (by simp) rfl)
      have l9:=hno 9 (by kernel_rfl)
      have ct:=(h.p0 l9).blk.cellL 6 rfl;clear hL hno
      go_simp;exact hK (zg V 39 _) _ _ (by simp[putAll,zg,e3]) {h with e4:=fun _=>rfl}
     ·obtain rfl:=sJ ho;simp only[putAll,zi,zj,zc,ze,zd];clear hL hno
      go_simp;exact hK (zg V 40 _) _ _ (by simp[putAll,zg]) {h with e5:=fun _=>rfl}
     ·obtain rfl:=sJ ho;simp only[putAll,zi,zj,zc,ze,zd];have e5:=h.e5 (hL ⟨5, .data⟩ (by simp) rfl)
      clear hL hno
      go_simp;exact hK (zg V 41 _) _ _ (by simp[putAll,zg,e5]) {h with e6:=fun _=>rfl}
     ·obtain rfl:=sJ ho;have e6:=h.e6 (hL ⟨6, .data⟩ (by simp) rfl)
      have l9:=hno 9 (by kernel_rfl)
      have l8:=hno 8 (by kernel_rfl)
      have l12:=hno 12 (by kernel_rfl)
      clear hL hno;simp only[putAll,zi,zj,zc,ze,zd];have hmk:=run_make_row' (P:= Tryz.prog) 143 4 (.bool false) 1 Tryz.underlying143 zhf rfl .i64 .i64 li (by omega) (by omega)
      have P:=h.p0 l9;have hb:=bA_ w1 (.cells (madeCells #[.bool false] li) 4);have hnew:=zh1 P li (by omega)
      go_simp;refine hK (zg V 42 (.slice (some ⟨w1.heap.size,0,none⟩) li li)) _ _ (by simp[putAll,zg,e6]) ?_
      exact{h with
       p0:=fun _=>P.below hb
       sp:=h.sp.below hb h.sp.lt
       r:=fun _=>rfl
       rn:=fun _ _=>hnew
       o8:=nX_ l8
       o:=nX_ l8
       p1:=nX_ l9
       p2:=nX_ l12}
     ·obtain rfl:=sJ ho;have e7:=h.r (hL ⟨7, .data⟩ (by simp) rfl)
      have l7:L 7=true:=hL ⟨7, .data⟩ (by simp) rfl
      have hrn:=h.rn l7 (hno 9 (by kernel_rfl))
      have l9:=hno 9 (by kernel_rfl)
      have l12:=hno 12 (by kernel_rfl)
      clear hL hno;simp only[putAll,zi,zj,zc,ze,zd];generalize gbOf (V 42)=rb at e7;have hb:=bA_ w1 (.cells #[.slice (some ⟨rb,0,none⟩) li li] 143);have hnew:=zal w1 _ rfl 143 [Value.slice (some ⟨rb,0,none⟩) li li];have P:=h.p0 l9
      go_simp;refine hK (zg V 43 (.slice (some ⟨w1.heap.size,0,none⟩) 1 1)) _ _ (by simp[putAll,zg,e7]) ?_
      exact{h with
       p0:=fun _=>P.below hb
       sp:=h.sp.below hb h.sp.lt
       rn:=fun _ _=>hrn.below hb
       o8:=fun _=>l7
       o:=fun _ _=>⟨rfl,by show Rd _ _ _ [V 42];rw[e7];exact hnew.more (by simp)⟩
       p1:=nX_ l9
       p2:=nX_ l12}
     ·obtain rfl:=sJ ho;have e4:=h.e4 (hL ⟨4, .data⟩ (by simp) rfl)
      have ho:=h.o (hL ⟨8, .data⟩ (by simp) rfl) hi
      have hr:=h.r (h.o8 (hL ⟨8, .data⟩ (by simp) rfl))
      have hrn:=h.rn (h.o8 (hL ⟨8, .data⟩ (by simp) rfl)) hi
      have e8:V 43=_:=ho.1
      have l12:=hno 12 (by kernel_rfl)
      clear hL hno;have P:=h.p0 hi;have hlen:((M0) false).length≤1000:=by have:=HLn.out;omega
      refine zaQ rfl (.tmp 39) (.tmp 43) 166 rfl B 143 i1 (.slice none 0 0) 1 24 Tryz.underlying166 hi1 hx0 hx1 hx2 rfl (by decide) ((V0) false) ((M0) false).length _ (by simp[putAll,Act.eval,e4]) (P.hdr false) w1.heap.size (some ⟨gbOf (V 43),0,none⟩) 1 1 [V 42] (by simp[putAll,Act.eval];exact e8) rfl ho.2 (by intro u hu;rw[zW]at hu;rw[hu,hr];rfl) (by unfold maxLen;omega) (by omega) (by have:=P.blk.lt;have:=P.gcB;omega) ?_
      intro v' w2 o2 g2 hv2;rw[hr]at o2;have ha9:=zdg o2;have P2:=P.push hrn false g2 o2 hv2;refine hK (zg V 44 v') _ _ (by simp[putAll,Act.put,zg]) ?_
      exact{h with
       p0:=nT_
       sp:=h.sp.grown g2 (fun hc=>by obtain⟨cs,k⟩:=own_block (P.hdr false) hc.symm;exact absurd (zaP h.sp k) (by decide))
       rn:=fun _ hn=>(by cases hn)
       o:=fun _ hn=>(by cases hn)
       l9:=fun _=>rfl
       a9:=fun _=>ha9
       p1:=fun _ _=>P2
       p2:=nX_ l12}
     ·obtain rfl:=sJ ho;simp only[putAll,zi,zj,zc,ze,zd];have e0:=h.e0 (hL ⟨0, .data⟩ (by simp) rfl)
      clear hL hno
      go_simp;exact hK (zg V 45 _) _ _ (by simp[putAll,zg,e0]) {h with e10:=fun _=>rfl}
     ·obtain rfl:=sJ ho;simp only[putAll,zi,zj,zc,ze,zd];have e10:=h.e10 (hL ⟨10, .data⟩ (by simp) rfl)
      clear hL hno
      go_simp;exact hK (zg V 46 _) _ _ (by simp[putAll,zg,e10]) {h with e11:=fun _=>rfl}
     ·obtain rfl:=sJ ho;have e11:=h.e11 (hL ⟨11, .data⟩ (by simp) rfl)
      have l9:L 9=true:=hL ⟨9, .data⟩ (by simp) rfl
      have P:=h.p1 l9 hi;clear hL hno;simp only[putAll,zi,zj,zc,ze,zd];have ct:=P.blk.cellL 6 rfl;have fr:=P.blk.frozen 6;have P2:=P.stored false;have hsp:=(h.sp.setOther P.blk (by decide) 6 (V 44))
      rw[zaw]at P2;have e9:=h.a9 l9;generalize sAddr (V 44)=A9 at e9;generalize sCap (V 44)=c9 at e9;have hv:w1.setCell ⟨gc,6,none⟩ (V 44)=w1.setCell ⟨gc,6,none⟩ (.slice A9 (((M0) false).length+1) c9):=by rw[e9]
      have P3:CkS w0 (w1.setCell ⟨gc,6,none⟩ (V 44)) B gc m hd nsN nnN (updB (V0) false (V 44)) (updB (V0) false (V 44)) _ _:=P2
      rw[hv]at P3 hsp;clear P2 hv P
      go_simp;refine hK V _ _ (by simp[putAll,e11,e9]) ?_
      exact{h with
       p0:=fun hn=>(by cases (hn.symm.trans l9))
       l9:=fun _=>l9
       rn:=fun _ hn=>(by cases (hn.symm.trans l9))
       o:=fun _ hn=>(by cases (hn.symm.trans l9))
       sp:=hsp
       p1:=fun _ hn=>(by cases hn)
       p2:=fun _=>P3}
     ·simp at ho
    ·clear hI0 HC4 HS4;intro L V w6 hL h;have P6:=h.p2 (hL 12 (by simp))
     have sp6:=h.sp;clear h hL;simp only[putAll,zi,zj,zc,ze,zd];generalize gbOf (V 42)=rb8 at P6;obtain⟨V1,hV1⟩:∃v,updB V0 false (V 44)=v:=⟨_,rfl⟩;obtain⟨R1,hR1⟩:∃v,updB R0 false (upd2 (R0 false) (M0 false).length rb8)=v:=⟨_,rfl⟩;obtain⟨M1,hM1⟩:∃v,updB M0 false (M0 false++[List.replicate li false])=v:=⟨_,rfl⟩;rw[hV1,hR1,hM1]at P6;have hLn1:(M1 true).length≤32:=by rw[←hM1,zaz (by decide)];exact HLt.out
     have HM1:=Lh hM1;have HLn:=Lh hLn1;have HC6:=Lh P6;have HS6:=Lh sp6;clear hV1 hR1 hM1 hLn1 P6 sp6
     go_wp2_with fail;have hI0:∀V,PuI7 w0 B gc m hd nsN nnN V1 R1 M1 gs spc lo (.slice Ao lo co) (fun _=>false) V w6.drew:=fun V=>by
      have h0:=HC6.out.below (Drawn.below _ ((Drawn.refl w6).drewN 1));have h5:=HS6.out.below (Drawn.below _ ((Drawn.refl w6).drewN 1)) HS6.out.lt;constructor
      all_goals first
       |exact h5
       |exact fun _=>h0
       |(intro h;cases h)
     refine zN [47,48,49,50,51,52,53,54,55,56,57,58] (PuI7 w0 B gc m hd nsN nnN (V1) (R1) (M1) gs spc lo (.slice Ao lo co)) (by kernel_rfl) (by kernel_rfl) ?_ ?_ ?_
     ·exact hI0 _
     ·intro i o ho L V w1 hi hL hno h K hK;rcases i with _|_|_|_|_|_|_|_|_|_|_|_|_|i
      ·obtain rfl:=sJ ho;simp only[putAll,zi,zj,zc,ze,zd];clear hL hno
       go_simp;exact hK (zg V 47 _) _ _ (by simp[putAll,zg]) {h with e0:=fun _=>rfl}
      ·obtain rfl:=sJ ho;simp only[putAll,zi,zj,zc,ze,zd];clear hL hno
       go_simp;exact hK (zg V 48 _) _ _ (by simp[putAll,zg]) {h with e1:=fun _=>rfl}
      ·obtain rfl:=sJ ho;simp only[putAll,zi,zj,zc,ze,zd];have e1:=h.e1 (hL ⟨1, .data⟩ (by simp) rfl)
       clear hL hno
       go_simp;exact hK (zg V 49 _) _ _ (by simp[putAll,zg,e1]) {h with e2:=fun _=>rfl}
      ·obtain rfl:=sJ ho;simp only[putAll,zi,zj,zc,ze,zd];have e2:=h.e2 (hL ⟨2, .data⟩ (by simp) rfl)
       clear hL hno
       go_simp;exact hK (zg V 50 _) _ _ (by simp[putAll,zg,e2]) {h with e3:=fun _=>rfl}
      ·obtain rfl:=sJ ho;simp only[putAll,zi,zj,zc,ze,zd];have e3:=h.e3 (hL ⟨3, .data⟩ (by simp) rfl)
       have l9:=hno 9 (by kernel_rfl)
       have ct:=(h.p0 l9).blk.cellL 7 rfl;clear hL hno
       go_simp;exact hK (zg V 51 _) _ _ (by simp[putAll,zg,e3]) {h with e4:=fun _=>rfl}
      ·obtain rfl:=sJ ho;simp only[putAll,zi,zj,zc,ze,zd];clear hL hno
       go_simp;exact hK (zg V 52 _) _ _ (by simp[putAll,zg]) {h with e5:=fun _=>rfl}
      ·obtain rfl:=sJ ho;simp only[putAll,zi,zj,zc,ze,zd];have e5:=h.e5 (hL ⟨5, .data⟩ (by simp) rfl)
       clear hL hno
       go_simp;exact hK (zg V 53 _) _ _ (by simp[putAll,zg,e5]) {h with e6:=fun _=>rfl}
      ·obtain rfl:=sJ ho;have e6:=h.e6 (hL ⟨6, .data⟩ (by simp) rfl)
       have l9:=hno 9 (by kernel_rfl)
       have l8:=hno 8 (by kernel_rfl)
       have l12:=hno 12 (by kernel_rfl)
       clear hL hno;simp only[putAll,zi,zj,zc,ze,zd];have hmk:=run_make_row' (P:= Tryz.prog) 143 4 (.bool false) 1 Tryz.underlying143 zhf rfl .i64 .i64 lo (by omega) (by omega)
       have P:=h.p0 l9;have hb:=bA_ w1 (.cells (madeCells #[.bool false] lo) 4);have hnew:=zh1 P lo (by omega)
       go_simp;refine hK (zg V 54 (.slice (some ⟨w1.heap.size,0,none⟩) lo lo)) _ _ (by simp[putAll,zg,e6]) ?_
       exact{h with
        p0:=fun _=>P.below hb
        sp:=h.sp.below hb h.sp.lt
        r:=fun _=>rfl
        rn:=fun _ _=>hnew
        o8:=nX_ l8
        o:=nX_ l8
        p1:=nX_ l9
        p2:=nX_ l12}
      ·obtain rfl:=sJ ho;have e7:=h.r (hL ⟨7, .data⟩ (by simp) rfl)
       have l7:L 7=true:=hL ⟨7, .data⟩ (by simp) rfl
       have hrn:=h.rn l7 (hno 9 (by kernel_rfl))
       have l9:=hno 9 (by kernel_rfl)
       have l12:=hno 12 (by kernel_rfl)
       clear hL hno;simp only[putAll,zi,zj,zc,ze,zd];generalize gbOf (V 54)=rb at e7;have hb:=bA_ w1 (.cells #[.slice (some ⟨rb,0,none⟩) lo lo] 143);have hnew:=zal w1 _ rfl 143 [Value.slice (some ⟨rb,0,none⟩) lo lo];have P:=h.p0 l9
       go_simp;refine hK (zg V 55 (.slice (some ⟨w1.heap.size,0,none⟩) 1 1)) _ _ (by simp[putAll,zg,e7]) ?_
       exact{h with
        p0:=fun _=>P.below hb
        sp:=h.sp.below hb h.sp.lt
        rn:=fun _ _=>hrn.below hb
        o8:=fun _=>l7
        o:=fun _ _=>⟨rfl,by show Rd _ _ _ [V 54];rw[e7];exact hnew.more (by simp)⟩
        p1:=nX_ l9
        p2:=nX_ l12}
      ·obtain rfl:=sJ ho;have e4:=h.e4 (hL ⟨4, .data⟩ (by simp) rfl)
       have ho:=h.o (hL ⟨8, .data⟩ (by simp) rfl) hi
       have hr:=h.r (h.o8 (hL ⟨8, .data⟩ (by simp) rfl))
       have hrn:=h.rn (h.o8 (hL ⟨8, .data⟩ (by simp) rfl)) hi
       have e8:V 55=_:=ho.1
       have l12:=hno 12 (by kernel_rfl)
       clear hL hno;have P:=h.p0 hi;have hlen:((M1) true).length≤1000:=by have:=HLn.out;omega
       refine zaQ rfl (.tmp 51) (.tmp 55) 166 rfl B 143 i1 (.slice none 0 0) 1 24 Tryz.underlying166 hi1 hx0 hx1 hx2 rfl (by decide) ((V1) true) ((M1) true).length _ (by simp[putAll,Act.eval,e4]) (P.hdr true) w1.heap.size (some ⟨gbOf (V 55),0,none⟩) 1 1 [V 54] (by simp[putAll,Act.eval];exact e8) rfl ho.2 (by intro u hu;rw[zW]at hu;rw[hu,hr];rfl) (by unfold maxLen;omega) (by omega) (by have:=P.blk.lt;have:=P.gcB;omega) ?_
       intro v' w2 o2 g2 hv2;rw[hr]at o2;have ha9:=zdg o2;have P2:=P.push hrn true g2 o2 hv2;refine hK (zg V 56 v') _ _ (by simp[putAll,Act.put,zg]) ?_
       exact{h with
        p0:=nT_
        sp:=h.sp.grown g2 (fun hc=>by obtain⟨cs,k⟩:=own_block (P.hdr true) hc.symm;exact absurd (zaP h.sp k) (by decide))
        rn:=fun _ hn=>(by cases hn)
        o:=fun _ hn=>(by cases hn)
        l9:=fun _=>rfl
        a9:=fun _=>ha9
        p1:=fun _ _=>P2
        p2:=nX_ l12}
      ·obtain rfl:=sJ ho;simp only[putAll,zi,zj,zc,ze,zd];have e0:=h.e0 (hL ⟨0, .data⟩ (by simp) rfl)
       clear hL hno
       go_simp;exact hK (zg V 57 _) _ _ (by simp[putAll,zg,e0]) {h with e10:=fun _=>rfl}
      ·obtain rfl:=sJ ho;simp only[putAll,zi,zj,zc,ze,zd];have e10:=h.e10 (hL ⟨10, .data⟩ (by simp) rfl)
       clear hL hno
       go_simp;exact hK (zg V 58 _) _ _ (by simp[putAll,zg,e10]) {h with e11:=fun _=>rfl}
      ·obtain rfl:=sJ ho;have e11:=h.e11 (hL ⟨11, .data⟩ (by simp) rfl)
       have l9:L 9=true:=hL ⟨9, .data⟩ (by simp) rfl
       have P:=h.p1 l9 hi;clear hL hno;simp only[putAll,zi,zj,zc,ze,zd];have ct:=P.blk.cellL 7 rfl;have fr:=P.blk.frozen 7;have P2:=P.stored true;have hsp:=(h.sp.setOther P.blk (by decide) 7 (V 56))
       rw[zaw]at P2;have e9:=h.a9 l9;generalize sAddr (V 56)=A9 at e9;generalize sCap (V 56)=c9 at e9;have hv:w1.setCell ⟨gc,7,none⟩ (V 56)=w1.setCell ⟨gc,7,none⟩ (.slice A9 (((M1) true).length+1) c9):=by rw[e9]
       have P3:CkS w0 (w1.setCell ⟨gc,7,none⟩ (V 56)) B gc m hd nsN nnN (updB (V1) true (V 56)) (updB (V1) true (V 56)) _ _:=P2
       rw[hv]at P3 hsp;clear P2 hv P
       go_simp;refine hK V _ _ (by simp[putAll,e11,e9]) ?_
       exact{h with
        p0:=fun hn=>(by cases (hn.symm.trans l9))
        l9:=fun _=>l9
        rn:=fun _ hn=>(by cases (hn.symm.trans l9))
        o:=fun _ hn=>(by cases (hn.symm.trans l9))
        sp:=hsp
        p1:=fun _ hn=>(by cases hn)
        p2:=fun _=>P3}
      ·simp at ho
     ·clear hI0 HC6 HS6;intro L V' wz hL h;have P9:=h.p2 (hL 12 (by simp))
      have spz:=h.sp;clear h hL;simp only[putAll,zi,zj,zc,ze,zd];rw[←HM1.out,Hst.out]at P9;rw[←Hspc.out]at spz;have HCz:=Lh P9;clear P9;by_cases hE2:E2=0
      ·subst hE2;have HSz:=Lh spz;clear spz
       go_wp2_with fail
       go_roundw
       case rel=>exact⟨k+1,_,_,by omega,by go_num,HSz.out,by rw[Hns2.out,show nn+(k+1)=nnN from HnnN.out];exact HCz.out,by unfold Hid;rw[HE2.out,if_pos rfl,Hns2.out]⟩
       case measure=>simp[intOf];omega
      ·have hne:(E2 !=0)=true:=by simpa using hE2
       obtain rfl:E=E2:=by have:=HE2.out;rw[if_neg hE2]at this;exact this
       have q4:=((spz.set 0 (.int .u8 1)).set 1 (.int .i64 k)).set 2 (.int .i64 0);simp only[zc,ze,zd]at q4;have s0:=q4.cellL 0 rfl;have s1:=q4.cellL 1 rfl;have s2:=q4.cellL 2 rfl;have f0:=spz.frozen 0;have f1:=spz.frozen 1;have f2:=spz.frozen 2;have p0:=spz.cellL 0 rfl;have p1:=spz.cellL 1 rfl;have p2:=spz.cellL 2 rfl;have hO:=za9 wz gs (.int .u8 1) (.int .i64 k) (.int .i64 0);have Cz:=HCz.out.aside spz hgsB (by decide) (by decide) (by decide) hO
       have HCz2:=Lh Cz;clear Cz hO q4 spz HCz
       go_wp2_with fail;refine bodyPost_ret (v:= .tuple #[.int .i64 E, .agg #[.int .u8 1, .int .i64 k, .int .i64 0]]) (by simp[results, Tryz.results68,go_sem,s0,s1,s2]) rfl ?_
       exact⟨_,_,_,rfl,HCz2.out.bel,fun h=>absurd h hE2⟩
   ·have hne:(E1 !=0)=true:=by simpa using hE0
    have heq:(E1==0)=false:=by simpa using hE0
    have hact:actE (ns++namesA (hd.acts.take k)) x=E1:=by unfold actE;rw[HN1.out,if_neg hE0]
    obtain rfl:E=E1:=by have:=HE1.out;rw[hact,if_neg hE0]at this;exact this
    have HCz:=Lh C3;obtain⟨wz,hwz⟩:∃w,w3=w:=⟨_,rfl⟩;subst hwz;have spz:=sp3;clear C3 sp3 kx3 hact HE1 HN1 c0 c1 c2;have q4:=((spz.set 0 (.int .u8 1)).set 1 (.int .i64 k)).set 2 (.int .i64 0);simp only[zc,ze,zd]at q4;have s0:=q4.cellL 0 rfl;have s1:=q4.cellL 1 rfl;have s2:=q4.cellL 2 rfl;have f0:=spz.frozen 0;have f1:=spz.frozen 1;have f2:=spz.frozen 2;have p0:=spz.cellL 0 rfl;have p1:=spz.cellL 1 rfl;have p2:=spz.cellL 2 rfl;have hO:=za9 w3 gs (.int .u8 1) (.int .i64 k) (.int .i64 0);have Cz:=HCz.out.aside spz hgsB (by decide) (by decide) (by decide) hO
    have HCz2:=Lh Cz;clear Cz hO q4 spz HCz
    go_wp2_with fail;refine bodyPost_ret (v:= .tuple #[.int .i64 E, .agg #[.int .u8 1, .int .i64 k, .int .i64 0]]) (by simp[results, Tryz.results68,go_sem,s0,s1,s2]) rfl ?_
    exact⟨_,_,_,rfl,HCz2.out.bel,fun h=>absurd h hE0⟩
  ·obtain rfl:k=nA:=by omega
   have hfull:hd.acts.take k=hd.acts:=zL (by rw[HnA.out];exact zF _)
   have hnil:hd.acts.drop k=[]:=zS (by rw[HnA.out];exact zF _)
   rw[hfull]at hC;obtain rfl:E=0:=by have:=He.out;rw[hnil]at this;exact this
   have HCz:=Lh hC;have spz:=sp;clear hC sp He hfull hnil;have q4:=((spz.set 0 (.int .u8 0)).set 1 (.int .i64 0)).set 2 (.int .i64 0);simp only[zc,ze,zd]at q4;have s0:=q4.cellL 0 rfl;have s1:=q4.cellL 1 rfl;have s2:=q4.cellL 2 rfl;have f0:=spz.frozen 0;have f1:=spz.frozen 1;have f2:=spz.frozen 2;have p0:=spz.cellL 0 rfl;have p1:=spz.cellL 1 rfl;have p2:=spz.cellL 2 rfl;have hO:=za9 wr gs (.int .u8 0) (.int .i64 0) (.int .i64 0);have Cz:=HCz.out.aside spz hgsB (by decide) (by decide) (by decide) hO
   have HCz2:=Lh Cz;clear Cz hO q4 spz HCz
   go_wp2_with fail;refine bodyPost_ret (v:= .tuple #[.int .i64 0, .agg #[.int .u8 0, .int .i64 0, .int .i64 0]]) (by simp[results, Tryz.results68,go_sem,s0,s1,s2]) rfl ?_
   exact⟨⟨_,_,_,rfl⟩,HCz2.out.bel,_,_,HCz2.out⟩
end Go.Proofs.YtpmlljbebdidgaaGreatDoor
