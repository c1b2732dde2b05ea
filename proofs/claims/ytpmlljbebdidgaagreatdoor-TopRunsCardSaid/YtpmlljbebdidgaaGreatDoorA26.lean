/- Lemmas and walks for the claim: Gi, Gj. -/
import Derived.Test.YtpmlljbebdidgaaGreatDoorA0
import Derived.Test.YtpmlljbebdidgaaGreatDoorA25
set_option linter.unusedSimpArgs false
set_option maxRecDepth 100000
set_option maxHeartbeats 4000000
namespace Go.Proofs.YtpmlljbebdidgaaGreatDoor
open Go.RowKit Go.Maps
def rowsOf(M:Bool→List (List Bool))(i j:Nat):List Bool:=if j=0 then(M false).getD i []else(M true).getD i []
def zhg(M:Bool→List (List Bool))(i:Nat):Bool:=(rowsOf M i 0).all id&&(rowsOf M i 1).all id
def openE(n:Nat)(M:Bool→List (List Bool)):Int:=if(List.range n).all (zhg M)=true then 0 else 87
theorem znH{n:Nat}{M:Bool→List (List Bool)}{i j q:Nat}(hi:i<n)(hj:j<2)(hq:(rowsOf M i j)[q]?=some false):openE n M=87:=by
 unfold openE;rw[if_neg];intro h;have h1:=zU.1 h i (zM.2 hi);unfold zhg at h1;rw[zag]at h1;have h2:(rowsOf M i j).all id=true:=by
  rcases(show j=0∨j=1 by omega)with rfl|rfl
  ·exact h1.1
  ·exact h1.2
 have h3:=zU.1 h2 false (zv hq);cases h3
theorem zmk{n:Nat}{M:Bool→List (List Bool)}(h:∀i,i<n→∀j,j<2→(rowsOf M i j).all id=true):openE n M=0:=by
 unfold openE;rw[if_pos];refine zU.2 fun i hi=>?_
 have hi:=zM.1 hi;unfold zhg;rw[h i hi 0 (by omega),h i hi 1 (by omega)]
 rfl
theorem znI{r:List Bool}(h:∀q,q<r.length→r[q]?=some true):r.all id=true:=by
 refine zU.2 fun b hb=>?_
 obtain⟨q,hq⟩:=zbY hb
 have:=h q (zu.1 hq).1
 rw[hq]at this;injection this
theorem znJ(w0:World)(B gc m nn:Nat)(hd:zB)(ns:List (List UInt8))(V:Bool→Value)(R:Bool→Nat→Nat)(M:Bool→List (List Bool))(w:World)(hl:hd.acts.length≤32)(hM:∀s,(M s).length=hd.acts.length)(hp:0<hd.acts.length)(hr:∀s j,((M s).getD j []).length≤100)(h:CkS w0 w B gc m hd ns nn V V R M):
  Calls Tryz.prog 71 #[.pointer (some ⟨gc,0,none⟩)] w fun e w'=>∃a b c:Int,e= .returned (.tuple #[.int .i64 (openE hd.acts.length M), .agg #[.int .u8 a, .int .i64 b, .int .i64 c]])∧Below B w0 w':=by
 obtain⟨gs,hgs⟩:∃b,w.heap.size=b:=⟨_,rfl⟩;have hlt:=h.blk.lt;have hgc:=h.gcB;have hgsB:B≤gs:=by omega
 obtain⟨nA,hnA⟩:∃n,hd.acts.length=n:=⟨_,rfl⟩;rw[hnA]at hl hM hp⊢;obtain⟨E,hE⟩:∃E,openE nA M=E:=⟨_,rfl⟩;rw[hE];have b1:=bA_ w (.cells #[.int .u8 0, .int .i64 0, .int .i64 0] 128);have h1:=h.below b1;have s1:=Blk.new w gs hgs.symm 128 #[.int .u8 0, .int .i64 0, .int .i64 0];obtain⟨W1,hW1⟩:=wN_ b1;rw[hW1]at h1 s1;have c1:=h1.blk.cellL 1 rfl;rw[hnA]at c1;obtain⟨gI,cI,hVI,SI⟩:=h1.side false (by rw[hM];exact hp)
 obtain⟨gO,cO,hVO,SO⟩:=h1.side true (by rw[hM];exact hp)
 have hMf:=hM false;have hMt:=hM true;rw[hMf]at hVI;rw[hMt]at hVO;have HE:=Lh hE;have HC:=Lh h1;have HSI:=Lh SI;have HSO:=Lh SO;have HVI:=Lh hVI;have HVO:=Lh hVO;have HMf:=Lh hMf;have HMt:=Lh hMt;have HR:=Lh hr;have hS0:=Lh s1;have HltI:=(SI.hdr.lt gI rfl).2;have HltO:=(SO.hdr.lt gO rfl).2;have hltg:=h1.blk.lt;clear hE h b1 h1 s1 hM SI SO hVI hVO hMf hMt hr
 go_enter Tryz.func71, Tryz.ntmps71
 go_wp2_with fail
 try rw[hgs]
 clear c1 hW1
 go_loopw [15] (fun i wr=>∃k:Nat,k≤nA∧i= .int .i64 k∧Below W1.heap.size W1 wr∧Hid (∀i,i<k→∀j,j<2→(rowsOf M i j).all id=true)) (fun i _=>nA-(intOf i).toNat)
 case atStart=>exact⟨0,by omega,rfl,zm _ _,fun i hi=>absurd hi (zau _)⟩
 case round=>
  obtain⟨k,hk,rfl,hbw,Hg⟩:=hrel;have hsz:=hbw.size;by_cases hkA:k<nA
  ·have kb:=HC.out.blk.below hbw hltg;have r6:=kb.cellL 6 rfl;have r7:=kb.cellL 7 rfl;rw[HVI.out]at r6;rw[HVO.out]at r7;have hi6:=(hbw.cell (p:=⟨gI,k,none⟩) HltI).trans (HSI.out.cellH (j:=k) (by rw[HMf.out];exact hkA))
   have hi7:=(hbw.cell (p:=⟨gO,k,none⟩) HltO).trans (HSO.out.cellH (j:=k) (by rw[HMt.out];exact hkA))
   have h3:(0:Int)≤(k:Int):=by omega
   have h4:(k:Int)<(nA:Int):=by omega
   obtain⟨rI,hrI⟩:∃r,(M false).getD k []=r:=⟨_,rfl⟩;obtain⟨rO,hrO⟩:∃r,(M true).getD k []=r:=⟨_,rfl⟩;obtain⟨lI,hlI⟩:∃r,rI.length=r:=⟨_,rfl⟩;obtain⟨lO,hlO⟩:∃r,rO.length=r:=⟨_,rfl⟩;obtain⟨bI,hbI⟩:∃r,R false k=r:=⟨_,rfl⟩;obtain⟨bO,hbO⟩:∃r,R true k=r:=⟨_,rfl⟩;have rowI:∀w',Below W1.heap.size W1 w'→∀q,q<lI→w'.cell? ⟨bI,q,none⟩=some (.bool (rI.getD q false)):=fun w' hb q hq=>by
    have h5:=HSI.out.cellR (j:=k) (p:=q) (by rw[HMf.out];exact hkA) (by rw[hrI,hlI];exact hq)
    rw[hrI,hbI]at h5;exact(hb.cell (p:=⟨bI,q,none⟩) (by rw[←hbI];exact((HSI.out.row k (by rw[HMf.out];exact hkA)).lt (R false k) rfl).2)).trans h5
   have rowO:∀w',Below W1.heap.size W1 w'→∀q,q<lO→w'.cell? ⟨bO,q,none⟩=some (.bool (rO.getD q false)):=fun w' hb q hq=>by
    have h5:=HSO.out.cellR (j:=k) (p:=q) (by rw[HMt.out];exact hkA) (by rw[hrO,hlO];exact hq)
    rw[hrO,hbO]at h5;exact(hb.cell (p:=⟨bO,q,none⟩) (by rw[←hbO];exact((HSO.out.row k (by rw[HMt.out];exact hkA)).lt (R true k) rfl).2)).trans h5
   have hlI9:lI≤100:=by rw[←hlI,←hrI];exact HR.out false k
   have hlO9:lO≤100:=by rw[←hlO,←hrO];exact HR.out true k
   rw[hrI,hlI,hbI]at hi6;rw[hrO,hlO,hbO]at hi7;have ba:=bA_ wr (.cells #[.slice (some ⟨bI,0,none⟩) lI lI, .slice (some ⟨bO,0,none⟩) lO lO] 143);have kl:=bN_ ba;have bw2:=hbw.trans (ba.mono hsz);have HRI:=Lh rowI;have HRO:=Lh rowO;have hro1:rowsOf M k 0=rI:=by unfold rowsOf;rw[if_pos rfl];exact hrI
   have hro2:rowsOf M k 1=rO:=by unfold rowsOf;rw[if_neg (by omega)];exact hrO
   have Hr1:=Lh hro1;have Hr2:=Lh hro2;have HlI:=Lh hlI;have HlO:=Lh hlO;clear kb hrI hrO hlI hlO hbI hbO rowI rowO hro1 hro2 ba
   go_wp2_with fail
   go_region
   obtain⟨gl,hgl⟩:∃g,wr.heap.size=g:=⟨_,rfl⟩;obtain⟨W3,hW3⟩:∃W,(wr.alloc (.cells #[.slice (some ⟨bI,0,none⟩) lI lI, .slice (some ⟨bO,0,none⟩) lO lO] 143)).drew=W:=⟨_,rfl⟩;have kl3:Blk W3 gl 143 #[.slice (some ⟨bI,0,none⟩) lI lI, .slice (some ⟨bO,0,none⟩) lO lO]:=by rw[←hW3,←hgl];exact kl
   have b3:Below W1.heap.size W1 W3:=by rw[←hW3];exact Below.drewN bw2 1
   rw[hW3,hgl];have y0:=kl3.cellL 0 rfl;have y1:=kl3.cellL 1 rfl;have HB3:=Lh b3;have Hg0:=Lh Hg;have HSZ:=Lh hsz;clear hi6 hi7 r6 r7 kl bw2 hW3 hgl hbw kl3 b3 Hg hsz
   go_wp2_with fail
   go_loopw [34] (fun i2 wx=>∃j:Nat,j≤2∧i2= .int .i64 j∧wx=W3∧Hid (∀j',j'<j→(rowsOf M k j').all id=true)) (fun i _=>2-(intOf i).toNat)
   case atStart=>exact⟨0,by omega,rfl,rfl,fun j' hj'=>absurd hj' (zau _)⟩
   case round=>
    obtain⟨j,hj,rfl,rfl,HJ⟩:=hrel;by_cases hj2:j<2
    ·obtain⟨rb,r,L,hcell,hL,hrow,hrows,hL9⟩:∃rb r L,wr.cell? ⟨gl,j,none⟩=some (.slice (some ⟨rb,0,none⟩) L L)∧r.length=L∧(∀q,q<L→wr.cell? ⟨rb,q,none⟩=some (.bool (r.getD q false)))∧rowsOf M k j=r∧L≤100:=by
      rcases(show j=0∨j=1 by omega)with rfl|rfl
      ·exact⟨bI,rI,lI,y0,HlI.out,HRI.out _ HB3.out,Hr1.out,hlI9⟩
      ·exact⟨bO,rO,lO,y1,HlO.out,HRO.out _ HB3.out,Hr2.out,hlO9⟩
     have HL:=Lh hL;have Hrow:=Lh hrow;have Hrows:=Lh hrows;have j3:(0:Int)≤(j:Int):=by omega
     have j4:(j:Int)<2:=by omega
     clear hL hrow hrows
     go_wp2_with fail
     go_loopw [40] (fun i3 wy=>∃q:Nat,q≤L∧i3= .int .i64 q∧wy=wr∧Hid (∀q',q'<q→r[q']?=some true)) (fun i _=>L-(intOf i).toNat)
     case atStart=>exact⟨0,by omega,rfl,rfl,fun q' hq'=>absurd hq' (zau _)⟩
     case round=>
      obtain⟨q,hq,rfl,hwy,HQ⟩:=hrel;subst hwy;by_cases hqL:q<L
      ·have hcq:=Hrow.out q hqL;have q3:(0:Int)≤(q:Int):=by omega
       have q4:(q:Int)<(L:Int):=by omega
       have hrq:r[q]?=some (r.getD q false):=by
        rw[zz,zk (by rw[HL.out];exact hqL)];rfl
       obtain⟨b,hb⟩:∃b,r.getD q false=b:=⟨_,rfl⟩;rw[hb]at hcq hrq;have Hrq:=Lh hrq;clear hb hrq;cases b with
       |true=>
        go_wp2_with fail
        go_roundw
        case rel=>
         refine⟨q+1,by omega,by go_num,trivial,fun q' hq'=>?_⟩
         by_cases hqq:q'=q
         ·subst hqq;exact Hrq.out
         ·exact HQ.out q' (by omega)
        case measure=>simp[intOf];omega
       |false=>
        obtain rfl:E=87:=by
         rw[←HE.out];exact znH (i:=k) (j:=j) (q:=q) hkA hj2 (by rw[Hrows.out];exact Hrq.out)
        have HCz:=Lh (HC.out.below HB3.out);have spz:=hS0.out.below HB3.out hS0.out.lt;clear HL Hrow Hrows HRI HRO HSI HSO;have q4:=((spz.set 0 (.int .u8 1)).set 1 (.int .i64 k)).set 2 (.int .i64 0);simp only[zc,ze,zd]at q4;have s0:=q4.cellL 0 rfl;have s1:=q4.cellL 1 rfl;have s2:=q4.cellL 2 rfl;have f0:=spz.frozen 0;have f1:=spz.frozen 1;have f2:=spz.frozen 2;have p0:=spz.cellL 0 rfl;have p1:=spz.cellL 1 rfl;have p2:=spz.cellL 2 rfl;have hO:=za9 wr gs (.int .u8 1) (.int .i64 k) (.int .i64 0);have Cz:=HCz.out.aside spz hgsB (by decide) (by decide) (by decide) hO
        have HCz2:=Lh Cz;clear Cz hO q4 spz HCz
        go_wp2_with fail;refine bodyPost_ret (v:= .tuple #[.int .i64 87, .agg #[.int .u8 1, .int .i64 k, .int .i64 0]]) (by simp[results, Tryz.results71,go_sem,s0,s1,s2]) rfl ?_
        exact⟨_,_,_,rfl,HCz2.out.bel⟩
      ·obtain rfl:q=L:=by omega
       have hall:r.all id=true:=znI fun q' hq'=>HQ.out q' (by rw[←HL.out];exact hq')
       have Hall:=Lh hall;clear hall
       go_wp2_with fail
       go_roundw
       case rel=>
        refine⟨j+1,by omega,by go_num,trivial,fun j' hj'=>?_⟩
        by_cases hjj:j'=j
        ·subst hjj;rw[Hrows.out];exact Hall.out
        ·exact HJ.out j' (by omega)
       case measure=>simp[intOf];omega
    ·obtain rfl:j=2:=by omega
     go_wp2_with fail
     go_roundw
     case rel=>
      refine⟨k+1,by omega,by go_num,HB3.out,fun i' hi'=>?_⟩
      by_cases hik:i'=k
      ·subst hik;exact HJ.out
      ·exact Hg0.out i' (by omega)
     case measure=>simp[intOf];omega
  ·obtain rfl:k=nA:=by omega
   obtain rfl:E=0:=by rw[←HE.out];exact zmk Hg.out
   have HCz:=Lh (HC.out.below hbw);have spz:=hS0.out.below hbw hS0.out.lt;clear hbw;have q4:=((spz.set 0 (.int .u8 0)).set 1 (.int .i64 0)).set 2 (.int .i64 0);simp only[zc,ze,zd]at q4;have s0:=q4.cellL 0 rfl;have s1:=q4.cellL 1 rfl;have s2:=q4.cellL 2 rfl;have f0:=spz.frozen 0;have f1:=spz.frozen 1;have f2:=spz.frozen 2;have p0:=spz.cellL 0 rfl;have p1:=spz.cellL 1 rfl;have p2:=spz.cellL 2 rfl;have hO:=za9 wr gs (.int .u8 0) (.int .i64 0) (.int .i64 0);have Cz:=HCz.out.aside spz hgsB (by decide) (by decide) (by decide) hO
   have HCz2:=Lh Cz;clear Cz hO q4 spz HCz
   go_wp2_with fail;refine bodyPost_ret (v:= .tuple #[.int .i64 0, .agg #[.int .u8 0, .int .i64 0, .int .i64 0]]) (by simp[results, Tryz.results71,go_sem,s0,s1,s2]) rfl ?_
   exact⟨_,_,_,rfl,HCz2.out.bel⟩
def M0of(g:zB):Bool→List (List Bool):=sideM g.acts
def M1of(g:zB):Bool→List (List Bool):=edgesM g.edges (M0of g)
def M2of(g:zB):Bool→List (List Bool):=updB (M1of g) false (portsM g.ins (M1of g false))
def zec(g:zB):Bool→List (List Bool):=updB (M2of g) true (portsM g.outs (M2of g true))
def checkG(g:zB):Int:=
 if headE g=0 then(if actorsE g.acts []=0 then(if edgesE g.edges (M0of g)=0 then(if portsE g.ins (namesA g.acts) (M1of g false)=0 then(if portsE g.outs (namesA g.acts++namesP g.ins) (M2of g true)=0 then openE g.acts.length (zec g)else portsE g.outs (namesA g.acts++namesP g.ins) (M2of g true))else portsE g.ins (namesA g.acts) (M1of g false))else edgesE g.edges (M0of g))else actorsE g.acts [])else headE g
theorem zdo{g:zB}(h:headE g=0):nameB g.nm=true∧0<g.acts.length∧g.acts.length≤32∧g.edges.length≤96∧g.ins.length≤16∧g.outs.length≤16:=by
 unfold headE at h;split at h
 ·split at h
  ·cases h
  split at h
  ·cases h
  split at h
  ·cases h
  split at h
  ·cases h
  split at h
  ·cases h
  ·exact⟨by assumption,by omega,by omega,by omega,by omega,by omega⟩
 ·cases h
theorem zgg{M:List (List Bool)}(a p:Int)(j:Nat):((zbf M a p).getD j []).length=(M.getD j []).length:=by
 unfold zbf;split
 ·rename_i h
  obtain⟨h1,h2,-⟩:=zdX h;by_cases hj:a.toNat=j
  ·subst hj;rw[zdQ (by omega),zaR]
  ·rw[zdn hj]
 ·rfl
theorem zck(xs:List GEdg):∀(M:Bool→List (List Bool)) (s:Bool) (j:Nat),((edgesM xs M s).getD j []).length=((M s).getD j []).length:=by
 induction xs with
 |nil=>intro M s j;rfl
 |cons x xs ih=>
  intro M s j;show((edgesM xs (edgeM M x) s).getD j []).length=_
  rw[ih];unfold edgeM;cases s<;>exact zgg _ _ _
theorem zcl(xs:List PrtV):∀(M:List (List Bool)) (j:Nat),((portsM xs M).getD j []).length=(M.getD j []).length:=by
 induction xs with
 |nil=>intro M j;rfl
 |cons x xs ih=>
  intro M j;show((portsM xs (zbf M x.a x.p)).getD j []).length=_
  rw[ih,zgg]
theorem ziZ(acts:List ActV)(s:Bool)(j:Nat):((sideM acts s).getD j []).length≤16:=by
 unfold sideM;rw[zz,zp];cases acts[j]? with
 |none=>simp
 |some x=>
  obtain⟨h1,h2⟩:=zep x.tag x.ps;simp only[zai,zbs,zK];unfold zdC;split<;>omega
theorem zkX(g:zB)(s:Bool)(j:Nat):((zec g s).getD j []).length≤16:=by
 have h1:∀s j,((M1of g s).getD j []).length≤16:=fun s j=>by unfold M1of;rw[zck];exact ziZ _ _ _
 have h2:∀s j,((M2of g s).getD j []).length≤16:=fun s j=>by
  unfold M2of;by_cases hs:s=false
  ·subst hs;rw[zaw,zcl];exact h1 _ _
  ·rw[zaz hs];exact h1 _ _
 unfold zec;by_cases hs:s=true
 ·subst hs;rw[zaw,zcl];exact h2 _ _
 ·rw[zaz hs];exact h2 _ _
theorem zdh(g:zB)(s:Bool):(M0of g s).length=g.acts.length∧(M1of g s).length=g.acts.length∧(M2of g s).length=g.acts.length∧(zec g s).length=g.acts.length:=by
 have h0:∀s,(M0of g s).length=g.acts.length:=fun s=>by unfold M0of sideM;rw[zA]
 have h1:∀s,(M1of g s).length=g.acts.length:=fun s=>by unfold M1of;rw[zeC,h0]
 have h2:∀s,(M2of g s).length=g.acts.length:=fun s=>by
  unfold M2of;by_cases hs:s=false
  ·subst hs;rw[zaw,zcX,h1]
  ·rw[zaz hs,h1]
 refine⟨h0 s,h1 s,h2 s,?_⟩;unfold zec;by_cases hs:s=true
 ·subst hs;rw[zaw,zcX,h2]
 ·rw[zaz hs,h2]
theorem zml(g:zB)(w:World)(hg:g.good w w.heap.size):
  Calls Tryz.prog 45 #[.agg #[.string g.nm, .slice g.aA g.acts.length g.cA, .slice g.aE g.edges.length g.cE, .slice g.aI g.ins.length g.cI, .slice g.aO g.outs.length g.cO]] w fun e w'=>∃a b c:Int,e= .returned (.tuple #[.int .i64 (checkG g), .agg #[.int .u8 a, .int .i64 b, .int .i64 c]])∧Below w.heap.size w w':=by
 obtain⟨B0,hB0⟩:∃b,w.heap.size=b:=⟨_,rfl⟩;rw[hB0]at hg⊢;obtain⟨E,hE⟩:∃E,checkG g=E:=⟨_,rfl⟩;rw[hE];have hmm:= @run_makeMap Tryz.prog;have b1:=(zm B0 w).alloc (by omega) (.cells #[.string g.nm, .slice g.aA g.acts.length g.cA, .slice g.aE g.edges.length g.cE, .slice g.aI g.ins.length g.cI, .slice g.aO g.outs.length g.cO] 26)
 have k1:=Blk.new w B0 hB0.symm 26 #[.string g.nm, .slice g.aA g.acts.length g.cA, .slice g.aE g.edges.length g.cE, .slice g.aI g.ins.length g.cI, .slice g.aO g.outs.length g.cO];have z1:(w.alloc (.cells #[.string g.nm, .slice g.aA g.acts.length g.cA, .slice g.aE g.edges.length g.cE, .slice g.aI g.ins.length g.cI, .slice g.aO g.outs.length g.cO] 26)).heap.size=B0+1:=by simp;omega
 obtain⟨Wa,hWa⟩:∃W,w.alloc (.cells #[.string g.nm, .slice g.aA g.acts.length g.cA, .slice g.aE g.edges.length g.cE, .slice g.aI g.ins.length g.cI, .slice g.aO g.outs.length g.cO] 26)=W:=⟨_,rfl⟩;rw[hWa]at b1 k1 z1;obtain⟨gR,hgR0⟩:∃b,B0+1=b:=⟨_,rfl⟩;rw[hgR0]at z1;have hgR:B0≤gR:=by omega
 have b2:=b1.alloc (by omega) (.cells #[.int .u8 0, .int .i64 0, .int .i64 0] 128)
 have kG:=k1.alloc (.cells #[.int .u8 0, .int .i64 0, .int .i64 0] 128);have kR:=Blk.new Wa gR z1.symm 128 #[.int .u8 0, .int .i64 0, .int .i64 0];have z2:(Wa.alloc (.cells #[.int .u8 0, .int .i64 0, .int .i64 0] 128)).heap.size=gR+1:=by simp;omega
 obtain⟨W1,hW1⟩:∃W,Wa.alloc (.cells #[.int .u8 0, .int .i64 0, .int .i64 0] 128)=W:=⟨_,rfl⟩;rw[hW1]at b2 kG kR z2;obtain⟨m,hm⟩:∃b,gR+1=b:=⟨_,rfl⟩;rw[hm]at z2;have hg1:g.good W1 m:=(hg.below b2 lR_).more (by omega)
 have z3:(W1.alloc (.map #[] 0)).heap.size=m+1:=by simp;omega
 have o3:=World.ownsMap_made W1 Tryz.prog 9 (plainElem (H:=Unit) Tryz.prog 3);rw[z2]at o3;have b3:=(zm m W1).alloc (by omega) (.map #[] 0)
 obtain⟨W2,hW2⟩:∃W,W1.alloc (.map #[] 0)=W:=⟨_,rfl⟩;rw[hW2]at z3 o3 b3;obtain⟨gc,hgc⟩:∃b,m+1=b:=⟨_,rfl⟩;rw[hgc]at z3;have b4:=b3.alloc (by omega) (.cells #[.string g.nm, .slice g.aA g.acts.length g.cA, .slice g.aE g.edges.length g.cE, .slice g.aI g.ins.length g.cI, .slice g.aO g.outs.length g.cO, .map (some m), .slice none 0 0, .slice none 0 0] 168)
 have k4:=Blk.new W2 gc z3.symm 168 #[.string g.nm, .slice g.aA g.acts.length g.cA, .slice g.aE g.edges.length g.cE, .slice g.aI g.ins.length g.cI, .slice g.aO g.outs.length g.cO, .map (some m), .slice none 0 0, .slice none 0 0];have o4:=o3.alloc (.cells #[.string g.nm, .slice g.aA g.acts.length g.cA, .slice g.aE g.edges.length g.cE, .slice g.aI g.ins.length g.cI, .slice g.aO g.outs.length g.cO, .map (some m), .slice none 0 0, .slice none 0 0] 168);obtain⟨W3,hW3⟩:∃W,W2.alloc (.cells #[.string g.nm, .slice g.aA g.acts.length g.cA, .slice g.aE g.edges.length g.cE, .slice g.aI g.ins.length g.cI, .slice g.aO g.outs.length g.cO, .map (some m), .slice none 0 0, .slice none 0 0] 168)=W:=⟨_,rfl⟩;rw[hW3]at b4 k4 o4;have C3:CkS W1 W3 m gc m g [] 0 (fun _=> .slice none 0 0) (fun _=> .slice none 0 0) (fun _ _=>0) (sideM []):=
  ⟨b4,by omega,zF _,k4,o4,fun s=>zr _ _ _ _,fun s j hj=>absurd hj (zau _),fun s j s' j' hj=>absurd hj (zau _),fun b hb=>by cases hb⟩
 have g0:=kG.cellL 0 rfl;have g1:=kG.cellL 1 rfl;have g2:=kG.cellL 2 rfl;have g3:=kG.cellL 3 rfl;have g4:=kG.cellL 4 rfl;have HG:=Lh hg1;have HKG:=Lh kG;have HKR:=Lh kR;have HB2:=Lh b2;have HC3:=Lh C3;have HE:=Lh hE;have hgRm:gR<m:=by omega
 have hgGm:B0<m:=by omega
 clear hE hg b1 k1 b2 kG kR hg1 o3 b3 b4 k4 o4 C3
 go_enter Tryz.func45, Tryz.ntmps45
 go_wp2_with fail;refine(znG g gc (.map (some m)) (.slice none 0 0) (.slice none 0 0) W3 HC3.out.blk HG.out.nm).mono ?_
 rintro e w4 ⟨a,b,c,rfl,hb4⟩;have C4:=HC3.out.below hb4;obtain⟨E1,hE1⟩:∃e,headE g=e:=⟨_,rfl⟩;rw[hE1];have H1:=Lh hE1;have ba:=bA_ w4 (.cells #[.int .u8 a, .int .i64 b, .int .i64 c] 128);have kt:=bN_ ba;have C5:=C4.below ba;obtain⟨W5,hW5⟩:=wN_ ba;obtain⟨gt,hgt⟩:∃b,w4.heap.size=b:=⟨_,rfl⟩;rw[hW5]at kt C5;rw[hgt]at kt;have kR:=HKR.out.below C5.bel hgRm;have HB:=Lh (HB2.out.trans (C5.bel.mono (by omega)))
 have HC5:=Lh C5;clear ba C4 hb4 hE1 C5 HC3;by_cases h0:E1=0
 ·subst h0;obtain⟨hnm,hpos,hl1,hl2,hl3,hl4⟩:=zdo H1.out;clear kt kR HB g0 g1 g2
  go_wp2_with fail
  try rw[hW5]
  try rw[hgt]
  clear hW5 hgt;refine(zkW W1 m gc m 0 g [] (fun _=> .slice none 0 0) (fun _ _=>0) W5 HG.out hl1 (by omega) HC5.out).mono ?_
  rintro e w6 ⟨a,b,c,rfl,hb6,hC6⟩;obtain⟨E2,hE2⟩:∃e,actorsE g.acts []=e:=⟨_,rfl⟩;rw[hE2]at hC6⊢;have H2:=Lh hE2;have hz6:m≤w6.heap.size:=by have:=hb6.size;omega
  have b7:=hb6.alloc hz6 (.cells #[.int .u8 a, .int .i64 b, .int .i64 c] 128);have ba:=bA_ w6 (.cells #[.int .u8 a, .int .i64 b, .int .i64 c] 128);have kt:=bN_ ba;have hC7:E2=0→∃V' R',CkS W1 (w6.alloc (.cells #[.int .u8 a, .int .i64 b, .int .i64 c] 128)) m gc m g ([]++namesA g.acts) (0+g.acts.length) V' V' R' (sideM g.acts):=fun h=>by
   obtain⟨V',R',hc⟩:=hC6 h;exact⟨V',R',hc.below ba⟩
  obtain⟨W7,hW7⟩:=wN_ ba;obtain⟨gt,hgt⟩:∃b,w6.heap.size=b:=⟨_,rfl⟩;rw[hW7]at kt hC7 b7;rw[hgt]at kt;have kR:=HKR.out.below b7 hgRm;have HB:=Lh (HB2.out.trans (b7.mono (by omega)))
  have HC7:=Lh hC7;clear ba hb6 hC6 hE2 hC7 HC5 b7 hz6;by_cases h0:E2=0
  ·subst h0;obtain⟨V,R,C7⟩:=HC7.out rfl;rw[List.nil_append,zaq]at C7;have HC7b:=Lh C7;clear kt kR HB C7 HC7
   go_wp2_with fail
   try rw[hW7]
   try rw[hgt]
   clear hW7 hgt;refine(zmj W1 m gc m g.acts.length g (namesA g.acts) V R (M0of g) W7 HG.out hl2 (fun s=>by rw[(zdh g s).1];exact hpos) HC7b.out).mono ?_
   rintro e w8 ⟨a,b,c,rfl,hb8,hC8⟩;obtain⟨E3,hE3⟩:∃e,edgesE g.edges (M0of g)=e:=⟨_,rfl⟩;rw[hE3]at hC8⊢;have H3:=Lh hE3;have hz8:m≤w8.heap.size:=by have:=hb8.size;omega
   have b9:=hb8.alloc hz8 (.cells #[.int .u8 a, .int .i64 b, .int .i64 c] 128);have ba:=bA_ w8 (.cells #[.int .u8 a, .int .i64 b, .int .i64 c] 128);have kt:=bN_ ba;have hC9:E3=0→CkS W1 (w8.alloc (.cells #[.int .u8 a, .int .i64 b, .int .i64 c] 128)) m gc m g (namesA g.acts) g.acts.length V V R (M1of g):=fun h=>(hC8 h).below ba
   obtain⟨W9,hW9⟩:=wN_ ba;obtain⟨gt,hgt⟩:∃b,w8.heap.size=b:=⟨_,rfl⟩;rw[hW9]at kt hC9 b9;rw[hgt]at kt;have kR:=HKR.out.below b9 hgRm;have HB:=Lh (HB2.out.trans (b9.mono (by omega)))
   have HC9:=Lh hC9;clear ba hb8 hC8 hE3 hC9 HC7b b9 hz8;by_cases h0:E3=0
   ·subst h0;have C9:=HC9.out rfl;have HC9b:=Lh C9;have G9:=HKG.out.below C9.bel hgGm;have x3:=G9.cellL 3 rfl;have y6:=C9.blk.cellL 6 rfl;have hltc:=C9.blk.lt;have hB9:=C9.bel.size;obtain⟨E4,hE4⟩:∃e,portsE g.ins (namesA g.acts) (M1of g false)=e:=⟨_,rfl⟩;have H4:=Lh hE4;have hM:0<(M1of g false).length:=by rw[(zdh g false).2.1];exact hpos
    clear kt kR HB C9 G9 HC9 hE4
    go_upto_region 11 with fail
    try rw[hW9]
    try rw[hgt]
    clear hW9 hgt
    go_cut [11,12] (fun sE sP wx=>∃(bS:Nat) (a b c:Int),sP= .pointer (some ⟨bS,0,none⟩)∧sE= .int .i64 E4∧Blk wx bS 128 #[.int .u8 a, .int .i64 b, .int .i64 c]∧Below m W1 wx∧Hid (E4=0→CkS W1 wx m gc m g (namesA g.acts++namesP g.ins) (g.acts.length+g.ins.length) V V R (M2of g)))
    case first=>
     have hne1:B0≠W9.heap.size:=by omega
     have hne2:gc≠W9.heap.size:=by omega
     have hne3:W9.heap.size≠B0:=by omega
     have hne4:W9.heap.size≠gc:=by omega
     go_region_held3 (fun w'=>w'.cell? ⟨B0,3,none⟩=some (.slice g.aI g.ins.length g.cI)∧w'.cell? ⟨gc,6,none⟩=some (V false))
      (go_keep)
      (first
       |(go_at_call 70;refine(zeL W1 m gc m (g.acts.length) g (namesA g.acts) V R (M1of g) false g.ins g.aI g.ins.length g.cI 3 2 _ HG.out.rI HG.out.gI rfl hl3 (by omega) hM ?_).mono ?_;exact HC9b.out.below (Below.drewN (zm _ _) 1);rw[H4.out];rintro e w4 ⟨a,b,c,rfl,⟨hk4,ns4,nn4,M4,hx4⟩,hC4⟩;have q0:w4.cell? ⟨B0,3,none⟩=some (.slice g.aI g.ins.length g.cI):=(by have q:=(HKG.out.below hx4.bel hgGm).cell 3;simpa using q);have q1:w4.cell? ⟨gc,6,none⟩=some (V false):=(by have q:=hx4.blk.cell 6;simpa using q);have hgc4:=hx4.blk.lt;have hn4:B0≠w4.heap.size:=(by omega);have hn5:gc≠w4.heap.size:=(by omega);have hn6:w4.heap.size≠B0:=(by omega);have hn7:w4.heap.size≠gc:=(by omega))
       |(go_at_call 70;refine(zeL W1 m gc m (g.acts.length) g (namesA g.acts) V R (M1of g) false g.ins g.aI g.ins.length g.cI 3 2 _ HG.out.rI HG.out.gI rfl hl3 (by omega) hM ?_).mono ?_;exact HC9b.out.below (Below.drewN ((zm _ _).alloc lR_ _) 1);rw[H4.out];rintro e w4 ⟨a,b,c,rfl,⟨hk4,ns4,nn4,M4,hx4⟩,hC4⟩;have q0:w4.cell? ⟨B0,3,none⟩=some (.slice g.aI g.ins.length g.cI):=(by have q:=(HKG.out.below hx4.bel hgGm).cell 3;simpa using q);have q1:w4.cell? ⟨gc,6,none⟩=some (V false):=(by have q:=hx4.blk.cell 6;simpa using q);have hgc4:=hx4.blk.lt;have hn4:B0≠w4.heap.size:=(by omega);have hn5:gc≠w4.heap.size:=(by omega);have hn6:w4.heap.size≠B0:=(by omega);have hn7:w4.heap.size≠gc:=(by omega);have k4:Blk w4 W9.heap.size 128 #[.int .u8 0, .int .i64 0, .int .i64 0]:=hk4 _ _ (Blk.new W9 _ rfl _ _);have z0:=k4.cell 0;have z1:=k4.cell 1;have z2:=k4.cell 2;have f0:=k4.frozen 0;have f1:=k4.frozen 1;have f2:=k4.frozen 2;simp only[zC,zI,zT]at z0 z1 z2;have hW4:W9.heap.size≠w4.heap.size:=(by have:=k4.lt;omega)))
     ·go_wp2
      go_meet;have ba:=bA_ w4 (.cells #[.int .u8 a, .int .i64 b, .int .i64 c] 128)
      exact⟨w4.heap.size,a,b,c,rfl,rfl,Blk.new w4 _ rfl _ _,hx4.bel.alloc (by omega) _,fun h=>(hC4 h).below ba⟩
     ·go_wp2
      go_meet;have q4:=((k4.set 0 (.int .u8 a)).set 1 (.int .i64 b)).set 2 (.int .i64 c)
      simp only[zc,ze,zd]at q4;have hO:=za9 w4 W9.heap.size (.int .u8 a) (.int .i64 b) (.int .i64 c);exact⟨W9.heap.size,a,b,c,rfl,rfl,q4,(hx4.aside k4 (by omega) (by decide) (by decide) (by decide) hO).bel,fun h=>(hC4 h).aside k4 (by omega) (by decide) (by decide) (by decide) hO⟩
    case rest=>
     clear HC9b hltc hB9 x3 y6 hM;obtain⟨bS,a,b,c,rfl,rfl,kt,hbw,hCw⟩:=hcut;have kR:=HKR.out.below hbw hgRm;have HB:=Lh (HB2.out.trans (hbw.mono (by omega)))
     clear hbw;by_cases h0:E4=0
     ·subst h0;obtain⟨Wc,hWc⟩:∃W,wc=W:=⟨_,rfl⟩;rw[hWc]at hCw;have Cc:=hCw.out rfl;have HCc:=Lh Cc;have Gc:=HKG.out.below Cc.bel hgGm;have x4:=Gc.cellL 4 rfl;have y7:=Cc.blk.cellL 7 rfl;have hltc:=Cc.blk.lt;have hBc:=Cc.bel.size;obtain⟨E5,hE5⟩:∃e,portsE g.outs (namesA g.acts++namesP g.ins) (M2of g true)=e:=⟨_,rfl⟩;have H5:=Lh hE5;have hM:0<(M2of g true).length:=by rw[(zdh g true).2.2.1];exact hpos
      clear kt kR HB Cc Gc hCw hE5;rw[hWc];clear hWc
      go_upto_region 14 with fail
      go_cut [13,14] (fun sE sP wx=>∃(bS:Nat) (a b c:Int),sP= .pointer (some ⟨bS,0,none⟩)∧sE= .int .i64 E5∧Blk wx bS 128 #[.int .u8 a, .int .i64 b, .int .i64 c]∧Below m W1 wx∧Hid (E5=0→CkS W1 wx m gc m g (namesA g.acts++namesP g.ins++namesP g.outs) (g.acts.length+g.ins.length+g.outs.length) V V R (zec g)))
      case first=>
       have hne1:B0≠Wc.heap.size:=by omega
       have hne2:gc≠Wc.heap.size:=by omega
       have hne3:Wc.heap.size≠B0:=by omega
       have hne4:Wc.heap.size≠gc:=by omega
       go_region_held3 (fun w'=>w'.cell? ⟨B0,4,none⟩=some (.slice g.aO g.outs.length g.cO)∧w'.cell? ⟨gc,7,none⟩=some (V true))
        (go_keep)
        (first
         |(go_at_call 70;refine(zeL W1 m gc m (g.acts.length+g.ins.length) g (namesA g.acts++namesP g.ins) V R (M2of g) true g.outs g.aO g.outs.length g.cO 4 1 _ HG.out.rO HG.out.gO rfl hl4 (by omega) hM ?_).mono ?_;exact HCc.out.below (Below.drewN (zm _ _) 1);rw[H5.out];rintro e w4 ⟨a,b,c,rfl,⟨hk4,ns4,nn4,M4,hx4⟩,hC4⟩;have q0:w4.cell? ⟨B0,4,none⟩=some (.slice g.aO g.outs.length g.cO):=(by have q:=(HKG.out.below hx4.bel hgGm).cell 4;simpa using q);have q1:w4.cell? ⟨gc,7,none⟩=some (V true):=(by have q:=hx4.blk.cell 7;simpa using q);have hgc4:=hx4.blk.lt;have hn4:B0≠w4.heap.size:=(by omega);have hn5:gc≠w4.heap.size:=(by omega);have hn6:w4.heap.size≠B0:=(by omega);have hn7:w4.heap.size≠gc:=(by omega))
         |(go_at_call 70;refine(zeL W1 m gc m (g.acts.length+g.ins.length) g (namesA g.acts++namesP g.ins) V R (M2of g) true g.outs g.aO g.outs.length g.cO 4 1 _ HG.out.rO HG.out.gO rfl hl4 (by omega) hM ?_).mono ?_;exact HCc.out.below (Below.drewN ((zm _ _).alloc lR_ _) 1);rw[H5.out];rintro e w4 ⟨a,b,c,rfl,⟨hk4,ns4,nn4,M4,hx4⟩,hC4⟩;have q0:w4.cell? ⟨B0,4,none⟩=some (.slice g.aO g.outs.length g.cO):=(by have q:=(HKG.out.below hx4.bel hgGm).cell 4;simpa using q);have q1:w4.cell? ⟨gc,7,none⟩=some (V true):=(by have q:=hx4.blk.cell 7;simpa using q);have hgc4:=hx4.blk.lt;have hn4:B0≠w4.heap.size:=(by omega);have hn5:gc≠w4.heap.size:=(by omega);have hn6:w4.heap.size≠B0:=(by omega);have hn7:w4.heap.size≠gc:=(by omega);have k4:Blk w4 Wc.heap.size 128 #[.int .u8 0, .int .i64 0, .int .i64 0]:=hk4 _ _ (Blk.new Wc _ rfl _ _);have z0:=k4.cell 0;have z1:=k4.cell 1;have z2:=k4.cell 2;have f0:=k4.frozen 0;have f1:=k4.frozen 1;have f2:=k4.frozen 2;simp only[zC,zI,zT]at z0 z1 z2;have hW4:Wc.heap.size≠w4.heap.size:=(by have:=k4.lt;omega)))
       ·go_wp2
        go_meet;have ba:=bA_ w4 (.cells #[.int .u8 a, .int .i64 b, .int .i64 c] 128)
        exact⟨w4.heap.size,a,b,c,rfl,rfl,Blk.new w4 _ rfl _ _,hx4.bel.alloc (by omega) _,fun h=>(hC4 h).below ba⟩
       ·go_wp2
        go_meet;have q4:=((k4.set 0 (.int .u8 a)).set 1 (.int .i64 b)).set 2 (.int .i64 c)
        simp only[zc,ze,zd]at q4;have hO:=za9 w4 Wc.heap.size (.int .u8 a) (.int .i64 b) (.int .i64 c);exact⟨Wc.heap.size,a,b,c,rfl,rfl,q4,(hx4.aside k4 (by omega) (by decide) (by decide) (by decide) hO).bel,fun h=>(hC4 h).aside k4 (by omega) (by decide) (by decide) (by decide) hO⟩
      case rest=>
       clear HCc hltc hBc x4 y7 hM;obtain⟨bS5,a,b,c,rfl,rfl,kt,hbw,hCw⟩:=hcut;have kR:=HKR.out.below hbw hgRm;have HB:=Lh (HB2.out.trans (hbw.mono (by omega)))
       clear hbw;by_cases h0:E5=0
       ·subst h0;have HCd:=Lh (hCw.out rfl);clear hCw kt kR HB
        go_wp2_with fail;refine(znJ W1 m gc m (g.acts.length+g.ins.length+g.outs.length) g (namesA g.acts++namesP g.ins++namesP g.outs) V R (zec g) _ hl1 (fun s=>(zdh g s).2.2.2) hpos (fun s j=>by have:=zkX g s j;omega) HCd.out).mono ?_
        have hEf:openE g.acts.length (zec g)=E:=by rw[←HE.out];unfold checkG;rw[H1.out,if_pos rfl,H2.out,if_pos rfl,H3.out,if_pos rfl,H4.out,if_pos rfl,H5.out,if_pos rfl]
        rw[hEf];rintro e w8 ⟨a,b,c,rfl,hb8⟩;clear hEf;have kR:=HKR.out.below hb8 hgRm;have HB:=Lh (HB2.out.trans (hb8.mono (by omega)))
        have kt:=kR;have p0:=kt.cellL 0 rfl;have p1:=kt.cellL 1 rfl;have p2:=kt.cellL 2 rfl;have f0:=kR.frozen 0;have f1:=kR.frozen 1;have f2:=kR.frozen 2;have z0:=kR.cellL 0 rfl;have z1:=kR.cellL 1 rfl;have z2:=kR.cellL 2 rfl;have q4:=((kR.set 0 (.int .u8 a)).set 1 (.int .i64 b)).set 2 (.int .i64 c);simp only[zc,ze,zd]at q4;have s0:=q4.cellL 0 rfl;have s1:=q4.cellL 1 rfl;have s2:=q4.cellL 2 rfl;have bz:=((HB.out.setCell (p:=⟨gR,0,none⟩) hgR (.int .u8 a)).setCell (p:=⟨gR,1,none⟩) hgR (.int .i64 b)).setCell (p:=⟨gR,2,none⟩) hgR (.int .i64 c);clear q4 kR kt HB
        go_wp2_with fail;refine bodyPost_ret (v:= .tuple #[.int .i64 E, .agg #[.int .u8 a, .int .i64 b, .int .i64 c]]) (by simp[results, Tryz.results45,go_sem,s0,s1,s2]) rfl ?_
        exact⟨a,b,c,rfl,bz⟩
       ·have hne:(E5 !=0)=true:=by simpa using h0
        obtain rfl:E=E5:=by rw[←HE.out];unfold checkG;rw[H1.out,if_pos rfl,H2.out,if_pos rfl,H3.out,if_pos rfl,H4.out,if_pos rfl,H5.out,if_neg h0]
        have p0:=kt.cellL 0 rfl;have p1:=kt.cellL 1 rfl;have p2:=kt.cellL 2 rfl;have f0:=kR.frozen 0;have f1:=kR.frozen 1;have f2:=kR.frozen 2;have z0:=kR.cellL 0 rfl;have z1:=kR.cellL 1 rfl;have z2:=kR.cellL 2 rfl;have q4:=((kR.set 0 (.int .u8 a)).set 1 (.int .i64 b)).set 2 (.int .i64 c);simp only[zc,ze,zd]at q4;have s0:=q4.cellL 0 rfl;have s1:=q4.cellL 1 rfl;have s2:=q4.cellL 2 rfl;have bz:=((HB.out.setCell (p:=⟨gR,0,none⟩) hgR (.int .u8 a)).setCell (p:=⟨gR,1,none⟩) hgR (.int .i64 b)).setCell (p:=⟨gR,2,none⟩) hgR (.int .i64 c);clear q4 kR kt HB
        go_wp2_with fail
        go_region
        go_wp2
        refine bodyPost_ret (v:= .tuple #[.int .i64 E, .agg #[.int .u8 a, .int .i64 b, .int .i64 c]]) (by simp[results, Tryz.results45,go_sem,s0,s1,s2]) rfl ?_
        exact⟨a,b,c,rfl,Below.drewN bz 1⟩
     ·have hne:(E4 !=0)=true:=by simpa using h0
      obtain rfl:E=E4:=by rw[←HE.out];unfold checkG;rw[H1.out,if_pos rfl,H2.out,if_pos rfl,H3.out,if_pos rfl,H4.out,if_neg h0]
      have p0:=kt.cellL 0 rfl;have p1:=kt.cellL 1 rfl;have p2:=kt.cellL 2 rfl;have f0:=kR.frozen 0;have f1:=kR.frozen 1;have f2:=kR.frozen 2;have z0:=kR.cellL 0 rfl;have z1:=kR.cellL 1 rfl;have z2:=kR.cellL 2 rfl;have q4:=((kR.set 0 (.int .u8 a)).set 1 (.int .i64 b)).set 2 (.int .i64 c);simp only[zc,ze,zd]at q4;have s0:=q4.cellL 0 rfl;have s1:=q4.cellL 1 rfl;have s2:=q4.cellL 2 rfl;have bz:=((HB.out.setCell (p:=⟨gR,0,none⟩) hgR (.int .u8 a)).setCell (p:=⟨gR,1,none⟩) hgR (.int .i64 b)).setCell (p:=⟨gR,2,none⟩) hgR (.int .i64 c);clear q4 kR kt HB
      go_wp2_with fail
      go_region
      go_wp2
      refine bodyPost_ret (v:= .tuple #[.int .i64 E, .agg #[.int .u8 a, .int .i64 b, .int .i64 c]]) (by simp[results, Tryz.results45,go_sem,s0,s1,s2]) rfl ?_
      exact⟨a,b,c,rfl,Below.drewN bz 1⟩
   ·have hne:(E3 !=0)=true:=by simpa using h0
    obtain rfl:E=E3:=by rw[←HE.out];unfold checkG;rw[H1.out,if_pos rfl,H2.out,if_pos rfl,H3.out,if_neg h0]
    have p0:=kt.cellL 0 rfl;have p1:=kt.cellL 1 rfl;have p2:=kt.cellL 2 rfl;have f0:=kR.frozen 0;have f1:=kR.frozen 1;have f2:=kR.frozen 2;have z0:=kR.cellL 0 rfl;have z1:=kR.cellL 1 rfl;have z2:=kR.cellL 2 rfl;have q4:=((kR.set 0 (.int .u8 a)).set 1 (.int .i64 b)).set 2 (.int .i64 c);simp only[zc,ze,zd]at q4;have s0:=q4.cellL 0 rfl;have s1:=q4.cellL 1 rfl;have s2:=q4.cellL 2 rfl;have bz:=((HB.out.setCell (p:=⟨gR,0,none⟩) hgR (.int .u8 a)).setCell (p:=⟨gR,1,none⟩) hgR (.int .i64 b)).setCell (p:=⟨gR,2,none⟩) hgR (.int .i64 c);clear q4 kR kt HB
    go_wp2_with fail
    go_region
    go_wp2
    refine bodyPost_ret (v:= .tuple #[.int .i64 E, .agg #[.int .u8 a, .int .i64 b, .int .i64 c]]) (by simp[results, Tryz.results45,go_sem,s0,s1,s2]) rfl ?_
    exact⟨a,b,c,rfl,Below.drewN bz 1⟩
  ·have hne:(E2 !=0)=true:=by simpa using h0
   obtain rfl:E=E2:=by rw[←HE.out];unfold checkG;rw[H1.out,if_pos rfl,H2.out,if_neg h0]
   have p0:=kt.cellL 0 rfl;have p1:=kt.cellL 1 rfl;have p2:=kt.cellL 2 rfl;have f0:=kR.frozen 0;have f1:=kR.frozen 1;have f2:=kR.frozen 2;have z0:=kR.cellL 0 rfl;have z1:=kR.cellL 1 rfl;have z2:=kR.cellL 2 rfl;have q4:=((kR.set 0 (.int .u8 a)).set 1 (.int .i64 b)).set 2 (.int .i64 c);simp only[zc,ze,zd]at q4;have s0:=q4.cellL 0 rfl;have s1:=q4.cellL 1 rfl;have s2:=q4.cellL 2 rfl;have bz:=((HB.out.setCell (p:=⟨gR,0,none⟩) hgR (.int .u8 a)).setCell (p:=⟨gR,1,none⟩) hgR (.int .i64 b)).setCell (p:=⟨gR,2,none⟩) hgR (.int .i64 c);clear q4 kR kt HB
   go_wp2_with fail
   go_region
   go_wp2
   refine bodyPost_ret (v:= .tuple #[.int .i64 E, .agg #[.int .u8 a, .int .i64 b, .int .i64 c]]) (by simp[results, Tryz.results45,go_sem,s0,s1,s2]) rfl ?_
   exact⟨a,b,c,rfl,Below.drewN bz 1⟩
 ·have hne:(E1 !=0)=true:=by simpa using h0
  obtain rfl:E=E1:=by rw[←HE.out];unfold checkG;rw[H1.out,if_neg h0]
  have p0:=kt.cellL 0 rfl;have p1:=kt.cellL 1 rfl;have p2:=kt.cellL 2 rfl;have f0:=kR.frozen 0;have f1:=kR.frozen 1;have f2:=kR.frozen 2;have z0:=kR.cellL 0 rfl;have z1:=kR.cellL 1 rfl;have z2:=kR.cellL 2 rfl;have q4:=((kR.set 0 (.int .u8 a)).set 1 (.int .i64 b)).set 2 (.int .i64 c);simp only[zc,ze,zd]at q4;have s0:=q4.cellL 0 rfl;have s1:=q4.cellL 1 rfl;have s2:=q4.cellL 2 rfl;have bz:=((HB.out.setCell (p:=⟨gR,0,none⟩) hgR (.int .u8 a)).setCell (p:=⟨gR,1,none⟩) hgR (.int .i64 b)).setCell (p:=⟨gR,2,none⟩) hgR (.int .i64 c);clear q4 kR kt HB
  go_wp2_with fail
  go_region
  go_wp2
  refine bodyPost_ret (v:= .tuple #[.int .i64 E, .agg #[.int .u8 a, .int .i64 b, .int .i64 c]]) (by simp[results, Tryz.results45,go_sem,s0,s1,s2]) rfl ?_
  exact⟨a,b,c,rfl,Below.drewN bz 1⟩
end Go.Proofs.YtpmlljbebdidgaaGreatDoor
