/- Lemmas and walks for the claim: Gi. -/
import Derived.Test.YtpmlljbebdidgaaGreatDoorA0
import Derived.Test.YtpmlljbebdidgaaGreatDoorA27
set_option maxRecDepth 100000
set_option maxHeartbeats 4000000
namespace Go.Proofs.YtpmlljbebdidgaaGreatDoor
open Go.RowKit Go.Maps
def rowsOf(M:Bool→List (List Bool))(i j:Nat):List Bool:=if j=0 then(M false).getD i []else(M true).getD i []
def fullB(M:Bool→List (List Bool))(i:Nat):Bool:=(rowsOf M i 0).all id&&(rowsOf M i 1).all id
def openE(n:Nat)(M:Bool→List (List Bool)):Int:=if(List.range n).all (fullB M)=true then 0 else 87
theorem open_bad{n:Nat}{M:Bool→List (List Bool)}{i j q:Nat}(hi:i<n)(hj:j<2)(hq:(rowsOf M i j)[q]?=some false):openE n M=87:=by
 unfold openE;rw[if_neg];intro h;have h1:=List.all_eq_true.1 h i (List.mem_range.2 hi);unfold fullB at h1;rw[Bool.and_eq_true]at h1;have h2:(rowsOf M i j).all id=true:=by
  rcases(show j=0∨j=1 by omega)with rfl|rfl
  ·exact h1.1
  ·exact h1.2
 have h3:=List.all_eq_true.1 h2 false (List.mem_of_getElem? hq);cases h3
theorem open_good{n:Nat}{M:Bool→List (List Bool)}(h:∀i,i<n→∀j,j<2→(rowsOf M i j).all id=true):openE n M=0:=by
 unfold openE;rw[if_pos];refine List.all_eq_true.2 fun i hi=>?_
 have hi:=List.mem_range.1 hi;unfold fullB;rw[h i hi 0 (by omega),h i hi 1 (by omega)]
 rfl
theorem all_take{r:List Bool}(h:∀q,q<r.length→r[q]?=some true):r.all id=true:=by
 refine List.all_eq_true.2 fun b hb=>?_
 obtain⟨q,hq⟩:=List.getElem?_of_mem hb
 have:=h q (List.getElem?_eq_some_iff.1 hq).1
 rw[hq]at this;injection this
theorem open_any(w0:World)(B gc m nn:Nat)(hd:GraV)(ns:List (List UInt8))(V:Bool→Value)(R:Bool→Nat→Nat)(M:Bool→List (List Bool))(w:World)(hl:hd.acts.length≤32)(hM:∀s,(M s).length=hd.acts.length)(hp:0<hd.acts.length)(hr:∀s j,((M s).getD j []).length≤100)(h:CkS w0 w B gc m hd ns nn V V R M):
  Calls Tryz.prog 71 #[.pointer (some ⟨gc,0,none⟩)] w fun e w'=>∃a b c:Int,e= .returned (.tuple #[.int .i64 (openE hd.acts.length M), .agg #[.int .u8 a, .int .i64 b, .int .i64 c]])∧Below B w0 w':=by
 obtain⟨gs,hgs⟩:∃b,w.heap.size=b:=⟨_,rfl⟩;have hlt:=h.blk.lt;have hgc:=h.gcB;have hgsB:B≤gs:=by omega
 obtain⟨nA,hnA⟩:∃n,hd.acts.length=n:=⟨_,rfl⟩;rw[hnA]at hl hM hp⊢;obtain⟨E,hE⟩:∃E,openE nA M=E:=⟨_,rfl⟩;rw[hE];have b1:=bA_ w (.cells #[.int .u8 0, .int .i64 0, .int .i64 0] 128);have h1:=h.below b1;have s1:=Blk.new w gs hgs.symm 128 #[.int .u8 0, .int .i64 0, .int .i64 0];obtain⟨W1,hW1⟩:=wN_ b1;rw[hW1]at h1 s1;have c1:=h1.blk.cellL 1 rfl;rw[hnA]at c1;obtain⟨gI,cI,hVI,SI⟩:=h1.side false (by rw[hM];exact hp)
 obtain⟨gO,cO,hVO,SO⟩:=h1.side true (by rw[hM];exact hp)
 have hMf:=hM false;have hMt:=hM true;rw[hMf]at hVI;rw[hMt]at hVO;have HE:=Lh hE;have HC:=Lh h1;have HSI:=Lh SI;have HSO:=Lh SO;have HVI:=Lh hVI;have HVO:=Lh hVO;have HMf:=Lh hMf;have HMt:=Lh hMt;have HR:=Lh hr;have hS0:=Lh s1;have HltI:=(SI.hdr.lt gI rfl).2;have HltO:=(SO.hdr.lt gO rfl).2;have hltg:=h1.blk.lt;clear hE h b1 h1 s1 hM SI SO hVI hVO hMf hMt hr
 go_enter Tryz.func71, Tryz.ntmps71
 go_wp2_with fail
 try rw[hgs]
 clear c1 hW1
 go_loopw [15] (fun i wr=>∃k:Nat,k≤nA∧i= .int .i64 k∧Below W1.heap.size W1 wr∧Hid (∀i,i<k→∀j,j<2→(rowsOf M i j).all id=true)) (fun i _=>nA-(intOf i).toNat)
 case atStart=>exact⟨0,by omega,rfl,Below.refl _ _,fun i hi=>absurd hi (Nat.not_lt_zero _)⟩
 case round=>
  obtain⟨k,hk,rfl,hbw,Hg⟩:=hrel;have hsz:=hbw.size;by_cases hkA:k<nA
  ·have kb:=HC.out.blk.below hbw hltg;have r6:=kb.cellL 6 rfl;have r7:=kb.cellL 7 rfl;rw[HVI.out]at r6;rw[HVO.out]at r7;have hi6:=(hbw.cell (p:=⟨gI,k,none⟩) HltI).trans (HSI.out.cellH (j:=k) (by rw[HMf.out];exact hkA))
   have hi7:=(hbw.cell (p:=⟨gO,k,none⟩) HltO).trans (HSO.out.cellH (j:=k) (by rw[HMt.out];exact hkA))
   have h3:(0:Int)≤(k:Int):=by omega
   have h4:(k:Int)<(nA:Int):=by omega
   obtain⟨rI,hrI⟩:∃r,(M false).getD k []=r:=⟨_,rfl⟩;obtain⟨rO,hrO⟩:∃r,(M true).getD k []=r:=⟨_,rfl⟩;obtain⟨lI,hlI⟩:∃r,rI.length=r:=⟨_,rfl⟩;obtain⟨lO,hlO⟩:∃r,rO.length=r:=⟨_,rfl⟩;obtain⟨bI,hbI⟩:∃r,R false k=r:=⟨_,rfl⟩;obtain⟨bO,hbO⟩:∃r,R true k=r:=⟨_,rfl⟩;have rowI:∀w',Below W1.heap.size W1 w'→∀q,q<lI→w'.cell? ⟨bI,q,none⟩=some (.bool (rI.getD q false)):=fun w' hb q hq=>by
    have h5:=HSI.out.cellR (j:=k) (p:=q) (by rw[HMf.out];exact hkA) (by rw[hrI,hlI];exact hq)
    rw[hrI,hbI]at h5;exact(hb.cell (p:=⟨bI,q,none⟩) (by rw[←hbI];exact((HSI.out.row k (by rw[HMf.out];exact hkA)).lt (R false k) rfl).2)).trans h5
   have rowO:∀w',Below W1.heap.size W1 w'→∀q,q<lO→w'.cell? ⟨bO,q,none⟩=some (.bool (rO.getD q false)):=fun w' hb q hq=>by
    have h5:=HSO.out.cellR (j:=k) (p:=q) (by rw[HMt.out];exact hkA) (by rw[hrO,hlO];exact hq)
    rw[hrO,hbO]at h5;exact(hb.cell (p:=⟨bO,q,none⟩) (by rw[←hbO];exact((HSO.out.row k (by rw[HMt.out];exact hkA)).lt (R true k) rfl).2)).trans h5
   have hlI9:lI≤100:=by rw[←hlI,←hrI];exact HR.out false k
   have hlO9:lO≤100:=by rw[←hlO,←hrO];exact HR.out true k
   rw[hrI,hlI,hbI]at hi6;rw[hrO,hlO,hbO]at hi7;have ba:=bA_ wr (.cells #[.slice (some ⟨bI,0,none⟩) lI lI, .slice (some ⟨bO,0,none⟩) lO lO] 143);have kl:=bN_ ba;have bw2:=hbw.trans (ba.mono hsz);have HRI:=Lh rowI;have HRO:=Lh rowO;have hro1:rowsOf M k 0=rI:=by unfold rowsOf;rw[if_pos rfl];exact hrI
   have hro2:rowsOf M k 1=rO:=by unfold rowsOf;rw[if_neg (by omega)];exact hrO
   have Hr1:=Lh hro1;have Hr2:=Lh hro2;have HlI:=Lh hlI;have HlO:=Lh hlO;clear kb hrI hrO hlI hlO hbI hbO rowI rowO hro1 hro2 ba
   go_wp2_with fail
   go_region
   obtain⟨gl,hgl⟩:∃g,wr.heap.size=g:=⟨_,rfl⟩;obtain⟨W3,hW3⟩:∃W,(wr.alloc (.cells #[.slice (some ⟨bI,0,none⟩) lI lI, .slice (some ⟨bO,0,none⟩) lO lO] 143)).drew=W:=⟨_,rfl⟩;have kl3:Blk W3 gl 143 #[.slice (some ⟨bI,0,none⟩) lI lI, .slice (some ⟨bO,0,none⟩) lO lO]:=by rw[←hW3,←hgl];exact kl
   have b3:Below W1.heap.size W1 W3:=by rw[←hW3];exact Below.drewN bw2 1
   rw[hW3,hgl];have y0:=kl3.cellL 0 rfl;have y1:=kl3.cellL 1 rfl;have HB3:=Lh b3;have Hg0:=Lh Hg;have HSZ:=Lh hsz;clear hi6 hi7 r6 r7 kl bw2 hW3 hgl hbw kl3 b3 Hg hsz
   go_wp2_with fail
   go_loopw [34] (fun i2 wx=>∃j:Nat,j≤2∧i2= .int .i64 j∧wx=W3∧Hid (∀j',j'<j→(rowsOf M k j').all id=true)) (fun i _=>2-(intOf i).toNat)
   case atStart=>exact⟨0,by omega,rfl,rfl,fun j' hj'=>absurd hj' (Nat.not_lt_zero _)⟩
   case round=>
    obtain⟨j,hj,rfl,rfl,HJ⟩:=hrel;by_cases hj2:j<2
    ·obtain⟨rb,r,L,hcell,hL,hrow,hrows,hL9⟩:∃rb r L,wr.cell? ⟨gl,j,none⟩=some (.slice (some ⟨rb,0,none⟩) L L)∧r.length=L∧(∀q,q<L→wr.cell? ⟨rb,q,none⟩=some (.bool (r.getD q false)))∧rowsOf M k j=r∧L≤100:=by
      rcases(show j=0∨j=1 by omega)with rfl|rfl
      ·exact⟨bI,rI,lI,y0,HlI.out,HRI.out _ HB3.out,Hr1.out,hlI9⟩
      ·exact⟨bO,rO,lO,y1,HlO.out,HRO.out _ HB3.out,Hr2.out,hlO9⟩
     have HL:=Lh hL;have Hrow:=Lh hrow;have Hrows:=Lh hrows;have j3:(0:Int)≤(j:Int):=by omega
     have j4:(j:Int)<2:=by omega
     clear hL hrow hrows
     go_wp2_with fail
     go_loopw [40] (fun i3 wy=>∃q:Nat,q≤L∧i3= .int .i64 q∧wy=wr∧Hid (∀q',q'<q→r[q']?=some true)) (fun i _=>L-(intOf i).toNat)
     case atStart=>exact⟨0,by omega,rfl,rfl,fun q' hq'=>absurd hq' (Nat.not_lt_zero _)⟩
     case round=>
      obtain⟨q,hq,rfl,hwy,HQ⟩:=hrel;subst hwy;by_cases hqL:q<L
      ·have hcq:=Hrow.out q hqL;have q3:(0:Int)≤(q:Int):=by omega
       have q4:(q:Int)<(L:Int):=by omega
       have hrq:r[q]?=some (r.getD q false):=by
        rw[List.getD_eq_getElem?_getD,List.getElem?_eq_getElem (by rw[HL.out];exact hqL)];rfl
       obtain⟨b,hb⟩:∃b,r.getD q false=b:=⟨_,rfl⟩;rw[hb]at hcq hrq;have Hrq:=Lh hrq;clear hb hrq;cases b with
       |true=>
        go_wp2_with fail
        go_roundw
        case rel=>
         refine⟨q+1,by omega,by go_num,trivial,fun q' hq'=>?_⟩
         by_cases hqq:q'=q
         ·subst hqq;exact Hrq.out
         ·exact HQ.out q' (by omega)
        case measure=>simp[intOf];omega
       |false=>
        obtain rfl:E=87:=by
         rw[←HE.out];exact open_bad (i:=k) (j:=j) (q:=q) hkA hj2 (by rw[Hrows.out];exact Hrq.out)
        have HCz:=Lh (HC.out.below HB3.out);have spz:=hS0.out.below HB3.out hS0.out.lt;clear HL Hrow Hrows HRI HRO HSI HSO;have q4:=((spz.set 0 (.int .u8 1)).set 1 (.int .i64 k)).set 2 (.int .i64 0);simp only[List.setIfInBounds_toArray,List.set_cons_zero,List.set_cons_succ]at q4;have s0:=q4.cellL 0 rfl;have s1:=q4.cellL 1 rfl;have s2:=q4.cellL 2 rfl;have f0:=spz.frozen 0;have f1:=spz.frozen 1;have f2:=spz.frozen 2;have p0:=spz.cellL 0 rfl;have p1:=spz.cellL 1 rfl;have p2:=spz.cellL 2 rfl;have hO:=onlySet3 wr gs (.int .u8 1) (.int .i64 k) (.int .i64 0);have Cz:=HCz.out.aside spz hgsB (by decide) (by decide) (by decide) hO
        have HCz2:=Lh Cz;clear Cz hO q4 spz HCz
        go_wp2_with fail;refine bodyPost_ret (v:= .tuple #[.int .i64 87, .agg #[.int .u8 1, .int .i64 k, .int .i64 0]]) (by simp[results, Tryz.results71,go_sem,s0,s1,s2]) rfl ?_
        exact⟨_,_,_,rfl,HCz2.out.bel⟩
      ·obtain rfl:q=L:=by omega
       have hall:r.all id=true:=all_take fun q' hq'=>HQ.out q' (by rw[←HL.out];exact hq')
       have Hall:=Lh hall;clear hall
       go_wp2_with fail
       go_roundw
       case rel=>
        refine⟨j+1,by omega,by go_num,trivial,fun j' hj'=>?_⟩
        by_cases hjj:j'=j
        ·subst hjj;rw[Hrows.out];exact Hall.out
        ·exact HJ.out j' (by omega)
       case measure=>simp[intOf];omega
    ·obtain rfl:j=2:=by omega
     go_wp2_with fail
     go_roundw
     case rel=>
      refine⟨k+1,by omega,by go_num,HB3.out,fun i' hi'=>?_⟩
      by_cases hik:i'=k
      ·subst hik;exact HJ.out
      ·exact Hg0.out i' (by omega)
     case measure=>simp[intOf];omega
  ·obtain rfl:k=nA:=by omega
   obtain rfl:E=0:=by rw[←HE.out];exact open_good Hg.out
   have HCz:=Lh (HC.out.below hbw);have spz:=hS0.out.below hbw hS0.out.lt;clear hbw;have q4:=((spz.set 0 (.int .u8 0)).set 1 (.int .i64 0)).set 2 (.int .i64 0);simp only[List.setIfInBounds_toArray,List.set_cons_zero,List.set_cons_succ]at q4;have s0:=q4.cellL 0 rfl;have s1:=q4.cellL 1 rfl;have s2:=q4.cellL 2 rfl;have f0:=spz.frozen 0;have f1:=spz.frozen 1;have f2:=spz.frozen 2;have p0:=spz.cellL 0 rfl;have p1:=spz.cellL 1 rfl;have p2:=spz.cellL 2 rfl;have hO:=onlySet3 wr gs (.int .u8 0) (.int .i64 0) (.int .i64 0);have Cz:=HCz.out.aside spz hgsB (by decide) (by decide) (by decide) hO
   have HCz2:=Lh Cz;clear Cz hO q4 spz HCz
   go_wp2_with fail;refine bodyPost_ret (v:= .tuple #[.int .i64 0, .agg #[.int .u8 0, .int .i64 0, .int .i64 0]]) (by simp[results, Tryz.results71,go_sem,s0,s1,s2]) rfl ?_
   exact⟨_,_,_,rfl,HCz2.out.bel⟩
end Go.Proofs.YtpmlljbebdidgaaGreatDoor
