/- Lemmas and walks for the claim: Gb. -/
import Derived.Test.YtpmlljbebdidgaaGreatDoorA0
import Derived.Test.YtpmlljbebdidgaaGreatDoorA4
import Derived.Test.YtpmlljbebdidgaaGreatDoorA5
import Derived.Deep.DeepCutAuto
set_option linter.unusedSimpArgs false
set_option maxRecDepth 100000
set_option maxHeartbeats 4000000
namespace Go.Proofs.YtpmlljbebdidgaaGreatDoor
open Go.RowKit
def withinB(n most:Int):Bool:=decide (1≤n)&&decide (n≤most)
def zZ(tag:Int)(l:Nat)(n m:Int)(s p:Bool):List Int×List Int×Int:=
 if(tag=1∧withinB l 16=true)∨(tag=8∧l=0)then([1],[1],0)
 else if tag=2∧s=true∧withinB n 64=true then([1],[n],0)
 else if tag=3∧s=true∧withinB n 64=true then([n],[1],0)
 else if tag=4∧p=true then(List.replicate n.toNat m,[n*m],0)
 else if tag=5∧p=true then([n*m],List.replicate n.toNat m,0)
 else if tag=6∧s=true∧withinB n 16=true then(List.replicate n.toNat 1,[1],0)
 else if tag=7∧l=0 then([1,1],[1],0)
 else if tag=9∧s=true∧withinB n 16=true then([1],List.replicate n.toNat 1,0)
 else if tag=10∧l=2 then([],[1],0)
 else if tag=11∧s=true∧withinB n 64=true then([n],[],0)
 else([],[],61)
def pairB(l:Nat)(n m:Int):Bool:=decide (l=2)&&(withinB n 16&&(withinB m 64&&decide (n*m≤64)))
def shapeR(tag:Int)(ps:List Int):List Int×List Int×Int:=
 if tag<1∨11<tag then([],[],60)
 else zZ tag ps.length (ps[0]?.getD 0) (ps[1]?.getD 0) (decide (ps.length=1)) (pairB ps.length (ps[0]?.getD 0) (ps[1]?.getD 0))
theorem zbq(n m:Int)(w:World):Calls Tryz.prog 46 #[.int .i64 n, .int .i64 m] w fun e w'=>e= .returned (.bool (withinB n m))∧w=w':=by
 unfold withinB;by_cases h1:1≤n
 ·by_cases h2:n≤m
  ·go_enter Tryz.func46, Tryz.ntmps46
   go_wp2
   go_ret
   first|(simp;omega)|omega
  ·go_enter Tryz.func46, Tryz.ntmps46
   go_wp2
   go_ret
   first|(simp;omega)|omega
 ·go_enter Tryz.func46, Tryz.ntmps46
  go_wp2
  go_ret
  first|(simp;omega)|omega
theorem ports_any(xs:List Int)(A:Option Addr)(l c:Nat)(w:World)(hl:xs.length=l)(hm:l≤16)(hr:Rd w w.heap.size A (cellsI xs)):
  Calls Tryz.prog 47 #[.slice A l c] w fun e w'=>∃A' c',e= .returned (.slice A' l c')∧w'.ownsRow w.heap.size 3 1 (.slice A' l c') l (cellsI xs)∧Below w.heap.size w w':=by
 subst hl;obtain⟨i,hi,hz0,hz1,hz2⟩:=info_parts zas;have b1:=bA_ w (.cells #[] 3);have o1:=zcO w _ rfl 3 1;have hcl:(cellsI xs).length=xs.length*1:=by rw[cellsI_length,zaY]
 have r1:=hr.below b1 lR_
 go_enter Tryz.func47, Tryz.ntmps47
 go_wp2_with (at_builtin;refine zR _ rfl _ _ 36 rfl w.heap.size 3 i (.int .i64 0) 1 8 Tryz.underlying36 hi hz0 hz1 hz2 rfl (by decide) _ 0 [] rfl o1 w.heap.size A xs.length c (cellsI xs) rfl hcl r1 (zaA _) (by unfold maxLen;omega) (by omega) (by simp) ?_)
 intro v' w2 o2 g2 h2;obtain⟨A',c',rfl,hc'⟩:=zH o2;have hb:Below w.heap.size w w2:=b1.grown g2 b1.size (fun k hk=>by simp only[Value.ownBlock]at hk;injection hk with hk;omega)
 have o3:w2.ownsRow w.heap.size 3 1 (.slice A' xs.length c') xs.length (cellsI xs):=by simpa using o2
 clear b1 o1 r1 hr g2 h2 o2
 go_wp2
 go_ret;exact⟨A',c',rfl,o3,hb⟩
def zhe(xs:List Int)(w:World)(e:Ending)(w':World):Prop:=
 ∃A c,e= .returned (.slice A xs.length c)∧w'.ownsRow w.heap.size 3 1 (.slice A xs.length c) xs.length (cellsI xs)∧Below w.heap.size w w'
theorem za1(a:Int)(w:World):Calls Tryz.prog 47 #[.slice (some ⟨w.heap.size,0,none⟩) 1 1] (w.alloc (.cells #[.int .i64 a] 3)) (zhe [a] w):=by
 have y:(w.alloc (.cells #[.int .i64 a] 3)).heap.size=w.heap.size+1:=by simp
 have b:=bA_ w (.cells #[.int .i64 a] 3);have r:Rd (w.alloc (.cells #[.int .i64 a] 3)) (w.heap.size+1) (some ⟨w.heap.size,0,none⟩) (cellsI [a]):=zal w _ rfl 3 (cellsI [a]);generalize w.alloc (.cells #[.int .i64 a] 3)=W at*;refine(ports_any [a] (some ⟨w.heap.size,0,none⟩) 1 1 W rfl (by omega) (r.more (by omega))).mono ?_
 rintro e w' ⟨A,c,rfl,o,b'⟩;exact⟨A,c,rfl,World.ownsRow.mono o (by omega),b.trans (b'.mono (by omega))⟩
theorem zkR(a a':Int)(w:World):Calls Tryz.prog 47 #[.slice (some ⟨w.heap.size,0,none⟩) 2 2] (w.alloc (.cells #[.int .i64 a, .int .i64 a'] 3)) (zhe [a,a'] w):=by
 have y:(w.alloc (.cells #[.int .i64 a, .int .i64 a'] 3)).heap.size=w.heap.size+1:=by simp
 have b:=bA_ w (.cells #[.int .i64 a, .int .i64 a'] 3);have r:Rd (w.alloc (.cells #[.int .i64 a, .int .i64 a'] 3)) (w.heap.size+1) (some ⟨w.heap.size,0,none⟩) (cellsI [a,a']):=zal w _ rfl 3 (cellsI [a,a']);generalize w.alloc (.cells #[.int .i64 a, .int .i64 a'] 3)=W at*;refine(ports_any [a,a'] (some ⟨w.heap.size,0,none⟩) 2 2 W rfl (by omega) (r.more (by omega))).mono ?_
 rintro e w' ⟨A,c,rfl,o,b'⟩;exact⟨A,c,rfl,World.ownsRow.mono o (by omega),b.trans (b'.mono (by omega))⟩
def zfa(m:Int)(k:Nat):Nat→Int:=fun j=>if j<k then m else 0
theorem zmc(m:Int)(k:Nat):upd (zfa m k) k m=zfa m (k+1):=by
 funext j
 unfold zfa;by_cases h:j=k
 ·subst h;rw[zaW,if_pos (by omega)]
 ·rw[zaI h];by_cases h2:j<k
  ·rw[if_pos h2,if_pos (by omega)]
  ·rw[if_neg h2,if_neg (by omega)]
theorem znE(m:Int)(n:Nat):rowF (zfa m n) n=List.replicate n m:=by
 refine zaf fun k=>?_
 by_cases h:k<n
 ·rw[zdu _ h,zbh,if_pos h];unfold zfa;rw[if_pos h]
 ·rw[zD (by rw[zaS];omega),zD (by rw[zK];omega)]
theorem zfQ(n:Nat)(m:Int)(w:World)(hn:n≤100):Calls Tryz.prog 48 #[.int .i64 n, .int .i64 m] w (zhe (List.replicate n m) w):=by
 have hmk:=run_make_row' (P:= Tryz.prog) 36 3 (.int .i64 0) 8 Tryz.underlying36 zas rfl .i64 .i64 n (by omega) (by omega)
 rw[zez]at hmk;have b0:=bA_ w (.cells (cellsI (rowF (fun _=>0) n)).toArray 3)
 have o0:=zbL w _ rfl 3 (cellsI (rowF (fun _=>0) n)) n (by rw[cellsI_length,zaS]) (by unfold maxLen;omega)
 have e0:(fun _=>0:Nat→Int)=zfa m 0:=by funext j;unfold zfa;simp
 go_enter Tryz.func48, Tryz.ntmps48
 go_wp2_with fail
 go_loopw [11] (fun i wr=>∃k:Nat,k≤n∧i= .int .i64 k∧Below w.heap.size w wr∧wr.ownsRow w.heap.size 3 1 (.slice (some ⟨w.heap.size,0,none⟩) n n) n (cellsI (rowF (zfa m k) n))) (fun i _=>n-(intOf i).toNat)
 case atStart=>exact⟨0,by omega,rfl,b0,by rw[←e0];exact o0⟩
 case round=>
  clear b0 o0 hmk e0;obtain⟨k,hk,rfl,hb,ho⟩:=hrel;by_cases hlt:k<n
  ·have fro:=ho.frozenAt k;have hcv:=zbK ho hlt;have st:=(ho.stored k (.int .i64 m)).1;rw[zcP,zdU,zmc]at st;have b2:=hb.setCell (p:=⟨w.heap.size,k,none⟩) lR_ (.int .i64 m);have h1:(0:Int)≤(k:Int):=by omega
   have h2:(k:Int)<(n:Int):=by omega
   have HS:=Lh st;have HB:=Lh b2;clear st b2 ho hb
   go_wp2_with fail
   go_roundw
   case rel=>exact⟨k+1,by omega,by go_num,HB.out,HS.out⟩
   case measure=>simp[intOf];omega
  ·obtain rfl:k=n:=by omega
   rw[znE]at ho;have hln:(List.replicate k m).length=k:=zK
   go_wp2_with fail
   go_ret;exact⟨some ⟨w.heap.size,0,none⟩,k,by rw[hln];rfl,by rw[hln];exact ho,hb⟩
def ShapeOut(I O:List Int)(E:Int)(w:World)(e:Ending)(w':World):Prop:=
 ∃A c A' c',e= .returned (.tuple #[.slice A I.length c, .slice A' O.length c', .int .i64 E])∧w'.ownsRow w.heap.size 3 1 (.slice A I.length c) I.length (cellsI I)∧
  w'.ownsRow w.heap.size 3 1 (.slice A' O.length c') O.length (cellsI O)∧Below w.heap.size w w'
theorem zdB{l:Nat}{n m:Int}(h:pairB l n m=true):1≤n∧n≤16∧1≤m∧m≤64∧n*m≤64:=by
 unfold pairB withinB at h;simp at h;omega
theorem zjS(tag:Int)(ps:List Int)(P:Option Addr)(l c:Nat)(I O:List Int)(E:Int)(w:World)(ht:1≤tag∧tag≤4)(hl:ps.length=l)(hf:AllFit ps)(hr:Rd w w.heap.size P (cellsI ps))(hm:l≤maxLen)(hR:shapeR tag ps=(I,O,E)):
  Calls Tryz.prog 22 #[.int .u8 tag, .slice P l c] w (ShapeOut I O E w):=by
 unfold maxLen at hm;unfold shapeR at hR;rw[if_neg (by omega),hl]at hR
 obtain⟨n,hn⟩:∃n,ps[0]?.getD 0=n:=⟨_,rfl⟩;obtain⟨m,hmm⟩:∃m,ps[1]?.getD 0=m:=⟨_,rfl⟩;obtain⟨s,hs⟩:∃s,decide (l=1)=s:=⟨_,rfl⟩;obtain⟨p,hp⟩:∃p,pairB l n m=p:=⟨_,rfl⟩;rw[hn,hmm,hs,hp]at hR;have HR:=Lh hR;have HN:=Lh hn;have HM:=Lh hmm;have HS:=Lh hs;have HP:=Lh hp;clear hR hn hmm hs hp
 go_enter Tryz.func22, Tryz.ntmps22
 obtain⟨t0,ht0⟩:∃t,decide (0<l)=t:=⟨_,rfl⟩;have ht0':decide ((0:Int)<(l:Int))=t0:=by rw[←ht0,zav];simp
 have HT0:=Lh ht0
 go_upto_if 19 with fail
 clear ht0 ht0'
 go_cut [7] (fun a wx=>wx=w∧a= .int .i64 n)
 case first=>
  cases t0 with
  |true=>
   have h:=of_decide_eq_true HT0.out;obtain⟨b,off,x,rfl,-,-,hc,-,hxx⟩:=hr.at_ hf (k:=0) (by omega)
   have hnx:n=x:=by rw[←HN.out,hxx.out];rfl
   subst hnx;rw[zab]at hc;have h1:(0:Int)<(l:Int):=by omega
   go_wp2_with fail
   go_meet;exact⟨rfl,rfl⟩
  |false=>
   have hnx:n=0:=by have h:=of_decide_eq_false HT0.out;rw[←HN.out,zD (by omega)];rfl
   have Hx:=Lh hnx;clear hnx
   go_wp2_with fail
   go_meet;exact⟨rfl,by rw[Hx.out]⟩
 case rest=>
  obtain⟨rfl,rfl⟩:=hcut;obtain⟨t1,ht1⟩:∃t,decide (1<l)=t:=⟨_,rfl⟩;have ht1':decide ((1:Int)<(l:Int))=t1:=by rw[←ht1,zav];simp;omega
  have HT1:=Lh ht1
  go_upto_if 25 with fail
  clear ht1 ht1'
  go_cut [8] (fun a wx=>wx=wc∧a= .int .i64 m)
  case first=>
   cases t1 with
   |true=>
    have h:=of_decide_eq_true HT1.out;obtain⟨b,off,x,rfl,-,-,hc,-,hxx⟩:=hr.at_ hf (k:=1) (by omega)
    have hnx:m=x:=by rw[←HM.out,hxx.out];rfl
    subst hnx;have h1:(1:Int)<(l:Int):=by omega
    go_wp2_with fail
    go_meet;exact⟨rfl,rfl⟩
   |false=>
    have hnx:m=0:=by have h:=of_decide_eq_false HT1.out;rw[←HM.out,zD (by omega)];rfl
    have Hx:=Lh hnx;clear hnx
    go_wp2_with fail
    go_meet;exact⟨rfl,by rw[Hx.out]⟩
  case rest=>
  obtain⟨rfl,rfl⟩:=hcut;have hls:((l:Int)==1)=s:=by rw[←HS.out,zav];simp;omega
  go_upto_region 9 with fail;clear hls
  go_cut [10] (fun a wx=>wx=wc∧a= .bool p)
  case first=>
   by_cases h2:l=2
   ·have g2:((l:Int)==2)=true:=by simp[h2]
    have hp2:pairB l n m=(withinB n 16&&(withinB m 64&&decide (n*m≤64))):=by unfold pairB;rw[decide_eq_true h2,za3]
    have hp3:=HP.out;rw[hp2]at hp3;clear h2 hp2;obtain⟨x,hx⟩:∃x,withinB n 16=x:=⟨_,rfl⟩;obtain⟨y,hy⟩:∃y,withinB m 64=y:=⟨_,rfl⟩;rw[hx,hy]at hp3;have Hx:=Lh hx;have Hy:=Lh hy;have Hp:=Lh hp3;clear hx hy hp3
    go_wp2_with fail;refine(zbq n 16 _).mono ?_
    rintro e wz ⟨rfl,hwz⟩;subst hwz;rw[Hx.out];cases x with
    |true=>
     go_wp2_with fail;refine(zbq m 64 _).mono ?_
     rintro e wz ⟨rfl,hwz⟩;subst hwz;rw[Hy.out];cases y with
     |true=>
      have q1:1≤n∧n≤16:=by have:=Hx.out;unfold withinB at this;simpa using this
      have q2:1≤m∧m≤64:=by have:=Hy.out;unfold withinB at this;simpa using this
      have q3:=zak (show 0≤n by omega) (show 0≤m by omega)
      have q4:=zaC q1.2 q2.2 (show 0≤m by omega) (show(0:Int)≤16 by omega)
      have hw:IntKind.i64.wrap (n*m)=n*m:=IntWalk.i64_in _ (by omega)
      have hd:decide (n*m≤64)=p:=by have:=Hp.out;simpa using this
      clear q1 q2 q3 q4
      go_wp2_with fail
      go_meet;exact⟨rfl,rfl⟩
     |false=>
      obtain rfl:p=false:=by have:=Hp.out;simpa using this.symm
      go_wp2_with fail
      go_meet;exact⟨rfl,rfl⟩
    |false=>
     obtain rfl:p=false:=by have:=Hp.out;simpa using this.symm
     go_wp2_with fail
     go_meet;exact⟨rfl,rfl⟩
   ·have g2:((l:Int)==2)=false:=by simp;omega
    obtain rfl:p=false:=by have:=HP.out;unfold pairB at this;rw[decide_eq_false h2]at this;exact this.symm
    clear h2
    go_wp2_with fail
    go_meet;exact⟨rfl,rfl⟩
  case rest=>
  obtain⟨rfl,rfl⟩:=hcut;rcases(show tag=1∨tag=2∨tag=3∨tag=4 by omega)with rfl|rfl|rfl|rfl
  ·
   go_wp2_with fail;refine(zbq (l:Int) 16 _).mono ?_
   rintro e wz ⟨rfl,hwz⟩;subst hwz;obtain⟨v,hv⟩:∃v,withinB (l:Int) 16=v:=⟨_,rfl⟩;rw[hv];have Hv:=Lh hv;clear hv;cases v with
   |true=>
    obtain⟨rfl,rfl,rfl⟩:I=[1]∧O=[1]∧E=0:=by
     have h:(([1]:List Int),([1]:List Int),(0:Int))=(I,O,E):=by rw[←HR.out];simp[zZ,Hv.out]
     injection h with h1 h2
     injection h2 with h2 h3
     exact⟨h1.symm,h2.symm,h3.symm⟩
    go_wp2_with fail;refine(za1 1 wc).mono ?_
    rintro e w1 ⟨A1,c1,rfl,o1,b1⟩
    go_wp2_with fail;refine(za1 1 w1).mono ?_
    rintro e w2 ⟨A2,c2,rfl,o2,b2⟩
    go_wp2_with fail
    go_ret3
    exact⟨A1,c1,A2,c2,by first|rfl|(rw[zK];rfl),own_below o1 b2,World.ownsRow.mono o2 b1.size,b1.trans (b2.mono b1.size)⟩
   |false=>
    obtain⟨rfl,rfl,rfl⟩:I=[]∧O=[]∧E=61:=by
     have h:(([]:List Int),([]:List Int),(61:Int))=(I,O,E):=by rw[←HR.out];simp[zZ,Hv.out]
     injection h with h1 h2
     injection h2 with h2 h3
     exact⟨h1.symm,h2.symm,h3.symm⟩
    go_wp2_with fail
    go_ret3
    exact⟨none,0,none,0,rfl,zr _ _ _ _,zr _ _ _ _,zm _ _⟩
  ·
   cases s with
   |true=>
    go_wp2_with fail;refine(zbq n 64 _).mono ?_
    rintro e wz ⟨rfl,hwz⟩;subst hwz;obtain⟨v,hv⟩:∃v,withinB n 64=v:=⟨_,rfl⟩;rw[hv];have Hv:=Lh hv;clear hv;cases v with
    |true=>
     obtain⟨rfl,rfl,rfl⟩:I=[1]∧O=[n]∧E=0:=by
      have h:(([1]:List Int),([n]:List Int),(0:Int))=(I,O,E):=by rw[←HR.out];simp[zZ,Hv.out]
      injection h with h1 h2
      injection h2 with h2 h3
      exact⟨h1.symm,h2.symm,h3.symm⟩
     go_wp2_with fail;refine(za1 1 wc).mono ?_
     rintro e w1 ⟨A1,c1,rfl,o1,b1⟩
     go_wp2_with fail;refine(za1 n w1).mono ?_
     rintro e w2 ⟨A2,c2,rfl,o2,b2⟩
     go_wp2_with fail
     go_ret3
     exact⟨A1,c1,A2,c2,by first|rfl|(rw[zK];rfl),own_below o1 b2,World.ownsRow.mono o2 b1.size,b1.trans (b2.mono b1.size)⟩
    |false=>
     obtain⟨rfl,rfl,rfl⟩:I=[]∧O=[]∧E=61:=by
      have h:(([]:List Int),([]:List Int),(61:Int))=(I,O,E):=by rw[←HR.out];simp[zZ,Hv.out]
      injection h with h1 h2
      injection h2 with h2 h3
      exact⟨h1.symm,h2.symm,h3.symm⟩
     go_wp2_with fail
     go_ret3
     exact⟨none,0,none,0,rfl,zr _ _ _ _,zr _ _ _ _,zm _ _⟩
   |false=>
    obtain⟨rfl,rfl,rfl⟩:I=[]∧O=[]∧E=61:=by
     have h:(([]:List Int),([]:List Int),(61:Int))=(I,O,E):=by rw[←HR.out];simp[zZ]
     injection h with h1 h2
     injection h2 with h2 h3
     exact⟨h1.symm,h2.symm,h3.symm⟩
    go_wp2_with fail
    go_ret3
    exact⟨none,0,none,0,rfl,zr _ _ _ _,zr _ _ _ _,zm _ _⟩
  ·
   cases s with
   |true=>
    go_wp2_with fail;refine(zbq n 64 _).mono ?_
    rintro e wz ⟨rfl,hwz⟩;subst hwz;obtain⟨v,hv⟩:∃v,withinB n 64=v:=⟨_,rfl⟩;rw[hv];have Hv:=Lh hv;clear hv;cases v with
    |true=>
     obtain⟨rfl,rfl,rfl⟩:I=[n]∧O=[1]∧E=0:=by
      have h:(([n]:List Int),([1]:List Int),(0:Int))=(I,O,E):=by rw[←HR.out];simp[zZ,Hv.out]
      injection h with h1 h2
      injection h2 with h2 h3
      exact⟨h1.symm,h2.symm,h3.symm⟩
     go_wp2_with fail;refine(za1 n wc).mono ?_
     rintro e w1 ⟨A1,c1,rfl,o1,b1⟩
     go_wp2_with fail;refine(za1 1 w1).mono ?_
     rintro e w2 ⟨A2,c2,rfl,o2,b2⟩
     go_wp2_with fail
     go_ret3
     exact⟨A1,c1,A2,c2,by first|rfl|(rw[zK];rfl),own_below o1 b2,World.ownsRow.mono o2 b1.size,b1.trans (b2.mono b1.size)⟩
    |false=>
     obtain⟨rfl,rfl,rfl⟩:I=[]∧O=[]∧E=61:=by
      have h:(([]:List Int),([]:List Int),(61:Int))=(I,O,E):=by rw[←HR.out];simp[zZ,Hv.out]
      injection h with h1 h2
      injection h2 with h2 h3
      exact⟨h1.symm,h2.symm,h3.symm⟩
     go_wp2_with fail
     go_ret3
     exact⟨none,0,none,0,rfl,zr _ _ _ _,zr _ _ _ _,zm _ _⟩
   |false=>
    obtain⟨rfl,rfl,rfl⟩:I=[]∧O=[]∧E=61:=by
     have h:(([]:List Int),([]:List Int),(61:Int))=(I,O,E):=by rw[←HR.out];simp[zZ]
     injection h with h1 h2
     injection h2 with h2 h3
     exact⟨h1.symm,h2.symm,h3.symm⟩
    go_wp2_with fail
    go_ret3
    exact⟨none,0,none,0,rfl,zr _ _ _ _,zr _ _ _ _,zm _ _⟩
  ·
   cases p with
   |true=>
    obtain⟨hn1,hn2,hm1,hm2,hnm⟩:=zdB HP.out;obtain⟨k,rfl⟩:∃k:Nat,n=k:=⟨n.toNat,by omega⟩
    have hpos:=zak (show(0:Int)≤k by omega) (show 0≤m by omega)
    have hw:IntKind.i64.wrap ((k:Int)*m)=(k:Int)*m:=IntWalk.i64_in _ (by omega)
    obtain⟨rfl,rfl,rfl⟩:I=(List.replicate k m)∧O=[(k:Int)*m]∧E=0:=by
     have h:(((List.replicate k m):List Int),([(k:Int)*m]:List Int),(0:Int))=(I,O,E):=by rw[←HR.out];simp[zZ]
     injection h with h1 h2
     injection h2 with h2 h3
     exact⟨h1.symm,h2.symm,h3.symm⟩
    go_wp2_with fail;refine(zfQ k m wc (by omega)).mono ?_
    rintro e w1 ⟨A1,c1,rfl,o1,b1⟩
    go_wp2_with fail;refine(za1 ((k:Int)*m) w1).mono ?_
    rintro e w2 ⟨A2,c2,rfl,o2,b2⟩
    go_wp2_with fail
    go_ret3
    exact⟨A1,c1,A2,c2,by first|rfl|(rw[zK];rfl),own_below o1 b2,World.ownsRow.mono o2 b1.size,b1.trans (b2.mono b1.size)⟩
   |false=>
    obtain⟨rfl,rfl,rfl⟩:I=[]∧O=[]∧E=61:=by
     have h:(([]:List Int),([]:List Int),(61:Int))=(I,O,E):=by rw[←HR.out];simp[zZ]
     injection h with h1 h2
     injection h2 with h2 h3
     exact⟨h1.symm,h2.symm,h3.symm⟩
    go_wp2_with fail
    go_ret3
    exact⟨none,0,none,0,rfl,zr _ _ _ _,zr _ _ _ _,zm _ _⟩
theorem shape_walk2(tag:Int)(ps:List Int)(P:Option Addr)(l c:Nat)(I O:List Int)(E:Int)(w:World)(ht:5≤tag∧tag≤8)(hl:ps.length=l)(hf:AllFit ps)(hr:Rd w w.heap.size P (cellsI ps))(hm:l≤maxLen)(hR:shapeR tag ps=(I,O,E)):
  Calls Tryz.prog 22 #[.int .u8 tag, .slice P l c] w (ShapeOut I O E w):=by
 unfold maxLen at hm;unfold shapeR at hR;rw[if_neg (by omega),hl]at hR
 obtain⟨n,hn⟩:∃n,ps[0]?.getD 0=n:=⟨_,rfl⟩;obtain⟨m,hmm⟩:∃m,ps[1]?.getD 0=m:=⟨_,rfl⟩;obtain⟨s,hs⟩:∃s,decide (l=1)=s:=⟨_,rfl⟩;obtain⟨p,hp⟩:∃p,pairB l n m=p:=⟨_,rfl⟩;rw[hn,hmm,hs,hp]at hR;have HR:=Lh hR;have HN:=Lh hn;have HM:=Lh hmm;have HS:=Lh hs;have HP:=Lh hp;clear hR hn hmm hs hp
 go_enter Tryz.func22, Tryz.ntmps22
 obtain⟨t0,ht0⟩:∃t,decide (0<l)=t:=⟨_,rfl⟩;have ht0':decide ((0:Int)<(l:Int))=t0:=by rw[←ht0,zav];simp
 have HT0:=Lh ht0
 go_upto_if 19 with fail
 clear ht0 ht0'
 go_cut [7] (fun a wx=>wx=w∧a= .int .i64 n)
 case first=>
  cases t0 with
  |true=>
   have h:=of_decide_eq_true HT0.out;obtain⟨b,off,x,rfl,-,-,hc,-,hxx⟩:=hr.at_ hf (k:=0) (by omega)
   have hnx:n=x:=by rw[←HN.out,hxx.out];rfl
   subst hnx;rw[zab]at hc;have h1:(0:Int)<(l:Int):=by omega
   go_wp2_with fail
   go_meet;exact⟨rfl,rfl⟩
  |false=>
   have hnx:n=0:=by have h:=of_decide_eq_false HT0.out;rw[←HN.out,zD (by omega)];rfl
   have Hx:=Lh hnx;clear hnx
   go_wp2_with fail
   go_meet;exact⟨rfl,by rw[Hx.out]⟩
 case rest=>
  obtain⟨rfl,rfl⟩:=hcut;obtain⟨t1,ht1⟩:∃t,decide (1<l)=t:=⟨_,rfl⟩;have ht1':decide ((1:Int)<(l:Int))=t1:=by rw[←ht1,zav];simp;omega
  have HT1:=Lh ht1
  go_upto_if 25 with fail
  clear ht1 ht1'
  go_cut [8] (fun a wx=>wx=wc∧a= .int .i64 m)
  case first=>
   cases t1 with
   |true=>
    have h:=of_decide_eq_true HT1.out;obtain⟨b,off,x,rfl,-,-,hc,-,hxx⟩:=hr.at_ hf (k:=1) (by omega)
    have hnx:m=x:=by rw[←HM.out,hxx.out];rfl
    subst hnx;have h1:(1:Int)<(l:Int):=by omega
    go_wp2_with fail
    go_meet;exact⟨rfl,rfl⟩
   |false=>
    have hnx:m=0:=by have h:=of_decide_eq_false HT1.out;rw[←HM.out,zD (by omega)];rfl
    have Hx:=Lh hnx;clear hnx
    go_wp2_with fail
    go_meet;exact⟨rfl,by rw[Hx.out]⟩
  case rest=>
  obtain⟨rfl,rfl⟩:=hcut;have hls:((l:Int)==1)=s:=by rw[←HS.out,zav];simp;omega
  go_upto_region 9 with fail;clear hls
  go_cut [10] (fun a wx=>wx=wc∧a= .bool p)
  case first=>
   by_cases h2:l=2
   ·have g2:((l:Int)==2)=true:=by simp[h2]
    have hp2:pairB l n m=(withinB n 16&&(withinB m 64&&decide (n*m≤64))):=by unfold pairB;rw[decide_eq_true h2,za3]
    have hp3:=HP.out;rw[hp2]at hp3;clear h2 hp2;obtain⟨x,hx⟩:∃x,withinB n 16=x:=⟨_,rfl⟩;obtain⟨y,hy⟩:∃y,withinB m 64=y:=⟨_,rfl⟩;rw[hx,hy]at hp3;have Hx:=Lh hx;have Hy:=Lh hy;have Hp:=Lh hp3;clear hx hy hp3
    go_wp2_with fail;refine(zbq n 16 _).mono ?_
    rintro e wz ⟨rfl,hwz⟩;subst hwz;rw[Hx.out];cases x with
    |true=>
     go_wp2_with fail;refine(zbq m 64 _).mono ?_
     rintro e wz ⟨rfl,hwz⟩;subst hwz;rw[Hy.out];cases y with
     |true=>
      have q1:1≤n∧n≤16:=by have:=Hx.out;unfold withinB at this;simpa using this
      have q2:1≤m∧m≤64:=by have:=Hy.out;unfold withinB at this;simpa using this
      have q3:=zak (show 0≤n by omega) (show 0≤m by omega)
      have q4:=zaC q1.2 q2.2 (show 0≤m by omega) (show(0:Int)≤16 by omega)
      have hw:IntKind.i64.wrap (n*m)=n*m:=IntWalk.i64_in _ (by omega)
      have hd:decide (n*m≤64)=p:=by have:=Hp.out;simpa using this
      clear q1 q2 q3 q4
      go_wp2_with fail
      go_meet;exact⟨rfl,rfl⟩
     |false=>
      obtain rfl:p=false:=by have:=Hp.out;simpa using this.symm
      go_wp2_with fail
      go_meet;exact⟨rfl,rfl⟩
    |false=>
     obtain rfl:p=false:=by have:=Hp.out;simpa using this.symm
     go_wp2_with fail
     go_meet;exact⟨rfl,rfl⟩
   ·have g2:((l:Int)==2)=false:=by simp;omega
    obtain rfl:p=false:=by have:=HP.out;unfold pairB at this;rw[decide_eq_false h2]at this;exact this.symm
    clear h2
    go_wp2_with fail
    go_meet;exact⟨rfl,rfl⟩
  case rest=>
  obtain⟨rfl,rfl⟩:=hcut;rcases(show tag=5∨tag=6∨tag=7∨tag=8 by omega)with rfl|rfl|rfl|rfl
  ·
   cases p with
   |true=>
    obtain⟨hn1,hn2,hm1,hm2,hnm⟩:=zdB HP.out;obtain⟨k,rfl⟩:∃k:Nat,n=k:=⟨n.toNat,by omega⟩
    have hpos:=zak (show(0:Int)≤k by omega) (show 0≤m by omega)
    have hw:IntKind.i64.wrap ((k:Int)*m)=(k:Int)*m:=IntWalk.i64_in _ (by omega)
    obtain⟨rfl,rfl,rfl⟩:I=[(k:Int)*m]∧O=(List.replicate k m)∧E=0:=by
     have h:(([(k:Int)*m]:List Int),((List.replicate k m):List Int),(0:Int))=(I,O,E):=by rw[←HR.out];simp[zZ]
     injection h with h1 h2
     injection h2 with h2 h3
     exact⟨h1.symm,h2.symm,h3.symm⟩
    go_wp2_with fail;refine(za1 ((k:Int)*m) wc).mono ?_
    rintro e w1 ⟨A1,c1,rfl,o1,b1⟩
    go_wp2_with fail;refine(zfQ k m w1 (by omega)).mono ?_
    rintro e w2 ⟨A2,c2,rfl,o2,b2⟩
    go_wp2_with fail
    go_ret3
    exact⟨A1,c1,A2,c2,by first|rfl|(rw[zK];rfl),own_below o1 b2,World.ownsRow.mono o2 b1.size,b1.trans (b2.mono b1.size)⟩
   |false=>
    obtain⟨rfl,rfl,rfl⟩:I=[]∧O=[]∧E=61:=by
     have h:(([]:List Int),([]:List Int),(61:Int))=(I,O,E):=by rw[←HR.out];simp[zZ]
     injection h with h1 h2
     injection h2 with h2 h3
     exact⟨h1.symm,h2.symm,h3.symm⟩
    go_wp2_with fail
    go_ret3
    exact⟨none,0,none,0,rfl,zr _ _ _ _,zr _ _ _ _,zm _ _⟩
  ·
   cases s with
   |true=>
    go_wp2_with fail;refine(zbq n 16 _).mono ?_
    rintro e wz ⟨rfl,hwz⟩;subst hwz;obtain⟨v,hv⟩:∃v,withinB n 16=v:=⟨_,rfl⟩;rw[hv];have Hv:=Lh hv;clear hv;cases v with
    |true=>
     have hnb:1≤n∧n≤16:=by have:=Hv.out;unfold withinB at this;simpa using this
     obtain⟨k,rfl⟩:∃k:Nat,n=k:=⟨n.toNat,by omega⟩
     obtain⟨rfl,rfl,rfl⟩:I=(List.replicate k 1)∧O=[1]∧E=0:=by
      have h:(((List.replicate k 1):List Int),([1]:List Int),(0:Int))=(I,O,E):=by rw[←HR.out];simp[zZ,Hv.out]
      injection h with h1 h2
      injection h2 with h2 h3
      exact⟨h1.symm,h2.symm,h3.symm⟩
     go_wp2_with fail;refine(zfQ k 1 wc (by omega)).mono ?_
     rintro e w1 ⟨A1,c1,rfl,o1,b1⟩
     go_wp2_with fail;refine(za1 1 w1).mono ?_
     rintro e w2 ⟨A2,c2,rfl,o2,b2⟩
     go_wp2_with fail
     go_ret3
     exact⟨A1,c1,A2,c2,by first|rfl|(rw[zK];rfl),own_below o1 b2,World.ownsRow.mono o2 b1.size,b1.trans (b2.mono b1.size)⟩
    |false=>
     obtain⟨rfl,rfl,rfl⟩:I=[]∧O=[]∧E=61:=by
      have h:(([]:List Int),([]:List Int),(61:Int))=(I,O,E):=by rw[←HR.out];simp[zZ,Hv.out]
      injection h with h1 h2
      injection h2 with h2 h3
      exact⟨h1.symm,h2.symm,h3.symm⟩
     go_wp2_with fail
     go_ret3
     exact⟨none,0,none,0,rfl,zr _ _ _ _,zr _ _ _ _,zm _ _⟩
   |false=>
    obtain⟨rfl,rfl,rfl⟩:I=[]∧O=[]∧E=61:=by
     have h:(([]:List Int),([]:List Int),(61:Int))=(I,O,E):=by rw[←HR.out];simp[zZ]
     injection h with h1 h2
     injection h2 with h2 h3
     exact⟨h1.symm,h2.symm,h3.symm⟩
    go_wp2_with fail
    go_ret3
    exact⟨none,0,none,0,rfl,zr _ _ _ _,zr _ _ _ _,zm _ _⟩
  ·
   by_cases h0:l=0
   ·have h1:((l:Int)==0)=true:=by simp[h0]
    have H0:=Lh h0;clear h0;obtain⟨rfl,rfl,rfl⟩:I=[1,1]∧O=[1]∧E=0:=by
     have h:(([1,1]:List Int),([1]:List Int),(0:Int))=(I,O,E):=by rw[←HR.out];simp[zZ,H0.out]
     injection h with h1 h2
     injection h2 with h2 h3
     exact⟨h1.symm,h2.symm,h3.symm⟩
    go_wp2_with fail;refine(zkR 1 1 wc).mono ?_
    rintro e w1 ⟨A1,c1,rfl,o1,b1⟩
    go_wp2_with fail;refine(za1 1 w1).mono ?_
    rintro e w2 ⟨A2,c2,rfl,o2,b2⟩
    go_wp2_with fail
    go_ret3
    exact⟨A1,c1,A2,c2,by first|rfl|(rw[zK];rfl),own_below o1 b2,World.ownsRow.mono o2 b1.size,b1.trans (b2.mono b1.size)⟩
   ·have h1:((l:Int)==0)=false:=by simp[h0]
    obtain⟨rfl,rfl,rfl⟩:I=[]∧O=[]∧E=61:=by
     have h:(([]:List Int),([]:List Int),(61:Int))=(I,O,E):=by rw[←HR.out];simp[zZ,h0]
     injection h with h1 h2
     injection h2 with h2 h3
     exact⟨h1.symm,h2.symm,h3.symm⟩
    go_wp2_with fail
    go_ret3
    exact⟨none,0,none,0,rfl,zr _ _ _ _,zr _ _ _ _,zm _ _⟩
  ·
   by_cases h0:l=0
   ·have h1:((l:Int)==0)=true:=by simp[h0]
    have H0:=Lh h0;clear h0;obtain⟨rfl,rfl,rfl⟩:I=[1]∧O=[1]∧E=0:=by
     have h:(([1]:List Int),([1]:List Int),(0:Int))=(I,O,E):=by rw[←HR.out];simp[zZ,H0.out]
     injection h with h1 h2
     injection h2 with h2 h3
     exact⟨h1.symm,h2.symm,h3.symm⟩
    go_wp2_with fail;refine(za1 1 wc).mono ?_
    rintro e w1 ⟨A1,c1,rfl,o1,b1⟩
    go_wp2_with fail;refine(za1 1 w1).mono ?_
    rintro e w2 ⟨A2,c2,rfl,o2,b2⟩
    go_wp2_with fail
    go_ret3
    exact⟨A1,c1,A2,c2,by first|rfl|(rw[zK];rfl),own_below o1 b2,World.ownsRow.mono o2 b1.size,b1.trans (b2.mono b1.size)⟩
   ·have h1:((l:Int)==0)=false:=by simp[h0]
    obtain⟨rfl,rfl,rfl⟩:I=[]∧O=[]∧E=61:=by
     have h:(([]:List Int),([]:List Int),(61:Int))=(I,O,E):=by rw[←HR.out];simp[zZ,h0]
     injection h with h1 h2
     injection h2 with h2 h3
     exact⟨h1.symm,h2.symm,h3.symm⟩
    go_wp2_with fail
    go_ret3
    exact⟨none,0,none,0,rfl,zr _ _ _ _,zr _ _ _ _,zm _ _⟩
theorem shape_walk3(tag:Int)(ps:List Int)(P:Option Addr)(l c:Nat)(I O:List Int)(E:Int)(w:World)(ht:9≤tag∧tag≤11)(hl:ps.length=l)(hf:AllFit ps)(hr:Rd w w.heap.size P (cellsI ps))(hm:l≤maxLen)(hR:shapeR tag ps=(I,O,E)):
  Calls Tryz.prog 22 #[.int .u8 tag, .slice P l c] w (ShapeOut I O E w):=by
 unfold maxLen at hm;unfold shapeR at hR;rw[if_neg (by omega),hl]at hR
 obtain⟨n,hn⟩:∃n,ps[0]?.getD 0=n:=⟨_,rfl⟩;obtain⟨m,hmm⟩:∃m,ps[1]?.getD 0=m:=⟨_,rfl⟩;obtain⟨s,hs⟩:∃s,decide (l=1)=s:=⟨_,rfl⟩;obtain⟨p,hp⟩:∃p,pairB l n m=p:=⟨_,rfl⟩;rw[hn,hmm,hs,hp]at hR;have HR:=Lh hR;have HN:=Lh hn;have HM:=Lh hmm;have HS:=Lh hs;have HP:=Lh hp;clear hR hn hmm hs hp
 go_enter Tryz.func22, Tryz.ntmps22
 obtain⟨t0,ht0⟩:∃t,decide (0<l)=t:=⟨_,rfl⟩;have ht0':decide ((0:Int)<(l:Int))=t0:=by rw[←ht0,zav];simp
 have HT0:=Lh ht0
 go_upto_if 19 with fail
 clear ht0 ht0'
 go_cut [7] (fun a wx=>wx=w∧a= .int .i64 n)
 case first=>
  cases t0 with
  |true=>
   have h:=of_decide_eq_true HT0.out;obtain⟨b,off,x,rfl,-,-,hc,-,hxx⟩:=hr.at_ hf (k:=0) (by omega)
   have hnx:n=x:=by rw[←HN.out,hxx.out];rfl
   subst hnx;rw[zab]at hc;have h1:(0:Int)<(l:Int):=by omega
   go_wp2_with fail
   go_meet;exact⟨rfl,rfl⟩
  |false=>
   have hnx:n=0:=by have h:=of_decide_eq_false HT0.out;rw[←HN.out,zD (by omega)];rfl
   have Hx:=Lh hnx;clear hnx
   go_wp2_with fail
   go_meet;exact⟨rfl,by rw[Hx.out]⟩
 case rest=>
  obtain⟨rfl,rfl⟩:=hcut;obtain⟨t1,ht1⟩:∃t,decide (1<l)=t:=⟨_,rfl⟩;have ht1':decide ((1:Int)<(l:Int))=t1:=by rw[←ht1,zav];simp;omega
  have HT1:=Lh ht1
  go_upto_if 25 with fail
  clear ht1 ht1'
  go_cut [8] (fun a wx=>wx=wc∧a= .int .i64 m)
  case first=>
   cases t1 with
   |true=>
    have h:=of_decide_eq_true HT1.out;obtain⟨b,off,x,rfl,-,-,hc,-,hxx⟩:=hr.at_ hf (k:=1) (by omega)
    have hnx:m=x:=by rw[←HM.out,hxx.out];rfl
    subst hnx;have h1:(1:Int)<(l:Int):=by omega
    go_wp2_with fail
    go_meet;exact⟨rfl,rfl⟩
   |false=>
    have hnx:m=0:=by have h:=of_decide_eq_false HT1.out;rw[←HM.out,zD (by omega)];rfl
    have Hx:=Lh hnx;clear hnx
    go_wp2_with fail
    go_meet;exact⟨rfl,by rw[Hx.out]⟩
  case rest=>
  obtain⟨rfl,rfl⟩:=hcut;have hls:((l:Int)==1)=s:=by rw[←HS.out,zav];simp;omega
  go_upto_region 9 with fail;clear hls
  go_cut [10] (fun a wx=>wx=wc∧a= .bool p)
  case first=>
   by_cases h2:l=2
   ·have g2:((l:Int)==2)=true:=by simp[h2]
    have hp2:pairB l n m=(withinB n 16&&(withinB m 64&&decide (n*m≤64))):=by unfold pairB;rw[decide_eq_true h2,za3]
    have hp3:=HP.out;rw[hp2]at hp3;clear h2 hp2;obtain⟨x,hx⟩:∃x,withinB n 16=x:=⟨_,rfl⟩;obtain⟨y,hy⟩:∃y,withinB m 64=y:=⟨_,rfl⟩;rw[hx,hy]at hp3;have Hx:=Lh hx;have Hy:=Lh hy;have Hp:=Lh hp3;clear hx hy hp3
    go_wp2_with fail;refine(zbq n 16 _).mono ?_
    rintro e wz ⟨rfl,hwz⟩;subst hwz;rw[Hx.out];cases x with
    |true=>
     go_wp2_with fail;refine(zbq m 64 _).mono ?_
     rintro e wz ⟨rfl,hwz⟩;subst hwz;rw[Hy.out];cases y with
     |true=>
      have q1:1≤n∧n≤16:=by have:=Hx.out;unfold withinB at this;simpa using this
      have q2:1≤m∧m≤64:=by have:=Hy.out;unfold withinB at this;simpa using this
      have q3:=zak (show 0≤n by omega) (show 0≤m by omega)
      have q4:=zaC q1.2 q2.2 (show 0≤m by omega) (show(0:Int)≤16 by omega)
      have hw:IntKind.i64.wrap (n*m)=n*m:=IntWalk.i64_in _ (by omega)
      have hd:decide (n*m≤64)=p:=by have:=Hp.out;simpa using this
      clear q1 q2 q3 q4
      go_wp2_with fail
      go_meet;exact⟨rfl,rfl⟩
     |false=>
      obtain rfl:p=false:=by have:=Hp.out;simpa using this.symm
      go_wp2_with fail
      go_meet;exact⟨rfl,rfl⟩
    |false=>
     obtain rfl:p=false:=by have:=Hp.out;simpa using this.symm
     go_wp2_with fail
     go_meet;exact⟨rfl,rfl⟩
   ·have g2:((l:Int)==2)=false:=by simp;omega
    obtain rfl:p=false:=by have:=HP.out;unfold pairB at this;rw[decide_eq_false h2]at this;exact this.symm
    clear h2
    go_wp2_with fail
    go_meet;exact⟨rfl,rfl⟩
  case rest=>
  obtain⟨rfl,rfl⟩:=hcut;rcases(show tag=9∨tag=10∨tag=11 by omega)with rfl|rfl|rfl
  ·
   cases s with
   |true=>
    go_wp2_with fail;refine(zbq n 16 _).mono ?_
    rintro e wz ⟨rfl,hwz⟩;subst hwz;obtain⟨v,hv⟩:∃v,withinB n 16=v:=⟨_,rfl⟩;rw[hv];have Hv:=Lh hv;clear hv;cases v with
    |true=>
     have hnb:1≤n∧n≤16:=by have:=Hv.out;unfold withinB at this;simpa using this
     obtain⟨k,rfl⟩:∃k:Nat,n=k:=⟨n.toNat,by omega⟩
     obtain⟨rfl,rfl,rfl⟩:I=[1]∧O=(List.replicate k 1)∧E=0:=by
      have h:(([1]:List Int),((List.replicate k 1):List Int),(0:Int))=(I,O,E):=by rw[←HR.out];simp[zZ,Hv.out]
      injection h with h1 h2
      injection h2 with h2 h3
      exact⟨h1.symm,h2.symm,h3.symm⟩
     go_wp2_with fail;refine(za1 1 wc).mono ?_
     rintro e w1 ⟨A1,c1,rfl,o1,b1⟩
     go_wp2_with fail;refine(zfQ k 1 w1 (by omega)).mono ?_
     rintro e w2 ⟨A2,c2,rfl,o2,b2⟩
     go_wp2_with fail
     go_ret3
     exact⟨A1,c1,A2,c2,by first|rfl|(rw[zK];rfl),own_below o1 b2,World.ownsRow.mono o2 b1.size,b1.trans (b2.mono b1.size)⟩
    |false=>
     obtain⟨rfl,rfl,rfl⟩:I=[]∧O=[]∧E=61:=by
      have h:(([]:List Int),([]:List Int),(61:Int))=(I,O,E):=by rw[←HR.out];simp[zZ,Hv.out]
      injection h with h1 h2
      injection h2 with h2 h3
      exact⟨h1.symm,h2.symm,h3.symm⟩
     go_wp2_with fail
     go_ret3
     exact⟨none,0,none,0,rfl,zr _ _ _ _,zr _ _ _ _,zm _ _⟩
   |false=>
    obtain⟨rfl,rfl,rfl⟩:I=[]∧O=[]∧E=61:=by
     have h:(([]:List Int),([]:List Int),(61:Int))=(I,O,E):=by rw[←HR.out];simp[zZ]
     injection h with h1 h2
     injection h2 with h2 h3
     exact⟨h1.symm,h2.symm,h3.symm⟩
    go_wp2_with fail
    go_ret3
    exact⟨none,0,none,0,rfl,zr _ _ _ _,zr _ _ _ _,zm _ _⟩
  ·
   by_cases h0:l=2
   ·have h1:((l:Int)==2)=true:=by simp[h0]
    have H0:=Lh h0;clear h0;obtain⟨rfl,rfl,rfl⟩:I=[]∧O=[1]∧E=0:=by
     have h:(([]:List Int),([1]:List Int),(0:Int))=(I,O,E):=by rw[←HR.out];simp[zZ,H0.out]
     injection h with h1 h2
     injection h2 with h2 h3
     exact⟨h1.symm,h2.symm,h3.symm⟩
    go_wp2_with fail;refine(za1 1 wc).mono ?_
    rintro e w1 ⟨A1,c1,rfl,o1,b1⟩
    go_wp2_with fail
    go_ret3
    exact⟨none,0,A1,c1,rfl,zr _ _ _ _,o1,b1⟩
   ·have h1:((l:Int)==2)=false:=by simp;omega
    obtain⟨rfl,rfl,rfl⟩:I=[]∧O=[]∧E=61:=by
     have h:(([]:List Int),([]:List Int),(61:Int))=(I,O,E):=by rw[←HR.out];simp[zZ,h0]
     injection h with h1 h2
     injection h2 with h2 h3
     exact⟨h1.symm,h2.symm,h3.symm⟩
    go_wp2_with fail
    go_ret3
    exact⟨none,0,none,0,rfl,zr _ _ _ _,zr _ _ _ _,zm _ _⟩
  ·
   cases s with
   |true=>
    go_wp2_with fail;refine(zbq n 64 _).mono ?_
    rintro e wz ⟨rfl,hwz⟩;subst hwz;obtain⟨v,hv⟩:∃v,withinB n 64=v:=⟨_,rfl⟩;rw[hv];have Hv:=Lh hv;clear hv;cases v with
    |true=>
     obtain⟨rfl,rfl,rfl⟩:I=[n]∧O=[]∧E=0:=by
      have h:(([n]:List Int),([]:List Int),(0:Int))=(I,O,E):=by rw[←HR.out];simp[zZ,Hv.out]
      injection h with h1 h2
      injection h2 with h2 h3
      exact⟨h1.symm,h2.symm,h3.symm⟩
     go_wp2_with fail;refine(za1 n wc).mono ?_
     rintro e w1 ⟨A1,c1,rfl,o1,b1⟩
     go_wp2_with fail
     go_ret3
     exact⟨A1,c1,none,0,rfl,o1,zr _ _ _ _,b1⟩
    |false=>
     obtain⟨rfl,rfl,rfl⟩:I=[]∧O=[]∧E=61:=by
      have h:(([]:List Int),([]:List Int),(61:Int))=(I,O,E):=by rw[←HR.out];simp[zZ,Hv.out]
      injection h with h1 h2
      injection h2 with h2 h3
      exact⟨h1.symm,h2.symm,h3.symm⟩
     go_wp2_with fail
     go_ret3
     exact⟨none,0,none,0,rfl,zr _ _ _ _,zr _ _ _ _,zm _ _⟩
   |false=>
    obtain⟨rfl,rfl,rfl⟩:I=[]∧O=[]∧E=61:=by
     have h:(([]:List Int),([]:List Int),(61:Int))=(I,O,E):=by rw[←HR.out];simp[zZ]
     injection h with h1 h2
     injection h2 with h2 h3
     exact⟨h1.symm,h2.symm,h3.symm⟩
    go_wp2_with fail
    go_ret3
    exact⟨none,0,none,0,rfl,zr _ _ _ _,zr _ _ _ _,zm _ _⟩
theorem shape_any(tag:Int)(ps:List Int)(P:Option Addr)(l c:Nat)(w:World)(hl:ps.length=l)(hf:AllFit ps)(hr:Rd w w.heap.size P (cellsI ps))(hm:l≤maxLen):
  Calls Tryz.prog 22 #[.int .u8 tag, .slice P l c] w (ShapeOut (shapeR tag ps).1 (shapeR tag ps).2.1 (shapeR tag ps).2.2 w):=by
 by_cases ht:1≤tag∧tag≤11
 ·by_cases h1:tag≤4
  ·exact zjS tag ps P l c _ _ _ w (by omega) hl hf hr hm rfl
  ·by_cases h2:tag≤8
   ·exact shape_walk2 tag ps P l c _ _ _ w (by omega) hl hf hr hm rfl
   ·exact shape_walk3 tag ps P l c _ _ _ w (by omega) hl hf hr hm rfl
 ·have hR:shapeR tag ps=([],[],60):=by unfold shapeR;rw[if_pos (by omega)]
  rw[hR];clear hR;by_cases h1:tag<1
  ·go_enter Tryz.func22, Tryz.ntmps22
   go_wp2_with fail
   go_ret3
   exact⟨none,0,none,0,rfl,zr _ _ _ _,zr _ _ _ _,zm _ _⟩
  ·have h2:11<tag:=by omega
   clear ht
   go_enter Tryz.func22, Tryz.ntmps22
   go_wp2_with fail
   go_ret3
   exact⟨none,0,none,0,rfl,zr _ _ _ _,zr _ _ _ _,zm _ _⟩
end Go.Proofs.YtpmlljbebdidgaaGreatDoor
