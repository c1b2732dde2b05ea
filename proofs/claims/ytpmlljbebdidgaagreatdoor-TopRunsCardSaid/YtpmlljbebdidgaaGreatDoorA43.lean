/- Lemmas and walks for the claim: Yn, Gm, Eu, Ja, Jb. -/
import Derived.Test.YtpmlljbebdidgaaGreatDoorA0
import Derived.Test.YtpmlljbebdidgaaGreatDoorA42
import Derived.Test.YtpmlljbebdidgaaGreatDoorA27
import Derived.Test.YtpmlljbebdidgaaGreatDoorA11
import Derived.Test.YtpmlljbebdidgaaGreatDoorA33
import Derived.Test.YtpmlljbebdidgaaGreatDoorA34
import Derived.Test.YtpmlljbebdidgaaGreatDoorA29
set_option linter.unusedSimpArgs false
set_option maxRecDepth 100000
set_option maxHeartbeats 8000000
namespace Go.Proofs.YtpmlljbebdidgaaGreatDoor
open Go.RowKit
theorem zm7(n:Int)(ars:List ArcV)(A:Option Addr)(l c:Nat)(w:World)(hl:ars.length=l)(hx:∀a∈ars,a.fit)(hr:Rd w w.heap.size A (cellsA ars))(hml:l≤maxLen)(hc:checkF n ars≠0):
  Calls Tryz.prog 7 #[.agg #[.int .i64 n, .slice A l c]] w (zjD n ars w):=by
 go_enter Tryz.func7, Tryz.ntmps7
 go_upto_region 1 with fail;have BW:=bA_ w (.cells #[.int .i64 n, .slice A l c] 30);have BW:=BW.alloc BW.size (.cells #[.int .u8 0, .slice none 0 0, .slice none 0 0] 39);have kn:=(Blk.new w _ rfl 30 #[.int .i64 n, .slice A l c]).alloc (.cells #[.int .u8 0, .slice none 0 0, .slice none 0 0] 39);have kb:=Blk.new (w.alloc (.cells #[.int .i64 n, .slice A l c] 30)) (w.heap.size+1) (by simp) 39 #[.int .u8 0, .slice none 0 0, .slice none 0 0]
 obtain⟨W0,hW0⟩:∃W,(w.alloc (.cells #[.int .i64 n, .slice A l c] 30)).alloc (.cells #[.int .u8 0, .slice none 0 0, .slice none 0 0] 39)=W:=⟨_,rfl⟩;rw[hW0]at BW kn kb⊢;have hrA:=(hr.below BW lR_).more BW.size;obtain⟨bn,hbn⟩:∃b,w.heap.size=b:=⟨_,rfl⟩;obtain⟨bb,hbb⟩:∃b,bn+1=b:=⟨_,rfl⟩;have HW:=Lh BW;rw[hbn]at kn kb⊢;rw[hbb]at kb⊢;have HBN:=Lh hbn;have HBB:=Lh hbb;clear hW0 BW hr hbn hbb;have n0:=kn.cell 0;have n1:=kn.cell 1;simp at n0 n1
 go_wp2_with fail;refine(zl4 n ars A l c W0 hl hx hrA hml).mono ?_
 rintro e w1 ⟨At,ct,Ah,ch,k,tree,home,rfl,hof,hrt,hrh,hb1⟩;obtain⟨rfl,rfl,rfl⟩:k=checkF n ars∧tree=[]∧home=[]:=by
  rcases hof with⟨-,h1,h2,h3⟩|⟨h,-⟩
  ·exact⟨h1,h2,h3⟩
  ·exact absurd h hc
 obtain⟨q,hq⟩:∃q,checkF n ars=q:=⟨_,rfl⟩;rw[hq]at hc⊢;have HQ:=Lh hq;have hq1:(q !=0)=true:=by simp[hc]
 have kb1:=(kb.below hb1 kb.lt).alloc (.cells #[.slice At 0 ct, .slice Ah 0 ch] 79);have hb2:=hb1.alloc hb1.size (.cells #[.slice At 0 ct, .slice Ah 0 ch] 79);obtain⟨W2,hW2⟩:∃W,w1.alloc (.cells #[.slice At 0 ct, .slice Ah 0 ch] 79)=W:=⟨_,rfl⟩;rw[hW2]at kb1 hb2;have r0:=kb1.cell 0;have r1:=kb1.cell 1;have r2:=kb1.cell 2;have z0:=kb1.frozen 0;have z1:=kb1.frozen 1;have z2:=kb1.frozen 2;simp at r0 r1 r2;have kb5:=((kb1.set 0 (.int .u8 0)).set 1 (.slice none 0 0)).set 2 (.slice none 0 0);simp at kb5;have s0:=kb5.cell 0;have s1:=kb5.cell 1;have s2:=kb5.cell 2;simp at s0 s1 s2;have hbbw:w.heap.size≤bb:=by have:=HBN.out;have:=HBB.out;omega
 have BZ:=Lh ((((HW.out.trans (hb2.mono HW.out.size)).setCell (p:=⟨bb,0,none⟩) hbbw (.int .u8 0)).setCell (p:=⟨bb,1,none⟩) hbbw (.slice none 0 0)).setCell (p:=⟨bb,2,none⟩) hbbw (.slice none 0 0));clear kb5 kb1 hof hrt hrh hb1 hb2 kn kb hrA n0 n1 hq hbbw
 go_wp2_with fail;refine bodyPost_ret (v:= .tuple #[.agg #[.int .u8 0, .slice none 0 0, .slice none 0 0], .int .i64 q]) (by simp[results, Tryz.results7,go_sem,s0,s1,s2]) rfl ?_
 exact⟨0,[],[],q,none,0,none,0,rfl, .inl ⟨by rw[HQ.out];exact hc,HQ.out.symm,rfl,rfl,rfl⟩,fun _=>⟨rfl,rfl⟩,fun _=>⟨rfl,rfl⟩,zr _ _ _ _,zr _ _ _ _,BZ.out⟩
theorem zih(n:Int)(ars:List ArcV)(A:Option Addr)(l c:Nat)(w:World)(hl:ars.length=l)(hx:∀a∈ars,a.fit)(hr:Rd w w.heap.size A (cellsA ars))(hml:l≤maxLen)(hT:Tab w):
  Calls Tryz.prog 7 #[.agg #[.int .i64 n, .slice A l c]] w (zjD n ars w):=by
 by_cases hc:checkF n ars=0
 ·obtain⟨m,rfl⟩:=zg7 hc;exact zon m ars A l c w hl hx hr hT hc
 ·exact zm7 n ars A l c w hl hx hr hml hc
def putO(w:World)(l:List Obj):World:=l.foldl (fun w o=>w.alloc o) w
theorem zh4(w:World)(l:List Obj):(putO w l).heap.size=w.heap.size+l.length:=by
 induction l generalizing w with
 |nil=>rfl
 |cons o l ih=>
  show(putO (w.alloc o) l).heap.size=_
  rw[ih];simp;omega
theorem zhj(w:World)(l:List Obj):Below w.heap.size w (putO w l):=by
 induction l generalizing w with
 |nil=>exact zm _ _
 |cons o l ih=>
  have b:=bA_ w o;exact b.trans ((ih (w.alloc o)).mono b.size)
theorem znK(w:World)(l l':List Obj):putO w (l++l')=putO (putO w l) l':=zbQ
theorem zoN(w:World)(l:List Obj)(k:Nat)(xs:List Value)(t:TypeId)(hk:l[k]?=some (.cells xs.toArray t)):Rd (putO w l) (w.heap.size+l.length) (some ⟨w.heap.size+k,0,none⟩) xs:=by
 obtain⟨hlt,he⟩:=zu.1 hk;have hs:l=l.take k++(.cells xs.toArray t::l.drop (k+1)):=by
  rw[←he,List.getElem_cons_drop,List.take_append_drop]
 have hz:w.heap.size+k=(putO w (l.take k)).heap.size:=by rw[zh4,zaH];omega
 have r1:Rd ((putO w (l.take k)).alloc (.cells xs.toArray t)) (w.heap.size+k+1) (some ⟨w.heap.size+k,0,none⟩) xs:=zal _ _ hz t xs
 have b:=zhj ((putO w (l.take k)).alloc (.cells xs.toArray t)) (l.drop (k+1));have r2:=(r1.below b (by simp;omega)).more (show w.heap.size+k+1≤w.heap.size+l.length by omega)
 have e:putO w l=putO ((putO w (l.take k)).alloc (.cells xs.toArray t)) (l.drop (k+1)):=by
  conv=>lhs;rw[hs,znK]
  rfl
 rw[e];exact r2
def ze3(B:Nat):zB where
 nm:=⟨#[103]⟩
 acts:=[⟨⟨#[97]⟩,8,[],none,0⟩]
 edges:=[⟨0,0,0,0,[],none,0⟩]
 ins:=[]
 outs:=[]
 aA:=some ⟨B,0,none⟩
 cA:=1
 aE:=some ⟨B+1,0,none⟩
 cE:=1
 aI:=none
 cI:=0
 aO:=none
 cO:=0
theorem zdm(B:Nat):checkG (ze3 B)=0:=by kernel_rfl
theorem zhV(B:Nat):garcs (ze3 B)=aw2:=by kernel_rfl
theorem zgc:checkF 1 aw2=0:=by decide
theorem ziL:cR 1 aw2 0=1:=by decide+kernel
theorem zoF:zjC 1 aw2 1 [1] [] 0:=by
 refine .inr ⟨zgc,rfl,1,rfl, .inr (.inr ⟨?_,?_,rfl,?_,rfl⟩)⟩
 ·rintro⟨v,hv,h⟩;obtain rfl:v=0:=by omega
  rw[ziL]at h;omega
 ·intro a ha;simp[aw2]at ha;subst ha;unfold evA;show decide ((1:Int)*(cR 1 aw2 0:Int)=1*(cR 1 aw2 0:Int))=true
  rw[ziL]
  decide
 ·show [1]=[(cR 1 aw2 0:Int)]
  rw[ziL]
  rfl
theorem ziM:zhk 1 aw2 (fun _=>0) [0]:=
 ⟨by decide,by decide,fun v hv=>by simp at hv;omega,fun v hv=>⟨by omega,by omega⟩,fun v hv=>by
  simp at hv
  subst hv;exact⟨0,0,by kernel_rfl,by decide,rfl,rfl,by simp,by decide⟩⟩
theorem zoG:zbX 1 aw2:=by
 obtain⟨m,hm,h⟩:=netOk_of zgc;obtain rfl:m=1:=by omega
 exact h
def awO4:List Obj:=[.cells #[.string ⟨#[97]⟩, .int .u8 8, .slice none 0 0] 72, .cells #[.int .i64 0, .int .i64 0, .int .i64 0, .int .i64 0, .slice none 0 0] 69]
theorem zl0(w:World):(ze3 w.heap.size).good (putO w awO4) (w.heap.size+2):=by
 have r:∀k xs t,awO4[k]?=some (.cells xs.toArray t)→Rd (putO w awO4) (w.heap.size+2) (some ⟨w.heap.size+k,0,none⟩) xs:=fun k xs t h=>zoN w _ k xs t h
 have hm:∀n:Nat,n≤9→n≤maxLen:=fun n h=>by unfold maxLen;omega
 have hs:∀n:Nat,n≤9→n*8≤140737488351232:=fun n h=>by omega
 have ff:∀x:Int,0≤x→x≤9→fits x:=fun x a b=>by unfold fits;omega
 refine⟨hm 1 (by decide),hm 1 (by decide),hm 1 (by decide),hm 0 (by decide),hm 0 (by decide),r 0 _ _ rfl,r 1 _ _ rfl, .inl rfl, .inl rfl,?_,?_,fun x hx=>(by cases hx),fun x hx=>(by cases hx)⟩
 ·intro x hx;simp only[ze3,zV,zcV,or_false]at hx;subst hx;exact⟨hm 1 (by decide),(by decide:(0:Int)≤8∧(8:Int)≤255),zel (xs:=[]) (by decide),hm 0 (by decide),hs 0 (by decide), .inl rfl⟩
 ·intro x hx;simp only[ze3,zV,zcV,or_false]at hx;subst hx;exact⟨ff 0 (by decide) (by decide),ff 0 (by decide) (by decide),ff 0 (by decide) (by decide),ff 0 (by decide) (by decide),zel (xs:=[]) (by decide),hm 0 (by decide),hs 0 (by decide), .inl rfl⟩
theorem zny{W1 w:World}{m B:Nat}{caps:List Int}{fi:Nat→List Int}{V:RigV}{ρ:Nat→Tg}(h:zbe W1 w m (ze3 B) caps fi V ρ):V.idle 1:=fun v t hv ht=>by
 obtain rfl:v=0:=by omega
 obtain⟨x,hx,hF⟩:=h.tf 0 t ht;have hx:(some (⟨⟨#[97]⟩,8,[],none,0⟩:ActV))=some x:=hx;obtain rfl:=zq hx;have hri:t.rin=[1]:=hF.ri.trans (by kernel_rfl)
 have M:=(h.rig.tk 0 t ht).s;obtain⟨l,hl⟩:=zG (l:=t.src) (i:=0) (by rw[M.lf,hri];decide)
 have hlk:l.lk= .que 0:=(h.ts 0 t ht 0 l hl).trans (zor (zdm B) (e:=0) rfl)
 unfold RigV.rdy;rw[hF.gives,hF.port,hri];show(if(0:Nat)=1 then true else(match(t.src[0]?:Option Lnk)with|some (.que e _)=>decide (0<V.ql e)|_=>false))=false
 rw[if_neg (by omega),hl]
 cases l with
 |no=>rfl
 |tape o g=>rfl
 |que e g=>
  have hlk:LkV.que e= .que 0:=hlk
  injection hlk with he
  subst he;obtain⟨q,hq,hy,hk,-⟩:=h.que (e:=0) (x:=⟨0,0,0,0,[],none,0⟩) rfl;show decide (0<V.ql 0)=false
  rw[zfJ hq];unfold QV.len;rw[hy];simp
theorem zcw(w:World)(hT:Tab w):Calls Tryz.prog 6 #[] w fun e w'=>e= .returned (.bool true)∧Below w.heap.size w w':=by
 have hg:=zl0 w;have b1:=zhj w awO4;have z1:(putO w awO4).heap.size=w.heap.size+1+1:=by rw[zh4];rfl
 go_enter Tryz.func6, Tryz.ntmps6
 go_upto_region 2 with fail;obtain⟨W6,hW6⟩:∃W,putO w awO4=W:=⟨_,rfl⟩;have e:(w.alloc (.cells #[.string ⟨#[97]⟩, .int .u8 8, .slice none 0 0] 72)).alloc (.cells #[.int .i64 0, .int .i64 0, .int .i64 0, .int .i64 0, .slice none 0 0] 69)=W6:=hW6;rw[e];obtain⟨B,hB⟩:∃B,w.heap.size=B:=⟨_,rfl⟩;rw[hW6]at hg b1 z1;rw[hB]at hg b1 z1⊢;clear e hW6;have kb:=Blk.new W6 _ z1.symm 26 #[.string ⟨#[103]⟩, .slice (some ⟨B,0,none⟩) 1 1, .slice (some ⟨B+1,0,none⟩) 1 1, .slice none 0 0, .slice none 0 0];have bb:=bA_ W6 (.cells #[.string ⟨#[103]⟩, .slice (some ⟨B,0,none⟩) 1 1, .slice (some ⟨B+1,0,none⟩) 1 1, .slice none 0 0, .slice none 0 0] 26);obtain⟨W7,hW7⟩:=wN_ bb;rw[hW7]at kb bb⊢;have hg7:(ze3 B).good W7 W7.heap.size:=(hg.below bb (by omega)).more (by have:=bb.size;omega)
 have b7:=b1.trans (bb.mono (by omega))
 have t7:=hT.below (hB▸b7) hT.pos;have c0:=kb.cellL 0 rfl;have c1:=kb.cellL 1 rfl;have c2:=kb.cellL 2 rfl;have c3:=kb.cellL 3 rfl;have c4:=kb.cellL 4 rfl;have HG7:=Lh hg7;have HB7:=Lh b7;have HT7:=Lh t7;have HKG:=Lh kb;have HHB:=Lh hB;clear hg b1 z1 kb bb hW7 hg7 b7 t7
 go_wp2_with fail;refine(zh3 (ze3 B) W7 HG7.out).mono ?_
 rw[zdm,zhV];rintro e w2 ⟨n,A,l,c,rfl,hb2,h⟩;obtain⟨hn,hl,ho⟩:=h rfl;obtain rfl:n=1:=hn;obtain rfl:l=1:=hl;have hlm:∀n:Nat,n≤5→n≤maxLen:=fun n hn=>by unfold maxLen;omega
 have ho:w2.ownsRow _ 76 5 (.slice A 1 c) 1 (cellsA aw2):=ho
 have b2:=HB7.out.trans (hb2.mono (by have:=HB7.out.size;omega))
 have t2:=HT7.out.below hb2 HT7.out.pos;have hb3:=bA_ w2 (.cells #[.int .i64 1, .slice A 1 c] 30);have k3:=bN_ hb3;have r3:=((rd_of_own ho).below hb3 lR_).more hb3.size;have kg3:=(HKG.out.below hb2 HKG.out.lt).below hb3 (HKG.out.below hb2 HKG.out.lt).lt;have hg3:=(((HG7.out.below hb2 lR_).more hb2.size).below hb3 lR_).more hb3.size;clear HG7 HKG h hb2 ho c0 c1 c2 c3 c4
 go_upto_region 3 with fail;obtain⟨W3,hW3⟩:=wN_ hb3;obtain⟨g3,hgg3⟩:∃g,w2.heap.size=g:=⟨_,rfl⟩;have b3:=b2.trans (hb3.mono (by have:=b2.size;omega))
 have t3:=t2.below hb3 t2.pos;rw[hW3]at hb3 k3 r3 b3 t3 kg3 hg3;rw[hgg3]at k3
 try rw[hW3]
 try rw[hgg3]
 have n0:=k3.cellL 0 rfl;have n1:=k3.cellL 1 rfl;have HB3:=Lh b3;have HT3:=Lh t3;have HK3:=Lh k3;have HR3:=Lh r3;have HKG3:=Lh kg3;have HG3:=Lh hg3;clear hW3 hgg3 b2 t2 hb3 k3 r3 b3 t3 kg3 hg3 HB7 HT7
 go_wp2_with fail;refine(zih 1 aw2 A 1 c W3 rfl (zig (by decide)) HR3.out (hlm 1 (by omega)) HT3.out).mono ?_
 rintro e w4 ⟨vd,reps,cyc,k,Ar,cr,Ac,cc,rfl,hs,-,-,oR,-,hb4⟩;obtain⟨rfl,rfl,rfl,rfl⟩:=hs.one zoF;have oR:w4.ownsRow _ 3 1 (.slice Ar 1 cr) 1 (cellsI [1]):=oR;have b4:=HB3.out.trans (hb4.mono (by have:=HB3.out.size;omega))
 have k4:=HK3.out.below hb4 HK3.out.lt;have r4:=(HR3.out.below hb4 lR_).more hb4.size;have hb5:=bA_ w4 (.cells #[.int .u8 1, .slice Ar 1 cr, .slice Ac 0 cc] 39);have k5:=bN_ hb5;have kn5:=k4.below hb5 k4.lt;have r5:=(r4.below hb5 lR_).more hb5.size;have q5:=((rd_of_own oR).below hb5 lR_).more hb5.size;have b5:=b4.trans (hb5.mono (by have:=b4.size;omega))
 have kg5:=(HKG3.out.below hb4 HKG3.out.lt).below hb5 (HKG3.out.below hb4 HKG3.out.lt).lt;have hg5:=(((HG3.out.below hb4 lR_).more hb4.size).below hb5 lR_).more hb5.size;clear hs oR hb4 HB3 HT3 HK3 HR3 n0 n1 k4 r4 b4 HKG3 HG3
 go_upto_region 4 with fail;obtain⟨W5,hW5⟩:=wN_ hb5;obtain⟨g5,hgg5⟩:∃g,w4.heap.size=g:=⟨_,rfl⟩;rw[hW5]at hb5 k5 kn5 r5 q5 b5 kg5 hg5;rw[hgg5]at k5
 try rw[hW5]
 try rw[hgg5]
 have n0:=kn5.cellL 0 rfl;have n1:=kn5.cellL 1 rfl;have p1:=k5.cellL 1 rfl;have HB5:=Lh b5;have HKN5:=Lh kn5;have HR5:=Lh r5;have HQ5:=Lh q5;have HKG5:=Lh kg5;have HG5:=Lh hg5;clear hW5 hgg5 hb5 k5 kn5 r5 q5 b5 kg5 hg5
 go_wp2_with fail;refine(zhr 1 aw2 A 1 c [1] Ar 1 cr [] none 0 0 W5 rfl (zig (by decide)) HR5.out (hlm 1 (by omega)) rfl (zel (by decide)) HQ5.out (hlm 1 (by omega)) rfl (zel (by decide)) (.inl rfl) (by omega)).mono ?_
 rintro e w6 ⟨lv,sv,rfl,ol,os,hb6⟩;rw[show((1:Int).toNat)=1 from rfl,zo9]at ol os
 rw[zpx];obtain⟨Al,cl,rfl,_⟩:=zH ol;obtain⟨As,cs,rfl,_⟩:=zH os;simp only[zaG,zaD,Nat.reduceAdd]at ol os⊢;have b6:=HB5.out.trans (hb6.mono (by have:=HB5.out.size;omega))
 have kn6:=HKN5.out.below hb6 HKN5.out.lt;have kg6:=HKG5.out.below hb6 HKG5.out.lt;have hg6:=(HG5.out.below hb6 lR_).more hb6.size;have r6:=(HR5.out.below hb6 lR_).more hb6.size;have s6:=rd_of_own os;have hb7:=bA_ w6 (.cells #[.slice Al 0 cl, .slice As 1 cs] 44);have kp7:=bN_ hb7;have kn7:=kn6.below hb7 kn6.lt;have kg7:=kg6.below hb7 kg6.lt;have hg7:=(hg6.below hb7 lR_).more hb7.size;have r7:=(r6.below hb7 lR_).more hb7.size;have s7:=(s6.below hb7 lR_).more hb7.size;have b7:=b6.trans (hb7.mono (by have:=b6.size;omega))
 clear ol os hb6 HB5 HR5 HQ5 HKN5 HKG5 HG5 n0 n1 p1 b6 kn6 kg6 hg6 r6 s6
 go_upto_region 5 with fail;obtain⟨W8,hW8⟩:=wN_ hb7;obtain⟨gp,hgp⟩:∃g,w6.heap.size=g:=⟨_,rfl⟩;rw[hW8]at hb7 kp7 kn7 kg7 hg7 r7 s7 b7;rw[hgp]at kp7
 try rw[hW8]
 try rw[hgp]
 have ba:=bA_ W8 (.cells #[.int .i64 1] 3);have q8:=zal W8 _ rfl 3 (cellsI [1]);have kp8:=kp7.below ba kp7.lt;have kn8:=kn7.below ba kn7.lt;have hg8:=(hg7.below ba lR_).more ba.size;have r8:=(r7.below ba lR_).more ba.size;have s8:=(s7.below ba lR_).more ba.size;have b8:=b7.trans (ba.mono (by have:=b7.size;omega))
 have c0:=kg7.cellL 0 rfl;have c1:=kg7.cellL 1 rfl;have c2:=kg7.cellL 2 rfl;have c3:=kg7.cellL 3 rfl;have c4:=kg7.cellL 4 rfl;have hq8:Rd (W8.alloc (.cells #[.int .i64 1] 3)) (W8.alloc (.cells #[.int .i64 1] 3)).heap.size (some ⟨W8.heap.size,0,none⟩) (cellsI [1]):=q8.more (by simp)
 have HRG:=Lh (zkk (ze3 B) [1] (some ⟨W8.heap.size,0,none⟩) 1 1 [] none 0 0 (W8.alloc (.cells #[.int .i64 1] 3)) hg8 (zdm B) rfl (zel (by decide)) hq8 rfl ⟨.inl rfl,fun r hr=>(by cases hr)⟩)
 have HB8:=Lh b8;have HKP8:=Lh kp8;have HKN8:=Lh kn8;have HR8:=Lh r8;have HS8:=Lh s8;have hz8:B≤(W8.alloc (.cells #[.int .i64 1] 3)).heap.size:=by have:=b8.size;omega
 have HZ8:=Lh hz8;clear hW8 hgp hb7 kp7 kn7 kg7 hg7 r7 s7 b7 ba q8 kp8 kn8 hg8 r8 s8 b8 hq8 hz8
 go_wp2_with fail;refine HRG.out.mono ?_
 rintro e w9 ⟨hb9,hcase⟩;rcases hcase with⟨rfl,hbad⟩|⟨V,ρ,rfl,hJ⟩
 ·exact absurd ⟨rfl,fun c hc=>by simp at hc;omega⟩ hbad
 ·have kp9:=HKP8.out.below hb9 HKP8.out.lt;have kn9:=HKN8.out.below hb9 HKN8.out.lt;have x1:=kp9.cellL 1 rfl;have n0:=kn9.cellL 0 rfl;have n1:=kn9.cellL 1 rfl;have HR9:=Lh ((HR8.out.below hb9 lR_).more hb9.size);have HS9:=Lh ((HS8.out.below hb9 lR_).more hb9.size);have HJ9:=Lh hJ;have HB9:=Lh (HB8.out.trans (hb9.mono HZ8.out));clear hb9 kp9 kn9 hJ c0 c1 c2 c3 c4 HRG HR8 HS8 HKP8 HKN8
  go_wp2_with fail;refine(zjX 1 aw2 A c (fun _=>0) [0] As 1 cs w9 rfl zgc zoG HR9.out HS9.out ziM).mono ?_
  rintro e w10 ⟨rfl,hb10⟩;have hJ10:=HJ9.out.below hb10;have HB10:=Lh (HB9.out.trans (hb10.mono (by have:=HB9.out.size;omega)))
  have hlen:V.tasks.length=1:=hJ10.tl
  have HJ10:=Lh hJ10;have HV:=Lh (show zhk (ze3 B).acts.length (garcs (ze3 B)) (fun _=>0) [0] by rw[zhV];exact ziM)
  have HRN:=Lh (zfZ _ 100 (znx (L:=0) (zdm B) HV.out (by omega) (by omega)) V ρ 0 w10 hJ10.rig (hJ10.full (zdm B)) hJ10.bnd (hJ10.law (fun j hj=>absurd hj (zau j)) fun v _=>zaT _) (by omega) 1 hlen (by omega) 3 (by omega) (by omega))
  have Hlen:=Lh hlen;obtain⟨rg,hrg⟩:∃b,V.rg=b:=⟨_,rfl⟩;rw[hrg]at HRN⊢;have Hrg:=Lh hrg;clear hb10 hJ10 hlen HJ9 HB9 HR9 HS9 x1 n0 n1 hrg
  go_wp2_with fail;refine HRN.out.mono ?_
  rintro e w11 ⟨d,V',ρ',rfl,hat,hrun⟩;have hidle:V.idle 1:=zny HJ10.out;obtain⟨rfl,rfl⟩:d=0∧V'=V:=by
   rcases hrun with h|⟨j,V1,-,h1,h2⟩
   ·have:=(h.idle hidle).1
    omega
   ·obtain⟨-,hd,rfl⟩:=h1.idle hidle;exact⟨hd,(h2.idle hidle lR_).2⟩
  have HM11:=Lh hat.m;have HF11:=Lh (HJ10.out.full (zdm B));have HB11:Hid (Below B W6 W6):=zm _ _;have hb11:Below B w w11:=by
   have h1:=hat.v.below (B:=B) (fun b hb=>HJ10.out.fx b (by have:=HZ8.out;omega)) (by have:=HB10.out.size;have:=HHB.out;omega)
   exact HB10.out.trans h1
  have HB11:=Lh hb11;have Hidle:=Lh hidle;clear hat hrun hb11 hidle HRN
  go_wp2_with fail;have HHL:=Lh (zfi V' ρ' w11 HM11.out HF11.out (by rw[Hlen.out];omega))
  rw[Hrg.out]at HHL;refine HHL.out.mono ?_;rw[if_neg (by rw[HJ10.out.ef];omega),zlZ (by rw[Hlen.out];exact Hidle.out),if_pos zaD]
  rintro e w12 ⟨rfl,hb12⟩;have HM12:=Lh (HM11.out.below hb12);have HB12:=Lh (HB11.out.trans (hb12.mono (by have:=HB11.out.size;have:=HHB.out;omega)))
  clear hb12 HM11
  go_wp2_with fail;have HFL:=Lh (zeY V' ρ' w12 HM12.out (by rw[Hlen.out];omega))
  rw[Hrg.out,Hlen.out]at HFL;refine HFL.out.mono ?_;rintro e w13 ⟨Af,cf,rfl,rF,hb13⟩;have eF:cellsN (V'.tasks.map (·.wh))=cellsI [0]:=by
   obtain⟨t,ht⟩:∃t,V'.tasks=[t]:=List.length_eq_one_iff.1 Hlen.out;rw[ht];obtain⟨x,-,hF⟩:=HJ10.out.tf 0 t (by rw[ht];rfl)
   show cellsN [t.wh]=_
   rw[hF.wh]
   rfl
  rw[eF]at rF;have bz:=bA_ w13 (.cells #[.int .i64 0] 3);have s13:=zal w13 _ rfl 3 (cellsI [0]);have HRF:=Lh (rF.below bz lR_);have HS13:=Lh s13;have b13:=HB12.out.trans (hb13.mono (by have:=HB12.out.size;have:=HHB.out;omega))
  have HB13:=Lh (b13.trans (bz.mono (by have:=b13.size;have:=HHB.out;omega)))
  clear hb13 rF eF bz s13 b13
  go_wp2_with fail;refine(zju [0] [0] Af (some ⟨w13.heap.size,0,none⟩) 1 1 cf 1 _ _ _ rfl rfl (zel (by decide)) (zel (by decide)) HRF.out HS13.out (hlm 1 (by omega))).mono ?_
  rintro e w14 ⟨rfl,d14⟩;obtain⟨dd,rfl⟩:=d14;have HB14:=Lh (Below.drewN HB13.out dd);clear HB13 HS13 HRF
  go_wp2_with fail
  go_ret;exact⟨rfl,HHB.out.symm▸HB14.out⟩
def tot(f:Nat→Int):Nat→Int
 |0=>0
 |n+1=>tot f n+f n
theorem tot_le{f f':Nat→Int}:∀{n:Nat},(∀i,i<n→f' i≤f i)→tot f' n≤tot f n
 |0,_=>zaT 0
 |n+1,h=>Int.add_le_add (tot_le fun i hi=>h i (by omega)) (h n (by omega))
theorem zb8{f f':Nat→Int}{n:Nat}(h:∀i,i<n→f' i=f i):tot f' n=tot f n:=
 Int.le_antisymm (tot_le fun i hi=>Int.le_of_eq (h i hi)) (tot_le fun i hi=>Int.le_of_eq (h i hi).symm)
theorem zef{f:Nat→Int}:∀{n:Nat},(∀i,i<n→f i=0)→tot f n=0
 |0,_=>rfl
 |n+1,h=>by
  show tot f n+f n=0
  rw[zef fun i hi=>h i (by omega),h n (by omega)]
  rfl
theorem zdr{f:Nat→Int}{n:Nat}(h:∀i,i<n→0≤f i):0≤tot f n:=by
 have h1:=tot_le (f':=fun _=>0) h
 rwa [zef (f:=fun _=>0) fun _ _=>rfl]at h1
theorem zhG{f f':Nat→Int}{j:Nat}{d:Int}:∀{n:Nat},j<n→f' j=f j+d→(∀i,i<n→i≠j→f' i=f i)→tot f' n=tot f n+d
 |0,h,_,_=>absurd h (zau _)
 |n+1,h,hj,ho=>by
  show tot f' n+f' n=tot f n+f n+d
  by_cases hjn:j=n
  ·subst hjn;rw[zb8 fun i hi=>ho i (by omega) (by omega),hj]
   omega
  ·rw[zhG (by omega) hj fun i hi=>ho i (by omega),ho n (by omega) fun hc=>hjn hc.symm]
   omega
theorem zkn{f:Nat→Int}{j:Nat}:∀{n:Nat},j<n→(∀i,i<n→0≤f i)→f j≤tot f n
 |0,h,_=>absurd h (zau _)
 |n+1,h,ho=>by
  show f j≤tot f n+f n
  have h1:=ho n (by omega)
  by_cases hjn:j=n
  ·subst hjn
   have:=zdr (n:=j) fun i hi=>ho i (by omega)
   omega
  ·have:=zkn (f:=f) (j:=j) (n:=n) (by omega) fun i hi=>ho i (by omega)
   omega
def lin(g:zB)(v:Nat):List Int:=match g.acts[v]? with|some x=>insOf x|none=>[]
def lout(g:zB)(v:Nat):List Int:=match g.acts[v]? with|some x=>outsOf x|none=>[]
theorem zhm{g:zB}{v:Nat}{x:ActV}(h:g.acts[v]?=some x):lin g v=insOf x:=by unfold lin;rw[h]
theorem zhH{g:zB}{v:Nat}{x:ActV}(h:g.acts[v]?=some x):lout g v=outsOf x:=by unfold lout;rw[h]
def rI(g:zB)(v p:Nat):Int:=(lin g v).getD p 0
def rO(g:zB)(v p:Nat):Int:=(lout g v).getD p 0
def sz(g:zB)(v:Nat):Int:=1+tot (rI g v) (lin g v).length+tot (rO g v) (lout g v).length
def dn(g:zB)(V:RigV)(v:Nat):Int:=sz g v*V.φ v+tot (fun p=>(V.hd v p:Int)) (lin g v).length-tot (fun p=>(V.rm v p:Int)) (lout g v).length
theorem zdT{l:List Int}{p:Nat}{x:Int}(h:l[p]?=some x):l.getD p 0=x:=by rw[zz,h];rfl
theorem zk7(g:zB)(v:Nat):∀p,p<(lin g v).length→1≤rI g v p:=fun p hp=>by
 obtain⟨x,hx⟩:=zG hp;unfold rI;rw[zdT hx];unfold lin at hx;cases ha:g.acts[v]? with
 |none=>rw[ha]at hx;simp at hx
 |some y=>
  rw[ha]at hx;exact((shape_rate y.tag y.ps).1 x (zac hx)).1
theorem ziv(g:zB)(v:Nat):∀p,p<(lout g v).length→1≤rO g v p:=fun p hp=>by
 obtain⟨x,hx⟩:=zG hp;unfold rO;rw[zdT hx];unfold lout at hx;cases ha:g.acts[v]? with
 |none=>rw[ha]at hx;simp at hx
 |some y=>
  rw[ha]at hx;exact((shape_rate y.tag y.ps).2 x (zac hx)).1
structure TkP(g:zB)(V:RigV)(v:Nat)(t:TkV):Prop where
 φ:V.φ v=t.wh+(if t.gives=true then 1 else 0)
 ri:t.rin=lin g v
 ro:t.rout=lout g v
 hh:∀p,p<(lin g v).length→(V.hd v p:Int)≤rI g v p
 h0:t.gives=true→∀p,V.hd v p=0
 rr:∀p,p<(lout g v).length→(V.rm v p:Int)≤rO g v p
 r0:t.gives=false→∀p,V.rm v p=0
 rp:t.gives=true→t.port<(lout g v).length∧0<V.rm v t.port
 hp:t.gives=false→t.port<(lin g v).length→(V.hd v t.port:Int)<rI g v t.port
 hf:t.gives=false→t.port=(lin g v).length→∀p,p<(lin g v).length→(V.hd v p:Int)=rI g v p
 pp:t.gives=false→t.port≤(lin g v).length
theorem ze1.at_{g:zB}{V:RigV}(h:ze1 g V)(hs:V.shp){v:Nat}{t:TkV}(ht:V.tasks[v]?=some t):TkP g V v t:=by
 obtain⟨x,hx,e1,e2⟩:=h.rt v t ht;obtain⟨tsh,hhl,hgl⟩:=hs v t ht;have E1:t.rin=lin g v:=e1.trans (zhm hx).symm;have E2:t.rout=lout g v:=e2.trans (zhH hx).symm;have hand:∀p,p<(lin g v).length→∃r,t.hand[p]?=some r∧t.rin[p]?=some (rI g v p):=fun p hp=>by
  obtain⟨r,hr⟩:=zG (l:=t.hand) (i:=p) (by rw[hhl,E1];exact hp)
  obtain⟨m,hm⟩:=zG hp;refine⟨r,hr,?_⟩;rw[E1];unfold rI;rw[zdT hm];exact hm
 have hdE:t.gives=false→∀p r,t.hand[p]?=some r→V.hd v p=r.xs.length:=fun hg p r hr=>by
  rw[zfI ht];unfold TkV.hd;rw[hg,hr]
  rfl
 have gift:t.gives=true→∀p,p<(lout g v).length→∃r,t.gift[p]?=some r∧t.rout[p]?=some (rO g v p)∧V.rm v p=r.xs.length:=fun hg p hp=>by
  obtain⟨r,hr⟩:=zG (l:=t.gift) (i:=p) (by rw[hgl hg,E2];exact hp)
  obtain⟨m,hm⟩:=zG hp;refine⟨r,hr,?_,?_⟩
  ·rw[E2];unfold rO;rw[zdT hm];exact hm
  ·rw[zeI ht];unfold TkV.rm;rw[hg,hr]
   rfl
 have H0:t.gives=true→∀p,V.hd v p=0:=fun hg p=>by rw[zfI ht];unfold TkV.hd;rw[hg];rfl
 have R0:t.gives=false→∀p,V.rm v p=0:=fun hg p=>by rw[zeI ht];unfold TkV.rm;rw[hg];rfl
 refine⟨zfH ht,E1,E2,fun p hp=>?_,H0,fun p hp=>?_,R0,fun hg=>?_,fun hg hp=>?_,fun hg hpo p hp=>?_,fun hg=>by rw[←E1];exact tsh.p0 hg⟩
 ·have h1:=zk7 g v p hp;cases hg:t.gives with
  |true=>rw[H0 hg p];omega
  |false=>
   obtain⟨r,hr,hm⟩:=hand p hp;obtain⟨a1,a2,a3⟩:=tsh.h1 hg p r _ hr hm;rw[hdE hg p r hr];omega
 ·have h1:=ziv g v p hp;cases hg:t.gives with
  |false=>rw[R0 hg p];omega
  |true=>
   obtain⟨r,hr,hm,e⟩:=gift hg p hp;obtain⟨a1,a2,a3⟩:=tsh.g1 hg p r _ hr hm;rw[e];omega
 ·have hp:t.port<(lout g v).length:=by rw[←E2];exact tsh.p1 hg
  obtain⟨r,hr,hm,e⟩:=gift hg t.port hp;obtain⟨a1,a2,a3⟩:=tsh.g1 hg t.port r _ hr hm;rw[e];exact⟨hp,(a2 rfl).1⟩
 ·obtain⟨r,hr,hm⟩:=hand _ hp;obtain⟨a1,a2,a3⟩:=tsh.h1 hg _ r _ hr hm;rw[hdE hg _ r hr];exact a2 rfl
 ·obtain⟨r,hr,hm⟩:=hand p hp;obtain⟨a1,a2,a3⟩:=tsh.h1 hg p r _ hr hm;rw[hdE hg p r hr];exact a1 (by omega)
theorem zi7(g:zB)(v:Nat):0≤tot (rI g v) (lin g v).length∧0≤tot (rO g v) (lout g v).length∧1≤sz g v:=by
 have h1:=zdr fun p hp=>(by have:=zk7 g v p hp;omega:0≤rI g v p)
 have h2:=zdr fun p hp=>(by have:=ziv g v p hp;omega:0≤rO g v p)
 unfold sz;omega
theorem TkP.wh{g:zB}{V:RigV}{v:Nat}{t:TkV}(h:TkP g V v t)(c:Nat):c≤t.wh↔sz g v*c≤dn g V v:=by
 obtain⟨s1,s2,s3⟩:=zi7 g v;have a1:=tot_le h.hh;have a2:=tot_le h.rr;have a0:=zdr (f:=fun p=>(V.hd v p:Int)) (n:=(lin g v).length) fun _ _=>zbc _
 have b0:=zdr (f:=fun p=>(V.rm v p:Int)) (n:=(lout g v).length) fun _ _=>zbc _
 have hs:sz g v=1+tot (rI g v) (lin g v).length+tot (rO g v) (lout g v).length:=rfl
 unfold dn;rw[h.φ];have up:∀{a b:Int},a≤b→sz g v*a≤sz g v*b:=fun h=>zcE h (by omega)
 cases hg:t.gives with
 |false=>
  rw[zef (f:=fun p=>(V.rm v p:Int)) fun p _=>by rw[h.r0 hg p];rfl]
  generalize tot (fun p=>(V.hd v p:Int)) (lin g v).length=H at*
  show c≤t.wh↔sz g v*(c:Int)≤sz g v*((t.wh+0:Nat):Int)+H-0
  rw[zab];constructor
  ·intro hc
   have:=up (show(c:Int)≤(t.wh:Int) by omega)
   omega
  ·intro hc;refine Nat.not_lt.1 fun hlt=>?_
   have:=up (show(t.wh:Int)+1≤(c:Int) by omega)
   rw[zbx,zcC]at this;omega
 |true=>
  rw[zef (f:=fun p=>(V.hd v p:Int)) fun p _=>by rw[h.h0 hg p];rfl]
  obtain⟨hp,hr⟩:=h.rp hg;have b1:=zkn (f:=fun p=>(V.rm v p:Int)) hp fun _ _=>zbc _
  have b1:(V.rm v t.port:Int)≤tot (fun p=>(V.rm v p:Int)) (lout g v).length:=b1
  generalize tot (fun p=>(V.rm v p:Int)) (lout g v).length=M at*
  show c≤t.wh↔sz g v*(c:Int)≤sz g v*((t.wh+1:Nat):Int)+0-M
  have e:((t.wh+1:Nat):Int)=(t.wh:Int)+1:=by omega
  rw[e,zbx,zcC];constructor
  ·intro hc
   have:=up (show(c:Int)≤(t.wh:Int) by omega)
   omega
  ·intro hc;refine Nat.not_lt.1 fun hlt=>?_
   have:=up (show(t.wh:Int)+1≤(c:Int) by omega)
   rw[zbx,zcC]at this;omega
theorem zi8{g:zB}{V V':RigV}{v:Nat}{t:TkV}(h:TkP g V v t)(hg:t.gives=true)(hφ:∀u,V'.φ u=V.φ u)(hh:∀u i,V'.hd u i=V.hd u i)(hr:∀u i,V'.rm u i=if u=v∧i=t.port then V.rm u i-1 else V.rm u i):
   sz g v*V'.φ v+tot (fun p=>(V'.hd v p:Int)) (lin g v).length-tot (fun p=>(V'.rm v p:Int)) (lout g v).length=sz g v*V.φ v+tot (fun p=>(V.hd v p:Int)) (lin g v).length-tot (fun p=>(V.rm v p:Int)) (lout g v).length+1∧
   ∀u,u≠v→sz g u*V'.φ u+tot (fun p=>(V'.hd u p:Int)) (lin g u).length-tot (fun p=>(V'.rm u p:Int)) (lout g u).length=sz g u*V.φ u+tot (fun p=>(V.hd u p:Int)) (lin g u).length-tot (fun p=>(V.rm u p:Int)) (lout g u).length:=by
  obtain⟨hp,hpos⟩:=h.rp hg;refine⟨?_,fun u hu=>?_⟩
  ·rw[hφ,zb8 (f:=fun p=>(V.hd v p:Int)) (f':=fun p=>(V'.hd v p:Int)) fun i _=>by show((V'.hd v i:Nat):Int)=_;rw[hh],
    zhG (f:=fun p=>(V.rm v p:Int)) (f':=fun p=>(V'.rm v p:Int)) (d:= -1) hp (by show((V'.rm v t.port:Nat):Int)=_;rw[hr,if_pos ⟨rfl,rfl⟩];omega) (fun i _ hi=>by show((V'.rm v i:Nat):Int)=_;rw[hr,if_neg fun hc=>hi hc.2])]
   omega
  ·rw[hφ,zb8 (f:=fun p=>(V.hd u p:Int)) (f':=fun p=>(V'.hd u p:Int)) fun i _=>by show((V'.hd u i:Nat):Int)=_;rw[hh],
    zb8 (f:=fun p=>(V.rm u p:Int)) (f':=fun p=>(V'.rm u p:Int)) fun i _=>by show((V'.rm u i:Nat):Int)=_;rw[hr,if_neg fun hc=>hu hc.1]]
theorem TkP.step{g:zB}{V V':RigV}{v:Nat}{t:TkV}(h:TkP g V v t)(hs:StepE V v t V' true):dn g V' v=dn g V v+1∧∀u,u≠v→dn g V' u=dn g V u:=by
 unfold dn;cases hs with
 |take e0 g0 hg hp hsrc hq hφ hh hr hl hy hz=>
  rw[h.ri]at hp;refine⟨?_,fun u hu=>?_⟩
  ·rw[hφ,zhG (f:=fun p=>(V.hd v p:Int)) (f':=fun p=>(V'.hd v p:Int)) (d:=1) hp (by show((V'.hd v t.port:Nat):Int)=_;rw[hh,if_pos ⟨rfl,rfl⟩];omega) (fun i _ hi=>by show((V'.hd v i:Nat):Int)=_;rw[hh,if_neg fun hc=>hi hc.2]),
    zb8 (f:=fun p=>(V.rm v p:Int)) (f':=fun p=>(V'.rm v p:Int)) fun i _=>by show((V'.rm v i:Nat):Int)=_;rw[hr]]
   omega
  ·rw[hφ,zb8 (f:=fun p=>(V.hd u p:Int)) (f':=fun p=>(V'.hd u p:Int)) fun i _=>by show((V'.hd u i:Nat):Int)=_;rw[hh,if_neg fun hc=>hu hc.1],
    zb8 (f:=fun p=>(V.rm u p:Int)) (f':=fun p=>(V'.rm u p:Int)) fun i _=>by show((V'.rm u i:Nat):Int)=_;rw[hr]]
 |reckon hg hp hφ hh hr hl hy hz=>
  rw[h.ri]at hp;refine⟨?_,fun u hu=>?_⟩
  ·rw[hφ,if_pos rfl,zef (f:=fun p=>(V'.hd v p:Int)) fun i _=>by show((V'.hd v i:Nat):Int)=0;rw[hh,if_pos rfl];rfl,
    zb8 (f:=rO g v) (f':=fun p=>(V'.rm v p:Int)) fun i hi=>?_,
    zb8 (f:=rI g v) (f':=fun p=>(V.hd v p:Int)) fun i hi=>h.hf hg hp i hi,zef (f:=fun p=>(V.rm v p:Int)) fun i _=>by show((V.rm v i:Nat):Int)=0;rw[h.r0 hg];rfl]
   ·have e:((V.φ v+1:Nat):Int)=(V.φ v:Int)+1:=by omega
    rw[e,zbx,zcC];unfold sz;omega
   ·show((V'.rm v i:Nat):Int)=rO g v i
    have h1:=ziv g v i hi;rw[hr,if_pos rfl,h.ro,←zz];show(((rO g v i).toNat:Nat):Int)=rO g v i
    omega
  ·rw[hφ,if_neg hu,zb8 (f:=fun p=>(V.hd u p:Int)) (f':=fun p=>(V'.hd u p:Int)) fun i _=>by show((V'.hd u i:Nat):Int)=_;rw[hh,if_neg hu],
    zb8 (f:=fun p=>(V.rm u p:Int)) (f':=fun p=>(V'.rm u p:Int)) fun i _=>by show((V'.rm u i:Nat):Int)=_;rw[hr,if_neg hu]]
 |giveQ e0 g0 hg hp hdst hφ hh hr hl hy hz=>exact zi8 h hg hφ hh hr
 |giveT o0 g0 hg hp hdst hφ hh hr hl hy hz=>exact zi8 h hg hφ hh hr
theorem zpu{g:zB}(h:checkG g=0){i:Nat}{x:PrtV}(hx:g.ins[i]?=some x):inI g g.ins.length x.a.toNat x.p.toNat= .que (g.edges.length+i):=
 (inI_laid h _ lR_).at_ i (x.a,x.p) (zao hx) (by unfold zeB;rw[zp,hx];rfl)
theorem zi9{g:zB}(h:checkG g=0){v p e:Nat}(he:inI g g.ins.length v p= .que e)(hge:g.edges.length≤e):∃x,g.ins[e-g.edges.length]?=some x∧x.a.toNat=v∧x.p.toNat=p:=by
 rcases(inI_laid h _ lR_).from_ v p with h1|⟨j,a,hj,ha,e1,e2,h1⟩
 ·have h0:inL g g.edges.length v p= .que e:=h1.symm.trans he
  rcases(inL_laid h _ lR_).from_ v p with h2|⟨j,a,hj,ha,-,-,h2⟩
  ·have h2:inL g g.edges.length v p= .no:=h2
   exact (by cases (h0.symm.trans h2))
  ·have h2:inL g g.edges.length v p= .que j:=h2
   have:=h0.symm.trans h2
   injection this with this
   omega
 ·have h1:inI g g.ins.length v p= .que (g.edges.length+j):=h1
  have:=he.symm.trans h1
  injection this with this
  rw[show e-g.edges.length=j by omega]
  unfold zeB at ha;rw[zp]at ha;cases hx:g.ins[j]? with
  |none=>rw[hx]at ha;cases ha
  |some x=>
   rw[hx]at ha;simp only[zai,zX]at ha;subst ha;exact⟨x,rfl,e1,e2⟩
theorem zeW{g:zB}{v p:Nat}{y:ActV}{m:Int}(hy:g.acts[v]?=some y)(h:(insOf y)[p]?=some m):rI g v p=m∧p<(lin g v).length:=by
 rw[←zhm hy]at h;exact⟨zdT h,zao h⟩
theorem zgS{g:zB}{v p:Nat}{y:ActV}{m:Int}(hy:g.acts[v]?=some y)(h:(outsOf y)[p]?=some m):rO g v p=m∧p<(lout g v).length:=by
 rw[←zhH hy]at h;exact⟨zdT h,zao h⟩
def InJ(g:zB)(ni:Nat→Int)(V:RigV):Prop:=∀(i:Nat) (x:PrtV),g.ins[i]?=some x→(V.ql (g.edges.length+i):Int)+rI g x.a.toNat x.p.toNat*V.φ x.a.toNat+V.hd x.a.toNat x.p.toNat=ni i
theorem InJ.step{g:zB}{ni:Nat→Int}{V V':RigV}{i:Int}{b:Bool}(h:InJ g ni V)(hc:checkG g=0)(G:ze1 g V)(hsh:V.shp)(hs:RStep V i V' b):InJ g ni V':=by
 cases hs with
 |no he hn=>subst he;exact h
 |yes v t ok hi hv hf hr hs hfail=>
  have P:=G.at_ hsh hv;intro i x hx;have E:=h i x hx;cases hs with
  |take e0 g0 hg hp hsrc hq hφ hh hr hl hy hz=>
   have hlk:LkV.que e0=inI g g.ins.length v t.port:=G.src v t hv _ _ hsrc
   have h0:=zpu hc hx;rw[hφ,hh,hl];by_cases hvp:x.a.toNat=v∧x.p.toNat=t.port
   ·rw[hvp.1,hvp.2,←hlk]at h0;injection h0 with h0;rw[if_pos hvp,if_pos h0.symm];rw[h0]at hq;omega
   ·rw[if_neg hvp,if_neg]
    ·exact E
    ·intro he;obtain⟨x',hx',e1,e2⟩:=zi9 hc hlk.symm (by omega)
     rw[←he,zbF,hx]at hx';obtain rfl:=zq hx';exact hvp ⟨e1,e2⟩
  |reckon hg hp hφ hh hr hl hy hz=>
   obtain⟨y,hy1,h1,-,h2,h3⟩:=zet hc hx;rw[hφ,hh,hl];by_cases hvx:x.a.toNat=v
   ·rw[if_pos hvx,if_pos hvx];rw[P.ri]at hp;have hlt:x.p.toNat<(lin g v).length:=by rw[←hvx,zhm hy1];omega
    rw[hvx]at E⊢;rw[P.hf hg hp _ hlt]at E;have e:((V.φ v+1:Nat):Int)=(V.φ v:Int)+1:=by omega
    rw[e,zbx,zcC];show _+_+((0:Nat):Int)=_
    omega
   ·rw[if_neg hvx,if_neg hvx];exact E
  |fail hg hp hφ hh hr hl hy hz=>rw[hφ,hh,hl];exact E
  |giveQ e0 g0 hg hp hdst hφ hh hr hl hy hz=>
   have hlk:LkV.que e0=zcQ g g.outs.length v t.port:=G.dst v t hv _ _ hdst
   obtain⟨x',hx',-,-⟩:=zhD hc hlk.symm
   have:=zao hx'
   rw[hφ,hh,hl,if_neg (by omega)]
   exact E
  |giveT e0 g0 hg hp hdst hφ hh hr hl hy hz=>rw[hφ,hh,hl];exact E
structure RunQ(g:zB)(caps:List Int)(ni:Nat→Int)(V:RigV):Prop where
 G:ze1 g V
 sh:V.shp
 full:V.full
 eq:∀(e:Nat) (x:GEdg),g.edges[e]?=some x→V.ql e+kOf g x*V.φ x.t.toNat+V.hd x.t.toNat x.tp.toNat+V.rm x.f.toNat x.fp.toNat=x.st.length+gOf g x*V.φ x.f.toNat
 inp:InJ g ni V
 cap:∀(e:Nat) (q:QV),V.qs[e]?=some q→e<g.edges.length→caps[e]?=some q.cap
 ln:∀(v:Nat) (t:TkV),V.tasks[v]?=some t→t.src.length=t.rin.length∧t.dst.length=t.rout.length
 que:∀(v:Nat) (t:TkV),V.tasks[v]?=some t→∀(e k:Nat), .que e k∈t.dst→∃q,V.qs[e]?=some q
theorem zhn{a b c:Int}(ha:0≤a)(h:b≤c):a*b≤a*c:=zcE h ha
theorem TkP.given{g:zB}{V:RigV}{v:Nat}{t:TkV}(h:TkP g V v t){p:Nat}(hp:p<(lout g v).length){c:Int}(hc:c≤t.wh):rO g v p*c+V.rm v p≤rO g v p*V.φ v:=by
 have h1:=ziv g v p hp;have h2:=h.rr p hp;have h3:=zhn (a:=rO g v p) (by omega) hc
 rw[h.φ];cases hg:t.gives with
 |false=>
  rw[h.r0 hg p];show _+((0:Nat):Int)≤rO g v p*((t.wh+0:Nat):Int)
  rw[zab];omega
 |true=>
  show _≤rO g v p*((t.wh+1:Nat):Int)
  have e:((t.wh+1:Nat):Int)=(t.wh:Int)+1:=by omega
  rw[e,zbx,zcC];omega
theorem RunQ.ready{g:zB}{caps:List Int}{ni:Nat→Int}{V:RigV}(h:RunQ g caps ni V)(hc:checkG g=0){v:Nat}{t:TkV}(ht:V.tasks[v]?=some t)(C:Nat→Int)
  (hle:∀(u:Nat) (s:TkV),V.tasks[u]?=some s→C u≤s.wh) (hv:(t.wh:Int)=C v)
  (hmay:∀(e:Nat) (x:GEdg),g.edges[e]?=some x→x.t.toNat=v→(kOf g x:Int)≤x.st.length+gOf g x*C x.f.toNat-kOf g x*C v)
  (hcap:∀(e:Nat) (x:GEdg) (c:Int),g.edges[e]?=some x→x.f.toNat=v→caps[e]?=some c→x.st.length+gOf g x*(C v+1)-kOf g x*(if x.t.toNat=v then C v+1 else C x.t.toNat)≤c)
  (hin:∀(i:Nat) (x:PrtV),g.ins[i]?=some x→x.a.toNat=v→rI g v x.p.toNat*(C v+1)≤ni i):V.rdy t=true:=by
 have P:=h.G.at_ h.sh ht;unfold RigV.rdy;cases hg:t.gives with
 |false=>
  show(if t.port=t.rin.length then true else _)=true
  by_cases hpe:t.port=t.rin.length
  ·rw[if_pos hpe]
  ·rw[if_neg hpe];have hpl:t.port<(lin g v).length:=by have:=P.pp hg;rw[P.ri]at hpe;omega
   obtain⟨x0,hx0,e10,-⟩:=h.G.rt v t ht;obtain⟨l,hl⟩:=zG (l:=t.src) (i:=t.port) (by rw[(h.ln v t ht).1,P.ri];exact hpl)
   obtain⟨e,k,rfl⟩:=(h.full v t ht).1 l (zac hl);rw[hl];show decide (0<V.ql e)=true
   rw[decide_eq_true_eq];have hlk:LkV.que e=inI g g.ins.length v t.port:=h.G.src v t ht _ _ hl;have hφ:(V.φ v:Int)=C v:=by rw[P.φ,←hv,hg];rfl
   have hhp:=P.hp hg hpl;by_cases hlt:e<g.edges.length
   ·obtain⟨x,hx,e1,e2⟩:=zkj hc hlk.symm hlt;have E:=h.eq e x hx;have M:=hmay e x hx e1;obtain⟨y,hy1,hy2,-,-⟩:=zfz hc hx;obtain⟨z,hz1,hz2,-,-⟩:=zea hc hx;obtain⟨ri,-⟩:=zeW hy1 hy2;obtain⟨ro,rl⟩:=zgS hz1 hz2;obtain⟨s,hs⟩:=zG (l:=V.tasks) (i:=x.f.toNat) (by rw[h.G.len];exact zao hz1)
    have Gv:=(h.G.at_ h.sh hs).given rl (hle _ s hs);rw[ro]at Gv;rw[e1,e2]at E ri;rw[ri]at hhp;have E':(V.ql e:Int)+kOf g x*V.φ v+V.hd v t.port+V.rm x.f.toNat x.fp.toNat=x.st.length+gOf g x*V.φ x.f.toNat:=by exact_mod_cast E
    rw[hφ]at E';omega
   ·obtain⟨x,hx,e1,e2⟩:=zi9 hc hlk.symm (by omega)
    have E:=h.inp _ x hx;have M:=hin _ x hx e1;rw[show g.edges.length+(e-g.edges.length)=e by omega,e1,e2,hφ]at E
    rw[e2,zbx,zcC]at M;omega
 |true=>
  show(match t.dst[t.port]? with|some (.que e _)=>decide (0<V.qf e)|_=>true)=true
  obtain⟨hpl,hpos⟩:=P.rp hg;obtain⟨l,hl⟩:=zG (l:=t.dst) (i:=t.port) (by rw[(h.ln v t ht).2,P.ro];exact hpl)
  rw[hl];cases l with
  |no=>rfl
  |tape o k=>rfl
  |que e k=>
   show decide (0<V.qf e)=true
   rw[decide_eq_true_eq];obtain⟨q,hq⟩:=h.que v t ht e k (zac hl);have hlk:LkV.que e=zcQ g g.outs.length v t.port:=h.G.dst v t ht _ _ hl;obtain⟨x,hx,e1,e2⟩:=zhD hc hlk.symm;have E:=h.eq e x hx;have M:=hcap e x _ hx e1 (h.cap e q hq (zao hx));obtain⟨y,hy1,hy2,-,-⟩:=zfz hc hx;obtain⟨s,hs⟩:=zG (l:=V.tasks) (i:=x.t.toNat) (by rw[h.G.len];exact zao hy1)
   have Ps:=h.G.at_ h.sh hs;rw[e1,e2]at E;have hφ:(V.φ v:Int)=C v+1:=by rw[P.φ,←hv,hg];show((t.wh+1:Nat):Int)=_;omega
   have hφt:(if x.t.toNat=v then C v+1 else C x.t.toNat)≤(V.φ x.t.toNat:Int):=by
    by_cases hxv:x.t.toNat=v
    ·rw[if_pos hxv,hxv,hφ];exact zaT _
    ·rw[if_neg hxv,Ps.φ]
     have:=hle _ s hs
     omega
   have K:=zhn (a:=(kOf g x:Int)) (by omega) hφt
   have E':(V.ql e:Int)+kOf g x*V.φ x.t.toNat+V.hd x.t.toNat x.tp.toNat+V.rm v t.port=x.st.length+gOf g x*V.φ v:=by exact_mod_cast E
   rw[hφ]at E';rw[zfJ hq]at E';unfold RigV.qf;rw[hq];show 0<q.free
   unfold QV.free;omega
end Go.Proofs.YtpmlljbebdidgaaGreatDoor
