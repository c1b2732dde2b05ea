/- Lemmas and walks for the claim: Yn, Gm, Eu, Er. -/
import Derived.Test.YtpmlljbebdidgaaGreatDoorA0
import Derived.Test.YtpmlljbebdidgaaGreatDoorA47
import Derived.Test.YtpmlljbebdidgaaGreatDoorA30
import Derived.Test.YtpmlljbebdidgaaGreatDoorA11
import Derived.Test.YtpmlljbebdidgaaGreatDoorA37
import Derived.Test.YtpmlljbebdidgaaGreatDoorA38
import Derived.Test.YtpmlljbebdidgaaGreatDoorA26
set_option maxRecDepth 100000
set_option maxHeartbeats 8000000
namespace Go.Proofs.YtpmlljbebdidgaaGreatDoor
open Go.RowKit
theorem solve_bad(n:Int)(ars:List ArcV)(A:Option Addr)(l c:Nat)(w:World)(hl:ars.length=l)(hx:∀a∈ars,a.fit)(hr:Rd w w.heap.size A (cellsA ars))(hml:l≤maxLen)(hc:checkF n ars≠0):
  Calls Tryz.prog 7 #[.agg #[.int .i64 n, .slice A l c]] w (SolOut n ars w):=by
 go_enter Tryz.func7, Tryz.ntmps7
 go_upto_region 1 with fail;have BW:=bA_ w (.cells #[.int .i64 n, .slice A l c] 30);have BW:=BW.alloc BW.size (.cells #[.int .u8 0, .slice none 0 0, .slice none 0 0] 39);have kn:=(Blk.new w _ rfl 30 #[.int .i64 n, .slice A l c]).alloc (.cells #[.int .u8 0, .slice none 0 0, .slice none 0 0] 39);have kb:=Blk.new (w.alloc (.cells #[.int .i64 n, .slice A l c] 30)) (w.heap.size+1) (by simp) 39 #[.int .u8 0, .slice none 0 0, .slice none 0 0]
 obtain⟨W0,hW0⟩:∃W,(w.alloc (.cells #[.int .i64 n, .slice A l c] 30)).alloc (.cells #[.int .u8 0, .slice none 0 0, .slice none 0 0] 39)=W:=⟨_,rfl⟩;rw[hW0]at BW kn kb⊢;have hrA:=(hr.below BW lR_).more BW.size;obtain⟨bn,hbn⟩:∃b,w.heap.size=b:=⟨_,rfl⟩;obtain⟨bb,hbb⟩:∃b,bn+1=b:=⟨_,rfl⟩;have HW:=Lh BW;rw[hbn]at kn kb⊢;rw[hbb]at kb⊢;have HBN:=Lh hbn;have HBB:=Lh hbb;clear hW0 BW hr hbn hbb;have n0:=kn.cell 0;have n1:=kn.cell 1;simp at n0 n1
 go_wp2_with fail;refine(of_any n ars A l c W0 hl hx hrA hml).mono ?_
 rintro e w1 ⟨At,ct,Ah,ch,k,tree,home,rfl,hof,hrt,hrh,hb1⟩;obtain⟨rfl,rfl,rfl⟩:k=checkF n ars∧tree=[]∧home=[]:=by
  rcases hof with⟨-,h1,h2,h3⟩|⟨h,-⟩
  ·exact⟨h1,h2,h3⟩
  ·exact absurd h hc
 obtain⟨q,hq⟩:∃q,checkF n ars=q:=⟨_,rfl⟩;rw[hq]at hc⊢;have HQ:=Lh hq;have hq1:(q !=0)=true:=by simp[hc]
 have kb1:=(kb.below hb1 kb.lt).alloc (.cells #[.slice At 0 ct, .slice Ah 0 ch] 79);have hb2:=hb1.alloc hb1.size (.cells #[.slice At 0 ct, .slice Ah 0 ch] 79);obtain⟨W2,hW2⟩:∃W,w1.alloc (.cells #[.slice At 0 ct, .slice Ah 0 ch] 79)=W:=⟨_,rfl⟩;rw[hW2]at kb1 hb2;have r0:=kb1.cell 0;have r1:=kb1.cell 1;have r2:=kb1.cell 2;have z0:=kb1.frozen 0;have z1:=kb1.frozen 1;have z2:=kb1.frozen 2;simp at r0 r1 r2;have kb5:=((kb1.set 0 (.int .u8 0)).set 1 (.slice none 0 0)).set 2 (.slice none 0 0);simp at kb5;have s0:=kb5.cell 0;have s1:=kb5.cell 1;have s2:=kb5.cell 2;simp at s0 s1 s2;have hbbw:w.heap.size≤bb:=by have:=HBN.out;have:=HBB.out;omega
 have BZ:=Lh ((((HW.out.trans (hb2.mono HW.out.size)).setCell (p:=⟨bb,0,none⟩) hbbw (.int .u8 0)).setCell (p:=⟨bb,1,none⟩) hbbw (.slice none 0 0)).setCell (p:=⟨bb,2,none⟩) hbbw (.slice none 0 0));clear kb5 kb1 hof hrt hrh hb1 hb2 kn kb hrA n0 n1 hq hbbw
 go_wp2_with fail;refine bodyPost_ret (v:= .tuple #[.agg #[.int .u8 0, .slice none 0 0, .slice none 0 0], .int .i64 q]) (by simp[results, Tryz.results7,go_sem,s0,s1,s2]) rfl ?_
 exact⟨0,[],[],q,none,0,none,0,rfl, .inl ⟨by rw[HQ.out];exact hc,HQ.out.symm,rfl,rfl,rfl⟩,fun _=>⟨rfl,rfl⟩,fun _=>⟨rfl,rfl⟩,World.ownsRow_nil _ _ _ _,World.ownsRow_nil _ _ _ _,BZ.out⟩
theorem solve_any(n:Int)(ars:List ArcV)(A:Option Addr)(l c:Nat)(w:World)(hl:ars.length=l)(hx:∀a∈ars,a.fit)(hr:Rd w w.heap.size A (cellsA ars))(hml:l≤maxLen)(hT:Tab w):
  Calls Tryz.prog 7 #[.agg #[.int .i64 n, .slice A l c]] w (SolOut n ars w):=by
 by_cases hc:checkF n ars=0
 ·obtain⟨m,rfl⟩:=checkF_nat hc;exact solve_ok m ars A l c w hl hx hr hT hc
 ·exact solve_bad n ars A l c w hl hx hr hml hc
def putO(w:World)(l:List Obj):World:=l.foldl (fun w o=>w.alloc o) w
theorem putO_size(w:World)(l:List Obj):(putO w l).heap.size=w.heap.size+l.length:=by
 induction l generalizing w with
 |nil=>rfl
 |cons o l ih=>
  show(putO (w.alloc o) l).heap.size=_
  rw[ih];simp;omega
theorem putO_below(w:World)(l:List Obj):Below w.heap.size w (putO w l):=by
 induction l generalizing w with
 |nil=>exact Below.refl _ _
 |cons o l ih=>
  have b:=bA_ w o;exact b.trans ((ih (w.alloc o)).mono b.size)
theorem putO_app(w:World)(l l':List Obj):putO w (l++l')=putO (putO w l) l':=List.foldl_append
theorem putO_rd(w:World)(l:List Obj)(k:Nat)(xs:List Value)(t:TypeId)(hk:l[k]?=some (.cells xs.toArray t)):Rd (putO w l) (w.heap.size+l.length) (some ⟨w.heap.size+k,0,none⟩) xs:=by
 obtain⟨hlt,he⟩:=List.getElem?_eq_some_iff.1 hk;have hs:l=l.take k++(.cells xs.toArray t::l.drop (k+1)):=by
  rw[←he,List.getElem_cons_drop,List.take_append_drop]
 have hz:w.heap.size+k=(putO w (l.take k)).heap.size:=by rw[putO_size,List.length_take];omega
 have r1:Rd ((putO w (l.take k)).alloc (.cells xs.toArray t)) (w.heap.size+k+1) (some ⟨w.heap.size+k,0,none⟩) xs:=rd_alloc _ _ hz t xs
 have b:=putO_below ((putO w (l.take k)).alloc (.cells xs.toArray t)) (l.drop (k+1));have r2:=(r1.below b (by simp;omega)).more (show w.heap.size+k+1≤w.heap.size+l.length by omega)
 have e:putO w l=putO ((putO w (l.take k)).alloc (.cells xs.toArray t)) (l.drop (k+1)):=by
  conv=>lhs;rw[hs,putO_app]
  rfl
 rw[e];exact r2
def awG4(B:Nat):GraV where
 nm:=⟨#[103]⟩
 acts:=[⟨⟨#[97]⟩,8,[],none,0⟩]
 edges:=[⟨0,0,0,0,[],none,0⟩]
 ins:=[]
 outs:=[]
 aA:=some ⟨B,0,none⟩
 cA:=1
 aE:=some ⟨B+1,0,none⟩
 cE:=1
 aI:=none
 cI:=0
 aO:=none
 cO:=0
theorem awG4_check(B:Nat):checkG (awG4 B)=0:=by kernel_rfl
theorem awG4_arcs(B:Nat):garcs (awG4 B)=aw2:=by kernel_rfl
theorem aw2_check:checkF 1 aw2=0:=by decide
theorem aw2_R0:cR 1 aw2 0=1:=by decide+kernel
theorem aw2_sol:SolA 1 aw2 1 [1] [] 0:=by
 refine .inr ⟨aw2_check,rfl,1,rfl, .inr (.inr ⟨?_,?_,rfl,?_,rfl⟩)⟩
 ·rintro⟨v,hv,h⟩;obtain rfl:v=0:=by omega
  rw[aw2_R0]at h;omega
 ·intro a ha;simp[aw2]at ha;subst ha;unfold evA;show decide ((1:Int)*(cR 1 aw2 0:Int)=1*(cR 1 aw2 0:Int))=true
  rw[aw2_R0]
  decide
 ·show [1]=[(cR 1 aw2 0:Int)]
  rw[aw2_R0]
  rfl
theorem aw2_held:HeldV 1 aw2 (fun _=>0) [0]:=
 ⟨by decide,by decide,fun v hv=>by simp at hv;omega,fun v hv=>⟨by omega,by omega⟩,fun v hv=>by
  simp at hv
  subst hv;exact⟨0,0,by kernel_rfl,by decide,rfl,rfl,by simp,by decide⟩⟩
theorem aw2_net:NetOk 1 aw2:=by
 obtain⟨m,hm,h⟩:=netOk_of aw2_check;obtain rfl:m=1:=by omega
 exact h
def awO4:List Obj:=[.cells #[.string ⟨#[97]⟩, .int .u8 8, .slice none 0 0] 72, .cells #[.int .i64 0, .int .i64 0, .int .i64 0, .int .i64 0, .slice none 0 0] 69]
theorem awG4_good(w:World):(awG4 w.heap.size).good (putO w awO4) (w.heap.size+2):=by
 have r:∀k xs t,awO4[k]?=some (.cells xs.toArray t)→Rd (putO w awO4) (w.heap.size+2) (some ⟨w.heap.size+k,0,none⟩) xs:=fun k xs t h=>putO_rd w _ k xs t h
 have hm:∀n:Nat,n≤9→n≤maxLen:=fun n h=>by unfold maxLen;omega
 have hs:∀n:Nat,n≤9→n*8≤140737488351232:=fun n h=>by omega
 have ff:∀x:Int,0≤x→x≤9→fits x:=fun x a b=>by unfold fits;omega
 refine⟨hm 1 (by decide),hm 1 (by decide),hm 1 (by decide),hm 0 (by decide),hm 0 (by decide),r 0 _ _ rfl,r 1 _ _ rfl, .inl rfl, .inl rfl,?_,?_,fun x hx=>(by cases hx),fun x hx=>(by cases hx)⟩
 ·intro x hx;simp only[awG4,List.mem_cons,List.not_mem_nil,or_false]at hx;subst hx;exact⟨hm 1 (by decide),(by decide:(0:Int)≤8∧(8:Int)≤255),fit_few (xs:=[]) (by decide),hm 0 (by decide),hs 0 (by decide), .inl rfl⟩
 ·intro x hx;simp only[awG4,List.mem_cons,List.not_mem_nil,or_false]at hx;subst hx;exact⟨ff 0 (by decide) (by decide),ff 0 (by decide) (by decide),ff 0 (by decide) (by decide),ff 0 (by decide) (by decide),fit_few (xs:=[]) (by decide),hm 0 (by decide),hs 0 (by decide), .inl rfl⟩
theorem aw4_idle{W1 w:World}{m B:Nat}{caps:List Int}{fi:Nat→List Int}{V:RigV}{ρ:Nat→Tg}(h:FedJ W1 w m (awG4 B) caps fi V ρ):V.idle 1:=fun v t hv ht=>by
 obtain rfl:v=0:=by omega
 obtain⟨x,hx,hF⟩:=h.tf 0 t ht;have hx:(some (⟨⟨#[97]⟩,8,[],none,0⟩:ActV))=some x:=hx;obtain rfl:=Option.some.inj hx;have hri:t.rin=[1]:=hF.ri.trans (by kernel_rfl)
 have M:=(h.rig.tk 0 t ht).s;obtain⟨l,hl⟩:=get_of_lt (l:=t.src) (i:=0) (by rw[M.lf,hri];decide)
 have hlk:l.lk= .que 0:=(h.ts 0 t ht 0 l hl).trans (in_at (awG4_check B) (e:=0) rfl)
 unfold RigV.rdy;rw[hF.gives,hF.port,hri];show(if(0:Nat)=1 then true else(match(t.src[0]?:Option Lnk)with|some (.que e _)=>decide (0<V.ql e)|_=>false))=false
 rw[if_neg (by omega),hl]
 cases l with
 |no=>rfl
 |tape o g=>rfl
 |que e g=>
  have hlk:LkV.que e= .que 0:=hlk
  injection hlk with he
  subst he;obtain⟨q,hq,hy,hk,-⟩:=h.que (e:=0) (x:=⟨0,0,0,0,[],none,0⟩) rfl;show decide (0<V.ql 0)=false
  rw[ql_at hq];unfold QV.len;rw[hy];simp
theorem awake24_any(w:World)(hT:Tab w):Calls Tryz.prog 6 #[] w fun e w'=>e= .returned (.bool true)∧Below w.heap.size w w':=by
 have hg:=awG4_good w;have b1:=putO_below w awO4;have z1:(putO w awO4).heap.size=w.heap.size+1+1:=by rw[putO_size];rfl
 go_enter Tryz.func6, Tryz.ntmps6
 go_upto_region 2 with fail;obtain⟨W6,hW6⟩:∃W,putO w awO4=W:=⟨_,rfl⟩;have e:(w.alloc (.cells #[.string ⟨#[97]⟩, .int .u8 8, .slice none 0 0] 72)).alloc (.cells #[.int .i64 0, .int .i64 0, .int .i64 0, .int .i64 0, .slice none 0 0] 69)=W6:=hW6;rw[e];obtain⟨B,hB⟩:∃B,w.heap.size=B:=⟨_,rfl⟩;rw[hW6]at hg b1 z1;rw[hB]at hg b1 z1⊢;clear e hW6;have kb:=Blk.new W6 _ z1.symm 26 #[.string ⟨#[103]⟩, .slice (some ⟨B,0,none⟩) 1 1, .slice (some ⟨B+1,0,none⟩) 1 1, .slice none 0 0, .slice none 0 0];have bb:=bA_ W6 (.cells #[.string ⟨#[103]⟩, .slice (some ⟨B,0,none⟩) 1 1, .slice (some ⟨B+1,0,none⟩) 1 1, .slice none 0 0, .slice none 0 0] 26);obtain⟨W7,hW7⟩:=wN_ bb;rw[hW7]at kb bb⊢;have hg7:(awG4 B).good W7 W7.heap.size:=(hg.below bb (by omega)).more (by have:=bb.size;omega)
 have b7:=b1.trans (bb.mono (by omega))
 have t7:=hT.below (hB▸b7) hT.pos;have c0:=kb.cellL 0 rfl;have c1:=kb.cellL 1 rfl;have c2:=kb.cellL 2 rfl;have c3:=kb.cellL 3 rfl;have c4:=kb.cellL 4 rfl;have HG7:=Lh hg7;have HB7:=Lh b7;have HT7:=Lh t7;have HKG:=Lh kb;have HHB:=Lh hB;clear hg b1 z1 kb bb hW7 hg7 b7 t7
 go_wp2_with fail;refine(netOf_any (awG4 B) W7 HG7.out).mono ?_
 rw[awG4_check,awG4_arcs];rintro e w2 ⟨n,A,l,c,rfl,hb2,h⟩;obtain⟨hn,hl,ho⟩:=h rfl;obtain rfl:n=1:=hn;obtain rfl:l=1:=hl;have hlm:∀n:Nat,n≤5→n≤maxLen:=fun n hn=>by unfold maxLen;omega
 have ho:w2.ownsRow _ 76 5 (.slice A 1 c) 1 (cellsA aw2):=ho
 have b2:=HB7.out.trans (hb2.mono (by have:=HB7.out.size;omega))
 have t2:=HT7.out.below hb2 HT7.out.pos;have hb3:=bA_ w2 (.cells #[.int .i64 1, .slice A 1 c] 30);have k3:=bN_ hb3;have r3:=((rd_of_own ho).below hb3 lR_).more hb3.size;have kg3:=(HKG.out.below hb2 HKG.out.lt).below hb3 (HKG.out.below hb2 HKG.out.lt).lt;have hg3:=(((HG7.out.below hb2 lR_).more hb2.size).below hb3 lR_).more hb3.size;clear HG7 HKG h hb2 ho c0 c1 c2 c3 c4
 go_upto_region 3 with fail;obtain⟨W3,hW3⟩:=wN_ hb3;obtain⟨g3,hgg3⟩:∃g,w2.heap.size=g:=⟨_,rfl⟩;have b3:=b2.trans (hb3.mono (by have:=b2.size;omega))
 have t3:=t2.below hb3 t2.pos;rw[hW3]at hb3 k3 r3 b3 t3 kg3 hg3;rw[hgg3]at k3
 try rw[hW3]
 try rw[hgg3]
 have n0:=k3.cellL 0 rfl;have n1:=k3.cellL 1 rfl;have HB3:=Lh b3;have HT3:=Lh t3;have HK3:=Lh k3;have HR3:=Lh r3;have HKG3:=Lh kg3;have HG3:=Lh hg3;clear hW3 hgg3 b2 t2 hb3 k3 r3 b3 t3 kg3 hg3 HB7 HT7
 go_wp2_with fail;refine(solve_any 1 aw2 A 1 c W3 rfl (aw_fit_Su (by decide)) HR3.out (hlm 1 (by omega)) HT3.out).mono ?_
 rintro e w4 ⟨vd,reps,cyc,k,Ar,cr,Ac,cc,rfl,hs,-,-,oR,-,hb4⟩;obtain⟨rfl,rfl,rfl,rfl⟩:=hs.one aw2_sol;have oR:w4.ownsRow _ 3 1 (.slice Ar 1 cr) 1 (cellsI [1]):=oR;have b4:=HB3.out.trans (hb4.mono (by have:=HB3.out.size;omega))
 have k4:=HK3.out.below hb4 HK3.out.lt;have r4:=(HR3.out.below hb4 lR_).more hb4.size;have hb5:=bA_ w4 (.cells #[.int .u8 1, .slice Ar 1 cr, .slice Ac 0 cc] 39);have k5:=bN_ hb5;have kn5:=k4.below hb5 k4.lt;have r5:=(r4.below hb5 lR_).more hb5.size;have q5:=((rd_of_own oR).below hb5 lR_).more hb5.size;have b5:=b4.trans (hb5.mono (by have:=b4.size;omega))
 have kg5:=(HKG3.out.below hb4 HKG3.out.lt).below hb5 (HKG3.out.below hb4 HKG3.out.lt).lt;have hg5:=(((HG3.out.below hb4 lR_).more hb4.size).below hb5 lR_).more hb5.size;clear hs oR hb4 HB3 HT3 HK3 HR3 n0 n1 k4 r4 b4 HKG3 HG3
 go_upto_region 4 with fail;obtain⟨W5,hW5⟩:=wN_ hb5;obtain⟨g5,hgg5⟩:∃g,w4.heap.size=g:=⟨_,rfl⟩;rw[hW5]at hb5 k5 kn5 r5 q5 b5 kg5 hg5;rw[hgg5]at k5
 try rw[hW5]
 try rw[hgg5]
 have n0:=kn5.cellL 0 rfl;have n1:=kn5.cellL 1 rfl;have p1:=k5.cellL 1 rfl;have HB5:=Lh b5;have HKN5:=Lh kn5;have HR5:=Lh r5;have HQ5:=Lh q5;have HKG5:=Lh kg5;have HG5:=Lh hg5;clear hW5 hgg5 hb5 k5 kn5 r5 q5 b5 kg5 hg5
 go_wp2_with fail;refine(simRun_any 1 aw2 A 1 c [1] Ar 1 cr [] none 0 0 W5 rfl (aw_fit_Su (by decide)) HR5.out (hlm 1 (by omega)) rfl (fit_few (by decide)) HQ5.out (hlm 1 (by omega)) rfl (fit_few (by decide)) (.inl rfl) (by omega)).mono ?_
 rintro e w6 ⟨lv,sv,rfl,ol,os,hb6⟩;rw[show((1:Int).toNat)=1 from rfl,aw2_ans]at ol os
 rw[aw2_ok];obtain⟨Al,cl,rfl,_⟩:=own_slice ol;obtain⟨As,cs,rfl,_⟩:=own_slice os;simp only[List.length_cons,List.length_nil,Nat.reduceAdd]at ol os⊢;have b6:=HB5.out.trans (hb6.mono (by have:=HB5.out.size;omega))
 have kn6:=HKN5.out.below hb6 HKN5.out.lt;have kg6:=HKG5.out.below hb6 HKG5.out.lt;have hg6:=(HG5.out.below hb6 lR_).more hb6.size;have r6:=(HR5.out.below hb6 lR_).more hb6.size;have s6:=rd_of_own os;have hb7:=bA_ w6 (.cells #[.slice Al 0 cl, .slice As 1 cs] 44);have kp7:=bN_ hb7;have kn7:=kn6.below hb7 kn6.lt;have kg7:=kg6.below hb7 kg6.lt;have hg7:=(hg6.below hb7 lR_).more hb7.size;have r7:=(r6.below hb7 lR_).more hb7.size;have s7:=(s6.below hb7 lR_).more hb7.size;have b7:=b6.trans (hb7.mono (by have:=b6.size;omega))
 clear ol os hb6 HB5 HR5 HQ5 HKN5 HKG5 HG5 n0 n1 p1 b6 kn6 kg6 hg6 r6 s6
 go_upto_region 5 with fail;obtain⟨W8,hW8⟩:=wN_ hb7;obtain⟨gp,hgp⟩:∃g,w6.heap.size=g:=⟨_,rfl⟩;rw[hW8]at hb7 kp7 kn7 kg7 hg7 r7 s7 b7;rw[hgp]at kp7
 try rw[hW8]
 try rw[hgp]
 have ba:=bA_ W8 (.cells #[.int .i64 1] 3);have q8:=rd_alloc W8 _ rfl 3 (cellsI [1]);have kp8:=kp7.below ba kp7.lt;have kn8:=kn7.below ba kn7.lt;have hg8:=(hg7.below ba lR_).more ba.size;have r8:=(r7.below ba lR_).more ba.size;have s8:=(s7.below ba lR_).more ba.size;have b8:=b7.trans (ba.mono (by have:=b7.size;omega))
 have c0:=kg7.cellL 0 rfl;have c1:=kg7.cellL 1 rfl;have c2:=kg7.cellL 2 rfl;have c3:=kg7.cellL 3 rfl;have c4:=kg7.cellL 4 rfl;have hq8:Rd (W8.alloc (.cells #[.int .i64 1] 3)) (W8.alloc (.cells #[.int .i64 1] 3)).heap.size (some ⟨W8.heap.size,0,none⟩) (cellsI [1]):=q8.more (by simp)
 have HRG:=Lh (rig_any (awG4 B) [1] (some ⟨W8.heap.size,0,none⟩) 1 1 [] none 0 0 (W8.alloc (.cells #[.int .i64 1] 3)) hg8 (awG4_check B) rfl (fit_few (by decide)) hq8 rfl ⟨.inl rfl,fun r hr=>(by cases hr)⟩)
 have HB8:=Lh b8;have HKP8:=Lh kp8;have HKN8:=Lh kn8;have HR8:=Lh r8;have HS8:=Lh s8;have hz8:B≤(W8.alloc (.cells #[.int .i64 1] 3)).heap.size:=by have:=b8.size;omega
 have HZ8:=Lh hz8;clear hW8 hgp hb7 kp7 kn7 kg7 hg7 r7 s7 b7 ba q8 kp8 kn8 hg8 r8 s8 b8 hq8 hz8
 go_wp2_with fail;refine HRG.out.mono ?_
 rintro e w9 ⟨hb9,hcase⟩;rcases hcase with⟨rfl,hbad⟩|⟨V,ρ,rfl,hJ⟩
 ·exact absurd ⟨rfl,fun c hc=>by simp at hc;omega⟩ hbad
 ·have kp9:=HKP8.out.below hb9 HKP8.out.lt;have kn9:=HKN8.out.below hb9 HKN8.out.lt;have x1:=kp9.cellL 1 rfl;have n0:=kn9.cellL 0 rfl;have n1:=kn9.cellL 1 rfl;have HR9:=Lh ((HR8.out.below hb9 lR_).more hb9.size);have HS9:=Lh ((HS8.out.below hb9 lR_).more hb9.size);have HJ9:=Lh hJ;have HB9:=Lh (HB8.out.trans (hb9.mono HZ8.out));clear hb9 kp9 kn9 hJ c0 c1 c2 c3 c4 HRG HR8 HS8 HKP8 HKN8
  go_wp2_with fail;refine(confirm_yes 1 aw2 A c (fun _=>0) [0] As 1 cs w9 rfl aw2_check aw2_net HR9.out HS9.out aw2_held).mono ?_
  rintro e w10 ⟨rfl,hb10⟩;have hJ10:=HJ9.out.below hb10;have HB10:=Lh (HB9.out.trans (hb10.mono (by have:=HB9.out.size;omega)))
  have hlen:V.tasks.length=1:=hJ10.tl
  have HJ10:=Lh hJ10;have HV:=Lh (show HeldV (awG4 B).acts.length (garcs (awG4 B)) (fun _=>0) [0] by rw[awG4_arcs];exact aw2_held)
  have HRN:=Lh (rigRounds_any _ 100 (lawJ_rig (L:=0) (awG4_check B) HV.out (by omega) (by omega)) V ρ 0 w10 hJ10.rig (hJ10.full (awG4_check B)) hJ10.bnd (hJ10.law (fun j hj=>absurd hj (Nat.not_lt_zero j)) fun v _=>Int.le_refl _) (by omega) 1 hlen (by omega) 3 (by omega) (by omega))
  have Hlen:=Lh hlen;obtain⟨rg,hrg⟩:∃b,V.rg=b:=⟨_,rfl⟩;rw[hrg]at HRN⊢;have Hrg:=Lh hrg;clear hb10 hJ10 hlen HJ9 HB9 HR9 HS9 x1 n0 n1 hrg
  go_wp2_with fail;refine HRN.out.mono ?_
  rintro e w11 ⟨d,V',ρ',rfl,hat,hrun⟩;have hidle:V.idle 1:=aw4_idle HJ10.out;obtain⟨rfl,rfl⟩:d=0∧V'=V:=by
   rcases hrun with h|⟨j,V1,-,h1,h2⟩
   ·have:=(h.idle hidle).1
    omega
   ·obtain⟨-,hd,rfl⟩:=h1.idle hidle;exact⟨hd,(h2.idle hidle lR_).2⟩
  have HM11:=Lh hat.m;have HF11:=Lh (HJ10.out.full (awG4_check B));have HB11:Hid (Below B W6 W6):=Below.refl _ _;have hb11:Below B w w11:=by
   have h1:=hat.v.below (B:=B) (fun b hb=>HJ10.out.fx b (by have:=HZ8.out;omega)) (by have:=HB10.out.size;have:=HHB.out;omega)
   exact HB10.out.trans h1
  have HB11:=Lh hb11;have Hidle:=Lh hidle;clear hat hrun hb11 hidle HRN
  go_wp2_with fail;have HHL:=Lh (rigHalt_any V' ρ' w11 HM11.out HF11.out (by rw[Hlen.out];omega))
  rw[Hrg.out]at HHL;refine HHL.out.mono ?_;rw[if_neg (by rw[HJ10.out.ef];omega),rdys_idle (by rw[Hlen.out];exact Hidle.out),if_pos List.length_nil]
  rintro e w12 ⟨rfl,hb12⟩;have HM12:=Lh (HM11.out.below hb12);have HB12:=Lh (HB11.out.trans (hb12.mono (by have:=HB11.out.size;have:=HHB.out;omega)))
  clear hb12 HM11
  go_wp2_with fail;have HFL:=Lh (rigFired_any V' ρ' w12 HM12.out (by rw[Hlen.out];omega))
  rw[Hrg.out,Hlen.out]at HFL;refine HFL.out.mono ?_;rintro e w13 ⟨Af,cf,rfl,rF,hb13⟩;have eF:cellsN (V'.tasks.map (·.wh))=cellsI [0]:=by
   obtain⟨t,ht⟩:∃t,V'.tasks=[t]:=List.length_eq_one_iff.1 Hlen.out;rw[ht];obtain⟨x,-,hF⟩:=HJ10.out.tf 0 t (by rw[ht];rfl)
   show cellsN [t.wh]=_
   rw[hF.wh]
   rfl
  rw[eF]at rF;have bz:=bA_ w13 (.cells #[.int .i64 0] 3);have s13:=rd_alloc w13 _ rfl 3 (cellsI [0]);have HRF:=Lh (rF.below bz lR_);have HS13:=Lh s13;have b13:=HB12.out.trans (hb13.mono (by have:=HB12.out.size;have:=HHB.out;omega))
  have HB13:=Lh (b13.trans (bz.mono (by have:=b13.size;have:=HHB.out;omega)))
  clear hb13 rF eF bz s13 b13
  go_wp2_with fail;refine(sameInts_any [0] [0] Af (some ⟨w13.heap.size,0,none⟩) 1 1 cf 1 _ _ _ rfl rfl (fit_few (by decide)) (fit_few (by decide)) HRF.out HS13.out (hlm 1 (by omega))).mono ?_
  rintro e w14 ⟨rfl,d14⟩;obtain⟨dd,rfl⟩:=d14;have HB14:=Lh (Below.drewN HB13.out dd);clear HB13 HS13 HRF
  go_wp2_with fail
  go_ret;exact⟨rfl,HHB.out.symm▸HB14.out⟩
theorem whole_no(fs:List Nat)(rs:List Int)(A B:Option Addr)(l m c d:Nat)(w:World)(hl:fs.length=l)(hm:rs.length=m)(hA:Rd w w.heap.size A (cellsN fs))(hB:Rd w w.heap.size B (cellsI rs))(v f:Nat)(r:Int)(hv:fs[v]?=some f)(hr:rs[v]?=some r)(hlt:(f:Int)<r)(hvs:v<1048576):
  Calls Tryz.prog 17 #[.slice A l c, .slice B m d] w fun e w'=>e= .returned (.bool false)∧Below w.heap.size w w':=by
 have hvl:v<l:=by rw[←hl];exact get_lt hv
 have hvm:v<m:=by rw[←hm];exact get_lt hr
 obtain⟨a,oa,rfl,ca⟩:∃b o,A=some ⟨b,o,none⟩∧b<w.heap.size∧∀(i:Nat) (u:Value),(cellsN fs)[i]?=some u→w.cell? ⟨b,o+i,none⟩=some u:=by
  rcases hA with hr|⟨b,off,hA,hb,hcell⟩
  ·have h1:=congrArg List.length hr;rw[cellsN_length,List.length_nil,hl]at h1;omega
  ·exact⟨b,off,hA,hb,hcell⟩
 obtain⟨b,ob,rfl,cb⟩:∃b o,B=some ⟨b,o,none⟩∧b<w.heap.size∧∀(i:Nat) (u:Value),(cellsI rs)[i]?=some u→w.cell? ⟨b,o+i,none⟩=some u:=by
  rcases hB with hr|⟨b,off,hA,hb,hcell⟩
  ·have h1:=congrArg List.length hr;rw[cellsI_length,List.length_nil,hm]at h1;omega
  ·exact⟨b,off,hA,hb,hcell⟩
 have HA:=Lh ca;have HB:=Lh cb;have Hl:=Lh hl;have Hm:=Lh hm;have Hv:=Lh hv;have Hr:=Lh hr;have Hlt:=Lh hlt;clear ca cb hA hB hl hm hv hr hlt
 go_enter Tryz.func17, Tryz.ntmps17
 go_wp2_with fail
 go_loopw [5] (fun i wr=>∃k:Nat,k≤v∧i= .int .i64 k∧Below w.heap.size w wr) (fun i _=>v-(intOf i).toNat)
 case atStart=>exact⟨0,Nat.zero_le _,rfl,Below.refl _ _⟩
 case round=>
  obtain⟨k,hk,rfl,hb⟩:=hrel;have h1:(k:Int)<(l:Int):=by omega
  have h2:(k:Int)<(m:Int):=by omega
  have h0:(0:Int)≤(k:Int):=by omega
  obtain⟨f',hf'⟩:=get_of_lt (l:=fs) (i:=k) (by rw[Hl.out];omega)
  obtain⟨r',hr'⟩:=get_of_lt (l:=rs) (i:=k) (by rw[Hm.out];omega)
  have c1:=(hb.cell (p:=⟨a,oa+k,none⟩) HA.out.1).trans (HA.out.2 k _ (cellsN_get hf'));have c2:=(hb.cell (p:=⟨b,ob+k,none⟩) HB.out.1).trans (HB.out.2 k (.int .i64 r') (by simp[cellsI,hr']))
  have Hf':=Lh hf';have Hr':=Lh hr';have HBw:=Lh hb;clear hf' hr' hb;by_cases hq:(f':Int)<r'
  ·go_wp2_with fail
   go_quiet (fail)
   generalize hW:World.drewN wr _=w2;have d2:Drawn wr w2:=by rw[←hW];exact(Drawn.refl _).drewN _
   have HB2:=Lh (HBw.out.trans ((d2.below wr.heap.size).mono HBw.out.size));clear hW d2
   go_wp2_with fail
   go_ret;exact⟨rfl,HB2.out⟩
  ·have hne:k≠v:=by
    rintro rfl;obtain rfl:=Option.some.inj (Hf'.out.symm.trans Hv.out);obtain rfl:=Option.some.inj (Hr'.out.symm.trans Hr.out);exact hq Hlt.out
   go_wp2_with fail
   go_quiet (fail)
   generalize hW:World.drewN wr _=w2;have d2:Drawn wr w2:=by rw[←hW];exact(Drawn.refl _).drewN _
   have HB2:=Lh (HBw.out.trans ((d2.below wr.heap.size).mono HBw.out.size));clear hW d2
   go_wp2_with fail
   go_roundw
   case rel=>exact⟨k+1,by omega,by go_num,HB2.out⟩
   case measure=>simp[intOf];omega
end Go.Proofs.YtpmlljbebdidgaaGreatDoor
