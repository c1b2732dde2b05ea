/- Lemmas and walks for the claim: Fv. -/
import Derived.Test.YtpmlljbebdidgaaGreatDoorA0
import Derived.Test.YtpmlljbebdidgaaGreatDoorA39
set_option linter.unusedSimpArgs false
set_option maxRecDepth 100000
set_option maxHeartbeats 4000000
namespace Go.Proofs.YtpmlljbebdidgaaGreatDoor
open Go.RowKit
theorem zhY:(Tryz.prog.info? 93).map (fun i=>(i.zero,i.size,i.bytes))=some (some (.agg #[.int .i64 0, .bool false]),2,16):=by kernel_rfl
theorem zl6:(Tryz.prog.info? 4).map (fun i=>(i.zero,i.size,i.bytes))=some (some (.bool false),1,1):=by kernel_rfl
theorem zl7(n:Nat):(madeCells #[Value.int .i64 0,Value.bool false] (n*2)).toList=cellsS (List.replicate n (0,false)):=by
 apply zaf
 intro j;by_cases hj:j<n*2
 ·have hq:j/2<n:=by omega
  obtain⟨h1,h2⟩:=zge (List.replicate n ((0,false):Stp)) (j/2) (0,false) (by simp[hq])
  rcases Nat.mod_two_eq_zero_or_one j with h|h
  ·rw[show j/2*2=j by omega]at h1
   rw[h1];simp[madeCells,hj,h]
  ·rw[show j/2*2+1=j by omega]at h2
   rw[h2];simp[madeCells,hj,h]
 ·rw[zD (by simp[madeCells];omega),zD (by rw[zdO];simp;omega)]
theorem zl8(n:Nat):(madeCells #[Value.bool false] n).toList=zcW (List.replicate n false):=by
 simp only[madeCells,zcW];apply zbb
 ·simp
 ·intro j h1 h2;simp[zc4]
theorem znB(n:Nat):(madeCells #[Value.int .i64 0] n).toList=cellsI (List.replicate n 0):=by
 have:=zdR n
 simpa [Value.cells]using this
theorem zf1(s:Stp):∀u∈stepCells s,u.oneCell'=true:=by
 intro u hu;simp[stepCells]at hu;rcases hu with rfl|rfl<;>rfl
theorem same_edge:∀{T:List Edg},Forest T→∀{d e:Edg},d∈T→e∈T→d.i=e.i→d=e
 |[],_,d,e,hd,_,_=>by cases hd
 |x::T,hF,d,e,hd,he,hi=>by
  rcases zV.1 hd with h1|h1
  ·rcases zV.1 he with h2|h2
   ·rw[h1,h2]
   ·exact absurd (hi.symm.trans (by rw[h1])) (hF.2.1 e h2)
  ·rcases zV.1 he with h2|h2
   ·exact absurd (hi.trans (by rw[h2])) (hF.2.1 d h1)
   ·exact same_edge hF.1 h1 h2 hi
theorem Below.grownNone{W0 wr w':World}(h:Below W0.heap.size W0 wr)(hg:wr.grownBy w' none):Below W0.heap.size W0 w':=h.grown hg h.size (fun k hk=>by cases hk)
theorem zfm:∀(ars:List ArcV) (i:Nat) (up tr:List Int),(forestGo i up tr ars).2.length≤tr.length+ars.length
 |[],i,up,tr=>by simp[forestGo]
 |a::ars,i,up,tr=>by
  rw[forestGo,zaG];split
  ·have:=zfm ars (i+1) up tr;omega
  ·have:=zfm ars (i+1) (up.set (max (root up a.f.toNat) (root up a.t.toNat)) (min (root up a.f.toNat) (root up a.t.toNat):Nat)) (tr++[(i:Int)])
   simp only[zx,zaE]at this;omega
theorem ziT(n:Nat)(ars:List ArcV):(treeF n ars).length≤ars.length:=by
 have:=zfm ars 0 (selfs n) []
 simpa [treeF]using this
def zoH(w:World)(T:List Edg)(s t:Nat)(e:Ending)(w':World):Prop:=
 ∃A c p,e= .returned (.tuple #[.slice A p.length c, .int .i64 0])∧Walk T s p t∧Red p∧w'.ownsRow w.heap.size 93 2 (.slice A p.length c) p.length (cellsS p)∧Below w.heap.size w w'∧p.length≤32
theorem zoI(n:Nat)(ars:List ArcV)(A:Option Addr)(l c:Nat)(s t:Nat)(w:World)(T:List Edg)(hT:FInv n ars ars.length (upF n ars) (treeF n ars) T)(hl:ars.length=l)(hx:∀a∈ars,a.fit)(hr:Rd w w.heap.size A (cellsA ars))(hm:l≤maxLen)(hc:checkF n ars=0)(hs:s<n)(ht:t<n)(hst:root (upF n ars) s=root (upF n ars) t):
  Calls Tryz.prog 29 #[.agg #[.int .i64 n, .slice A l c], .int .i64 s, .int .i64 t] w (zoH w T s t):=by
 obtain⟨i0,hi,hz0,hz1,hz2⟩:=info_parts zas;obtain⟨i1,hj,hy0,hy1,hy2⟩:=info_parts zhY;obtain⟨i2,hk,hx0,hx1,hx2⟩:=info_parts zl6;have b0:=bA_ w (.cells #[.int .i64 n, .slice A l c] 30);have kb:=bN_ b0;obtain⟨hn1,hn32,hl96,hok⟩:=zew hc;have Hc:=Lh hc;clear hc;have c1:=zdd (ars:=ars) hs;have c2:=zdd (ars:=ars) ht;have Hst:=Lh hst;obtain⟨x,hx1'⟩:∃x,root (upF n ars) s=x:=⟨_,rfl⟩;rw[hx1']at c1 hst;rw[←hst]at c2;have Hc1:=Lh c1;have Hc2:=Lh c2;clear hx1' c1 c2 hst
 go_enter Tryz.func29, Tryz.ntmps29
 go_wp2_with fail;refine(zgx n ars A l c _ hl hx ((hr.below b0 lR_).more (by simp)) hm Hc.out).mono ?_;rintro e w1 ⟨At,ct,gh,rfl,hgh,ot,oh,hb1⟩
 have b1:=b0.trans (hb1.mono (by simp))
 have b2:=b1.alloc b1.size (.cells #[.slice At (treeF n ars).length ct, .slice (some ⟨gh,0,none⟩) n n] 79);have k2:=(kb.below hb1 (by simp)).alloc (.cells #[.slice At (treeF n ars).length ct, .slice (some ⟨gh,0,none⟩) n n] 79)
 have kF:=Blk.new w1 _ rfl 79 #[.slice At (treeF n ars).length ct, .slice (some ⟨gh,0,none⟩) n n];have oh2:=oh.alloc (.cells #[.slice At (treeF n ars).length ct, .slice (some ⟨gh,0,none⟩) n n] 79);have ot2:=ot.alloc (.cells #[.slice At (treeF n ars).length ct, .slice (some ⟨gh,0,none⟩) n n] 79);obtain⟨W,hW⟩:∃W,w1.alloc (.cells #[.slice At (treeF n ars).length ct, .slice (some ⟨gh,0,none⟩) n n] 79)=W:=⟨_,rfl⟩;obtain⟨bF,hbF⟩:∃bF,w1.heap.size=bF:=⟨_,rfl⟩;rw[hW]at b2 k2 kF oh2 ot2;rw[hbF]at kF;have n0:=k2.cell 0;have f1:=kF.cell 1;have d1:=oh2.cellAt s (by omega)
 have d2:=oh2.cellAt t (by omega)
 rw[show(cellsI (zcq n ars))[s]?=some (.int .i64 x) by simp[cellsI,Hc1.out]]at d1
 rw[show(cellsI (zcq n ars))[t]?=some (.int .i64 x) by simp[cellsI,Hc2.out]]at d2
 simp at n0 f1
 clear kb ot oh oh2 b0 b1 hgh hb1
 go_upto_region 4 with fail
 try rw[hW]
 clear hW
 go_cut [30] (fun s wx=>wx=W∧s= .bool false)
 case first=>
  go_wp2_with fail
  all_goals go_meet
  all_goals (refine⟨rfl,?_⟩;first|rfl|(congr 1;simp;done)|(congr 1;simp;omega))
 case rest=>
  obtain⟨rfl,rfl⟩:=hcut
  go_wp2
  go_quiet (fail)
  have B0:=Below.drewN b2 nq;have K0:Blk (wc.drewN nq) w.heap.size 30 #[.int .i64 n, .slice A l c]:=k2;have F0:Blk (wc.drewN nq) bF 79 #[.slice At (treeF n ars).length ct, .slice (some ⟨gh,0,none⟩) n n]:=kF;have R0:Rd (wc.drewN nq) (wc.drewN nq).heap.size At (cellsI (treeF n ars)):=rd_of_own (w:=wc.drewN nq) (base:=gh+1) (e:= 3) (size:=1) (n:=(treeF n ars).length) (c:=ct) ot2;generalize wc.drewN nq=W0 at B0 K0 F0 R0⊢;clear b2 k2 kF ot2 d1 d2 f1 n0 wc hbF w1;have n0:=K0.cell 0;simp at n0
  go_wp2_with (at_make;refine wpList_make_full _ rfl _ _ 37 rfl W0.heap.size 93 i1 (.agg #[.int .i64 0, .bool false]) 2 Tryz.underlying37 hj hy0 hy1 _ _ _ _ n rfl rfl (by omega) (by omega) (by rw[hy2];omega) (by unfold maxLen;omega) lR_ ?_)
  intro W1 o1 g1;rw[zl7]at o1;have hlt1:=own_lt o1;obtain⟨gN,hgN⟩:∃gN,W0.heap.size=gN:=⟨_,rfl⟩;obtain⟨bN,hbN⟩:∃bN,W1.heap.size=bN:=⟨_,rfl⟩;have B2:=(Below.grownNone (zm _ W0) g1).alloc g1.size (.cells #[.slice (some ⟨gN,0,none⟩) n n] 37);have K2:=(K0.grown g1 (by simp)).alloc (.cells #[.slice (some ⟨gN,0,none⟩) n n] 37)
  have kN2:=Blk.new W1 bN hbN.symm 37 #[.slice (some ⟨gN,0,none⟩) n n];have o2:=o1.alloc (.cells #[.slice (some ⟨gN,0,none⟩) n n] 37);have n2:=K2.cell 0;simp at n2;rw[hgN]at o2⊢;rw[hgN,hbN]at hlt1;clear g1 o1 n0
  go_wp2_with (at_make;refine wpList_make_full _ rfl _ _ 36 rfl (bN+1) 3 i0 (.int .i64 0) 1 Tryz.underlying36 hi hz0 hz1 _ _ _ _ n rfl rfl (by omega) (by omega) (by rw[hz2];omega) (by unfold maxLen;omega) (by simp;omega) ?_)
  intro W3 o3 g3;rw[znB]at o3;have hlt3:=own_lt o3;have hs3:(W1.alloc (.cells #[.slice (some ⟨gN,0,none⟩) n n] 37)).heap.size=bN+1:=by simp[hbN]
  obtain⟨gT,hgT⟩:∃gT,bN+1=gT:=⟨_,rfl⟩;obtain⟨bT,hbT⟩:∃bT,W3.heap.size=bT:=⟨_,rfl⟩;have B4:=(Below.grownNone B2 g3).alloc (Below.grownNone B2 g3).size (.cells #[.slice (some ⟨gT,0,none⟩) n n] 36);have K4:=(K2.grown g3 (by simp)).alloc (.cells #[.slice (some ⟨gT,0,none⟩) n n] 36)
  have kN4:=(kN2.grown g3 (by simp)).alloc (.cells #[.slice (some ⟨gT,0,none⟩) n n] 36)
  have kT4:=Blk.new W3 bT hbT.symm 36 #[.slice (some ⟨gT,0,none⟩) n n];have o24:=(o2.kept g3 (.inr (by simp[Value.ownBlock]))).alloc (.cells #[.slice (some ⟨gT,0,none⟩) n n] 36)
  have o4:=o3.alloc (.cells #[.slice (some ⟨gT,0,none⟩) n n] 36);have n4:=K4.cell 0;simp at n4;rw[hgT]at o4⊢;clear g3 o3 hs3 n2 B2 K2 kN2 o2
  go_wp2_with (at_make;refine wpList_make_full _ rfl _ _ 143 rfl (bT+1) 4 i2 (.bool false) 1 Tryz.underlying143 hk hx0 hx1 _ _ _ _ n rfl rfl (by omega) (by omega) (by rw[hx2];omega) (by unfold maxLen;omega) (by simp;omega) ?_)
  intro W5 o5 g5;rw[zl8]at o5;have hlt5:=own_lt o5;obtain⟨gK,hgK⟩:∃gK,bT+1=gK:=⟨_,rfl⟩;obtain⟨bK,hbK⟩:∃bK,W5.heap.size=bK:=⟨_,rfl⟩;have B6:=(Below.grownNone B4 g5).alloc (Below.grownNone B4 g5).size (.cells #[.slice (some ⟨gK,0,none⟩) n n] 143);have kN6:=(kN4.grown g5 (by simp)).alloc (.cells #[.slice (some ⟨gK,0,none⟩) n n] 143)
  have kT6:=(kT4.grown g5 (by simp)).alloc (.cells #[.slice (some ⟨gK,0,none⟩) n n] 143)
  have kK6:=Blk.new W5 bK hbK.symm 143 #[.slice (some ⟨gK,0,none⟩) n n];have o26:=(o24.kept g5 (.inr (by simp[Value.ownBlock]))).alloc (.cells #[.slice (some ⟨gK,0,none⟩) n n] 143)
  have o46:=(o4.kept g5 (.inr (by simp[Value.ownBlock]))).alloc (.cells #[.slice (some ⟨gK,0,none⟩) n n] 143)
  have o6:=o5.alloc (.cells #[.slice (some ⟨gK,0,none⟩) n n] 143);rw[hgK]at o6⊢;rw[hbK]at hlt5;rw[hbT]at hlt3;have k6:(W5.alloc (.cells #[.slice (some ⟨gK,0,none⟩) n n] 143)).cell? ⟨bK,0,none⟩=some (.slice (some ⟨gK,0,none⟩) n n):=kK6.cell 0;have e6:=o6.cellAt t (by omega)
  have e6':=o6.frozenAt t;rw[show(zcW (List.replicate n false))[t]?=some (.bool false) by simp[zcW,ht]]at e6
  clear g5 o5 n4 B4 K4 kN4 kT4 o24 o4
  go_wp2
  have r1:=o6.stored t (.bool true);have ho7:=r1.1;rw[zhb]at ho7;have hsz:((W5.alloc (.cells #[.slice (some ⟨gK,0,none⟩) n n] 143)).setCell ⟨gK,t,none⟩ (.bool true)).heap.size=(bK+1):=by simp[hbK]
  have g7:=r1.2;have S:∃wz,wz=(((W5.alloc (.cells #[.slice (some ⟨gK,0,none⟩) n n] 143)).setCell ⟨gK,t,none⟩ (.bool true)).alloc (.cells #[.int .i64 t] 3)).alloc (.cells #[.slice (some ⟨(bK+1),0,none⟩) 1 1] 36)∧
    PSt W0 wz n gN bN gT bT gK bK (bK+1) (bK+1+1) ((List.replicate n false).set t true) (List.replicate n (0,false)) (List.replicate n 0) [(t:Int)] (.slice (some ⟨(bK+1),0,none⟩) 1 1):=by
   refine⟨_,rfl,?_⟩;generalize hV:(W5.alloc (.cells #[.slice (some ⟨gK,0,none⟩) n n] 143)).setCell ⟨gK,t,none⟩ (.bool true)=V at*;have hs8:(V.alloc (.cells #[.int .i64 t] 3)).heap.size=bK+1+1:=by simp[hsz]
   have gg:V.grownBy ((V.alloc (.cells #[.int .i64 t] 3)).alloc (.cells #[.slice (some ⟨(bK+1),0,none⟩) 1 1] 36)) none:=(World.grownBy_alloc V _ none).trans (World.grownBy_alloc _ _ none)
   have bV:Below W0.heap.size W0 V:=B6.grown g7 B6.size (fun k hk=>by cases hk;omega)
   refine⟨Below.grownNone bV gg,(kN6.grown g7 (by simp;omega)).grown gg (by simp),(o26.kept g7 (.inr (by simp[Value.ownBlock];omega))).kept gg (.inr (by simp[Value.ownBlock])),(kT6.grown g7 (by simp;omega)).grown gg (by simp),
    (o46.kept g7 (.inr (by simp[Value.ownBlock];omega))).kept gg (.inr (by simp[Value.ownBlock])),(kK6.grown g7 (by simp;omega)).grown gg (by simp),ho7.kept gg (.inr (by simp[Value.ownBlock])),Blk.new _ _ hs8.symm _ _,?_,by omega,hlt1,by omega,by omega,by omega,by omega,by omega,by omega⟩
   have q8:ownsQ (V.alloc (.cells #[.int .i64 t] 3)) (bK+1) 3 (.slice (some ⟨(bK+1),0,none⟩) 1 1) 1 (cellsI [(t:Int)]):=by
    refine⟨rfl,(bK+1),0,1,#[.int .i64 t],rfl,zF _,?_,zF _,by unfold maxLen;omega,by simp,rfl⟩
    have:=heap_alloc_new V (.cells #[.int .i64 t] 3)
    rw[hsz]at this;exact this
   exact q8.alloc _
  obtain⟨wz,hwz,S⟩:=S;rw[←hwz];clear hwz hsz g7 ho7 r1 k6 e6 e6' o6 o46 o26 kK6 kT6 kN6 B6;have hF:=hT.forest;have I0:BInv T n t ((List.replicate n false).set t true) (List.replicate n (0,false)) (List.replicate n 0) [(t:Int)] (fun _ _=>False):=BInv.start T ht _ _ (by simp) (by simp)
  have hu0:unknown ((List.replicate n false).set t true)+[(t:Int)].length≤32:=by
   have h1:=zc2 (kn:=List.replicate n false) (x:=t) (by simp[ht])
   have h2:unknown (List.replicate n false)≤n:=by
    have:=List.countP_le_length (p:=fun b=>!b) (l:=List.replicate n false)
    simpa [unknown]using this
   simp only[zaE];omega
  obtain⟨gW,hgW⟩:∃gW,bK+1=gW:=⟨_,rfl⟩;rw[hgW]at S⊢
  go_loopg [15] 33 (fun gk _ wr=>∃(kn:List Bool) (nx:List Stp) (tw q:List Int) (vq:Value),PSt W0 wr n gN bN gT bT gK bK gW (gW+1) kn nx tw q vq∧BInv T n t kn nx tw q (fun _ _=>False)∧unknown kn+q.length<gk∧gk≤33)
  case atStart=>exact⟨_,_,_,_,_,S,I0,by omega,by omega⟩
  case round=>
   clear S I0 hu0;obtain⟨ko,rfl⟩:∃ko:Nat,ko=gk:=⟨_,rfl⟩;obtain⟨kn,nx,tw,q,vq,S,I,hgk,hg33⟩:=hrel;obtain⟨gq,oq,cq,rfl,hgq,hgq2,hcq1,hcq2,hqc⟩:=S.oq.slice;have w0:=S.kW.cell 0;have wf:=S.kW.frozen 0;simp at w0;cases q with
   |nil=>
    have hks:kn[s]?=some true:=by
     obtain⟨q,hq⟩:=(hT.conn t s ht hs).1 Hst.out.symm;exact I.all I.home hq
    obtain⟨p,hp,hpr,hpl⟩:=I.leads s hks;have Hwk:=Lh hp.walk;have Hpr:=Lh hpr;have hlN:=zdO nx;have hlT:=cellsI_length tw;clear hks I hgk hg33 hpr hqc;obtain⟨wb,hwb⟩:∃wb,wb=wr:=⟨_,rfl⟩;rw[←hwb]at S w0 wf hgq2⊢;clear hwb wr
    go_wp2
    go_loopg [19,20] (p.length) (fun gk v19 v20 wx=>∃(pre rest:List Stp) (v:Nat) (A':Option Addr) (c':Nat),v19= .slice A' pre.length c'∧v20= .int .i64 v∧v<n∧gk=rest.length∧pre.length+rest.length≤32∧Leads T t kn nx tw v rest∧Hid (p=pre++rest)∧
     wx.ownsRow wb.heap.size 93 2 (.slice A' pre.length c') pre.length (cellsS pre)∧Below wb.heap.size wb wx)
    case atStart=>exact⟨[],p,s,none,0,rfl,rfl,hs,rfl,by simp;omega,hp,rfl,zr _ _ _ _,zm _ _⟩
    case round=>
     obtain⟨pre,rest,v,A',c',rfl,rfl,hvn,rfl,hlen,hld,Hp,op,bx⟩:=hrel;clear hp;cases rest with
     |nil=>
      obtain rfl:v=t:=hld.1;have e:=Hp.out;rw[zby]at e;subst e;clear hld Hp
      go_wp2
      go_ret2;exact⟨A',c',p,rfl,Hwk.out,Hpr.out,zeb op (zy B0.size S.bw.size),(B0.trans (S.bw.mono B0.size)).trans (bx.mono (zy B0.size S.bw.size)),by simp at hlen;omega⟩
     |cons s' rest=>
      obtain⟨hvt,hv1,hv2,m,hv3,hv4,hv5⟩:=hld;have hvt':((v:Int) !=(t:Int))=true:=by simp;omega
      have q0:=S.s0;have q1:=S.s1;have q2:=S.s2;have q3:=S.s3;have q4:=S.s4;have q5:=S.s5;have q6:=S.s6;have q7:=S.s7;have hbW:=S.kW.lt;have x0:=(bx.cell (p:=⟨bN,0,none⟩) (by simp;omega)).trans (S.kN.cell 0)
      obtain⟨hc1,hc2⟩:=zge nx v s' hv2;have x1:=(bx.cell (p:=⟨gN,v*2,none⟩) (by simp;omega)).trans ((S.oN.cellAt (v*2) (by omega)).trans hc1)
      have x2:=(bx.cell (p:=⟨gN,v*2+1,none⟩) (by simp;omega)).trans ((S.oN.cellAt (v*2+1) (by omega)).trans hc2)
      simp at x0
      have op1:=op.alloc (.cells #[.int .i64 s'.1, .bool s'.2] 93);have bx1:=bx.alloc bx.size (.cells #[.int .i64 s'.1, .bool s'.2] 93);have rd1:=zal wr wr.heap.size rfl 93 (stepCells s');have hmn:m<n:=by
       obtain⟨e,he,_,h⟩:=hv4;obtain⟨_,h1,h2,_⟩:=hT.edge e he;split at h<;>omega
      have Hv3:=Lh hv3;have Hv5:=Lh hv5;clear hv1 hv2 hv3 hv4 hv5 hc1 hc2 op
      go_wp2_with (at_builtin;refine zR _ rfl _ _ 37 rfl wb.heap.size 93 i1 (.agg #[.int .i64 0, .bool false]) 2 16 Tryz.underlying37 hj hy0 hy1 hy2 rfl (by decide) _ pre.length (cellsS pre) rfl op1 (wr.heap.size+1) (some ⟨wr.heap.size,0,none⟩) 1 1 (stepCells s') rfl rfl rd1 (zf1 s') (by unfold maxLen;simp at hlen;omega) (by simp at hlen;omega) (by have:=bx.size;simp;omega) ?_)
      intro v' W2 o2 g2 _;obtain⟨A2,c2,rfl,_⟩:=zH o2;have bx2:=bx1.grown g2 bx1.size (fun k hk=>(op1.lt k hk).1)
      have x3:=(bx2.cell (p:=⟨bT,0,none⟩) (by simp;omega)).trans (S.kT.cell 0)
      have x4:=(bx2.cell (p:=⟨gT,m,none⟩) (by simp;omega)).trans (S.oT.cellAt m (by omega))
      have x5:=(bx2.cell (p:=⟨gT,v,none⟩) (by simp;omega)).trans (S.oT.cellAt v (by omega))
      rw[show(cellsI tw)[v]?=some (.int .i64 m) by simp[cellsI,Hv3.out]]at x5
      simp at x3
      clear x0 x1 x2 x4 op1 bx1 rd1 g2 bx Hv3
      go_wp2
      go_roundg (rest.length)
      case measure=>simp
      case rel=>
       refine⟨pre++[s'],rest,m,A2,c2,by simp,rfl,hmn,rfl,by simp at hlen⊢;omega,Hv5.out,by unfold Hid;rw[Hp.out];simp,?_,bx2⟩
       have e:cellsS (pre++[s'])=cellsS pre++stepCells s':=by simp[cellsS]
       rw[e,zx];exact o2
   |cons v0 q=>
    obtain⟨v,rfl,hv⟩:=I.queue v0 za0;have hvn:v<n:=by have:=(zu.1 hv).1;rw[I.lk]at this;exact this
    have hvc:=hqc 0 (.int .i64 v) (by simp[cellsI])
    have I1:=I.pop.2;have hmlen:maxLen=9223372036854775807:=rfl;have hq32:q.length+1≤33:=by simp at hgk;omega
    clear hqc I;simp at hvc hcq1;have hgW:gW+1<wr.heap.size:=S.kW.lt
    go_upto_region 16 with fail
    go_cut [76] (fun _ wx=>∃vq',PSt W0 wx n gN bN gT bT gK bK gW (gW+1) kn nx tw q vq')
    case first=>
     have ho:ownsQ wr gW 3 (.slice (some ⟨gq,oq,none⟩) (q.length+1) cq) (q.length+1) (.int .i64 v::cellsI q):=S.oq
     by_cases hc1:cq=1
     ·have hq0:q=[]:=zaL (by omega)
      subst hc1;subst hq0;have S2:=S.setQ (q':=[]) (vq':= .slice (some ⟨gq,oq,none⟩) 0 0) ⟨rfl,rfl,rfl,zF _,fun _ _ _=>rfl⟩ ho.tail.2
      clear ho S
      go_wp2
      all_goals go_meet
      exact⟨_,S2⟩
     ·have S2:=S.setQ (q':=q) (vq':= .slice (some ⟨gq,oq+1,none⟩) q.length (cq-1)) ⟨rfl,rfl,rfl,zF _,fun _ _ _=>rfl⟩ ho.tail.1
      clear ho S
      go_wp2
      all_goals go_meet
      exact⟨_,S2⟩
    case rest=>
     obtain⟨vq',S2⟩:=hcut;clear S w0 wf hvc hcq1 hcq2 hgq hgq2;have hF0:=F0.lt;have x0:=(S2.bw.cell (p:=⟨bF,0,none⟩) (by simp;omega)).trans (F0.cell 0)
     simp at x0
     have htl:=ziT n ars;have I2:BInv T n t kn nx tw q (fun u st=>u=v∧(st.1:Int)∉(treeF n ars).take 0):=I1.less fun u y st _ _ hY=> .inl fun hX=>hY ⟨hX,by simp⟩
     have Hv:=Lh hv;clear hv I1
     go_wp2
     clear x0
     go_loopg [81] (treeF n ars).length (fun gj i wx=>∃(k:Nat) (kn:List Bool) (nx:List Stp) (tw q:List Int) (vq:Value),i= .int .i64 k∧k+gj=(treeF n ars).length∧PSt W0 wx n gN bN gT bT gK bK gW (gW+1) kn nx tw q vq∧
      BInv T n t kn nx tw q (fun u st=>u=v∧(st.1:Int)∉(treeF n ars).take k)∧Hid (kn[v]?=some true)∧unknown kn+q.length+1<ko)
     case atStart=>exact⟨0,kn,nx,tw,q,vq',rfl,by omega,S2,I2,Hv,by simp at hgk;omega⟩
     case round=>
      clear S2 I2 Hv hgk hq32 kn nx tw q vq';obtain⟨k,kn,nx,tw,q,vq,rfl,hgj,S,I,Hv,hun⟩:=hrel;by_cases hkm:k<(treeF n ars).length
      ·have R1:=R0.below S.bw lR_;have hfit:AllFit (treeF n ars):=by
        intro y hy;rw[hT.tree,zY]at hy;obtain⟨e,he,rfl⟩:=hy
        have:=(hT.edge e (zbt.1 he)).1
        unfold fits;omega
       obtain⟨b,off,y,rfl,hbl,_,hxk,_,hxx⟩:=R1.at_ hfit hkm;obtain⟨e,he,rfl⟩:∃e∈T,(e.i:Int)=y:=by
        have:=zv hxx.out
        rw[hT.tree,zY]at this;obtain⟨e,he,h⟩:=this;exact⟨e,zbt.1 he,h⟩
       obtain⟨hei,hef,het,a0,ha0,haf,hat⟩:=hT.edge e he;have hbW:Below w.heap.size w wr:=B0.trans (S.bw.mono B0.size);obtain⟨b',off',a,rfl,hbl',hfa,c0,c1,c2,c3,c4,_,hae⟩:=(hr.below hbW lR_).arc (k:=e.i) hx (by omega)
       obtain rfl:a=a0:=by have:=hae.out;rw[ha0]at this;exact(zq this).symm
       rw[haf]at c0;rw[hat]at c1;have hft:e.f≠e.t:=fun h=>by
        have hm':stepOk T e.f e.t (e.i,false):=⟨e,he,rfl,by simp⟩
        have:=no_twice hT.forest (p:=[(e.i,false)]) (q:=[]) (u:=e.f) (v:=e.t) (x:=e.t) ⟨e.t,hm',rfl⟩ rfl trivial h
        cases this
       have y0:=(S.bw.cell (p:=⟨w.heap.size,1,none⟩) (by have:=K0.lt;simp;omega)).trans (K0.cell 1)
       simp at y0
       obtain⟨W1,hW1⟩:∃W1,wr.alloc (.cells #[.int .i64 e.f, .int .i64 e.t, .int .i64 a.g, .int .i64 a.k, .int .i64 a.s] 76)=W1:=⟨_,rfl⟩;have ka1:Blk W1 wr.heap.size 76 #[.int .i64 e.f, .int .i64 e.t, .int .i64 a.g, .int .i64 a.k, .int .i64 a.s]:=hW1▸Blk.new wr _ rfl _ _;have S1:PSt W0 W1 n gN bN gT bT gK bK gW (gW+1) kn nx tw q vq:=hW1▸S.alloc _;have d0:=ka1.cell 0;have d1:=ka1.cell 1;simp at d0 d1;have Hxx:=hxx;clear S R1 hfit hxx ha0 haf hat hae ka1;by_cases hto:e.t=v
       ·rw[hto]at c1 d1 hW1;have hst:stepOk T e.f v (e.i,false):=⟨e,he,rfl,by simp[hto]⟩
        have hlen:=I.lk;obtain⟨kb,hkb⟩:∃kb,kn[e.f]?=some kb:=⟨_,zk (by omega)⟩
        cases kb
        ·have I2:=I.learn hT.forest (x:=e.f) (by rw[hkb];simp) (by omega) Hv.out hst
         have hun2:=zc2 hkb;have I3:=I2.next Hxx.out fun y st h1 h2=>by
          have:=other_end hT.forest hst h1 (by simp only;omega)
          rw[this,zat (by omega)]
         have Hv2:Hid ((kn.set e.f true)[v]?=some true):=known_set Hv.out
         have Hkb:=Lh hkb;clear I I2 hkb hst Hv he hft hto
         go_wp2_with (go_at_call 54;refine(ziS e.f v e.i false S1 (by omega) (by omega) Hkb.out).mono ?_;rintro e' w' ⟨vq2,rfl,S3⟩)
         go_roundg (gk-1)
         case measure=>omega
         case rel=>exact⟨k+1,_,_,_,_,vq2,by go_num,by omega,S3,I3,Hv2,by simp;omega⟩
        ·have I3:=I.next Hxx.out fun y st h1 h2=>by
          have:=other_end hT.forest hst h1 (by simp only;omega)
          rw[this];exact hkb
         have Hkb:=Lh hkb;clear I hkb hst he hft hto
         go_wp2_with (go_at_call 54;refine(zhX e.f v e.i false S1 (by omega) Hkb.out).mono ?_;rintro e' w' ⟨vq2,rfl,S3⟩)
         go_roundg (gk-1)
         case measure=>omega
         case rel=>exact⟨k+1,kn,nx,tw,q,vq2,by go_num,by omega,S3,I3,Hv,hun⟩
       ·have hb1:((e.t:Int)==(v:Int))=false:=by simp;omega
        by_cases hfr:e.f=v
        ·rw[hfr]at c0 d0 hW1;have hst:stepOk T e.t v (e.i,true):=⟨e,he,rfl,by simp[hfr]⟩
         have hlen:=I.lk;obtain⟨kb,hkb⟩:∃kb,kn[e.t]?=some kb:=⟨_,zk (by omega)⟩
         cases kb
         ·have I2:=I.learn hT.forest (x:=e.t) (by rw[hkb];simp) (by omega) Hv.out hst
          have hun2:=zc2 hkb;have I3:=I2.next Hxx.out fun y st h1 h2=>by
           have:=other_end hT.forest hst h1 (by simp only;omega)
           rw[this,zat (by omega)]
          have Hv2:Hid ((kn.set e.t true)[v]?=some true):=known_set Hv.out
          have Hkb:=Lh hkb;clear I I2 hkb hst Hv he hft hfr hto
          go_wp2_with (go_at_call 54;refine(ziS e.t v e.i true S1 (by omega) (by omega) Hkb.out).mono ?_;rintro e' w' ⟨vq2,rfl,S3⟩)
          go_roundg (gk-1)
          case measure=>omega
          case rel=>exact⟨k+1,_,_,_,_,vq2,by go_num,by omega,S3,I3,Hv2,by simp;omega⟩
         ·have I3:=I.next Hxx.out fun y st h1 h2=>by
           have:=other_end hT.forest hst h1 (by simp only;omega)
           rw[this];exact hkb
          have Hkb:=Lh hkb;clear I hkb hst he hft hfr hto
          go_wp2_with (go_at_call 54;refine(zhX e.t v e.i true S1 (by omega) Hkb.out).mono ?_;rintro e' w' ⟨vq2,rfl,S3⟩)
          go_roundg (gk-1)
          case measure=>omega
          case rel=>exact⟨k+1,kn,nx,tw,q,vq2,by go_num,by omega,S3,I3,Hv,hun⟩
        ·have hb2:((e.f:Int)==(v:Int))=false:=by simp;omega
         have I3:=I.next Hxx.out fun y st ⟨d,hd,h1,h2⟩ h3=>by
          exfalso
          have hde:d=e:=same_edge hT.forest hd he (by omega)
          rw[hde]at h2;split at h2
          ·exact hto h2.2.symm
          ·exact hfr h2.1.symm
         clear I he hft hto hfr
         go_wp2
         go_roundg (gk-1)
         case measure=>omega
         case rel=>exact⟨k+1,kn,nx,tw,q,vq,by go_num,by omega,S1,I3,Hv,hun⟩
      ·obtain rfl:k=(treeF n ars).length:=by omega
       have I3:BInv T n t kn nx tw q (fun _ _=>False):=I.less fun u y st _ hst _=> .inl fun hX=>hX.2 (by
        rw[zL lR_];exact((zfO hT).1 hst).1)
       clear I Hv
       go_wp2
       go_roundg (ko-1)
       case measure=>omega
       case rel=>exact⟨kn,nx,tw,q,vq,S,I3,by omega,by omega⟩
end Go.Proofs.YtpmlljbebdidgaaGreatDoor
