/- Lemmas and walks for the claim: Dk, Dl, Dm. -/
import Derived.Test.YtpmlljbebdidgaaGreatDoorA0
import Derived.Test.YtpmlljbebdidgaaGreatDoorA16
set_option maxRecDepth 100000
set_option maxHeartbeats 1000000
namespace Go.Proofs.YtpmlljbebdidgaaGreatDoor
open Go.RowKit Go.ChangeShapes
theorem made_nils(n:Nat):madeCells #[Value.slice none 0 0] n=(List.replicate n (Value.slice none 0 0)).toArray:=by
 apply Array.ext'
 apply List.ext_getElem
 ·simp[madeCells]
 ·intro j h1 h2;simp[madeCells,Nat.mod_one]
theorem set_snoc{α:Type}(l:List α)(a v:α)(m:Nat):(l++List.replicate (m+1) a).set l.length v=(l++[v])++List.replicate m a:=by
 rw[List.set_append_right _ _ lR_,Nat.sub_self,List.replicate_succ,List.set_cons_zero,List.append_assoc]
 rfl
theorem kCopies_any(b n:Nat)(T:TypeId)(v0 v2:Value)(Ao:Option Addr)(co:Nat)(w:World)(kb:Blk w b T #[v0, .slice Ao n co,v2])(hn:n≤16)(H:Option Addr)(rows:List RowV)(k ch:Nat)(hI:InM w w.heap.size H rows)(hk:rows.length=k)(r:RowV)(h0:rows[0]?=some r)(hl:0<r.xs.length):
  Calls Tryz.prog 146 #[.pointer (some ⟨b,0,none⟩), .slice H k ch] w fun e w'=>∃gv,e= .returned (.tuple #[gv, .bool true])∧∃outs:List RowV,GiftM w' w.heap.size gv outs∧outs.map (fun r=>(r.xs.length:Int))=List.replicate n 1∧Below w.heap.size w w':=by
 have hmk:=run_make_row' (P:= Tryz.prog) 27 36 (.slice none 0 0) 24 Tryz.underlying27 info_slice rfl .i64 .i64 n (by omega) (by omega)
 obtain⟨b1,o1,b2,o2,x,rfl,hb1,hb2,-,hxf,c0,c1,-⟩:=hI.first h0 hl;have hk0:(0:Int)<(k:Int):=by have:=(List.getElem?_eq_some_iff.1 h0).1;omega
 have hl0:(0:Int)<(r.xs.length:Int):=by omega
 generalize r.xs.length=l at*;rw[Nat.add_zero]at c0;have k1:=kb.cellL 1 rfl;have ba:=bA_ w (.cells (madeCells #[.slice none 0 0] n) 36);have kr:=Blk.new w _ rfl 36 (madeCells #[.slice none 0 0] n);have hz1:(w.alloc (.cells (madeCells #[.slice none 0 0] n) 36)).heap.size=w.heap.size+1:=by simp
 have HC:=Lh c0;have HD:=Lh c1;clear hI h0 kb c0 c1
 go_enter Tryz.func146, Tryz.ntmps146
 go_upto_region 2 with fail;obtain⟨W1,hW1⟩:=wN_ ba;obtain⟨g,hg⟩:∃g,w.heap.size=g:=⟨_,rfl⟩;rw[hW1]at ba kr hz1⊢;rw[made_nils]at kr;rw[hg]at kr ba hz1 hb1 hb2⊢;have Hg:=Lh hg;have HK:=Lh kr;have HB:=Lh ba;clear k1 hmk hW1 kr ba hg
 go_wp2_with fail
 go_loopw [17] (fun i wr=>∃(j:Nat) (rs:List RowV),j≤n∧i= .int .i64 j∧rs.length=j∧Below g w wr∧g<wr.heap.size∧Blk wr g 36 (rs.map RowV.val++List.replicate (n-j) (Value.slice none 0 0)).toArray∧(∀r∈rs,r.ok wr wr.heap.size∧r.xs.length=1∧∀q,blkOf r.A=some q→g<q)) (fun i _=>n-(intOf i).toNat)
 case atStart=>exact⟨0,[],by omega,rfl,rfl,HB.out,by omega,HK.out,fun r h=>(by cases h)⟩
 case round=>
  clear HK HB hz1;obtain⟨j,rs,hj,rfl,hrl,hb,hgz,kr,hrs⟩:=hrel;by_cases hlt:j<n
  ·have h1:(0:Int)≤(j:Int):=by omega
   have h2:(j:Int)<(n:Int):=by omega
   have c0:=(hb.cell (p:=⟨b1,o1,none⟩) hb1).trans HC.out;have c1:=(hb.cell (p:=⟨b2,o2,none⟩) hb2).trans HD.out;have ba:=bA_ wr (.cells #[.int .i64 x] 3);have r3:=rd_alloc wr _ rfl 3 [Value.int .i64 x];have hz3:(wr.alloc (.cells #[.int .i64 x] 3)).heap.size=wr.heap.size+1:=by simp
   have k3:=kr.below ba hgz;have f3:=k3.frozen j;have e3:=k3.cell j;have hsome:(rs.map RowV.val++List.replicate (n-j) (Value.slice none 0 0)).toArray[j]?=some (.slice none 0 0):=by
    rw[List.getElem?_toArray,List.getElem?_append_right (by rw[List.length_map];omega),List.length_map,hrl,Nat.sub_self,List.getElem?_replicate,if_pos (by omega)]
   rw[hsome]at e3;have k4:=k3.set j (.slice (some ⟨wr.heap.size,0,none⟩) 1 1);have hset:(rs.map RowV.val++List.replicate (n-j) (Value.slice none 0 0)).toArray.setIfInBounds j (.slice (some ⟨wr.heap.size,0,none⟩) 1 1)=((rs++[(⟨some ⟨wr.heap.size,0,none⟩,1,[x]⟩:RowV)]).map RowV.val++List.replicate (n-(j+1)) (Value.slice none 0 0)).toArray:=by
    have h:=set_snoc (rs.map RowV.val) (Value.slice none 0 0) (.slice (some ⟨wr.heap.size,0,none⟩) 1 1) (n-(j+1));rw[List.length_map,hrl,show n-(j+1)+1=n-j by omega]at h
    rw[List.setIfInBounds_toArray,h,List.map_append]
    rfl
   rw[hset]at k4;have O4:Only (fun q=>q=g) wr ((wr.alloc (.cells #[.int .i64 x] 3)).setCell ⟨g,j,none⟩ (.slice (some ⟨wr.heap.size,0,none⟩) 1 1)):=(Only.of_below ba).setCell _ _ fun _=>rfl
   have b4:=(hb.trans (ba.mono (by omega))).setCell (p:=⟨g,j,none⟩) lR_ (.slice (some ⟨wr.heap.size,0,none⟩) 1 1)
   have hz4:((wr.alloc (.cells #[.int .i64 x] 3)).setCell ⟨g,j,none⟩ (.slice (some ⟨wr.heap.size,0,none⟩) 1 1)).heap.size=wr.heap.size+1:=by simp
   have r4:Rd ((wr.alloc (.cells #[.int .i64 x] 3)).setCell ⟨g,j,none⟩ (.slice (some ⟨wr.heap.size,0,none⟩) 1 1)) (wr.heap.size+1) (some ⟨wr.heap.size,0,none⟩) (cellsI [x]):=
    Rd.only r3 ((Only.refl (fun q=>q=g) _).setCell ⟨g,j,none⟩ _ fun _=>rfl) (by omega) (fun q hq=>by simp only[blkOf]at hq;injection hq with hq;omega)
   have hrs4:∀r∈rs++[(⟨some ⟨wr.heap.size,0,none⟩,1,[x]⟩:RowV)],r.ok ((wr.alloc (.cells #[.int .i64 x] 3)).setCell ⟨g,j,none⟩ (.slice (some ⟨wr.heap.size,0,none⟩) 1 1)) (wr.heap.size+1)∧r.xs.length=1∧∀q,blkOf r.A=some q→g<q:=fun r hr=>by
    rcases List.mem_append.1 hr with hr|hr
    ·obtain⟨q1,q2,q3⟩:=hrs r hr;exact⟨{q1 with rd:=(Rd.only q1.rd O4 lR_ fun q hq he=>by have:=q3 q hq;omega).more (by omega)},q2,q3⟩
    ·simp only[List.mem_singleton]at hr;subst hr;exact⟨⟨r4,fun y hy=>by simp only[List.mem_singleton]at hy;subst hy;exact hxf,by simp,by simp⟩,rfl,fun q hq=>by simp only[blkOf]at hq;injection hq with hq;omega⟩
   have HK4:=Lh k4;have HB4:=Lh b4;have HRS:=Lh hrs4;have Hrl:=Lh hrl;have Hz4:=Lh hz4;have Hgz:=Lh hgz;clear kr hrs hb ba r3 hz3 k3 k4 hset O4 b4 hz4 r4 hrs4 hsome hrl hgz
   go_wp2_with fail
   go_roundw
   case rel=>exact⟨j+1,_,by omega,by go_num,by rw[List.length_append,Hrl.out];rfl,HB4.out,by have:=Hz4.out;have:=Hgz.out;omega,HK4.out,by rw[Hz4.out];exact HRS.out⟩
   case measure=>simp[intOf];omega
  ·obtain rfl:j=n:=by omega
   rw[Nat.sub_self,List.replicate_zero,List.append_nil]at kr;have G:GiftM wr g (.slice (some ⟨g,0,none⟩) j j) rs:=by
    refine⟨?_,fun r hr=>(hrs r hr).1,fun r hr q hq=>Nat.le_of_lt ((hrs r hr).2.2 q hq),fun r hr q hq h=>by
     have:=(hrs r hr).2.2 q hq
     simp only[Value.ownBlock]at h;injection h with h;omega⟩
    have:=own_blk kr (n:=j) (by rw[List.length_map,hrl]) (by unfold maxLen;omega) (Nat.le_refl g)
    rw[hrl];exact this
   have HG:=Lh G;have HB:=Lh hb;have hmap:rs.map (fun r=>(r.xs.length:Int))=List.replicate j 1:=by
    rw[←hrl];refine List.eq_replicate_iff.2 ⟨by simp,fun y hy=>?_⟩
    obtain⟨r,hr,rfl⟩:=List.mem_map.1 hy;rw[(hrs r hr).2.1];rfl
   have HM:=Lh hmap;clear kr hrs hb hgz hmap G hrl
   go_wp2_with fail
   go_ret2;exact⟨_,rfl,rs,by rw[Hg.out];exact HG.out,HM.out,by rw[Hg.out];exact HB.out⟩
theorem rd_first{w:World}{B:Nat}{A:Option Addr}{y:Int}{ys:List Int}(h:Rd w B A (cellsI (y::ys))):∃b o,A=some ⟨b,o,none⟩∧b<B∧w.cell? ⟨b,o,none⟩=some (.int .i64 y):=by
 rcases h with h|⟨b,o,hA,hb,hc⟩
 ·cases h
 ·exact⟨b,o,hA,hb,hc 0 _ rfl⟩
theorem kWeave_any(b n m:Nat)(T:TypeId)(v2:Value)(Ai Ao:Option Addr)(ci co:Nat)(rin:List Int)(w:World)(kb:Blk w b T #[.slice Ai n ci, .slice Ao 1 co,v2])(hi:Rd w w.heap.size Ai (cellsI ((m:Int)::rin)))(ho:Rd w w.heap.size Ao (cellsI [((n*m:Nat):Int)]))(hn:1≤n∧n≤16)(hm:1≤m∧m≤64)(hnm:n*m≤64)
  (H:Option Addr) (rows:List RowV) (ch:Nat) (hI:InM w w.heap.size H rows) (hk:rows.length=n) (hl:∀r∈rows,r.xs.length=m):
  Calls Tryz.prog 138 #[.pointer (some ⟨b,0,none⟩), .slice H n ch] w fun e w'=>∃gv,e= .returned (.tuple #[gv, .bool true])∧∃outs:List RowV,GiftM w' w.heap.size gv outs∧outs.map (fun r=>(r.xs.length:Int))=[((n*m:Nat):Int)]∧Below w.heap.size w w':=by
 obtain⟨ii,hii,hz0,hz1,hz2⟩:=info_parts info_int;obtain⟨t,ht⟩:∃t,n*m=t:=⟨_,rfl⟩;rw[ht]at ho hnm⊢;obtain⟨a1,p1,rfl,ha1,q1⟩:=rd_first hi;obtain⟨a2,p2,rfl,ha2,q2⟩:=rd_first ho;have k0:=kb.cellL 0 rfl;have k1:=kb.cellL 1 rfl;have hbw:=kb.lt;have HI:=Lh hI;have HL:=Lh hl;have Hk:=Lh hk;have HK0:=Lh k0;have HQ1:=Lh q1;have Ht:=Lh ht;have hn0:(0:Int)<(n:Int):=by omega
 clear hI hl hk kb hi ho ht
 go_enter Tryz.func138, Tryz.ntmps138
 go_wp2_with (at_make;refine wpList_make_own w rfl _ _ 36 rfl w.heap.size 3 ii (.int .i64 0) 1 Tryz.underlying36 hii hz0 hz1 .i64 .i64 (t:Int) t rfl rfl rfl (by rw[hz2];omega) (by unfold maxLen;omega) lR_ ?_)
 intro w2 o2 g2;have b2:=(Below.refl w.heap.size w).grown g2 lR_ (fun k hk=>by cases hk)
 have k0:=(b2.cell (p:=⟨b,0,none⟩) hbw).trans HK0.out;have q1:=(b2.cell (p:=⟨a1,p1,none⟩) ha1).trans HQ1.out;have HO:=Lh o2;have HB:=Lh b2;clear k1 q2 o2 g2 b2
 go_wp2_with fail;clear k0 q1
 go_loopw [6,24] (fun v i wr=>∃(j:Nat) (A:Option Addr) (c:Nat) (ys:List Int),j≤m∧i= .int .i64 j∧ys.length=j*n∧v= .slice A (j*n) c∧AllFit ys∧Below w.heap.size w wr∧wr.ownsRow w.heap.size 3 1 (.slice A (j*n) c) (j*n) (cellsI ys)) (fun _ i _=>m-(intOf i).toNat)
 case atStart=>exact⟨0,some ⟨w.heap.size,0,none⟩,t,[],by omega,rfl,by rw[Nat.zero_mul];rfl,by rw[Nat.zero_mul],fun x h=>(by cases h),HB.out,by rw[Nat.zero_mul];exact HO.out⟩
 case round=>
  clear HO HB;obtain⟨j,A,c,ys,hj,rfl,hyl,rfl,hys,hb,ho⟩:=hrel;have hsz:=hb.size;by_cases hlt:j<m
  ·have h1:(0:Int)≤(j:Int):=by omega
   have h2:(j:Int)<(m:Int):=by omega
   have hjn:j*n+n≤t:=by
    have:=Nat.mul_le_mul_right n (show j+1≤m by omega)
    rw[Nat.add_mul,Nat.one_mul,Nat.mul_comm m n,Ht.out]at this;exact this
   have HO:=Lh ho;have HB:=Lh hb;have HYS:=Lh hys;have Hyl:=Lh hyl;obtain⟨jn,hjn'⟩:∃q,j*n=q:=⟨_,rfl⟩;rw[hjn']at HO Hyl hjn⊢;have Hjn:=Lh hjn';clear ho hb hys hyl hsz hjn'
   go_wp2_with fail
   go_loopw [6,29] (fun v i wx=>∃(i':Nat) (A:Option Addr) (c:Nat) (ys:List Int),i'≤n∧i= .int .i64 i'∧ys.length=jn+i'∧v= .slice A (jn+i') c∧AllFit ys∧Below w.heap.size w wx∧wx.ownsRow w.heap.size 3 1 (.slice A (jn+i') c) (jn+i') (cellsI ys)) (fun _ i _=>n-(intOf i).toNat)
   case atStart=>exact⟨0,A,c,ys,by omega,rfl,Hyl.out,rfl,HYS.out,HB.out,HO.out⟩
   case round=>
    clear HO HB HYS Hyl;obtain⟨i',A,c,ys,hi',rfl,hyl,rfl,hys,hb,ho⟩:=hrel;have hsz:=hb.size;by_cases hlt2:i'<n
    ·have hI2:=HI.out.below hb lR_;obtain⟨b1,o1,r,rfl,hb1,hr,c0,hok⟩:=hI2.at_ (i:=i') (by rw[Hk.out];exact hlt2)
     have hrm:=HL.out r (List.mem_of_getElem? hr);obtain⟨b2,o2,x,hA,hb2,hx,hxf,c1⟩:=hok.at_ (j:=j) (by rw[hrm];exact hlt)
     rw[hA,hrm]at c0;have h3:(0:Int)≤(i':Int):=by omega
     have h4:(i':Int)<(n:Int):=by omega
     have ba:=bA_ wr (.cells #[.int .i64 x] 3);have o2':=own_below ho ba;have r2:=rd_alloc wr _ rfl 3 [Value.int .i64 x];have hb2':=hb.trans (ba.mono hsz);have Hyl:=Lh hyl;have HB:=Lh hb2';have HYS:=Lh hys;have Hsz:=Lh hsz;have hcl:(cellsI [x]).length=1*1:=rfl;clear hI2 hr ho ba hb2' hyl hys hb hok hrm hx hA
     go_wp2_with (at_builtin;refine wpList_append_rd _ rfl _ _ 36 rfl w.heap.size 3 ii (.int .i64 0) 1 8 Tryz.underlying36 hii hz0 hz1 hz2 rfl (by decide) _ (jn+i') (cellsI ys) rfl o2' _ (some ⟨wr.heap.size,0,none⟩) 1 1 (cellsI [x]) rfl hcl r2 (cellsI_one _) (by unfold maxLen;omega) (by omega) (by simp;omega) ?_)
     intro v' w4 o4 g4 h4';obtain⟨A',c',rfl,_⟩:=own_slice o4;have b4:=HB.out.grown g4 HB.out.size (fun q hq=>own_ge o2' hq)
     have HO4:=Lh o4;have HB4:=Lh b4;clear o4 g4 h4' b4 o2' r2 c0 c1
     go_wp2_with fail
     go_roundw
     case rel=>exact⟨i'+1,A',c',ys++[x],by omega,by go_num,by rw[List.length_append,Hyl.out];rfl,rfl,fit_snoc HYS.out hxf,HB4.out,cellsI_snoc ys x▸HO4.out⟩
     case measure=>simp[intOf];omega
    ·obtain rfl:i'=n:=by omega
     have HO:=Lh ho;have HB:=Lh hb;have HYS:=Lh hys;have Hyl:=Lh hyl;clear ho hb hys hyl
     go_wp2_with fail
     go_roundw;have e:(j+1)*i'=jn+i':=by rw[Nat.add_mul,Nat.one_mul,Hjn.out]
     case rel=>exact⟨j+1,A,c,ys,by omega,by go_num,by rw[e];exact Hyl.out,by rw[e],HYS.out,HB.out,by rw[e];exact HO.out⟩
     case measure=>simp[intOf];omega
  ·obtain rfl:j=m:=by omega
   have hjt:j*n=t:=by rw[Nat.mul_comm];exact Ht.out
   rw[hjt]at hyl ho⊢;have b3:=bA_ wr (.cells #[.slice A t c] 36);have o3:=own_new_Sl wr _ rfl 36 [Value.slice A t c] 1 rfl (by unfold maxLen;omega)
   have hz3:(wr.alloc (.cells #[.slice A t c] 36)).heap.size=wr.heap.size+1:=by simp
   have G:GiftM (wr.alloc (.cells #[.slice A t c] 36)) w.heap.size (.slice (some ⟨wr.heap.size,0,none⟩) 1 1) [⟨A,c,ys⟩]:=by
    refine⟨?_,fun r hr=>?_,fun r hr q hq=>?_,fun r hr q hq h=>?_⟩
    ·have:=World.ownsRow.mono o3 hsz
     simpa [RowV.val,hyl]using this
    ·simp only[List.mem_singleton]at hr;subst hr;exact⟨((rd_of_own ho).below b3 lR_).more (by omega),hys,by rw[hyl];exact hnm,by rw[hyl];obtain⟨_,_,h,hle⟩:=own_slice ho;injection h with _ _ h;exact h▸hle⟩
    ·simp only[List.mem_singleton]at hr;subst hr;refine own_ge ho (k:=q) ?_;cases A with
     |none=>cases hq
     |some a=>exact hq
    ·simp only[List.mem_singleton]at hr;subst hr;have h1:=own_lt' ho (q:=q) (by cases A with|none=>cases hq|some a=>exact hq)
     simp only[Value.ownBlock]at h;injection h with h;omega
   have HG:=Lh G;have HB:=Lh (hb.trans (b3.mono hsz));have Hyl:=Lh hyl;clear ho hys hb hyl b3 o3 hz3 G hjt
   go_wp2_with fail
   go_ret2;exact⟨_,rfl,_,HG.out,by simp[Hyl.out],HB.out⟩
def cntU(n k i:Nat):Nat:=if i<k%n then k/n+1 else k/n
theorem cntU_zero(n i:Nat):cntU n 0 i=0:=by simp[cntU]
theorem cntU_step{n k i:Nat}(hn:0<n)(hi:i<n):cntU n (k+1) i=cntU n k i+if i=k%n then 1 else 0:=by
 obtain⟨q,r,hr,hk⟩:∃q r,r<n∧k=n*q+r:=⟨k/n,k%n,Nat.mod_lt _ hn,(Nat.div_add_mod k n).symm⟩;subst hk;unfold cntU;rw[Nat.add_assoc,Nat.mul_add_mod,Nat.mul_add_mod,Nat.mul_add_div hn,Nat.mul_add_div hn,Nat.mod_eq_of_lt hr,Nat.div_eq_of_lt hr];by_cases h:r+1<n
 ·rw[Nat.mod_eq_of_lt h,Nat.div_eq_of_lt h];split<;>split<;>split<;>omega
 ·obtain rfl:n=r+1:=by omega
  rw[Nat.mod_self,Nat.div_self (by omega)]
  split<;>split<;>split<;>omega
theorem cntU_end{n m i:Nat}(hn:0<n):cntU n (n*m) i=m:=by
 unfold cntU;rw[Nat.mul_mod_right,Nat.mul_div_cancel_left m hn];simp
theorem RowV.own_val(r:RowV):r.val.ownBlock=blkOf r.A:=by
 unfold RowV.val;cases r.A<;>rfl
theorem kUnweave_any(b n m:Nat)(T:TypeId)(v0 v2:Value)(Ao:Option Addr)(co:Nat)(w:World)(kb:Blk w b T #[v0, .slice Ao n co,v2])(hn:1≤n∧n≤16)(hm:1≤m∧m≤64)(hnm:n*m≤64)(H:Option Addr)(rows:List RowV)(k ch:Nat)(hI:InM w w.heap.size H rows)(hk:rows.length=k)(r:RowV)(h0:rows[0]?=some r)(hl:r.xs.length=n*m):
  Calls Tryz.prog 139 #[.pointer (some ⟨b,0,none⟩), .slice H k ch] w fun e w'=>∃gv,e= .returned (.tuple #[gv, .bool true])∧∃outs:List RowV,GiftM w' w.heap.size gv outs∧outs.map (fun r=>(r.xs.length:Int))=List.replicate n (m:Int)∧Below w.heap.size w w':=by
 obtain⟨ii,hii,hz0,hz1,hz2⟩:=info_parts info_int;have hmk:=run_make_row' (P:= Tryz.prog) 27 36 (.slice none 0 0) 24 Tryz.underlying27 info_slice rfl .i64 .i64 n (by omega) (by omega)
 obtain⟨t,ht⟩:∃t,n*m=t:=⟨_,rfl⟩;rw[ht]at hl hnm;have hpos:0<n*m:=Nat.mul_pos (by omega) (by omega)
 obtain⟨b1,o1,b2,o2,x0,rfl,hb1,hb2,-,-,c0,-,hA⟩:=hI.first h0 (by omega)
 have hok:=hI.ok r (List.mem_of_getElem? h0);have hk0:(0:Int)<(k:Int):=by have:=(List.getElem?_eq_some_iff.1 h0).1;omega
 rw[Nat.add_zero,hl]at c0;have k1:=kb.cellL 1 rfl;have ba:=bA_ w (.cells (madeCells #[.slice none 0 0] n) 36);have kr:=Blk.new w _ rfl 36 (madeCells #[.slice none 0 0] n);have hz1':(w.alloc (.cells (madeCells #[.slice none 0 0] n) 36)).heap.size=w.heap.size+1:=by simp
 have HC:=Lh c0;have HR:=Lh hok;have Hl:=Lh hl;have HA:=Lh hA;have Ht:=Lh ht;clear hI h0 kb c0 hok hl hA ht hpos
 go_enter Tryz.func139, Tryz.ntmps139
 go_upto_region 2 with fail;obtain⟨W1,hW1⟩:=wN_ ba;obtain⟨g,hg⟩:∃g,w.heap.size=g:=⟨_,rfl⟩;rw[hW1]at ba kr hz1'⊢;rw[made_nils]at kr;rw[hg]at kr ba hz1' hb1 hb2 HR⊢;have d0:=(ba.cell (p:=⟨b1,o1,none⟩) hb1).trans HC.out;have Hg:=Lh hg;have HK:=Lh kr;have HB:=Lh ba;clear k1 hmk hW1 kr ba hg
 go_wp2_with fail;clear d0
 go_loopw [21] (fun i wr=>∃(j:Nat) (rs:List RowV),j≤t∧i= .int .i64 j∧rs.length=n∧Below g w wr∧g<wr.heap.size∧Blk wr g 36 (rs.map RowV.val).toArray∧
   (∀(i:Nat) (r:RowV),rs[i]?=some r→wr.ownsRow (g+1) 3 1 r.val r.xs.length (cellsI r.xs)∧AllFit r.xs∧r.xs.length=cntU n j i)∧
   (∀(i i':Nat) (r r':RowV) (q:Nat),i≠i'→rs[i]?=some r→rs[i']?=some r'→blkOf r.A=some q→blkOf r'.A≠some q)) (fun i _=>t-(intOf i).toNat)
 case atStart=>
  refine⟨0,List.replicate n ⟨none,0,[]⟩,by omega,rfl,List.length_replicate,HB.out,by omega,by rw[List.map_replicate];exact HK.out,fun i r hr=>?_,fun i i' r r' q hne hr hr' hq=>?_⟩
  ·have h:=List.mem_of_getElem? hr;rw[List.mem_replicate]at h;obtain⟨-,rfl⟩:=h;exact⟨⟨rfl, .inl ⟨rfl,rfl⟩⟩,fun y hy=>(by cases hy),(cntU_zero n i).symm⟩
  ·have h:=List.mem_of_getElem? hr;rw[List.mem_replicate]at h;obtain⟨-,rfl⟩:=h;cases hq
 case round=>
  clear HK HB hz1';obtain⟨j,rs,hj,rfl,hrl,hb,hgz,kr,hrs,hdis⟩:=hrel;by_cases hlt:j<t
  ·have h1:(0:Int)≤(j:Int):=by omega
   have h2:(j:Int)<(t:Int):=by omega
   obtain⟨b2',o2',x,hA',hb2',hx,hxf,c1⟩:=HR.out.at_ (j:=j) (by rw[Hl.out];exact hlt)
   have hA2:=HA.out.symm.trans hA';injection hA2 with hA2;injection hA2 with e1 e2 _;rw[←e1,←e2]at c1;have c1':=(hb.cell (p:=⟨b2,o2+j,none⟩) hb2).trans c1;obtain⟨i,hi⟩:∃i,j%n=i:=⟨_,rfl⟩;have hin:i<n:=hi▸Nat.mod_lt _ (by omega)
   have hm1:(j:Int).tmod (n:Int)=(i:Int):=by rw[←hi];rfl
   have hm2:IntKind.i64.wrap (i:Int)=(i:Int):=by rw[IntKind.wrap_i64];omega
   have hn0:((n:Int)==0)=false:=by simp;omega
   have h3:(0:Int)≤(i:Int):=by omega
   have h4:(i:Int)<(n:Int):=by omega
   obtain⟨ri,hri⟩:∃r,rs[i]?=some r:=⟨_,List.getElem?_eq_getElem (by omega)⟩
   obtain⟨ow,hrf,hrc⟩:=hrs i ri hri;have hcl:ri.xs.length≤64:=by
    rw[hrc]
    have:=Nat.div_le_self j n
    unfold cntU;split<;>omega
   have ba:=bA_ wr (.cells #[.int .i64 x] 3);have r3:=rd_alloc wr _ rfl 3 [Value.int .i64 x];have hz3:(wr.alloc (.cells #[.int .i64 x] 3)).heap.size=wr.heap.size+1:=by simp
   have c2:=kr.cell i;rw[List.getElem?_toArray,List.getElem?_map,hri]at c2;have hval:ri.val= .slice ri.A ri.xs.length ri.c:=rfl;simp only[Option.map_some,hval]at c2;have k3:=kr.below ba hgz;have o3:=own_below ow ba;rw[hval]at o3;obtain⟨A,hAe⟩:∃A,ri.A=A:=⟨_,rfl⟩;obtain⟨l,hle⟩:∃l,ri.xs.length=l:=⟨_,rfl⟩;obtain⟨c,hce⟩:∃c,ri.c=c:=⟨_,rfl⟩;rw[hAe,hle,hce]at c2 o3;have HHle:=Lh hle;have HHce:=Lh hce;rw[hle]at hcl;have HK3:=Lh k3;have HRS:=Lh hrs;have HDI:=Lh hdis;have HBA:=Lh ba;have HBw:=Lh hb;have Hri:=Lh hri;have Hrl:=Lh hrl;have Hi:=Lh hi;have HAe:=Lh hAe;have Hgz:=Lh hgz;have Hz3:=Lh hz3;have Hrf:=Lh hrf;have Hrc:=Lh hrc;have HKR:=Lh kr;clear kr hrs hdis hb ba hz3 k3 ow hri hrl hi hAe hle hce hrf hrc hval hx hA' hgz c1 e1 e2
   go_wp2_with (at_builtin;refine wpList_append_rd _ rfl _ _ 36 rfl (g+1) 3 ii (.int .i64 0) 1 8 Tryz.underlying36 hii hz0 hz1 hz2 rfl (by decide) _ l (cellsI ri.xs) rfl o3 _ (some ⟨wr.heap.size,0,none⟩) 1 1 (cellsI [x]) rfl rfl r3 (cellsI_one _) (by unfold maxLen;omega) (by omega) (by have:=Hgz.out;simp;omega) ?_)
   intro v' w4 o4 g4 h4';obtain⟨A',c',rfl,_⟩:=own_slice o4;have bA:∀(A:Option Addr) (l c:Nat),(Value.slice A l c).ownBlock=blkOf A:=fun A l c=>by cases A<;>rfl
   have k4:=HK3.out.grown g4 (fun he=>by have:=own_ge o3 he.symm;omega)
   have f4:=k4.frozen i;have s4:=k4.cell i;rw[List.getElem?_toArray,List.getElem?_map,Hri.out]at s4;have hval:ri.val= .slice A l c:=by unfold RowV.val;rw[HAe.out,HHle.out,HHce.out]
   simp only[Option.map_some,hval]at s4;obtain⟨rn,hrn⟩:∃rn:RowV,rn=⟨A',c',ri.xs++[x]⟩:=⟨_,rfl⟩;have hrl1:rn.xs.length=l+1:=by rw[hrn];show(ri.xs++[x]).length=_;rw[List.length_append,HHle.out];rfl
   have hrv:rn.val= .slice A' (l+1) c':=by unfold RowV.val;rw[hrl1,hrn]
   have k5:=k4.set i (.slice A' (l+1) c');have hset:(rs.map RowV.val).toArray.setIfInBounds i (.slice A' (l+1) c')=((rs.set i rn).map RowV.val).toArray:=by
    rw[List.setIfInBounds_toArray,List.map_set,hrv]
   rw[hset]at k5;have oN:(w4.setCell ⟨g,i,none⟩ (.slice A' (l+1) c')).ownsRow (g+1) 3 1 rn.val rn.xs.length (cellsI rn.xs):=by
    rw[hrv,hrl1,hrn];show World.ownsRow _ _ _ _ _ _ (cellsI (ri.xs++[x]))
    rw[cellsI_snoc];exact own_set o4 k4 (by decide) i (.slice A' (l+1) c')
   have hnew:∀q,blkOf A'=some q→blkOf ri.A=some q∨q=wr.heap.size+1:=fun q hq=>by
    rcases h4' with h|h
    ·rw[bA,bA,hq]at h;exact .inl (by rw[HAe.out];exact h.symm)
    ·rw[bA,hq]at h;injection h with h;exact .inr (by omega)
   have hget:∀(i1:Nat) (r1:RowV),(rs.set i rn)[i1]?=some r1→(i1=i∧r1=rn)∨(i1≠i∧rs[i1]?=some r1):=fun i1 r1 h=>by
    by_cases e:i1=i
    ·subst e;rw[List.getElem?_set_self (by rw[Hrl.out];exact hin)]at h
     exact .inl ⟨rfl,(Option.some.inj h).symm⟩
    ·rw[List.getElem?_set_ne (fun h=>e h.symm)]at h
     exact .inr ⟨e,h⟩
   have hblk:∀(i1:Nat) (r1:RowV),rs[i1]?=some r1→∀q,blkOf r1.A=some q→q<wr.heap.size:=fun i1 r1 h q hq=>own_lt' (HRS.out i1 r1 h).1 (by rw[RowV.own_val];exact hq)
   have hrs5:∀(i1:Nat) (r1:RowV),(rs.set i rn)[i1]?=some r1→(w4.setCell ⟨g,i,none⟩ (.slice A' (l+1) c')).ownsRow (g+1) 3 1 r1.val r1.xs.length (cellsI r1.xs)∧AllFit r1.xs∧r1.xs.length=cntU n (j+1) i1:=fun i1 r1 h=>by
    rcases hget i1 r1 h with⟨rfl,rfl⟩|⟨hne,h⟩
    ·refine⟨oN,by rw[hrn];exact fit_snoc Hrf.out hxf,?_⟩
     rw[hrl1,cntU_step (by omega) hin,if_pos Hi.out.symm,←Hrc.out,HHle.out]
    ·obtain⟨q1,q2,q3⟩:=HRS.out i1 r1 h;have i1n:i1<n:=by have:=(List.getElem?_eq_some_iff.1 h).1;rw[Hrl.out]at this;exact this
     refine⟨?_,q2,?_⟩
     ·have o5:=own_below q1 HBA.out;have O:Only (fun q=>some q=(Value.slice A l c).ownBlock) (wr.alloc (.cells #[.int .i64 x] 3)) w4:=(Only.refl _ _).grown g4 fun q _ hq=>hq.symm
      have o6:=own_only o5 O fun q hq he=>by
       rw[bA,←HAe.out]at he;rw[RowV.own_val]at hq;exact HDI.out i i1 ri r1 q (fun h=>hne h.symm) Hri.out h he.symm hq
      exact own_set o6 k4 (by decide) i (.slice A' (l+1) c')
     ·rw[cntU_step (by omega) i1n,if_neg (by rw[Hi.out];exact hne),q3]
      rfl
   have hdi5:∀(i1 i2:Nat) (r1 r2:RowV) (q:Nat),i1≠i2→(rs.set i rn)[i1]?=some r1→(rs.set i rn)[i2]?=some r2→blkOf r1.A=some q→blkOf r2.A≠some q:=fun i1 i2 r1 r2 q hne E1 E2 hq hq2=>by
    rcases hget i1 r1 E1 with⟨rfl,rfl⟩|⟨n1,e1⟩
    ·rcases hget i2 r2 E2 with⟨rfl,-⟩|⟨n2,e2⟩
     ·exact hne rfl
     ·rw[hrn]at hq;rcases hnew q hq with h|h
      ·exact HDI.out _ i2 ri r2 q hne Hri.out e2 h hq2
      ·have:=hblk i2 r2 e2 q hq2;omega
    ·rcases hget i2 r2 E2 with⟨rfl,rfl⟩|⟨n2,e2⟩
     ·rw[hrn]at hq2;rcases hnew q hq2 with h|h
      ·exact HDI.out i1 _ r1 ri q hne e1 Hri.out hq h
      ·have:=hblk i1 r1 e1 q hq;omega
     ·exact HDI.out i1 i2 r1 r2 q hne e1 e2 hq hq2
   have b5:Below g w (w4.setCell ⟨g,i,none⟩ (.slice A' (l+1) c')):=by
    have h1:=HBw.out.trans (HBA.out.mono (by have:=Hgz.out;omega))
    exact(h1.grown g4 (by have:=Hgz.out;have:=Hz3.out;omega) (fun q hq=>by have:=own_ge o3 hq;omega)).setCell (p:=⟨g,i,none⟩) lR_ _
   have hz5:g<(w4.setCell ⟨g,i,none⟩ (.slice A' (l+1) c')).heap.size:=by
    have:=g4.size
    have:=Hgz.out
    have:=Hz3.out
    simp;omega
   have HK5:=Lh k5;have HR5:=Lh hrs5;have HD5:=Lh hdi5;have HB5:=Lh b5;have HZ5:=Lh hz5;clear k4 k5 oN hnew hget hblk hrs5 hdi5 b5 hz5 hset hrv hrl1 hrn o4 g4 h4' o3 r3 c2 hval bA
   go_wp2_with fail
   go_roundw
   case rel=>exact⟨j+1,rs.set i rn,by omega,by go_num,by rw[List.length_set];exact Hrl.out,HB5.out,HZ5.out,HK5.out,HR5.out,HD5.out⟩
   case measure=>simp[intOf];omega
  ·obtain rfl:j=t:=by omega
   have hlen:∀r∈rs,wr.ownsRow (g+1) 3 1 r.val r.xs.length (cellsI r.xs)∧AllFit r.xs∧r.xs.length=m:=fun r hr=>by
    obtain⟨i,hi⟩:=List.getElem?_of_mem hr;obtain⟨q1,q2,q3⟩:=hrs i r hi;exact⟨q1,q2,by rw[q3,←Ht.out];exact cntU_end (by omega)⟩
   have G:GiftM wr g (.slice (some ⟨g,0,none⟩) n n) rs:=by
    refine⟨?_,fun r hr=>⟨rd_of_own (hlen r hr).1,(hlen r hr).2.1,by rw[(hlen r hr).2.2];exact hm.2,by obtain⟨_,_,h,hle⟩:=own_slice (hlen r hr).1;injection h with _ _ h;exact h▸hle⟩,fun r hr q hq=>Nat.le_of_succ_le (own_ge (hlen r hr).1 (by rw[RowV.own_val];exact hq)),fun r hr q hq h=>by
     have:=own_ge (hlen r hr).1 (k:=q) (by rw[RowV.own_val];exact hq)
     simp only[Value.ownBlock]at h;injection h with h;omega⟩
    have:=own_blk kr (n:=n) (by rw[List.length_map,hrl]) (by unfold maxLen;omega) (Nat.le_refl g)
    rw[hrl];exact this
   have hmap:rs.map (fun r=>(r.xs.length:Int))=List.replicate n (m:Int):=by
    refine List.eq_replicate_iff.2 ⟨by simp[hrl],fun y hy=>?_⟩
    obtain⟨r,hr,rfl⟩:=List.mem_map.1 hy;rw[(hlen r hr).2.2]
   have HG:=Lh G;have HM:=Lh hmap;have HB:=Lh hb;clear kr hrs hdis hb hgz hlen G hmap hrl
   go_wp2_with fail
   go_ret2;exact⟨_,rfl,rs,by rw[Hg.out];exact HG.out,HM.out,by rw[Hg.out];exact HB.out⟩
end Go.Proofs.YtpmlljbebdidgaaGreatDoor
