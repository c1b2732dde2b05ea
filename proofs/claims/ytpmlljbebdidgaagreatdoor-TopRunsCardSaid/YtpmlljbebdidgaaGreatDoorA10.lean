/- Lemmas and walks for the claim: Sm, Sn, So, Sp, Ss. -/
import Derived.Test.YtpmlljbebdidgaaGreatDoorA0
import Derived.Test.YtpmlljbebdidgaaGreatDoorA5
import Derived.Test.YtpmlljbebdidgaaGreatDoorA9
set_option linter.unusedSimpArgs false
set_option maxRecDepth 100000
set_option maxHeartbeats 2000000
namespace Go.Proofs.YtpmlljbebdidgaaGreatDoor
open Go.RowKit
def zcH(n:Nat)(ps:List Int)(k:Nat)(v:Nat):Int:=match((List.range ps.length).drop k).find? fun i:Nat=>decide ((ps[i]?).getD 0=(v:Int))with
 |some i=>i
 |none=>(ps.length:Int)+n-v
theorem zmP(n:Nat)(ps:List Int)(v:Nat):zcH n ps ps.length v=(ps.length:Int)+n-v:=by
 unfold zcH;rw[zS (by simp)];rfl
theorem zlo{n:Nat}{ps:List Int}{k x:Nat}(hk:ps[k]?=some (x:Int)):upd (zcH n ps (k+1)) x (k:Int)=zcH n ps k:=by
 have hlt:=(zu.1 hk).1;have hd:(List.range ps.length).drop k=k::(List.range ps.length).drop (k+1):=by
  rw[zah (by simpa using hlt)];simp
 funext v
 unfold zcH;rw[hd];by_cases hv:v=x
 ·subst hv;rw[zaW,List.find?_cons_of_pos (by rw[hk];simp)]
 ·rw[zaI hv,List.find?_cons_of_neg (by rw[hk];simp;omega)]
theorem zmQ(n:Nat)(ps:List Int)(A:Option Addr)(l c:Nat)(w:World)(n32:n≤32)(hl:ps.length=l)(hf:AllFit ps)(hr:Rd w w.heap.size A (cellsI ps))(hm:l*8≤140737488351232)(hin:∀x∈ps,0≤x∧x<n):
  Calls Tryz.prog 31 #[.int .i64 n, .slice A l c] w fun e w'=>∃g,e= .returned (.slice (some ⟨g,0,none⟩) n n)∧w.heap.size≤g∧w'.ownsRow w.heap.size 3 1 (.slice (some ⟨g,0,none⟩) n n) n (cellsI (rowF (zcH n ps 0) n))∧Below w.heap.size w w':=by
 subst hl;have hmk:=run_make_row' (P:= Tryz.prog) 36 3 (.int .i64 0) 8 Tryz.underlying36 zas rfl .i64 .i64 n (by omega) (by omega)
 rw[zez]at hmk
 go_enter Tryz.func31, Tryz.ntmps31
 have b0:=bA_ w (.cells (cellsI (rowF (fun _=>0) n)).toArray 3)
 have o0:=zbL w _ rfl 3 (cellsI (rowF (fun _=>0) n)) n (by rw[cellsI_length,zaS]) (by unfold maxLen;omega)
 have hm2:ps.length≤17592186044000:=by omega
 go_wp2
 go_loopw [12] (fun i wr=>∃k:Nat,k≤n∧i= .int .i64 k∧Below w.heap.size w wr∧wr.ownsRow w.heap.size 3 1 (.slice (some ⟨w.heap.size,0,none⟩) n n) n (cellsI (rowF (fun v=>if v<k then(ps.length:Int)+n-v else 0) n))) (fun i _=>n-(intOf i).toNat)
 case atStart=>exact⟨0,by omega,rfl,b0,by simpa using o0⟩
 case round=>
  clear b0 o0 hmk;obtain⟨k,hk,rfl,hb,ho⟩:=hrel;by_cases hlt:k<n
  ·have st:=(ho.stored k (.int .i64 ((ps.length:Int)+n-k))).1;rw[zcP,zdU]at st;have e:upd (fun v:Nat=>if v<k then(ps.length:Int)+n-v else 0) k ((ps.length:Int)+n-k)=fun v:Nat=>if v<k+1 then(ps.length:Int)+n-v else 0:=by
    funext v
    by_cases hv:v=k
    ·subst hv;rw[zaW,if_pos (by omega)]
    ·rw[zaI hv];by_cases h:v<k
     ·rw[if_pos h,if_pos (by omega)]
     ·rw[if_neg h,if_neg (by omega)]
   rw[e]at st;have hc:=zbK ho hlt;have fro:=ho.frozenAt k;have b2:=hb.setCell (p:=⟨w.heap.size,k,none⟩) lR_ (.int .i64 ((ps.length:Int)+n-k));have h1:(0:Int)≤(k:Int):=by omega
   have h2:(k:Int)<(n:Int):=by omega
   clear e ho hb
   go_wp2
   go_roundw
   case rel=>exact⟨k+1,by omega,by go_num,b2,st⟩
   case measure=>simp[intOf];omega
  ·obtain rfl:k=n:=by omega
   have ho2:wr.ownsRow w.heap.size 3 1 (.slice (some ⟨w.heap.size,0,none⟩) k k) k (cellsI (rowF (zcH k ps ps.length) k)):=by
    have e:rowF (zcH k ps ps.length) k=rowF (fun v:Nat=>if v<k then(ps.length:Int)+k-v else 0) k:=zaV fun v hv=>by rw[zmP,if_pos (zM.1 hv)]
    rw[e];exact ho
   clear ho
   go_wp2
   go_loopw [7] (fun i wx=>∃j:Nat,j≤ps.length∧i= .int .i64 ((j:Int)-1)∧Below w.heap.size w wx∧wx.ownsRow w.heap.size 3 1 (.slice (some ⟨w.heap.size,0,none⟩) k k) k (cellsI (rowF (zcH k ps j) k))) (fun i _=>(intOf i+1).toNat)
   case atStart=>exact⟨ps.length,by omega,by go_num,hb,ho2⟩
   case round=>
    clear hb ho2;obtain⟨j,hj,rfl,hb,ho⟩:=hrel
    match j,hj,ho with
    |0,hj,ho=>
     go_wp2
     go_ret;exact⟨w.heap.size,rfl,zF _,ho,hb⟩
    |j+1,hj,ho=>
     rw[show(((j+1:Nat):Int)-1)=(j:Int) by omega]
     obtain⟨b,off,x,rfl,hbl,hxf,hc,hd,hxx⟩:=(hr.below hb lR_).at_ hf (k:=j) (by omega)
     obtain⟨hx0,hxk⟩:=hin x (zv hxx.out);obtain⟨y,rfl⟩:∃y:Nat,x=y:=⟨x.toNat,by omega⟩
     have st:=(ho.stored y (.int .i64 j)).1;rw[zcP,zdU,zlo hxx.out]at st;have hcy:=zbK ho (show y<k by omega)
     have fro:=ho.frozenAt y;have b2:=hb.setCell (p:=⟨w.heap.size,y,none⟩) lR_ (.int .i64 j);have h1:(0:Int)≤(j:Int):=by omega
     have h2:(j:Int)<(ps.length:Int):=by omega
     clear ho hb
     go_wp2
     go_roundw
     case rel=>exact⟨j,by omega,by go_num,b2,st⟩
     case measure=>simp[intOf]
def sumF(rs:List Int):Int:=rs.foldl (·+·) 0
def zbP(n:Int)(ps:List Int):Bool:=ps.all fun x=>decide (0≤x∧x<n)
def wrongF(n:Int)(ars:List ArcV)(rs ps:List Int):Int:=
 if holdE n ars rs=0 then(if holdB n ars rs=true then(if 2048<sumF rs then 5 else if zbP n ps=true then 0 else 100)else 130)else holdE n ars rs
theorem zgp{rs:List Int}{k:Nat}{x:Int}(h:rs[k]?=some x):sumF (rs.take (k+1))=sumF (rs.take k)+x:=by
 unfold sumF;rw[zan,h,zbQ];rfl
theorem zlp{rs:List Int}(h:rs.all zcy=true):∀k,0≤sumF (rs.take k)∧sumF (rs.take k)≤4096*(k:Int):=by
 intro k
 induction k with
 |zero=>simp[sumF]
 |succ k ih=>
  by_cases hk:k<rs.length
  ·rw[zgp (zk hk)];have h1:=zU.1 h _ (zaF hk);simp only[zcy,decide_eq_true_eq]at h1;omega
  ·rw[zL (by omega)]
   rw[zL (by omega)]at ih
   omega
theorem zgJ{n:Int}{ars:List ArcV}{rs:List Int}(h:holdB n ars rs=true):checkF n ars=0∧(rs.length:Int)=n∧rs.all zcy=true∧ars.all (zcG rs)=true:=by
 unfold holdB at h;rw[zag,zag,decide_eq_true_eq]at h;exact⟨h.1.1,h.1.2,h.2.1,h.2.2⟩
def leftF(rs:List Int)(F:Nat→Int):Nat→Int:=fun v=>repAt rs v-F v
def leftSum(n:Nat)(L:Nat→Int):Nat:=((List.range n).map fun v=>(L v).toNat).sum
def runF(pick:(Nat→Int)→Int):Nat→(Nat→Int)→List Int×(Nat→Int)
 |0,F=>([],F)
 |f+1,F=>if 0≤pick F then(pick F::(runF pick f (bump F (pick F).toNat)).1,(runF pick f (bump F (pick F).toNat)).2)else([],F)
def zob(ars:List ArcV)(n:Nat)(rs:List Int)(r:List Int×(Nat→Int)):List Int×List BlkV:=
 if blocksF ars n r.2 (leftF rs r.2) n=[]then(r.1,[])else([],blocksF ars n r.2 (leftF rs r.2) n)
def pickS(ars:List ArcV)(n:Nat)(rs ps:List Int)(F:Nat→Int):Int:=bestF ars n F (leftF rs F) (zcH n ps 0) n
def ansF(pick:(Nat→Int)→Int)(n:Int)(ars:List ArcV)(rs ps:List Int):List Int×List BlkV:=
 if wrongF n ars rs ps=0 then zob ars n.toNat rs (runF pick (leftSum n.toNat (leftF rs fun _=>0)) fun _=>0)else([],[])
theorem zfg(rs:List Int)(F:Nat→Int)(v:Nat):leftF rs (bump F v)=upd (leftF rs F) v (leftF rs F v-1):=by
 funext j
 unfold leftF bump;by_cases h:j=v
 ·subst h;rw[zaW,zaW];omega
 ·rw[zaI h,zaI h]
theorem zfr(L:Nat→Int)(v:Nat):∀n,v<n→0<L v→leftSum n L=leftSum n (upd L v (L v-1))+1:=by
 intro n
 induction n with
 |zero=>intro h;omega
 |succ n ih=>
  intro h hl;unfold leftSum at*;rw[zaO,zad,zad,zda,zda];simp only[zcn,zdk,List.sum_cons,List.sum_nil];by_cases hv:v=n
  ·subst hv;have e:(List.range v).map (fun j=>(upd L v (L v-1) j).toNat)=(List.range v).map fun j=>(L j).toNat:=
    zaV fun j hj=>by rw[zaI (by have:=zM.1 hj;omega)]
   rw[e,zaW];omega
  ·have:=ih (by omega) hl
   rw[zaI (show n≠v by omega)]
   omega
def zhq(ars:List ArcV)(n:Nat)(rs:List Int)(pick:(Nat→Int)→Int):Prop:=∀F,0≤pick F→∃v:Nat,pick F=v∧v<n∧0<leftF rs F v∧mayB ars n F v=true
theorem zoc(ars:List ArcV)(n:Nat)(F Lf K:Nat→Int)(k:Nat)(h:0≤bestF ars n F Lf K k):∃v:Nat,bestF ars n F Lf K k=v∧v<k∧0<Lf v∧mayB ars n F v=true:=by
 induction k with
 |zero=>simp[bestF]at h
 |succ k ih=>
  rw[zeR]at h⊢;unfold zej at h⊢;split
  ·rename_i h1
   exact⟨k,rfl,by omega,h1.1,h1.2.1⟩
  ·rename_i h1
   rw[if_neg h1]at h;obtain⟨v,e,h2,h3⟩:=ih h;exact⟨v,e,by omega,h3⟩
theorem zfX(ars:List ArcV)(n:Nat)(rs ps:List Int):zhq ars n rs (pickS ars n rs ps):=fun _ h=>zoc _ _ _ _ _ _ h
theorem zo8{ars:List ArcV}{n:Nat}{rs:List Int}{pick:(Nat→Int)→Int}(hp:zhq ars n rs pick){F:Nat→Int}(h:0≤pick F):
  runF pick (leftSum n (leftF rs F)) F=(pick F::(runF pick (leftSum n (leftF rs (bump F (pick F).toNat))) (bump F (pick F).toNat)).1,(runF pick (leftSum n (leftF rs (bump F (pick F).toNat))) (bump F (pick F).toNat)).2):=by
 obtain⟨v,e,h1,h2,h3⟩:=hp F h;have hs:=zfr (leftF rs F) v n h1 h2;rw[←zfg]at hs;rw[hs,e,zE];simp only[runF];rw[if_pos h,e,zE]
theorem zif{pick:(Nat→Int)→Int}{F:Nat→Int}(h:¬0≤pick F):∀f,runF pick f F=([],F)
 |0=>rfl
 |f+1=>by simp only[runF];rw[if_neg h]
structure zc7(wZ w:World)(B Z:Nat)(r:RM)(s:SM)(n:Nat)(ars:List ArcV)(F Lf K:Nat→Int)(lv:Value)(ls:List Int):Prop where
 only:Only (fun k=>k=s.gt∨k=s.gf∨Z≤k) wZ w
 blk:Blk w r.gr 99 #[.pointer (some ⟨s.gs,0,none⟩), .slice (some ⟨r.gl,0,none⟩) n r.cl, .slice (some ⟨r.gk,0,none⟩) n n,lv]
 tok:w.ownsRow B 3 1 (.slice (some ⟨s.gt,0,none⟩) ars.length ars.length) ars.length (cellsI (rowF (tokI ars F) ars.length))
 fir:w.ownsRow B 3 1 (.slice (some ⟨s.gf,0,none⟩) n n) n (cellsI (rowF F n))
 lef:w.ownsRow Z 3 1 (.slice (some ⟨r.gl,0,none⟩) n r.cl) n (cellsI (rowF Lf n))
 rnk:w.ownsRow Z 3 1 (.slice (some ⟨r.gk,0,none⟩) n n) n (cellsI (rowF K n))
 lst:w.ownsRow Z 3 1 lv ls.length (cellsI ls)
 grz:Z≤r.gr
 gkl:r.gl≠r.gk
 nl:∀b,lv.ownBlock=some b→b≠r.gl∧b≠r.gk
theorem zc7.st{wZ w:World}{B Z:Nat}{r:RM}{s:SM}{n:Nat}{ars:List ArcV}{F F0 Lf K:Nat→Int}{lv:Value}{ls:List Int}(h:zc7 wZ w B Z r s n ars F Lf K lv ls)(hS:St wZ B s n ars F0)(hZ:Z=wZ.heap.size):St w B s n ars F:=
 hS.only h.only (fun k h1 h2 h3 hx=>by rcases hx with hx|hx|hx<;>omega) h.tok h.fir
theorem zc7.run{wZ w:World}{B Z:Nat}{r:RM}{s:SM}{n:Nat}{ars:List ArcV}{F F0 Lf K:Nat→Int}{lv:Value}{ls:List Int}(h:zc7 wZ w B Z r s n ars F Lf K lv ls)(hS:St wZ B s n ars F0)(hZ:Z=wZ.heap.size)(hB:B≤Z):zhK w B r s n ars F Lf K lv:=
 ⟨h.blk,h.st hS hZ,h.lef.mono hB,h.rnk.mono hB⟩
theorem zc7.below{wZ w w':World}{B Z:Nat}{r:RM}{s:SM}{n:Nat}{ars:List ArcV}{F Lf K:Nat→Int}{lv:Value}{ls:List Int}(h:zc7 wZ w B Z r s n ars F Lf K lv ls)(hb:Below w.heap.size w w'):zc7 wZ w' B Z r s n ars F Lf K lv ls:=
 ⟨h.only.below hb,h.blk.below hb h.blk.lt,own_below h.tok hb,own_below h.fir hb,own_below h.lef hb,own_below h.rnk hb,own_below h.lst hb,h.grz,h.gkl,h.nl⟩
theorem zc7.fire{wZ w w':World}{B Z:Nat}{r:RM}{s:SM}{n:Nat}{ars:List ArcV}{F F' Lf K:Nat→Int}{lv:Value}{ls:List Int}(h:zc7 wZ w B Z r s n ars F Lf K lv ls)(ho:Only (fun k=>k=s.gt∨k=s.gf) w w')(hS:St w' B s n ars F')(h1:s.gt<Z)(h2:s.gf<Z):zc7 wZ w' B Z r s n ars F' Lf K lv ls:=by
 have row:∀{v:Value} {m:Nat} {xs:List Value},w.ownsRow Z 3 1 v m xs→w'.ownsRow Z 3 1 v m xs:=by
  intro v m xs hr;refine zae hr ho fun b hb hx=>?_
  have:=own_ge hr hb
  rcases hx with hx|hx<;>omega
 exact⟨h.only.trans (ho.mono fun k _ hx=>by rcases hx with hx|hx;exact .inl hx;exact .inr (.inl hx)),(ho.block _ h.blk.lt (fun hx=>by have:=h.grz;rcases hx with hx|hx<;>omega)).trans h.blk,hS.tok,hS.fir,row h.lef,row h.rnk,row h.lst,h.grz,h.gkl,h.nl⟩
theorem zc7.setLeft{wZ w:World}{B Z:Nat}{r:RM}{s:SM}{n:Nat}{ars:List ArcV}{F Lf K:Nat→Int}{lv:Value}{ls:List Int}(h:zc7 wZ w B Z r s n ars F Lf K lv ls)(v:Nat)(x:Int)(h1:s.gt<Z)(h2:s.gf<Z):
  zc7 wZ (w.setCell ⟨r.gl,v,none⟩ (.int .i64 x)) B Z r s n ars F (upd Lf v x) K lv ls:=by
 have st:=(h.lef.stored v (.int .i64 x)).1;rw[zcP,zdU]at st;have hgl:=(h.lef.lt r.gl rfl).1;have ho:=zbl w ⟨r.gl,v,none⟩ (.int .i64 x);obtain⟨cl,kl⟩:=own_block h.lef rfl;refine⟨h.only.trans (ho.mono fun k _ hx=> .inr (.inr (by have:k=r.gl:=hx;omega))),h.blk.far (fun hx=>absurd (zaP (hx▸h.blk) kl) (by decide)) _,zae h.tok ho (fun b hb hx=>?_),zae h.fir ho (fun b hb hx=>?_),st,zae h.rnk ho (fun b hb hx=>?_),zae h.lst ho (fun b hb hx=>?_),h.grz,h.gkl,h.nl⟩
 ·have:s.gt=b:=by simpa [Value.ownBlock]using hb
  have:b=r.gl:=hx
  omega
 ·have:s.gf=b:=by simpa [Value.ownBlock]using hb
  have:b=r.gl:=hx
  omega
 ·have h3:r.gk=b:=by simpa [Value.ownBlock]using hb
  have h4:b=r.gl:=hx
  exact h.gkl (by omega)
 ·exact(h.nl b hb).1 hx
theorem zc7.push{wZ w w':World}{B Z:Nat}{r:RM}{s:SM}{n:Nat}{ars:List ArcV}{F Lf K:Nat→Int}{lv v':Value}{ls:List Int}(h:zc7 wZ w B Z r s n ars F Lf K lv ls)(x:Int)(h1:s.gt<Z)(h2:s.gf<Z)
  (hg:w.grownBy w' lv.ownBlock) (hv:v'.ownBlock=lv.ownBlock∨v'.ownBlock=some w.heap.size) (ho:w'.ownsRow Z 3 1 v' (ls.length+1) (cellsI ls++[.int .i64 x])):zc7 wZ (w'.setCell ⟨r.gr,3,none⟩ v') B Z r s n ars F Lf K v' (ls++[x]):=by
 have kb:Blk w' r.gr 99 #[.pointer (some ⟨s.gs,0,none⟩), .slice (some ⟨r.gl,0,none⟩) n r.cl, .slice (some ⟨r.gk,0,none⟩) n n,lv]:=h.blk.grown hg fun hc=>by
  obtain⟨c,k⟩:=own_block h.lst hc.symm;exact absurd (zaP h.blk k) (by decide)
 have kb2:=kb.set 3 v';simp only[zc,ze,zd]at kb2;have row:∀{v:Value} {m C:Nat} {xs:List Value},w.ownsRow C 3 1 v m xs→(∀b,v.ownBlock=some b→lv.ownBlock≠some b)→(w'.setCell ⟨r.gr,3,none⟩ v').ownsRow C 3 1 v m xs:=by
  intro v m C xs hr hb;refine zap (hr.kept hg ?_) kb (by decide) _ _
  cases hv:v.ownBlock with
  |none=>exact .inl rfl
  |some b=>exact .inr fun hc=>hb b hv hc.symm
 have hgl:=(h.lef.lt r.gl rfl);have hgk:=(h.rnk.lt r.gk rfl);have e1:cellsI (ls++[x])=cellsI ls++[.int .i64 x]:=by simp[cellsI]
 refine⟨?_,kb2,row h.tok (fun b hb hc=>?_),row h.fir (fun b hb hc=>?_),row h.lef (fun b hb hc=>?_),row h.rnk (fun b hb hc=>?_),?_,h.grz,h.gkl,fun b hb=>?_⟩
 ·refine⟨hg.os.trans h.only.os,hg.tape.trans h.only.tape,hg.output.trans h.only.output,by have:=h.only.size;have:=hg.size;simp;omega,fun k hk hx=>?_⟩
  have hks:=h.only.size;rw[zaa _ _ _ _ (fun hc=>hx (.inr (.inr (by have:=h.grz;have:k=r.gr:=hc;omega))))]
  rw[hg.block k (by omega) (fun hc=>hx (.inr (.inr (own_ge h.lst hc.symm))))]
  exact h.only.block k hk hx
 ·have e:s.gt=b:=by simpa [Value.ownBlock]using hb
  have:=own_ge h.lst hc
  omega
 ·have e:s.gf=b:=by simpa [Value.ownBlock]using hb
  have:=own_ge h.lst hc
  omega
 ·have e:r.gl=b:=by simpa [Value.ownBlock]using hb
  exact(h.nl b hc).1 e.symm
 ·have e:r.gk=b:=by simpa [Value.ownBlock]using hb
  exact(h.nl b hc).2 e.symm
 ·rw[e1,zx];exact zap ho kb (by decide) _ _
 ·rcases hv with hv|hv
  ·exact h.nl b (hv▸hb)
  ·rw[hv]at hb;injection hb with hb;omega
theorem zmS{n:Nat}{rs:List Int}(h:rs.length=n):rowF (leftF rs fun _=>0) n=rs:=by
 apply zbb
 ·simp[rowF,h]
 ·intro j h1 h2;simp[rowF,leftF,repAt,h2]
theorem zjs{ars:List ArcV}{n v:Nat}{F:Nat→Int}(h:mayB ars n F v=true):fireN ars n F [(v:Int)]=1∧zcF ars n F [(v:Int)]=bump F v:=by
 simp[fireN,zcF,h]
theorem zlr{n m:Nat}{L:Nat→Int}(h:∀v,v<n→L v≤m):leftSum n L≤n*m:=by
 induction n with
 |zero=>simp[leftSum]
 |succ n ih=>
  have h1:=ih fun v hv=>h v (by omega)
  have h2:=h n (by omega)
  unfold leftSum at*;rw[zaO,zad,zda];simp only[zcn,zdk,List.sum_cons,List.sum_nil];rw[Nat.succ_mul];omega
end Go.Proofs.YtpmlljbebdidgaaGreatDoor
