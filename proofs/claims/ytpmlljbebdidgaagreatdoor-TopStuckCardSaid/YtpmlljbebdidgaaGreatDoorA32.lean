/- Lemmas and walks for the claim: Pz, Ab, Hb, Ta, Eq. -/
import Derived.Test.YtpmlljbebdidgaaGreatDoorA0
import Derived.Test.YtpmlljbebdidgaaGreatDoorA31
import Derived.Test.YtpmlljbebdidgaaGreatDoorA12
import Derived.Test.YtpmlljbebdidgaaGreatDoorA26
set_option maxHeartbeats 4000000
namespace Go.Proofs.YtpmlljbebdidgaaGreatDoor
open Go.RowKit
theorem wrongF_parts{n:Int}{ars:List ArcV}{rs ps:List Int}(h:wrongF n ars rs ps=0):∃m:Nat,n=m∧checkF m ars=0∧NetOk m ars∧rs.length=m∧rs.all repB=true∧ars.all (evenB rs)=true∧sumF rs≤2048∧nodesB n ps=true:=by
 unfold wrongF at h;split at h
 ·split at h
  ·rename_i h2
   obtain⟨a,b,c,d⟩:=holdB_parts h2;obtain⟨m,rfl,hN⟩:=netOk_of a;split at h
   ·cases h
   ·split at h
    ·rename_i h3 h4
     exact⟨m,rfl,a,hN,by omega,c,d,by omega,h4⟩
    ·cases h
  ·cases h
 ·rename_i h1;exact absurd h h1
theorem runF_len{pick:(Nat→Int)→Int}:∀f F,(runF pick f F).1.length≤f:=by
 intro f
 induction f with
 |zero=>intro F;simp[runF]
 |succ f ih=>
  intro F;simp only[runF];split
  ·have:=ih (bump F (pick F).toNat);simp only[List.length_cons];omega
  ·simp
theorem sumF_left{rs:List Int}(h:rs.all repB=true):∀k,k≤rs.length→(leftSum k (leftF rs fun _=>0):Int)=sumF (rs.take k):=by
 intro k
 induction k with
 |zero=>intro _;simp[leftSum,sumF]
 |succ k ih=>
  intro hk;have h1:=ih (by omega)
  have h2:=repAt_lt h (f:=k) (by omega)
  have h3:rs[k]?=some (repAt rs k):=by
   unfold repAt;rw[Int.toNat_natCast,List.getElem?_eq_getElem (by omega:k<rs.length)]
   rfl
  have h4:leftSum (k+1) (leftF rs fun _=>0)=leftSum k (leftF rs fun _=>0)+(repAt rs k).toNat:=by
   unfold leftSum;rw[List.range_succ,List.map_append,List.sum_append];simp[leftF]
  rw[sumF_take h3,←h1,h4];omega
theorem fire_run{ars:List ArcV}{n:Nat}{rs:List Int}{pick:(Nat→Int)→Int}(hp:PickOk ars n rs pick):∀(f:Nat) (F:Nat→Int),fireN ars n F (runF pick f F).1=(runF pick f F).1.length∧fireF ars n F (runF pick f F).1=(runF pick f F).2:=by
 intro f
 induction f with
 |zero=>intro F;exact⟨rfl,rfl⟩
 |succ f ih=>
  intro F;simp only[runF];split
  ·rename_i h
   obtain⟨v,hv,_,_,hm⟩:=hp F h;obtain⟨h1,h2⟩:=ih (bump F (pick F).toNat);rw[hv]at h1 h2⊢;simp only[fireN,fireF,hm,if_true,List.length_cons];exact⟨by rw[h1],h2⟩
  ·exact⟨rfl,rfl⟩
def shF_Hb(rs:List Int)(p:Nat)(F:Nat→Int):Nat→Int:=fun v=>p*repAt rs v+F v
theorem tok_shift{ars:List ArcV}{n:Nat}{rs:List Int}(hN:NetOk n ars)(he:ars.all (evenB rs)=true)(p:Nat)(F:Nat→Int){i:Nat}(hi:i<ars.length):tokI ars (shF_Hb rs p F) i=tokI ars F i:=by
 have ha:=arcAt_mem hi;have h1:=List.all_eq_true.1 he _ ha;obtain⟨g1,g2,g3,g4,-⟩:=hN.ok _ ha;unfold tokI tokA shF_Hb;generalize arcAt ars i=a at*;unfold evenB at h1;rw[decide_eq_true_eq]at h1;have e1:repAt rs (a.f.toNat:Int)=repAt rs a.f:=by rw[Int.toNat_of_nonneg g1]
 have e2:repAt rs (a.t.toNat:Int)=repAt rs a.t:=by rw[Int.toNat_of_nonneg g3]
 rw[e1,e2,Int.mul_add,Int.mul_add];have e3:a.g*((p:Int)*repAt rs a.f)=a.k*((p:Int)*repAt rs a.t):=by
  rw[Int.mul_left_comm,h1,Int.mul_left_comm]
 omega
theorem may_shift{ars:List ArcV}{n:Nat}{rs:List Int}(hN:NetOk n ars)(he:ars.all (evenB rs)=true)(p:Nat)(F:Nat→Int)(v:Int):mayB ars n (shF_Hb rs p F) v=mayB ars n F v:=by
 by_cases hv:0≤v∧v<n
 ·obtain⟨u,rfl⟩:∃u:Nat,v=u:=⟨v.toNat,by omega⟩
  rw[Bool.eq_iff_iff,mayB_iff,mayB_iff];constructor
  ·rintro⟨h1,h2⟩;exact⟨h1,fun i hi ht=>by rw[←tok_shift hN he p F hi];exact h2 i hi ht⟩
  ·rintro⟨h1,h2⟩;exact⟨h1,fun i hi ht=>by rw[tok_shift hN he p F hi];exact h2 i hi ht⟩
 ·unfold mayB;rw[decide_eq_false hv]
  rfl
theorem bump_shift(rs:List Int)(p:Nat)(F:Nat→Int)(v:Nat):bump (shF_Hb rs p F) v=shF_Hb rs p (bump F v):=by
 funext j
 unfold bump shF_Hb;by_cases h:j=v
 ·subst h;rw[upd_self,upd_self];omega
 ·rw[upd_other h,upd_other h]
theorem fire_shift{ars:List ArcV}{n:Nat}{rs:List Int}(hN:NetOk n ars)(he:ars.all (evenB rs)=true)(p:Nat):∀(xs:List Int) (F:Nat→Int),fireN ars n (shF_Hb rs p F) xs=fireN ars n F xs∧fireF ars n (shF_Hb rs p F) xs=shF_Hb rs p (fireF ars n F xs):=by
 intro xs
 induction xs with
 |nil=>intro F;exact⟨rfl,rfl⟩
 |cons x xs ih=>
  intro F;simp only[fireN,fireF,may_shift hN he,bump_shift];obtain⟨h1,h2⟩:=ih (bump F x.toNat);split
  ·exact⟨by rw[h1],h2⟩
  ·exact⟨rfl,rfl⟩
theorem left_none{n:Nat}{ars:List ArcV}{rs:List Int}{G:Nat→Int}(hlen:rs.length=n)(hle:∀j,j<n→G j≤repAt rs j)(hfar:∀j,n≤j→G j=0)(hb:blocksF ars n G (leftF rs G) n=[]):G=fun v:Nat=>repAt rs v:=by
 funext v
 by_cases hv:v<n
 ·have h1:=hle v hv;have h2:¬0<leftF rs G v:=by
   intro hl;unfold blocksF at hb;rw[List.map_eq_nil_iff,List.filter_eq_nil_iff]at hb;exact hb v (List.mem_range.2 hv) (by simpa using hl)
  unfold leftF at h2;omega
 ·rw[hfar v (by omega)]
  unfold repAt;rw[Int.toNat_natCast,List.getElem?_eq_none (by omega)]
  rfl
theorem home_list{n:Nat}{ars:List ArcV}{rs ps:List Int}(h:wrongF n ars rs ps=0)(hb:(ansF (pickS ars (n:Int).toNat rs ps) n ars rs ps).2=[]):
  (∀p:Nat,fireN ars n (shF_Hb rs p fun _=>0) (ansF (pickS ars (n:Int).toNat rs ps) n ars rs ps).1=(ansF (pickS ars (n:Int).toNat rs ps) n ars rs ps).1.length∧
   fireF ars n (shF_Hb rs p fun _=>0) (ansF (pickS ars (n:Int).toNat rs ps) n ars rs ps).1=shF_Hb rs (p+1) fun _=>0)∧
  rowF (countF (ansF (pickS ars (n:Int).toNat rs ps) n ars rs ps).1) n=rs∧nodesB (n:Int) (ansF (pickS ars (n:Int).toNat rs ps) n ars rs ps).1=true∧0<(ansF (pickS ars (n:Int).toNat rs ps) n ars rs ps).1.length∧
  (ansF (pickS ars (n:Int).toNat rs ps) n ars rs ps).1.length≤2048:=by
 obtain⟨m,hm,hck,hN,hlen,hall,heven,hsum,hno⟩:=wrongF_parts h;obtain rfl:n=m:=by omega
 rw[Int.toNat_natCast]at hb⊢;unfold ansF at hb⊢;rw[if_pos h,Int.toNat_natCast]at hb⊢;obtain⟨c1,c2,c3,c4⟩:=runF_end (pickS_ok ars n rs ps) (pickS_all ars n rs ps) (leftSum n (leftF rs fun _=>0)) (fun _=>0) .zero lR_
 obtain⟨f1,f2⟩:=fire_run (pickS_ok ars n rs ps) (leftSum n (leftF rs fun _=>0)) (fun _=>0)
 have hlx:=runF_len (pick:=pickS ars n rs ps) (leftSum n (leftF rs fun _=>0)) (fun _=>0)
 generalize runF (pickS ars n rs ps) (leftSum n (leftF rs fun _=>0)) (fun _=>0)=r at*
 unfold endF at hb⊢;by_cases hbl:blocksF ars n r.2 (leftF rs r.2) n=[]
 ·rw[if_pos hbl];have hle:=c1.le_reps fun v hv=>by have:=repAt_lt hall (f:=v) (by omega);omega
  have hr:=left_none hlen hle c1.far hbl;have hcn:rowF (countF r.1) n=rs:=by
   refine List.ext_getElem? fun k=>?_
   by_cases hk:k<n
   ·rw[rowF_at _ hk,c3 k,hr];have h3:rs[k]?=some (repAt rs k):=by
     unfold repAt;rw[Int.toNat_natCast,List.getElem?_eq_getElem (by omega:k<rs.length)]
     rfl
    rw[h3,Int.sub_zero]
   ·rw[List.getElem?_eq_none (by rw[rowF_length];omega),List.getElem?_eq_none (by omega)]
  refine⟨fun p=>?_,hcn,c4,?_,?_⟩
  ·obtain⟨s1,s2⟩:=fire_shift hN heven p r.1 fun _=>0
   rw[s1,s2,f1,f2,hr];refine⟨rfl,?_⟩
   funext v
   show(p:Int)*repAt rs v+repAt rs v=((p+1:Nat):Int)*repAt rs v+0
   rw[Int.natCast_add,Int.add_mul];omega
  ·have hp:=hN.pos;have h0:countF r.1 0=repAt rs ((0:Nat):Int)-0:=by rw[c3 0,hr]
   have h1:=repAt_lt hall (f:=0) (by omega)
   cases hx:r.1 with
   |nil=>rw[hx,show countF [] 0=0 from rfl]at h0;omega
   |cons x xs=>simp
  ·have hleft:=sumF_left hall rs.length lR_;rw[List.take_length,hlen]at hleft;simp only;omega
 ·rw[if_neg hbl]at hb;exact absurd hb hbl
theorem home_blocks{n:Nat}{ars:List ArcV}{rs ps:List Int}(h:wrongF n ars rs ps=0)(hb:(ansF (pickS ars (n:Int).toNat rs ps) n ars rs ps).2≠[]):
  ∃F vs,(ansF (pickS ars (n:Int).toNat rs ps) n ars rs ps)=([],vs.map (blkN ars F))∧HeldV n ars F vs∧∀v∈vs,F v<repAt rs v:=by
 obtain⟨m,hm,hck,hN,hlen,hall,heven,hsum,hno⟩:=wrongF_parts h;obtain rfl:n=m:=by omega
 rw[Int.toNat_natCast]at hb⊢;unfold ansF at hb⊢;rw[if_pos h,Int.toNat_natCast]at hb⊢;obtain⟨c1,c2,-,-⟩:=runF_end (pickS_ok ars n rs ps) (pickS_all ars n rs ps) (leftSum n (leftF rs fun _=>0)) (fun _=>0) .zero lR_
 generalize runF (pickS ars n rs ps) (leftSum n (leftF rs fun _=>0)) (fun _=>0)=r at*
 unfold endF at hb⊢;by_cases hbl:blocksF ars n r.2 (leftF rs r.2) n=[]
 ·rw[if_pos hbl]at hb;exact absurd rfl hb
 ·rw[if_neg hbl];have hle:=c1.le_reps fun v hv=>by have:=repAt_lt hall (f:=v) (by omega);omega
  have hmem:∀v,v∈(List.range n).filter (fun v:Nat=>decide (0<leftF rs r.2 v))↔v<n∧0<leftF rs r.2 v:=fun v=>by simp
  refine⟨r.2,(List.range n).filter (fun v:Nat=>decide (0<leftF rs r.2 v)),rfl,⟨?_,List.Pairwise.filter _ List.nodup_range,fun v hv=>((hmem v).1 hv).1,fun v hv=>?_,fun v hv=>?_⟩,fun v hv=>?_⟩
  ·refine List.length_pos_iff.2 fun hc=>hbl ?_
   unfold blocksF;rw[hc];rfl
  ·have h1:=(hmem v).1 hv;have h2:=hle v h1.1;have h3:=repAt_lt hall (f:=v) (by omega)
   have:=c1.nonneg v
   omega
  ·obtain⟨hvn,hlv⟩:=(hmem v).1 hv;have hm0:=c2 v hvn hlv;unfold mayB at hm0;rw[decide_eq_true (by omega:(0:Int)≤v∧(v:Int)<n),Bool.true_and,Int.toNat_natCast]at hm0
   cases hs:shortO ars r.2 v with
   |none=>rw[hs]at hm0;cases hm0
   |some i=>
    have h1:=List.find?_some hs;have h2:=List.mem_range.1 (List.mem_of_find?_eq_some hs);simp only[Bool.and_eq_true,decide_eq_true_eq,lacks]at h1;obtain⟨ht,hl⟩:=h1;have ha:=arcAt_mem h2;have he:=List.all_eq_true.1 heven _ ha;obtain⟨g1,g2,g3,g4,g5,g6,g7,g8,g9,g10⟩:=hN.ok _ ha;unfold evenB at he;rw[decide_eq_true_eq]at he;unfold tokA at hl;refine⟨i,(arcAt ars i).f.toNat,rfl,h2,ht,by omega,?_,?_⟩
    ·rw[hmem];refine⟨by omega,?_⟩
     unfold leftF at hlv⊢;rw[Int.toNat_of_nonneg g1];rw[ht,Int.toNat_natCast]at hl;rw[ht]at he;refine Int.not_le.1 fun hc=>?_
     have m1:=Int.mul_le_mul_of_nonneg_left (show repAt rs (arcAt ars i).f≤r.2 (arcAt ars i).f.toNat by omega) (show 0≤(arcAt ars i).g by omega)
     have m2:=Int.mul_le_mul_of_nonneg_left (show r.2 v+1≤repAt rs (v:Int) by omega) (show 0≤(arcAt ars i).k by omega)
     rw[Int.mul_add,Int.mul_one]at m2;omega
    ·rw[ht,Int.toNat_natCast]at hl;rw[Int.mul_add,Int.mul_one];omega
  ·have h1:=((hmem v).1 hv).2;unfold leftF at h1;omega
theorem in_at{g:GraV}(h:checkG g=0){e:Nat}{x:GEdg}(hx:g.edges[e]?=some x):inI g g.ins.length x.t.toNat x.tp.toNat= .que e:=by
 have h1:=(inL_laid h _ lR_).at_ e (x.t,x.tp) (get_lt hx) (by unfold eDst;rw[List.getElem?_map,hx];rfl)
 have h1:inL g g.edges.length x.t.toNat x.tp.toNat= .que e:=h1
 have h2:=(inI_laid h _ lR_).old x.t.toNat x.tp.toNat (by rw[h1];simp)
 exact h2.trans h1
theorem in_from{g:GraV}(h:checkG g=0){v p e:Nat}(he:inI g g.ins.length v p= .que e)(hlt:e<g.edges.length):∃x,g.edges[e]?=some x∧x.t.toNat=v∧x.tp.toNat=p:=by
 have h0:inL g g.edges.length v p= .que e:=by
  rcases(inI_laid h _ lR_).from_ v p with h1|⟨j,a,-,-,-,-,h1⟩
  ·exact h1.symm.trans he
  ·have h1:inI g g.ins.length v p= .que (g.edges.length+j):=h1
   have:=h1.symm.trans he
   injection this with this
   omega
 rcases(inL_laid h _ lR_).from_ v p with h1|⟨j,a,hj,ha,e1,e2,h1⟩
 ·have h1:inL g g.edges.length v p= .no:=h1
  exact (by cases (h0.symm.trans h1))
 ·have h1:inL g g.edges.length v p= .que j:=h1
  have:=h0.symm.trans h1
  injection this with this
  subst this;unfold eDst at ha;rw[List.getElem?_map]at ha;cases hx:g.edges[e]? with
  |none=>rw[hx]at ha;cases ha
  |some x=>
   rw[hx]at ha;simp only[Option.map_some,Option.some.injEq]at ha;subst ha;exact⟨x,rfl,e1,e2⟩
theorem out_at{g:GraV}(h:checkG g=0){e:Nat}{x:GEdg}(hx:g.edges[e]?=some x):outO g g.outs.length x.f.toNat x.fp.toNat= .que e:=by
 have h1:=(outL_laid h _ lR_).at_ e (x.f,x.fp) (get_lt hx) (by unfold eSrc;rw[List.getElem?_map,hx];rfl)
 have h1:outL g g.edges.length x.f.toNat x.fp.toNat= .que e:=h1
 have h2:=(outO_laid h _ lR_).old x.f.toNat x.fp.toNat (by rw[h1];simp)
 exact h2.trans h1
theorem out_que{g:GraV}(h:checkG g=0){v p e:Nat}(he:outO g g.outs.length v p= .que e):∃x,g.edges[e]?=some x∧x.f.toNat=v∧x.fp.toNat=p:=by
 have h0:outL g g.edges.length v p= .que e:=by
  rcases(outO_laid h _ lR_).from_ v p with h1|⟨j,a,-,-,-,-,h1⟩
  ·exact h1.symm.trans he
  ·have h1:outO g g.outs.length v p= .tape j:=h1
   exact (by cases (h1.symm.trans he))
 rcases(outL_laid h _ lR_).from_ v p with h1|⟨j,a,hj,ha,e1,e2,h1⟩
 ·have h1:outL g g.edges.length v p= .no:=h1
  exact (by cases (h0.symm.trans h1))
 ·have h1:outL g g.edges.length v p= .que j:=h1
  have:=h0.symm.trans h1
  injection this with this
  subst this;unfold eSrc at ha;rw[List.getElem?_map]at ha;cases hx:g.edges[e]? with
  |none=>rw[hx]at ha;cases ha
  |some x=>
   rw[hx]at ha;simp only[Option.map_some,Option.some.injEq]at ha;subst ha;exact⟨x,rfl,e1,e2⟩
theorem out_tape{g:GraV}(h:checkG g=0){v p o:Nat}(he:outO g g.outs.length v p= .tape o):∃x,g.outs[o]?=some x∧x.a.toNat=v∧x.p.toNat=p:=by
 rcases(outO_laid h _ lR_).from_ v p with h1|⟨j,a,hj,ha,e1,e2,h1⟩
 ·have h0:outL g g.edges.length v p= .tape o:=h1.symm.trans he
  rcases(outL_laid h _ lR_).from_ v p with h2|⟨j,a,-,-,-,-,h2⟩
  ·have h2:outL g g.edges.length v p= .no:=h2
   exact (by cases (h0.symm.trans h2))
  ·have h2:outL g g.edges.length v p= .que j:=h2
   exact (by cases (h0.symm.trans h2))
 ·have h1:outO g g.outs.length v p= .tape j:=h1
  have:=he.symm.trans h1
  injection this with this
  subst this;unfold oSrc at ha;rw[List.getElem?_map]at ha;cases hx:g.outs[o]? with
  |none=>rw[hx]at ha;cases ha
  |some x=>
   rw[hx]at ha;simp only[Option.map_some,Option.some.injEq]at ha;subst ha;exact⟨x,rfl,e1,e2⟩
theorem rate_nat{l:List Int}{p:Nat}{x:Int}(h:l[p]?=some x)(hl:∀x∈l,1≤x∧x≤64):l[p]?=some ((x.toNat:Nat):Int)∧1≤x.toNat∧x.toNat≤64:=by
 have:=hl x (get_mem h)
 exact⟨by rw[h];congr 1;omega,by omega,by omega⟩
def kOf(g:GraV)(x:GEdg):Nat:=(inAt g x.t x.tp).toNat
def gOf(g:GraV)(x:GEdg):Nat:=(outAt g x.f x.fp).toNat
theorem edge_in{g:GraV}(h:checkG g=0){e:Nat}{x:GEdg}(hx:g.edges[e]?=some x):∃y,g.acts[x.t.toNat]?=some y∧(insOf y)[x.tp.toNat]?=some ((kOf g x:Nat):Int)∧1≤kOf g x∧kOf g x≤64:=by
 obtain⟨-,y,-,hy,-,-,-,-,-,-,b3,b4,-⟩:=checkG_edge h (get_mem hx);obtain⟨r,hr⟩:=get_of_lt (l:=insOf y) (i:=x.tp.toNat) (by omega)
 have e1:inAt g x.t x.tp=r:=by unfold inAt;rw[hy];show(insOf y).getD x.tp.toNat 0=r;rw[List.getD_eq_getElem?_getD,hr];rfl
 unfold kOf;rw[e1];exact⟨y,hy,rate_nat hr (shape_rate y.tag y.ps).1⟩
theorem edge_out{g:GraV}(h:checkG g=0){e:Nat}{x:GEdg}(hx:g.edges[e]?=some x):∃y,g.acts[x.f.toNat]?=some y∧(outsOf y)[x.fp.toNat]?=some ((gOf g x:Nat):Int)∧1≤gOf g x∧gOf g x≤64:=by
 obtain⟨y,-,hy,-,-,-,-,-,a3,a4,-,-,-⟩:=checkG_edge h (get_mem hx);obtain⟨r,hr⟩:=get_of_lt (l:=outsOf y) (i:=x.fp.toNat) (by omega)
 have e1:outAt g x.f x.fp=r:=by unfold outAt;rw[hy];show(outsOf y).getD x.fp.toNat 0=r;rw[List.getD_eq_getElem?_getD,hr];rfl
 unfold gOf;rw[e1];exact⟨y,hy,rate_nat hr (shape_rate y.tag y.ps).2⟩
structure RigG(g:GraV)(V:RigV):Prop where
 nE:V.nE=g.edges.length
 len:V.tasks.length=g.acts.length
 rt:∀(v:Nat) (t:TkV),V.tasks[v]?=some t→∃x,g.acts[v]?=some x∧t.rin=insOf x∧t.rout=outsOf x
 src:∀(v:Nat) (t:TkV),V.tasks[v]?=some t→∀(p:Nat) (l:Lnk),t.src[p]?=some l→l.lk=inI g g.ins.length v p
 dst:∀(v:Nat) (t:TkV),V.tasks[v]?=some t→∀(p:Nat) (l:Lnk),t.dst[p]?=some l→l.lk=outO g g.outs.length v p
theorem RigV.same.back{V V':RigV}(h:V.same V'){v:Nat}{t:TkV}(ht:V'.tasks[v]?=some t):∃s,V.tasks[v]?=some s∧t.stat=s.stat:=by
 have h1:=congrArg (fun l=>l[v]?) h.tk
 simp only[List.getElem?_map,ht,Option.map_some]at h1;cases ht2:V.tasks[v]? with
 |none=>rw[ht2]at h1;cases h1
 |some s=>
  rw[ht2]at h1;exact⟨s,rfl,Option.some.inj h1⟩
theorem RigG.same{g:GraV}{V V':RigV}(h:RigG g V)(hs:V.same V'):RigG g V':=by
 have key:∀{v:Nat} {t:TkV},V'.tasks[v]?=some t→∃s,V.tasks[v]?=some s∧t.rin=s.rin∧t.rout=s.rout∧t.src=s.src∧t.dst=s.dst:=fun ht=>by
  obtain⟨s,h1,h2⟩:=hs.back ht;simp only[TkV.stat,Prod.mk.injEq]at h2;exact⟨s,h1,h2.2.1,h2.2.2.1,h2.2.2.2.1,h2.2.2.2.2⟩
 refine⟨hs.nE.trans h.nE,hs.len.trans h.len,fun v t ht=>?_,fun v t ht=>?_,fun v t ht=>?_⟩
 ·obtain⟨s,h1,h2,h3,-,-⟩:=key ht;rw[h2,h3];exact h.rt v s h1
 ·obtain⟨s,h1,-,-,h2,-⟩:=key ht;rw[h2];exact h.src v s h1
 ·obtain⟨s,h1,-,-,-,h2⟩:=key ht;rw[h2];exact h.dst v s h1
theorem RigG.full{g:GraV}{V:RigV}(h:RigG g V)(hc:checkG g=0)(hm:∀(v:Nat) (t:TkV),V.tasks[v]?=some t→t.src.length=t.rin.length∧t.dst.length=t.rout.length):V.full:=fun v t ht=>by
 obtain⟨x,hx,e1,e2⟩:=h.rt v t ht;obtain⟨l1,l2⟩:=hm v t ht;refine⟨fun l hl=>?_,fun l hl=>?_⟩
 ·obtain⟨p,hp,rfl⟩:=List.getElem_of_mem hl;have h1:=h.src v t ht p _ (List.getElem?_eq_getElem hp);have h2:=full_in hc hx (p:=p) (by rw[←e1];omega)
  rw[←h1]at h2;cases hl:t.src[p]with
  |no=>rw[hl]at h2;exact absurd rfl h2
  |que e g=>exact⟨e,g,rfl⟩
  |tape o g'=>
   rw[hl]at h1;have h1:LkV.tape o=inI g g.ins.length v p:=h1;rcases(inI_laid hc _ lR_).from_ v p with h3|⟨j,a,-,-,-,-,h3⟩
   ·rcases(inL_laid hc _ lR_).from_ v p with h4|⟨j,a,-,-,-,-,h4⟩
    ·exact (by cases (h1.trans (h3.trans h4)))
    ·exact (by cases (h1.trans (h3.trans h4)))
   ·exact (by cases (h1.trans h3))
 ·obtain⟨p,hp,rfl⟩:=List.getElem_of_mem hl;have h1:=h.dst v t ht p _ (List.getElem?_eq_getElem hp);have h2:=full_out hc hx (p:=p) (by rw[←e2];omega)
  rw[←h1]at h2;intro hn;rw[hn]at h2;exact h2 rfl
structure LawJ(g:GraV)(L:Nat)(F:Nat→Int)(vs:List Nat)(N:Nat)(V:RigV):Prop where
 G:RigG g V
 eq:∀(e:Nat) (x:GEdg),g.edges[e]?=some x→V.ql e+kOf g x*V.φ x.t.toNat+V.hd x.t.toNat x.tp.toNat+V.rm x.f.toNat x.fp.toNat=x.st.length+gOf g x*V.φ x.f.toNat
 cnt:∀(v p m:Nat) (x:ActV),g.acts[v]?=some x→(outsOf x)[p]?=some (m:Int)→V.φ v+m*V.φ v≤N+V.rm v p∧V.rm v p≤m*V.φ v
 yl:∀(e:Nat) (x:GEdg),g.edges[e]?=some x→V.yl e+V.rm x.f.toNat x.fp.toNat≤x.st.length+gOf g x*V.φ x.f.toNat
 yi:∀e,g.edges.length≤e→V.yl e≤L
 zl:∀(o:Nat) (x:PrtV),g.outs[o]?=some x→∀(y:ActV) (m:Nat),g.acts[x.a.toNat]?=some y→(outsOf y)[x.p.toNat]?=some (m:Int)→V.zl o+V.rm x.a.toNat x.p.toNat≤m*V.φ x.a.toNat
 zo:∀o,g.outs.length≤o→V.zl o=0
 held:∀v∈vs,(V.φ v:Int)≤F v
theorem LawJ.more{g:GraV}{L:Nat}{F:Nat→Int}{vs:List Nat}{N:Nat}{V:RigV}(h:LawJ g L F vs N V):LawJ g L F vs (N+1) V:=
 {h with cnt:=fun v p m x hx hm=>by have:=h.cnt v p m x hx hm;omega}
theorem mul_small{m φ N r:Nat}(h:φ+m*φ≤N+r)(hr:r≤m*φ)(hm:m≤64):65*(m*φ-r)≤64*N:=by
 have h1:m*φ≤64*φ:=Nat.mul_le_mul_right φ hm
 generalize m*φ=y at*;omega
theorem LawJ.room{g:GraV}{L:Nat}{F:Nat→Int}{vs:List Nat}{N:Nat}{V:RigV}(h:LawJ g L F vs N V)(hc:checkG g=0)(hL:L<17592186044416)(hN:N≤17592186046464):V.room:=by
 refine⟨fun q hq=>?_,fun p hp=>?_⟩
 ·obtain⟨e,he,rfl⟩:=List.getElem_of_mem hq;have hy:V.yl e=(V.qs[e]).ys.length:=yl_at (List.getElem?_eq_getElem he);rw[←hy];by_cases hlt:e<g.edges.length
  ·obtain⟨x,hx⟩:=get_of_lt hlt;obtain⟨y,hy1,hy2,hy3,hy4⟩:=edge_out hc hx;have h1:=h.yl e x hx;obtain⟨h2,h3⟩:=h.cnt x.f.toNat x.fp.toNat (gOf g x) y hy1 hy2;have h4:=mul_small h2 h3 hy4;obtain⟨-,-,-,-,-,-,-,-,-,-,-,-,h5⟩:=checkG_edge hc (get_mem hx);generalize gOf g x*V.φ x.f.toNat=y at*;omega
  ·have:=h.yi e (by omega)
   omega
 ·obtain⟨o,ho,rfl⟩:=List.getElem_of_mem hp;have hz:V.zl o=(V.tps[o]).ys.length:=zl_at (List.getElem?_eq_getElem ho);rw[←hz];by_cases hlt:o<g.outs.length
  ·obtain⟨x,hx⟩:=get_of_lt hlt;obtain⟨y,hy,-,-,b3,b4⟩:=checkG_out hc hx;obtain⟨r,hr⟩:=get_of_lt (l:=outsOf y) (i:=x.p.toNat) (by omega)
   obtain⟨r1,-,r3⟩:=rate_nat hr (shape_rate y.tag y.ps).2;have h1:=h.zl o x hx y _ hy r1;obtain⟨h2,h3⟩:=h.cnt x.a.toNat x.p.toNat _ y hy r1;have h4:=mul_small h2 h3 r3;generalize r.toNat*V.φ x.a.toNat=y at*;omega
  ·rw[h.zo o (by omega)]
   omega
theorem LawJ.step{g:GraV}{L:Nat}{F:Nat→Int}{vs:List Nat}{N:Nat}{V V':RigV}{i:Int}{b:Bool}(h:LawJ g L F vs N V)(hc:checkG g=0)(hV:HeldV g.acts.length (garcs g) F vs)(hsh:V.shp)(hsame:V.same V')(hs:RStep V i V' b):LawJ g L F vs (N+1) V':=by
 have G':=h.G.same hsame;cases hs with
 |no he hn=>subst he;exact h.more
 |yes v t ok hi hv hf hr hs hfail=>
  obtain⟨tsh,hhl,hgl⟩:=hsh v t hv;obtain⟨xv,hxv,eri,ero⟩:=h.G.rt v t hv;cases hs with
  |take e0 g0 hg hp hsrc hq hφ hh hr hl hy hz=>
   have hlk:LkV.que e0=inI g g.ins.length v t.port:=h.G.src v t hv _ _ hsrc
   refine⟨G',fun e x hx=>?_,fun u p m x hx hm=>?_,fun e x hx=>?_,fun e he=>Nat.le_trans (hy e) (h.yi e he),fun o x hx y m hy' hm=>?_,fun o ho=>(hz o).trans (h.zo o ho),fun u hu=>?_⟩
   ·have E:=h.eq e x hx;rw[hl,hφ,hφ,hh,hr];by_cases he:e=e0
    ·subst he;obtain⟨x',hx',e1,e2⟩:=in_from hc hlk.symm (get_lt hx);obtain rfl:=Option.some.inj (hx.symm.trans hx');rw[if_pos rfl,if_pos ⟨e1,e2⟩];omega
    ·rw[if_neg he,if_neg]
     ·exact E
     ·rintro⟨e1,e2⟩;have h1:=in_at hc hx;rw[e1,e2,←hlk]at h1;injection h1 with h1;exact he h1.symm
   ·have:=h.cnt u p m x hx hm
    rw[hφ,hr];omega
   ·have h1:=h.yl e x hx;have h2:=hy e;rw[hφ,hr];omega
   ·rw[hz,hr,hφ];exact h.zl o x hx y m hy' hm
   ·rw[hφ];exact h.held u hu
  |reckon hg hp hφ hh hr hl hy hz=>
   have rm0:∀p,V.rm v p=0:=fun p=>by rw[rm_at hv];unfold TkV.rm;rw[hg];rfl
   have hd1:∀p m:Nat,(insOf xv)[p]?=some (m:Int)→V.hd v p=m:=fun p m hm=>by
    rw[←eri]at hm;obtain⟨r,hr⟩:=get_of_lt (l:=t.hand) (i:=p) (by rw[hhl];exact get_lt hm)
    have:=(tsh.h1 hg p r _ hr hm).1 (by rw[hp];exact get_lt hm)
    rw[hd_at hv];unfold TkV.hd;rw[hg,hr];show r.xs.length=m
    omega
   have ro:∀p m:Nat,(outsOf xv)[p]?=some (m:Int)→(t.rout[p]?.getD 0).toNat=m:=fun p m hm=>by
    rw[ero,hm];show(m:Int).toNat=m
    exact Int.toNat_natCast m
   have key:∀(e:Nat) (x:GEdg),g.edges[e]?=some x→x.t.toNat=v→V.ql e+kOf g x*(V.φ v+1)+V.rm x.f.toNat x.fp.toNat=x.st.length+gOf g x*V.φ x.f.toNat:=fun e x hx ht=>by
    have E:=h.eq e x hx;obtain⟨y,hy1,hy2,-,-⟩:=edge_in hc hx;rw[ht]at E hy1;obtain rfl:=Option.some.inj (hxv.symm.trans hy1);rw[hd1 _ _ hy2]at E;rw[Nat.mul_add,Nat.mul_one];omega
   refine⟨G',fun e x hx=>?_,fun u p m x hx hm=>?_,fun e x hx=>?_,fun e he=>Nat.le_trans (Nat.le_of_eq (hy e)) (h.yi e he),fun o x hx y m hy' hm=>?_,fun o ho=>(hz o).trans (h.zo o ho),fun u hu=>?_⟩
   ·have E:=h.eq e x hx;obtain⟨y,hy1,hy2,-,-⟩:=edge_out hc hx;rw[hl,hφ,hφ,hh,hr];by_cases ht:x.t.toNat=v
    ·have K:=key e x hx ht;rw[if_pos ht,if_pos ht,ht];by_cases hfv:x.f.toNat=v
     ·rw[if_pos hfv,if_pos hfv];rw[hfv]at hy1 K⊢;obtain rfl:=Option.some.inj (hxv.symm.trans hy1);rw[rm0]at K;rw[ro _ _ hy2,Nat.mul_add (gOf g x),Nat.mul_one];omega
     ·rw[if_neg hfv,if_neg hfv];omega
    ·rw[if_neg ht,if_neg ht];by_cases hfv:x.f.toNat=v
     ·rw[if_pos hfv,if_pos hfv];rw[hfv]at hy1 E⊢;obtain rfl:=Option.some.inj (hxv.symm.trans hy1);rw[rm0]at E;rw[ro _ _ hy2,Nat.mul_add (gOf g x),Nat.mul_one];omega
     ·rw[if_neg hfv,if_neg hfv];exact E
   ·have C:=h.cnt u p m x hx hm;rw[hφ,hr];by_cases hu:u=v
    ·subst hu;obtain rfl:=Option.some.inj (hxv.symm.trans hx);rw[if_pos rfl,if_pos rfl,ro p m hm,Nat.mul_add,Nat.mul_one];rw[rm0]at C;omega
    ·rw[if_neg hu,if_neg hu];omega
   ·have h1:=h.yl e x hx;obtain⟨y,hy1,hy2,-,-⟩:=edge_out hc hx;rw[hy,hφ,hr];by_cases hfv:x.f.toNat=v
    ·rw[if_pos hfv,if_pos hfv];rw[hfv]at hy1 h1⊢;obtain rfl:=Option.some.inj (hxv.symm.trans hy1);rw[ro _ _ hy2,Nat.mul_add (gOf g x),Nat.mul_one];omega
    ·rw[if_neg hfv,if_neg hfv];exact h1
   ·have h1:=h.zl o x hx y m hy' hm;rw[hz,hφ,hr];by_cases hfv:x.a.toNat=v
    ·rw[if_pos hfv,if_pos hfv];rw[hfv]at hy' h1⊢;obtain rfl:=Option.some.inj (hxv.symm.trans hy');rw[ro _ _ hm,Nat.mul_add,Nat.mul_one];omega
    ·rw[if_neg hfv,if_neg hfv];exact h1
   ·rw[hφ];by_cases huv:u=v
    ·subst huv;rw[if_pos rfl];have h1:=h.held u hu;refine Int.not_lt.1 fun hc2=>?_
     have hFu:F u=(V.φ u:Int):=by omega
     obtain⟨j,u2,-,hj,ht,hf2,hu2,hlt⟩:=hV.arc u hu;rw[garcs_length]at hj;obtain⟨x,hx⟩:=get_of_lt hj;have ea:arcAt (garcs g) j=garcOf g x:=by unfold arcAt garcs;rw[List.getElem?_map,hx];rfl
     rw[ea]at ht hf2 hlt;have ht:x.t=(u:Int):=ht;have hf2:x.f=(u2:Int):=hf2;have K:=key j x hx (by rw[ht];exact Int.toNat_natCast u)
     rw[show x.f.toNat=u2 by rw[hf2];exact Int.toNat_natCast u2]at K
     have hb:=h.held u2 hu2;have hlt:(x.st.length:Int)+outAt g x.f x.fp*F u2<inAt g x.t x.tp*(F u+1):=hlt;obtain⟨-,-,-,hk1,-⟩:=edge_in hc hx;obtain⟨-,-,-,hg1,-⟩:=edge_out hc hx;have e1:outAt g x.f x.fp=(gOf g x:Int):=by unfold gOf at hg1⊢;omega
     have e2:inAt g x.t x.tp=(kOf g x:Int):=by unfold kOf at hk1⊢;omega
     rw[e1,e2,hFu]at hlt;have h3:=Int.mul_le_mul_of_nonneg_left hb (show(0:Int)≤(gOf g x:Int) by omega)
     have K2:((kOf g x*(V.φ u+1):Nat):Int)≤((x.st.length+gOf g x*V.φ u2:Nat):Int):=by
      have:kOf g x*(V.φ u+1)≤x.st.length+gOf g x*V.φ u2:=by omega
      exact_mod_cast this
     rw[Int.natCast_mul,Int.natCast_add,Int.natCast_add,Int.natCast_mul]at K2;have K3:(kOf g x:Int)*((V.φ u:Int)+1)≤(x.st.length:Int)+(gOf g x:Int)*(V.φ u2:Int):=K2;omega
    ·rw[if_neg huv];exact h.held u hu
  |fail hg hp hφ hh hr hl hy hz=>
   refine⟨G',fun e x hx=>?_,fun u p m x hx hm=>?_,fun e x hx=>?_,fun e he=>Nat.le_trans (Nat.le_of_eq (hy e)) (h.yi e he),fun o x hx y m hy' hm=>?_,fun o ho=>(hz o).trans (h.zo o ho),fun u hu=>?_⟩
   ·rw[hl,hφ,hφ,hh,hr];exact h.eq e x hx
   ·have:=h.cnt u p m x hx hm
    rw[hφ,hr];omega
   ·rw[hy,hφ,hr];exact h.yl e x hx
   ·rw[hz,hφ,hr];exact h.zl o x hx y m hy' hm
   ·rw[hφ];exact h.held u hu
  |giveQ e0 g0 hg hp hdst hφ hh hr hl hy hz=>
   have hlk:LkV.que e0=outO g g.outs.length v t.port:=h.G.dst v t hv _ _ hdst
   have hrm:0<V.rm v t.port:=by
    obtain⟨r,hr⟩:=get_of_lt (l:=t.gift) (i:=t.port) (by rw[hgl hg];exact hp)
    obtain⟨m,hm⟩:=get_of_lt hp
    have:=((tsh.g1 hg t.port r m hr hm).2.1 rfl).1
    rw[rm_at hv];unfold TkV.rm;rw[hg,hr];exact this
   obtain⟨x0,hx0,f0,p0⟩:=out_que hc hlk.symm;have kk:∀(e:Nat) (x:GEdg),g.edges[e]?=some x→(e=e0↔x.f.toNat=v∧x.fp.toNat=t.port):=fun e x hx=>by
    constructor
    ·rintro rfl;obtain rfl:=Option.some.inj (hx.symm.trans hx0);exact⟨f0,p0⟩
    ·rintro⟨e1,e2⟩;have h1:=out_at hc hx;rw[e1,e2,←hlk]at h1;injection h1 with h1;exact h1.symm
   refine⟨G',fun e x hx=>?_,fun u p m x hx hm=>?_,fun e x hx=>?_,fun e he=>?_,fun o x hx y m hy' hm=>?_,fun o ho=>(hz o).trans (h.zo o ho),fun u hu=>?_⟩
   ·have E:=h.eq e x hx;rw[hl,hφ,hφ,hh,hr];by_cases he:e=e0
    ·obtain⟨e1,e2⟩:=(kk e x hx).1 he;rw[if_pos he,if_pos ⟨e1,e2⟩];rw[e1,e2]at E⊢;omega
    ·rw[if_neg he,if_neg fun hc=>he ((kk e x hx).2 hc)]
     exact E
   ·have C:=h.cnt u p m x hx hm;rw[hφ,hr];by_cases hu:u=v∧p=t.port
    ·rw[if_pos hu];obtain⟨rfl,rfl⟩:=hu;omega
    ·rw[if_neg hu];omega
   ·have h1:=h.yl e x hx;rw[hy,hφ,hr];by_cases he:e=e0
    ·obtain⟨e1,e2⟩:=(kk e x hx).1 he;rw[if_pos he,if_pos ⟨e1,e2⟩];rw[e1,e2]at h1⊢;omega
    ·rw[if_neg he,if_neg fun hc=>he ((kk e x hx).2 hc)]
     exact h1
   ·rw[hy,if_neg]
    ·exact h.yi e he
    ·rintro rfl
     have:=get_lt hx0
     omega
   ·have h1:=h.zl o x hx y m hy' hm;rw[hz,hφ,hr];split<;>omega
   ·rw[hφ];exact h.held u hu
  |giveT o0 g0 hg hp hdst hφ hh hr hl hy hz=>
   have hlk:LkV.tape o0=outO g g.outs.length v t.port:=h.G.dst v t hv _ _ hdst
   have hrm:0<V.rm v t.port:=by
    obtain⟨r,hr⟩:=get_of_lt (l:=t.gift) (i:=t.port) (by rw[hgl hg];exact hp)
    obtain⟨m,hm⟩:=get_of_lt hp
    have:=((tsh.g1 hg t.port r m hr hm).2.1 rfl).1
    rw[rm_at hv];unfold TkV.rm;rw[hg,hr];exact this
   obtain⟨x0,hx0,f0,p0⟩:=out_tape hc hlk.symm;have kk:∀(e:Nat) (x:GEdg),g.edges[e]?=some x→¬(x.f.toNat=v∧x.fp.toNat=t.port):=fun e x hx ⟨e1,e2⟩=>by
    have h1:=out_at hc hx;rw[e1,e2,←hlk]at h1;cases h1
   refine⟨G',fun e x hx=>?_,fun u p m x hx hm=>?_,fun e x hx=>?_,fun e he=>Nat.le_trans (Nat.le_of_eq (hy e)) (h.yi e he),fun o x hx y m hy' hm=>?_,fun o ho=>?_,fun u hu=>?_⟩
   ·rw[hl,hφ,hφ,hh,hr,if_neg (kk e x hx)];exact h.eq e x hx
   ·have C:=h.cnt u p m x hx hm;rw[hφ,hr];by_cases hu:u=v∧p=t.port
    ·rw[if_pos hu];obtain⟨rfl,rfl⟩:=hu;omega
    ·rw[if_neg hu];omega
   ·rw[hy,hφ,hr,if_neg (kk e x hx)];exact h.yl e x hx
   ·have h1:=h.zl o x hx y m hy' hm;rw[hz,hφ,hr];by_cases ho:o=o0
    ·subst ho;obtain rfl:=Option.some.inj (hx.symm.trans hx0);rw[if_pos rfl,if_pos ⟨f0,p0⟩];rw[f0,p0]at h1⊢;omega
    ·rw[if_neg ho];split<;>omega
   ·rw[hz,if_neg]
    ·exact h.zo o ho
    ·rintro rfl
     have:=get_lt hx0
     omega
   ·rw[hφ];exact h.held u hu
theorem lawJ_rig{g:GraV}{L:Nat}{F:Nat→Int}{vs:List Nat}(hc:checkG g=0)(hV:HeldV g.acts.length (garcs g) F vs)(hL:L<17592186044416){M:Nat}(hM:M≤17592186046464):RigJ (LawJ g L F vs) M:=
 ⟨fun N V h hN=>h.room hc hL (by omega),fun N V V' i b h _ hsh hs hst=>h.step hc hV hsh hs hst,fun N V h=>h.more⟩
end Go.Proofs.YtpmlljbebdidgaaGreatDoor
