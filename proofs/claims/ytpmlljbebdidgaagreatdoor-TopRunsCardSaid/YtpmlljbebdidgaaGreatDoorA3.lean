/- Lemmas and walks for the claim: Db, Kp, Or, Or2, Ka. -/
import Derived.Test.YtpmlljbebdidgaaGreatDoorA0
import Derived.Test.YtpmlljbebdidgaaGreatDoorA2
import Derived.Lib.MinMax
import Derived.Lib.Hide
import Derived.Test.YtpmlljbebdidgaaGreatDoorA1
import Derived.RegionTactic
import Derived.WalkLawsBesides
set_option linter.unusedSimpArgs false
set_option maxRecDepth 100000
set_option maxHeartbeats 400000
namespace Go.Proofs.YtpmlljbebdidgaaGreatDoor
open Go.RowKit
def QV.free(q:QV):Int:=max 0 (q.cap-(q.len:Nat))
theorem QuM.len_wide{w:World}{q:QV}(h:QuM w q):q.len*8≤140737488355328:=by
 have h1:=h.wide;have h2:=h.le;unfold QV.len;omega
theorem Only.grown{X:Nat→Prop}{w w1 w2:World}{row:Option Nat}(ho:Only X w w1)(hg:w1.grownBy w2 row)(hX:∀k,k<w.heap.size→row=some k→X k):Only X w w2:=
 ⟨hg.os.trans ho.os,hg.tape.trans ho.tape,hg.output.trans ho.output,zy ho.size hg.size,fun k hk hx=>by
  have:=ho.size
  rw[hg.block k (by omega) fun he=>hx (hX k hk he.symm)]
  exact ho.block k hk hx⟩
theorem Only.setCell{X:Nat→Prop}{w w1:World}(ho:Only X w w1)(p:Addr)(u:Value)(hX:p.block<w.heap.size→X p.block):Only X w (w1.setCell p u):=by
 refine⟨ho.os,ho.tape,ho.output,zy ho.size (by simp),fun k hk hx=>?_⟩
 rw[zaa w1 p u k fun he=>hx (by subst he;exact hX hk)]
 exact ho.block k hk hx
theorem Only.of_below{X:Nat→Prop}{w w':World}(h:Below w.heap.size w w'):Only X w w':=⟨h.os,h.tape,h.output,h.size,fun k hk _=>h.block k hk⟩
theorem zhO(q:QV)(w:World)(h:QuM w q):Calls Tryz.prog 96 #[.pointer (some ⟨q.g,0,none⟩)] w fun e w'=>e= .returned (.int .i64 q.free)∧Drawn w w':=by
 obtain⟨l,hl⟩:∃l,q.len=l:=⟨_,rfl⟩;obtain⟨cap,hcap⟩:∃c,q.cap=c:=⟨_,rfl⟩;obtain⟨g,hg⟩:∃g,q.g=g:=⟨_,rfl⟩;have hf:q.free=max 0 (cap-(l:Nat)):=by unfold QV.free;rw[hl,hcap]
 have hw:=h.len_wide;have hc:=h.cap0;have kb:=h.kb;have HL:=Lh (fun(W':World) (hb:Drawn w W')=>zgN q W' (h.drawn hb))
 rw[hcap]at hc;rw[hl]at hw;rw[hg,hcap]at kb;rw[hg,hl]at HL;rw[hf,hg];have c0:=kb.cellL 0 rfl;have e2:IntKind.i64.wrap (cap-(l:Int))=cap-(l:Int):=by rw[IntKind.wrap_i64];omega
 clear kb hl hg hcap hf h
 go_enter Tryz.func96, Tryz.ntmps96
 go_wp2_with fail
 go_cut [2] (fun s2 wx=>s2= .int .i64 (max 0 (cap-(l:Int)))∧Drawn w wx)
 case first=>
  go_region_held3 (fun w'=>w'.cell? ⟨g,0,none⟩=some (.int .i64 cap)) (go_keep)
   (first|(go_at_call 101;refine(HL.out _ ((Drawn.refl w).drewN 1)).mono ?_;rintro e' w4 ⟨rfl,d4⟩;have q0:w4.cell? ⟨g,0,none⟩=some (.int .i64 cap):=(d4.cell _).trans c0))
  go_wp2
  go_meet;exact⟨rfl,((Drawn.refl w).drewN 1).trans d4⟩
 case rest=>
  obtain⟨rfl,d⟩:=hcut
  go_wp2_with fail
  go_ret;exact⟨rfl,d⟩
theorem zm8(q:QV)(x:Int)(w:World)(h:QuM w q)(hx:fits x)(hr:0<q.free)(hw:(q.ys.length+1)*8≤140737488355328):
  Calls Tryz.prog 84 #[.pointer (some ⟨q.g,0,none⟩), .int .i64 x] w fun e w'=>∃lv,e= .returned (.bool true)∧QuM w' {q with lv:=lv,ys:=q.ys++[x]}∧Only q.own w w'∧∀b,lv.ownBlock=some b→q.lv.ownBlock=some b∨w.heap.size≤b:=by
 obtain⟨i,hi,hz0,hz1,hz2⟩:=info_parts zas;obtain⟨A,c,hlv,_⟩:=zH h.row;obtain⟨n,hn⟩:∃n,q.ys.length=n:=⟨_,rfl⟩;obtain⟨g,hg⟩:∃g,q.g=g:=⟨_,rfl⟩;obtain⟨cap,hcap⟩:∃c,q.cap=c:=⟨_,rfl⟩;obtain⟨k,hk⟩:∃c,q.k=c:=⟨_,rfl⟩;have HR:=Lh (zhO q w h);have hgb:=h.kb.lt;have HQ:=Lh h;have hfr:(q.free==0)=false:=by simp;omega
 obtain⟨fr,hfe⟩:∃f,q.free=f:=⟨_,rfl⟩;rw[hfe]at HR hfr;rw[hg]at HR hgb⊢;rw[hn]at hw;clear hr hfe h
 go_enter Tryz.func84, Tryz.ntmps84
 go_wp2_with fail;refine HR.out.mono ?_
 rintro e w2 ⟨rfl,d2⟩;have HS2:=Lh d2.size;have Q2:=HQ.out.drawn d2;have ba:=bA_ w2 (.cells #[.int .i64 x] 3);have Q3:=Q2.below ba;have k2:=Q2.kb;have kb:=Q3.kb;have ro:=Q3.row;have hlv2:q.lv= .slice A n c:=by rw[hlv,hn]
 rw[hlv2,hn]at ro;rw[hg,hcap,hlv2,hk]at kb k2;have r3:=zal w2 _ rfl 3 [Value.int .i64 x];have c1:=k2.cellL 1 rfl;have hz3:(w2.alloc (.cells #[.int .i64 x] 3)).heap.size=w2.heap.size+1:=by simp
 have hcl:(cellsI q.ys).length=n:=by rw[cellsI_length,hn]
 clear Q2 Q3 k2
 go_wp2_with (at_builtin;refine zR _ rfl _ _ 36 rfl 0 3 i (.int .i64 0) 1 8 Tryz.underlying36 hi hz0 hz1 hz2 rfl (by decide) _ n (cellsI q.ys) rfl ro _ (some ⟨w2.heap.size,0,none⟩) 1 1 (cellsI [x]) rfl rfl r3 (zaA _) (by unfold maxLen;omega) (by omega) (by simp) ?_)
 intro v' w4 o4 g4 h4;obtain⟨A',c',rfl,_⟩:=zH o4;have k4:=kb.grown g4 (own_ne ro kb (by decide))
 have f4:=k4.frozen 1;have s4:=k4.cellL 1 rfl;have k5:=k4.set 1 (.slice A' (n+1) c');simp only[zc,ze,zd]at k5;have o5:=zap o4 k4 (by decide) 1 (.slice A' (n+1) c')
 have hO:Only q.own w (w4.setCell ⟨g,1,none⟩ (.slice A' (n+1) c')):=by
  refine((Only.grown (Only.of_below ?_) g4 fun k hk he=>?_).setCell ⟨g,1,none⟩ (.slice A' (n+1) c') fun _=> .inl hg.symm)
  ·exact(d2.below _).trans (ba.mono (by have:=HS2.out;omega))
  ·exact .inr (hlv2▸he)
 clear c1 r3 ba
 go_wp2_with fail
 go_ret;refine⟨.slice A' (n+1) c',rfl,⟨?_,?_,?_,?_,?_,?_⟩,hO,?_⟩
 ·show Blk _ g _ #[.int .i64 q.cap,_, .int .i64 q.k]
  rw[hcap,hk];exact k5
 ·have e:(q.ys++[x]).length=n+1:=by rw[zx,hn];rfl
  have e2:cellsI (q.ys++[x])=cellsI q.ys++cellsI [x]:=by simp[cellsI]
  show World.ownsRow _ _ _ _ _ (q.ys++[x]).length (cellsI (q.ys++[x]))
  rw[e,e2];exact o5
 ·have:=HQ.out.le
  show q.k≤(q.ys++[x]).length
  rw[zx];omega
 ·intro y hy;rcases zaZ.1 hy with hy|hy
  ·exact HQ.out.fit y hy
  ·simp at hy;subst hy;exact hx
 ·exact HQ.out.cap0
 ·show(q.ys++[x]).length*8≤_
  rw[zx,hn];exact hw
 ·intro b hb;rcases h4 with h4|h4
  ·exact .inl (by rw[hlv2,←h4];exact hb)
  ·have hb':=h4.symm.trans hb;injection hb' with hb';exact .inr (by have:=HS2.out;omega)
end Go.Proofs.YtpmlljbebdidgaaGreatDoor
namespace Go.Proofs.YtpmlljbebdidgaaGreatDoor
def zdH(n d:Int):Bool:=decide (0<d∧Nat.gcd n.natAbs d.natAbs=1)
theorem zbV{n d:Int}:zdH n d=true↔0<d∧Nat.gcd n.natAbs d.natAbs=1:=by unfold zdH;exact decide_eq_true_iff
def za8(b:Bool)(k:Nat):Int:=if b=true then-(k:Int)else k
def newN(n d:Int):Int:=za8 (decide (n<0) !=decide (d<0)) (n.natAbs/Nat.gcd n.natAbs d.natAbs)
def newD(n d:Int):Int:=((d.natAbs/Nat.gcd n.natAbs d.natAbs:Nat):Int)
theorem zkr{n d:Int}(h:d≠0):0<Nat.gcd n.natAbs d.natAbs:=Nat.gcd_pos_of_pos_right _ (by omega)
theorem zfU{n d:Int}(h:d≠0):0<newD n d:=by
 unfold newD
 have:=zcB (Nat.gcd_le_right n.natAbs (show 0<d.natAbs by omega)) (zkr (n:=n) h)
 omega
theorem zji(n d:Int):(newN n d).natAbs=n.natAbs/Nat.gcd n.natAbs d.natAbs:=by
 unfold newN za8;generalize n.natAbs/Nat.gcd n.natAbs d.natAbs=k;split<;>omega
theorem zjj(n d:Int):(newD n d).natAbs=d.natAbs/Nat.gcd n.natAbs d.natAbs:=by unfold newD;generalize d.natAbs/Nat.gcd n.natAbs d.natAbs=k;omega
theorem zgm{n d:Int}(h:d≠0):zdH (newN n d) (newD n d)=true:=by
 refine zbV.2 ⟨zfU h,?_⟩;rw[zji,zjj];exact Nat.gcd_div_gcd_div_gcd_of_pos_right (by omega)
theorem zgn{n d:Int}(h:d≠0):newN n d*d=n*newD n d:=by
 obtain⟨g,hg⟩:∃g,Nat.gcd n.natAbs d.natAbs=g:=⟨_,rfl⟩;have hg0:0<g:=hg▸zkr h;obtain⟨a,ha⟩:g∣n.natAbs:=hg▸zbI _ _;obtain⟨b,hb⟩:g∣d.natAbs:=hg▸zbC _ _;have hN:newN n d=za8 (decide (n<0) !=decide (d<0)) a:=by unfold newN;rw[hg,ha,zci _ hg0]
 have hD:newD n d=b:=by unfold newD;rw[hg,hb,zci _ hg0]
 have hn:n=za8 (decide (n<0)) (g*a):=by unfold za8;rw[←ha];split<;>rename_i h1<;>simp at h1<;>omega
 have hd:d=za8 (decide (d<0)) (g*b):=by unfold za8;rw[←hb];split<;>rename_i h1<;>simp at h1<;>omega
 rw[hN,hD];generalize decide (n<0)=s at hn⊢;generalize decide (d<0)=t at hd⊢;subst hn hd;have e:(a:Int)*((g:Int)*b)=(g:Int)*a*b:=by rw[←zam,zce (a:Int) g]
 cases s<;>cases t<;>simp[za8,zax,Int.neg_mul,Int.mul_neg,e]
theorem zld{a b c e:Int}(h:zdH a b=true)(h':zdH c e=true)(hx:a*e=c*b):a=c∧b=e:=by
 obtain⟨hb,hg⟩:=zbV.1 h;obtain⟨he,hg'⟩:=zbV.1 h';have hn:a.natAbs*e.natAbs=c.natAbs*b.natAbs:=by rw[←Int.natAbs_mul,←Int.natAbs_mul,hx]
 have d1:b.natAbs∣e.natAbs:=by
  refine(Nat.Coprime.symm hg).dvd_of_dvd_mul_left ?_;exact⟨c.natAbs,by rw[hn,zaK]⟩
 have d2:e.natAbs∣b.natAbs:=by
  refine(Nat.Coprime.symm hg').dvd_of_dvd_mul_left ?_;exact⟨a.natAbs,by rw[←hn,zaK]⟩
 have hbe:b=e:=by have:=Nat.dvd_antisymm d1 d2;omega
 subst hbe;exact⟨zbN (by omega) hx,rfl⟩
end Go.Proofs.YtpmlljbebdidgaaGreatDoor
namespace Go.Proofs.YtpmlljbebdidgaaGreatDoor
open Go.RowKit
def zg(V:Nat→Value)(d:Nat)(v:Value):Nat→Value:=fun j=>if j=d then v else V j
def zeO(L:Nat→Bool)(i:Nat):Nat→Bool:=fun j=>if j=i then true else L j
def zeh(ops:Array Oper):Bool:=(List.range ops.size).all fun i=>match ops[i]? with
 |some o=>o.after.all fun e=>!Region.binds .any e||decide (e.on<i)
 |none=>true
theorem zlg{ops:Array Oper}{listed:Array Bool}(hs:listed.size=ops.size)(hd:zeh ops=true)(hr:Region.ready .any ops listed=[]):∀i,i<ops.size→listed.getD i false=true:=by
 intro i
 induction i using Nat.strongRecOn with
 |ind i ih=>
  intro hi;have hl:i<listed.size:=by omega
  rcases hb:listed.getD i true with _|_
  ·exfalso
   have hm:i∈Region.ready .any ops listed:=by
    rw[mem_ready];refine⟨hb,ops[i],zbv hi,fun e he hbe=>?_⟩
    have h1:=zU.1 hd i (zM.2 hi);rw[zbv hi]at h1;have h3:=Array.all_eq_true_iff_forall_mem.1 h1 e he;rw[hbe,Bool.not_true,Bool.false_or]at h3;have h2:=of_decide_eq_true h3;exact ih e.on h2 (by omega)
   rw[hr]at hm;cases hm
  ·simpa [hl]using hb
theorem zmD{P:Program}{ops:Array Oper}{Q:Exit→Act→World→Prop}(J:Array Bool→Act→World→Prop)(hd:zeh ops=true)
  (hstep:∀i listed a w,listed.size=ops.size→i∈Region.ready .any ops listed→J listed a w→wpOp P ops Q i (J (listed.setIfInBounds i true)) a w)
  (hend:∀listed a w,(∀i,i<ops.size→listed.getD i false=true)→J listed a w→Q .normal a w):
  ∀fuel listed a w,listed.size=ops.size→listed.toList.count false≤fuel→J listed a w→wpAny P .any ops Q fuel listed a w:=by
 intro fuel
 induction fuel with
 |zero=>
  intro listed a w hs hc hJ;have hall:∀i,i<ops.size→listed.getD i false=true:=by
   intro i hi;have hl:i<listed.size:=by omega
   rcases hb:listed.getD i false with _|_
   ·exfalso
    have h0:listed.toList.count false=0:=by omega
    rw[List.count_eq_zero]at h0;refine h0 ?_;have:listed[i]=false:=by simpa [hl]using hb
    rw[←this];simp
   ·rfl
  refine⟨?_,hend listed a w hall hJ⟩;rcases hr:Region.ready .any ops listed with _|⟨i,rs⟩
  ·rfl
  ·exfalso
   have hm:i∈Region.ready .any ops listed:=by rw[hr];exact za0
   obtain⟨h1,o,ho,_⟩:=mem_ready.1 hm;have hi:=(zQ.1 ho).1;have h2:=hall i hi;have hl:i<listed.size:=by omega
   simp[hl]at h1 h2
   rw[h2]at h1;cases h1
 |succ fuel ih=>
  intro listed a w hs hc hJ;refine⟨fun hr=>hend listed a w (zlg hs hd hr) hJ,fun i hm=>wpOp_mono ?_ (hstep i listed a w hs hm hJ)⟩
  intro a' w' hJ';refine ih _ a' w' (by simpa using hs) ?_ hJ'
  obtain⟨h1,o,ho,_⟩:=mem_ready.1 hm;have hi:=(zQ.1 ho).1;have hl:i<listed.size:=by omega
  have hg:listed[i]=false:=by simpa [hl]using h1
  have hpos:0<listed.toList.count false:=List.count_pos_iff.2 (by rw[←hg];simp)
  rw[Array.toList_setIfInBounds,List.count_set (by simpa using hl)]
  have:listed.toList[i]'(by simpa using hl)=false:=by simpa using hg
  rw[this];have e2:(true==false)=false:=rfl;simp only[beq_self_eq_true,if_true,e2,zdl,if_false];omega
def reach(ops:Array Oper):Nat→Nat→Nat→Bool
 |0,_,_=>false
 |f+1,j,i=>match ops[j]? with
  |some o=>o.after.any fun e=>Region.binds .any e&&(e.on==i||reach ops f e.on i)
  |none=>false
theorem zlh{ops:Array Oper}{L:Nat→Bool}(hc:∀j o,ops[j]?=some o→L j=true→∀e∈o.after,Region.binds .any e=true→L e.on=true):
  ∀f j i,L j=true→reach ops f j i=true→L i=true:=by
 intro f
 induction f with
 |zero=>intro j i _ h;cases h
 |succ f ih=>
  intro j i hj h;simp only[reach]at h;cases ho:ops[j]? with
  |none=>rw[ho]at h;cases h
  |some o=>
   rw[ho]at h;obtain⟨e,he,h2⟩:=Array.any_eq_true'.1 h;simp only[zag,zc9,beq_iff_eq]at h2;have h3:=hc j o ho hj e he h2.1;rcases h2.2 with h4|h4
   ·rw[←h4];exact h3
   ·exact ih _ _ h3 h4
theorem zfE{P:Program}{id:Nat}{ops:Array Oper}{Q:Exit→Act→World→Prop}{a:Act}{w:World}(A:(Nat→Value)→Act)(V0:Nat→Value)(I:(Nat→Bool)→(Nat→Value)→World→Prop)
  (hm:P.follows .mixedOrders=true) (hd:zeh ops=true) (h0:a=A V0) (hI:I (fun _=>false) V0 w.drew)
  (hstep:∀i o,ops[i]?=some o→∀L V w,L i=false→(∀e∈o.after,Region.binds .any e=true→L e.on=true)→(∀j,reach ops ops.size j i=true→L j=false)→I L V w→
   ∀K:Act→World→Prop,(∀V' a' w',a'=A V'→I (zeO L i) V' w'→K a' w')→if Region.wanted o (yielded ops (A V).tmps)=true then Oper.wp P o (A V) w K Q else K ((A V).put o.dst undef) w)
  (hend:∀L V w,(∀i,i<ops.size→L i=true)→I L V w→Q .normal (A V) w):(Code.region id ops true).wp P Q a w:=by
 refine wp_region_any hm ?_;refine zmD (fun listed a w=>∃L V,(∀i,i<ops.size→listed.getD i false=L i)∧a=A V∧(∀j o,ops[j]?=some o→L j=true→∀e∈o.after,Region.binds .any e=true→L e.on=true)∧I L V w) hd ?_ ?_ ops.size _ _ _ (by simp) (by simp) ⟨fun _=>false,V0,fun i hi=>by simp[hi],h0,fun _ _ _ h=>(by cases h),hI⟩
 ·rintro i listed a w hs hm ⟨L,V,hL,rfl,hc,hI⟩;obtain⟨h1,o,ho,h2⟩:=mem_ready.1 hm;have hi:=(zQ.1 ho).1;have hl:i<listed.size:=by omega
  have hLi:L i=false:=by rw[←hL i hi];simpa [hl]using h1
  have hdep:∀e∈o.after,Region.binds .any e=true→L e.on=true:=by
   intro e he hb;have h3:=zU.1 hd i (zM.2 hi);rw[ho]at h3;have h5:=Array.all_eq_true_iff_forall_mem.1 h3 e he;rw[hb,Bool.not_true,Bool.false_or]at h5;have h4:=of_decide_eq_true h5;rw[←hL e.on (by omega)];exact h2 e he hb
  refine wpOp_step ho fun K hK=>?_
  refine hstep i o ho L V w hLi hdep ?_ hI K ?_
  ·intro j hj;cases hLj:L j with
   |false=>rfl
   |true=>rw[zlh hc _ _ _ hLj hj]at hLi;cases hLi
  ·intro V' a' w' ha hI';refine hK a' w' ⟨zeO L i,V',fun j hj=>?_,ha,fun j oj hoj hLj e he hb=>?_,hI'⟩
   ·unfold zeO;by_cases hji:j=i
    ·subst hji;simp[hl]
    ·have hji':i≠j:=fun h=>hji h.symm
     rw[if_neg hji,getD_set_ne false hji',hL j hj]
   ·unfold zeO at hLj⊢;split
    ·rfl
    ·by_cases hji:j=i
     ·subst hji;rw[ho]at hoj;cases hoj;exact hdep e he hb
     ·rw[if_neg hji]at hLj;exact hc j oj hoj hLj e he hb
 ·rintro listed a w hall ⟨L,V,hL,rfl,-,hI⟩;exact hend L V w (fun i hi=>by rw[←hL i hi];exact hall i hi) hI
theorem zf4{P:Program}{id:Nat}{ops:Array Oper}{Q:Exit→Act→World→Prop}{a:Act}{w:World}(A:(Nat→Value)→Act)(V0:Nat→Value)(I:(Nat→Bool)→(Nat→Value)→World→Prop)
  (hm:P.follows .mixedOrders=true) (hd:zeh ops=true) (h0:a=A V0) (hI:I (fun _=>false) V0 w.drew)
  (hstep:∀i o,ops[i]?=some o→∀L V w,L i=false→(∀e∈o.after,Region.binds .any e=true→L e.on=true)→I L V w→
   ∀K:Act→World→Prop,(∀V' a' w',a'=A V'→I (zeO L i) V' w'→K a' w')→if Region.wanted o (yielded ops (A V).tmps)=true then Oper.wp P o (A V) w K Q else K ((A V).put o.dst undef) w)
  (hend:∀L V w,(∀i,i<ops.size→L i=true)→I L V w→Q .normal (A V) w):(Code.region id ops true).wp P Q a w:=
 zfE A V0 I hm hd h0 hI (fun i o ho L V w hi hL _ h=>hstep i o ho L V w hi hL h) hend
def putAll(a:Act)(D:List Nat)(V:Nat→Value):Act:={a with tmps:=D.foldl (fun t d=>t.setIfInBounds d (V d)) a.tmps}
theorem zgI(a:Act)(D:List Nat):putAll a D (fun d=>a.tmps.getD d undef)=a:=by
 have:∀(D:List Nat) (t:Array Value),t=a.tmps→D.foldl (fun t d=>t.setIfInBounds d (a.tmps.getD d undef)) t=a.tmps:=by
  intro D
  induction D with
  |nil=>intro t ht;exact ht
  |cons d D ih=>
   intro t ht;refine ih _ ?_;subst ht;apply Array.ext
   ·simp
   ·intro j h1 h2;rw[Array.getElem_setIfInBounds];split
    ·rename_i h;subst h;simp[h2]
    ·rfl
 unfold putAll;rw[this D _ rfl]
theorem zeF{P:Program}{id:Nat}{ops:Array Oper}{Q:Exit→Act→World→Prop}{a:Act}{w:World}(D:List Nat)(I:(Nat→Bool)→(Nat→Value)→World→Prop)
  (hm:P.follows .mixedOrders=true) (hd:zeh ops=true) (hI:I (fun _=>false) (fun d=>a.tmps.getD d undef) w.drew)
  (hstep:∀i o,ops[i]?=some o→∀L V w,L i=false→(∀e∈o.after,Region.binds .any e=true→L e.on=true)→I L V w→
   ∀K:Act→World→Prop,(∀V' a' w',a'=putAll a D V'→I (zeO L i) V' w'→K a' w')→if Region.wanted o (yielded ops (putAll a D V).tmps)=true then Oper.wp P o (putAll a D V) w K Q else K ((putAll a D V).put o.dst undef) w)
  (hend:∀L V w,(∀i,i<ops.size→L i=true)→I L V w→Q .normal (putAll a D V) w):(Code.region id ops true).wp P Q a w:=
 zf4 (putAll a D) _ I hm hd (zgI a D).symm hI hstep hend
theorem zei{P:Program}{id:Nat}{ops:Array Oper}{Q:Exit→Act→World→Prop}{a:Act}{w:World}(D:List Nat)(I:(Nat→Bool)→(Nat→Value)→World→Prop)
  (hm:P.follows .mixedOrders=true) (hd:zeh ops=true) (hI:I (fun _=>false) (fun d=>a.tmps.getD d undef) w.drew)
  (hstep:∀i o,ops[i]?=some o→∀L V w,L i=false→(∀e∈o.after,Region.binds .any e=true→L e.on=true)→(∀j,reach ops ops.size j i=true→L j=false)→I L V w→
   ∀K:Act→World→Prop,(∀V' a' w',a'=putAll a D V'→I (zeO L i) V' w'→K a' w')→if Region.wanted o (yielded ops (putAll a D V).tmps)=true then Oper.wp P o (putAll a D V) w K Q else K ((putAll a D V).put o.dst undef) w)
  (hend:∀L V w,(∀i,i<ops.size→L i=true)→I L V w→Q .normal (putAll a D V) w):(Code.region id ops true).wp P Q a w:=
 zfE (putAll a D) _ I hm hd (zgI a D).symm hI hstep hend
theorem zaQ{P:Program}{ops:Array Oper}{o:Oper}{a:Act}{w:World}{K:Act→World→Prop}{Q:Exit→Act→World→Prop}(hgd:o.guard=none)(s x:Operand)(t:TypeId)
  (ho:o.op= .call {callee:= .builtin .append,args:=#[s,x],argTypes:=#[t,t]})
  (base:Nat) (e:TypeId) (i:TypeInfo) (z:Value) (size bytes:Nat) (ht:P.underlying t=some (.slice e)) (hi:P.info? e=some i) (hz:i.zero=some z)
  (hsize:i.size=size) (hby:i.bytes=bytes) (hzs:z.cells.size=size) (hsz:0<size)
  (v:Value) (n:Nat) (xs:List Value) (hs:a.eval s=v) (hown:w.ownsRow base e size v n xs) (B:Nat) (A:Option Addr) (m c:Nat) (news:List Value) (hx:a.eval x= .slice A m c) (hl:news.length=m*size) (hr:Rd w B A news)
  (h1:∀u∈news,u.oneCell'=true) (h63:n+m≤maxLen) (hbytes:(n+m)*bytes≤140737488355328) (hbase:base≤w.heap.size)
  (h:∀v' w',w'.ownsRow base e size v' (n+m) (xs++news)→w.grownBy w' v.ownBlock→(v'.ownBlock=v.ownBlock∨v'.ownBlock=some w.heap.size)→K (a.put o.dst v') w'):
  if Region.wanted o (yielded ops a.tmps)=true then Oper.wp P o a w K Q else K (a.put o.dst undef) w:=by
 rw[if_pos (by simp[Region.wanted,hgd])]
 obtain⟨v',w',hrun,h2,h3,h4⟩:=zf2 (P:=P) w base t o.type e i z size bytes ht hi hz hsize hby hzs hsz v n xs hown B A m c news hl hr h1 h63 hbytes hbase;unfold Oper.wp execOp;simp only[ho,resolve,invoke,builtin,Sem.run_bind,Sem.run_pure,Result.andThen_ok,List.map_toArray,zcn,zdk,hs,hx,hrun];exact h v' w' h2 h3 h4
def waitsL(ops:Array Oper)(i:Nat):Nat→List Bool
 |0=>[]
 |f+1=>
  let acc:=waitsL ops i f
  acc++[match ops[f]? with
   |some o=>o.after.any fun e=>Region.binds .any e&&(e.on==i||acc.getD e.on false)
   |none=>false]
def waits(ops:Array Oper)(j i:Nat):Bool:=(waitsL ops i ops.size).getD j false
theorem zeG(ops:Array Oper)(i:Nat):∀f,(waitsL ops i f).length=f:=by
 intro f
 induction f with
 |zero=>rfl
 |succ f ih=>simp only[waitsL,zx,ih,zaE]
theorem zli{ops:Array Oper}{L:Nat→Bool}(hc:∀j o,ops[j]?=some o→L j=true→∀e∈o.after,Region.binds .any e=true→L e.on=true)(i:Nat):
  ∀f j,(waitsL ops i f).getD j false=true→L j=true→L i=true:=by
 intro f
 induction f with
 |zero=>intro j h;simp[waitsL]at h
 |succ f ih=>
  intro j h hj;simp only[waitsL]at h;rcases zcf j f with hjf|hjf
  ·refine ih j ?_ hj;rw[zz,zar (by rw[zeG];exact hjf),←zz]at h
   exact h
  ·rw[zz,zO (by rw[zeG];exact hjf),zeG]at h
   by_cases hjf2:j=f
   ·subst hjf2;rw[zbp]at h;simp only[zI,zbs]at h;cases ho:ops[j]? with
    |none=>rw[ho]at h;cases h
    |some o=>
     rw[ho]at h;obtain⟨e,he,h2⟩:=Array.any_eq_true'.1 h;simp only[zag,zc9,beq_iff_eq]at h2;have h3:=hc j o ho hj e he h2.1;rcases h2.2 with h4|h4
     ·rw[←h4];exact h3
     ·exact ih _ h4 h3
   ·rw[zD (by simp;omega)]at h
    cases h
theorem zN{P:Program}{id:Nat}{ops:Array Oper}{Q:Exit→Act→World→Prop}{a:Act}{w:World}(D:List Nat)(I:(Nat→Bool)→(Nat→Value)→World→Prop)
  (hm:P.follows .mixedOrders=true) (hd:zeh ops=true) (hI:I (fun _=>false) (fun d=>a.tmps.getD d undef) w.drew)
  (hstep:∀i o,ops[i]?=some o→∀L V w,L i=false→(∀e∈o.after,Region.binds .any e=true→L e.on=true)→(∀j,waits ops j i=true→L j=false)→I L V w→
   ∀K:Act→World→Prop,(∀V' a' w',a'=putAll a D V'→I (zeO L i) V' w'→K a' w')→if Region.wanted o (yielded ops (putAll a D V).tmps)=true then Oper.wp P o (putAll a D V) w K Q else K ((putAll a D V).put o.dst undef) w)
  (hend:∀L V w,(∀i,i<ops.size→L i=true)→I L V w→Q .normal (putAll a D V) w):(Code.region id ops true).wp P Q a w:=by
 refine zei D (fun L V w=>(∀j o,ops[j]?=some o→L j=true→∀e∈o.after,Region.binds .any e=true→L e.on=true)∧I L V w) hm hd ⟨fun _ _ _ h=>(by cases h),hI⟩ ?_ (fun L V w hL h=>hend L V w hL h.2)
 rintro i o ho L V w hi hL-⟨hc,h⟩ K hK;refine hstep i o ho L V w hi hL (fun j hj=>?_) h K fun V' a' w' ha hI'=>hK V' a' w' ha ⟨fun j oj hoj hLj e he hb=>?_,hI'⟩
 ·cases hLj:L j with
  |false=>rfl
  |true=>rw[zli hc i _ j hj hLj]at hi;cases hi
 ·unfold zeO at hLj⊢;split
  ·rfl
  ·by_cases hji:j=i
   ·subst hji;rw[ho]at hoj;cases hoj;exact hL e he hb
   ·rw[if_neg hji]at hLj;exact hc j oj hoj hLj e he hb
def zjd:List PanicEntry:=[{v:= .iface 31 (.int .i64 4),recovered:=false}]
abbrev big:Ending:= .panicked zjd
theorem zcN(a:Int)(w:World)(ha:fits a):
  Calls Tryz.prog 77 #[.int .i64 a] w fun e w'=>e= .returned (.int .u64 (a.natAbs:Int))∧w=w':=by
 unfold fits at ha
 go_enter Tryz.func77, Tryz.ntmps77
 go_wp2
 all_goals go_ret
 all_goals (refine⟨zk1 ?_,rfl⟩)
 ·rw[IntKind.wrap_u64,IntKind.wrap_u64];omega
 ·omega
theorem zfo(x y:Nat)(hx:x<18446744073709551616)(hy:y<18446744073709551616)(w:World):
  Calls Tryz.prog 91 #[.int .u64 x, .int .u64 y] w fun e w'=>e= .returned (.int .u64 (Nat.gcd x y:Nat))∧Drawn w w':=by
 go_enter Tryz.func91, Tryz.ntmps91
 go_wp2
 go_loopw [0,1] (fun s t wr=>∃p q:Nat,s= .int .u64 p∧t= .int .u64 q∧p<18446744073709551616∧q<18446744073709551616∧Drawn w wr∧Hid (Nat.gcd p q=Nat.gcd x y)) (fun _ t _=>(intOf t).toNat)
 case atStart=>exact⟨x,y,rfl,rfl,hx,hy,Drawn.refl w,rfl⟩
 case round=>
  obtain⟨p,q,rfl,rfl,hp,hq,hdw,Hg⟩:=hrel;by_cases h0:q=0
  ·subst h0
   go_wp2
   go_ret;refine⟨zk1 ?_,hdw⟩
   rw[←Hg.out,Nat.gcd_zero_right]
  ·have e3:((q:Int) !=0)=true:=by simp;omega
   have hm:p%q<q:=Nat.mod_lt _ (by omega)
   have hq0:(q:Int)≠0:=by omega
   go_wp2
   go_quiet (fail)
   go_wp2
   go_roundw
   case rel=>exact⟨q,p%q,rfl,by rw[Int.natCast_emod],hq,by omega,hdw.drewN _,by unfold Hid;rw[←Hg.out,Nat.gcd_comm p q,Nat.gcd_rec q p,Nat.gcd_comm]⟩
   case measure=>simp[intOf];omega
def sOk(b:Bool)(n:Nat):Prop:=fits (za8 b n)
theorem zow{n:Nat}:sOk true n↔n≤9223372036854775808:=by unfold sOk za8 fits;simp;omega
theorem zox{n:Nat}:sOk false n↔n≤9223372036854775807:=by unfold sOk za8 fits;simp;omega
theorem zeN(b:Bool)(n:Nat)(w:World)(h:sOk b n):
  Calls Tryz.prog 92 #[.bool b, .int .u64 n] w fun e w'=>e= .returned (.int .i64 (za8 b n))∧w=w':=by
 cases b
 ·have h1:(n:Int)≤9223372036854775807:=by have:=zox.1 h;omega
  have e:za8 false n=n:=rfl
  rw[e];clear h e
  go_enter Tryz.func92, Tryz.ntmps92
  go_wp2
  go_ret;exact⟨rfl,rfl⟩
 ·have h1:(n:Int)≤9223372036854775808:=by have:=zow.1 h;omega
  have e:za8 true n= -(n:Int):=rfl
  rw[e];clear h e
  go_enter Tryz.func92, Tryz.ntmps92
  go_wp2
  go_ret;refine⟨zk1 ?_,rfl⟩
  unfold wrap64;rw[IntKind.wrap_u64];omega
theorem zfd(b:Bool)(n:Nat)(w:World)(h:¬sOk b n):
  Calls Tryz.prog 92 #[.bool b, .int .u64 n] w fun e w'=>e=big∧w=w':=by
 cases b
 ·have h1:(9223372036854775807:Int)<n:=by rw[zox]at h;omega
  clear h
  go_enter Tryz.func92, Tryz.ntmps92
  go_wp2
  exact⟨rfl,rfl,rfl⟩
 ·have h1:(9223372036854775808:Int)<n:=by rw[zow]at h;omega
  clear h
  go_enter Tryz.func92, Tryz.ntmps92
  go_wp2
  exact⟨rfl,rfl,rfl⟩
theorem zh9(a b:Int)(w:World)(ha:fits a)(hb:fits b)(h:fits (a*b)):
  Calls Tryz.prog 80 #[.int .i64 a, .int .i64 b] w fun e w'=>e= .returned (.int .i64 (a*b))∧w=w':=by
 have hm:∀w,Calls Tryz.prog 94 #[.int .i64 a, .int .i64 b] w fun e w'=>e= .returned (.tuple #[.int .i64 (a*b), .bool true])∧w=w':=fun w=>by
  have:=zfB a b w ha hb
  rwa [←val_yes h,←b_yes h]at this
 obtain⟨p,hp⟩:∃p,a*b=p:=⟨_,rfl⟩;rw[hp]at hm⊢;clear hp h
 go_enter Tryz.func80, Tryz.ntmps80
 go_wp2_with (go_at_call 94;refine(hm _).mono ?_;rintro e w' ⟨rfl,rfl⟩)
 go_ret;exact⟨rfl,rfl⟩
theorem zje(a b:Int)(w:World)(ha:fits a)(hb:fits b)(h:¬fits (a*b)):
  Calls Tryz.prog 80 #[.int .i64 a, .int .i64 b] w fun e w'=>e=big∧w=w':=by
 have hm:∀w,Calls Tryz.prog 94 #[.int .i64 a, .int .i64 b] w fun e w'=>e= .returned (.tuple #[.int .i64 0, .bool false])∧w=w':=fun w=>by
  have:=zfB a b w ha hb
  rwa [←val_no h,←b_no h]at this
 clear h
 go_enter Tryz.func80, Tryz.ntmps80
 go_wp2_with (go_at_call 94;refine(hm _).mono ?_;rintro e w' ⟨rfl,rfl⟩)
 exact⟨rfl,rfl,rfl⟩
noncomputable def lowE (b:Bool) (q r:Nat):Ending:= @ite _ (sOk b q∧sOk false r) (Classical.propDecidable _) (.returned (.agg #[.int .i64 (za8 b q), .int .i64 r])) big
theorem zgW{b:Bool}{q r:Nat}(h:sOk b q)(h':sOk false r):lowE b q r= .returned (.agg #[.int .i64 (za8 b q), .int .i64 r]):=if_pos ⟨h,h'⟩
theorem zfD{b:Bool}{q r:Nat}(h:¬(sOk b q∧sOk false r)):lowE b q r=big:=if_neg h
end Go.Proofs.YtpmlljbebdidgaaGreatDoor
