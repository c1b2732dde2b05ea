/- Lemmas and walks for the claim: Dm, Dn, Do, Dp. -/
import Derived.Test.YtpmlljbebdidgaaGreatDoorA0
import Derived.Test.YtpmlljbebdidgaaGreatDoorA16
set_option linter.unusedSimpArgs false
set_option maxRecDepth 100000
set_option maxHeartbeats 1000000
namespace Go.Proofs.YtpmlljbebdidgaaGreatDoor
open Go.RowKit Go.ChangeShapes
def zfh(n k i:Nat):Nat:=if i<k%n then k/n+1 else k/n
theorem zlJ(n i:Nat):zfh n 0 i=0:=by simp[zfh]
theorem zhP{n k i:Nat}(hn:0<n)(hi:i<n):zfh n (k+1) i=zfh n k i+if i=k%n then 1 else 0:=by
 obtain⟨q,r,hr,hk⟩:∃q r,r<n∧k=n*q+r:=⟨k/n,k%n,Nat.mod_lt _ hn,(Nat.div_add_mod k n).symm⟩;subst hk;unfold zfh;rw[za4,Nat.mul_add_mod,Nat.mul_add_mod,Nat.mul_add_div hn,Nat.mul_add_div hn,zdV hr,Nat.div_eq_of_lt hr];by_cases h:r+1<n
 ·rw[zdV h,Nat.div_eq_of_lt h];split<;>split<;>split<;>omega
 ·obtain rfl:n=r+1:=by omega
  rw[Nat.mod_self,Nat.div_self (by omega)]
  split<;>split<;>split<;>omega
theorem znf{n m i:Nat}(hn:0<n):zfh n (n*m) i=m:=by
 unfold zfh;rw[Nat.mul_mod_right,zci m hn];simp
theorem RowV.own_val(r:RowV):r.val.ownBlock=blkOf r.A:=by
 unfold RowV.val;cases r.A<;>rfl
theorem ziC(b n m:Nat)(T:TypeId)(v0 v2:Value)(Ao:Option Addr)(co:Nat)(w:World)(kb:Blk w b T #[v0, .slice Ao n co,v2])(hn:1≤n∧n≤16)(hm:1≤m∧m≤64)(hnm:n*m≤64)(H:Option Addr)(rows:List RowV)(k ch:Nat)(hI:InM w w.heap.size H rows)(hk:rows.length=k)(r:RowV)(h0:rows[0]?=some r)(hl:r.xs.length=n*m):
  Calls Tryz.prog 139 #[.pointer (some ⟨b,0,none⟩), .slice H k ch] w fun e w'=>∃gv,e= .returned (.tuple #[gv, .bool true])∧∃outs:List RowV,zbu w' w.heap.size gv outs∧outs.map (fun r=>(r.xs.length:Int))=List.replicate n (m:Int)∧Below w.heap.size w w':=by
 obtain⟨ii,hii,hz0,hz1,hz2⟩:=info_parts zas;have hmk:=run_make_row' (P:= Tryz.prog) 27 36 (.slice none 0 0) 24 Tryz.underlying27 zd1 rfl .i64 .i64 n (by omega) (by omega)
 obtain⟨t,ht⟩:∃t,n*m=t:=⟨_,rfl⟩;rw[ht]at hl hnm;have hpos:0<n*m:=zbw (by omega) (by omega)
 obtain⟨b1,o1,b2,o2,x0,rfl,hb1,hb2,-,-,c0,-,hA⟩:=hI.first h0 (by omega)
 have hok:=hI.ok r (zv h0);have hk0:(0:Int)<(k:Int):=by have:=(zu.1 h0).1;omega
 rw[zab,hl]at c0;have k1:=kb.cellL 1 rfl;have ba:=bA_ w (.cells (madeCells #[.slice none 0 0] n) 36);have kr:=Blk.new w _ rfl 36 (madeCells #[.slice none 0 0] n);have hz1':(w.alloc (.cells (madeCells #[.slice none 0 0] n) 36)).heap.size=w.heap.size+1:=by simp
 have HC:=Lh c0;have HR:=Lh hok;have Hl:=Lh hl;have HA:=Lh hA;have Ht:=Lh ht;clear hI h0 kb c0 hok hl hA ht hpos
 go_enter Tryz.func139, Tryz.ntmps139
 go_upto_region 2 with fail;obtain⟨W1,hW1⟩:=wN_ ba;obtain⟨g,hg⟩:∃g,w.heap.size=g:=⟨_,rfl⟩;rw[hW1]at ba kr hz1'⊢;rw[zf7]at kr;rw[hg]at kr ba hz1' hb1 hb2 HR⊢;have d0:=(ba.cell (p:=⟨b1,o1,none⟩) hb1).trans HC.out;have Hg:=Lh hg;have HK:=Lh kr;have HB:=Lh ba;clear k1 hmk hW1 kr ba hg
 go_wp2_with fail;clear d0
 go_loopw [21] (fun i wr=>∃(j:Nat) (rs:List RowV),j≤t∧i= .int .i64 j∧rs.length=n∧Below g w wr∧g<wr.heap.size∧Blk wr g 36 (rs.map RowV.val).toArray∧
   (∀(i:Nat) (r:RowV),rs[i]?=some r→wr.ownsRow (g+1) 3 1 r.val r.xs.length (cellsI r.xs)∧AllFit r.xs∧r.xs.length=zfh n j i)∧
   (∀(i i':Nat) (r r':RowV) (q:Nat),i≠i'→rs[i]?=some r→rs[i']?=some r'→blkOf r.A=some q→blkOf r'.A≠some q)) (fun i _=>t-(intOf i).toNat)
 case atStart=>
  refine⟨0,List.replicate n ⟨none,0,[]⟩,by omega,rfl,zK,HB.out,by omega,by rw[List.map_replicate];exact HK.out,fun i r hr=>?_,fun i i' r r' q hne hr hr' hq=>?_⟩
  ·have h:=zv hr;rw[zbM]at h;obtain⟨-,rfl⟩:=h;exact⟨⟨rfl, .inl ⟨rfl,rfl⟩⟩,fun y hy=>(by cases hy),(zlJ n i).symm⟩
  ·have h:=zv hr;rw[zbM]at h;obtain⟨-,rfl⟩:=h;cases hq
 case round=>
  clear HK HB hz1';obtain⟨j,rs,hj,rfl,hrl,hb,hgz,kr,hrs,hdis⟩:=hrel;by_cases hlt:j<t
  ·have h1:(0:Int)≤(j:Int):=by omega
   have h2:(j:Int)<(t:Int):=by omega
   obtain⟨b2',o2',x,hA',hb2',hx,hxf,c1⟩:=HR.out.at_ (j:=j) (by rw[Hl.out];exact hlt)
   have hA2:=HA.out.symm.trans hA';injection hA2 with hA2;injection hA2 with e1 e2 _;rw[←e1,←e2]at c1;have c1':=(hb.cell (p:=⟨b2,o2+j,none⟩) hb2).trans c1;obtain⟨i,hi⟩:∃i,j%n=i:=⟨_,rfl⟩;have hin:i<n:=hi▸Nat.mod_lt _ (by omega)
   have hm1:(j:Int).tmod (n:Int)=(i:Int):=by rw[←hi];rfl
   have hm2:IntKind.i64.wrap (i:Int)=(i:Int):=by rw[IntKind.wrap_i64];omega
   have hn0:((n:Int)==0)=false:=by simp;omega
   have h3:(0:Int)≤(i:Int):=by omega
   have h4:(i:Int)<(n:Int):=by omega
   obtain⟨ri,hri⟩:∃r,rs[i]?=some r:=⟨_,zk (by omega)⟩
   obtain⟨ow,hrf,hrc⟩:=hrs i ri hri;have hcl:ri.xs.length≤64:=by
    rw[hrc]
    have:=zaN j n
    unfold zfh;split<;>omega
   have ba:=bA_ wr (.cells #[.int .i64 x] 3);have r3:=zal wr _ rfl 3 [Value.int .i64 x];have hz3:(wr.alloc (.cells #[.int .i64 x] 3)).heap.size=wr.heap.size+1:=by simp
   have c2:=kr.cell i;rw[zC,zp,hri]at c2;have hval:ri.val= .slice ri.A ri.xs.length ri.c:=rfl;simp only[zai,hval]at c2;have k3:=kr.below ba hgz;have o3:=own_below ow ba;rw[hval]at o3;obtain⟨A,hAe⟩:∃A,ri.A=A:=⟨_,rfl⟩;obtain⟨l,hle⟩:∃l,ri.xs.length=l:=⟨_,rfl⟩;obtain⟨c,hce⟩:∃c,ri.c=c:=⟨_,rfl⟩;rw[hAe,hle,hce]at c2 o3;have HHle:=Lh hle;have HHce:=Lh hce;rw[hle]at hcl;have HK3:=Lh k3;have HRS:=Lh hrs;have HDI:=Lh hdis;have HBA:=Lh ba;have HBw:=Lh hb;have Hri:=Lh hri;have Hrl:=Lh hrl;have Hi:=Lh hi;have HAe:=Lh hAe;have Hgz:=Lh hgz;have Hz3:=Lh hz3;have Hrf:=Lh hrf;have Hrc:=Lh hrc;have HKR:=Lh kr;clear kr hrs hdis hb ba hz3 k3 ow hri hrl hi hAe hle hce hrf hrc hval hx hA' hgz c1 e1 e2
   go_wp2_with (at_builtin;refine zR _ rfl _ _ 36 rfl (g+1) 3 ii (.int .i64 0) 1 8 Tryz.underlying36 hii hz0 hz1 hz2 rfl (by decide) _ l (cellsI ri.xs) rfl o3 _ (some ⟨wr.heap.size,0,none⟩) 1 1 (cellsI [x]) rfl rfl r3 (zaA _) (by unfold maxLen;omega) (by omega) (by have:=Hgz.out;simp;omega) ?_)
   intro v' w4 o4 g4 h4';obtain⟨A',c',rfl,_⟩:=zH o4;have bA:∀(A:Option Addr) (l c:Nat),(Value.slice A l c).ownBlock=blkOf A:=fun A l c=>by cases A<;>rfl
   have k4:=HK3.out.grown g4 (fun he=>by have:=own_ge o3 he.symm;omega)
   have f4:=k4.frozen i;have s4:=k4.cell i;rw[zC,zp,Hri.out]at s4;have hval:ri.val= .slice A l c:=by unfold RowV.val;rw[HAe.out,HHle.out,HHce.out]
   simp only[zai,hval]at s4;obtain⟨rn,hrn⟩:∃rn:RowV,rn=⟨A',c',ri.xs++[x]⟩:=⟨_,rfl⟩;have hrl1:rn.xs.length=l+1:=by rw[hrn];show(ri.xs++[x]).length=_;rw[zx,HHle.out];rfl
   have hrv:rn.val= .slice A' (l+1) c':=by unfold RowV.val;rw[hrl1,hrn]
   have k5:=k4.set i (.slice A' (l+1) c');have hset:(rs.map RowV.val).toArray.setIfInBounds i (.slice A' (l+1) c')=((rs.set i rn).map RowV.val).toArray:=by
    rw[zc,zbn,hrv]
   rw[hset]at k5;have oN:(w4.setCell ⟨g,i,none⟩ (.slice A' (l+1) c')).ownsRow (g+1) 3 1 rn.val rn.xs.length (cellsI rn.xs):=by
    rw[hrv,hrl1,hrn];show World.ownsRow _ _ _ _ _ _ (cellsI (ri.xs++[x]))
    rw[zen];exact zap o4 k4 (by decide) i (.slice A' (l+1) c')
   have hnew:∀q,blkOf A'=some q→blkOf ri.A=some q∨q=wr.heap.size+1:=fun q hq=>by
    rcases h4' with h|h
    ·rw[bA,bA,hq]at h;exact .inl (by rw[HAe.out];exact h.symm)
    ·rw[bA,hq]at h;injection h with h;exact .inr (by omega)
   have hget:∀(i1:Nat) (r1:RowV),(rs.set i rn)[i1]?=some r1→(i1=i∧r1=rn)∨(i1≠i∧rs[i1]?=some r1):=fun i1 r1 h=>by
    by_cases e:i1=i
    ·subst e;rw[zat (by rw[Hrl.out];exact hin)]at h
     exact .inl ⟨rfl,(zq h).symm⟩
    ·rw[zaM (fun h=>e h.symm)]at h
     exact .inr ⟨e,h⟩
   have hblk:∀(i1:Nat) (r1:RowV),rs[i1]?=some r1→∀q,blkOf r1.A=some q→q<wr.heap.size:=fun i1 r1 h q hq=>own_lt' (HRS.out i1 r1 h).1 (by rw[RowV.own_val];exact hq)
   have hrs5:∀(i1:Nat) (r1:RowV),(rs.set i rn)[i1]?=some r1→(w4.setCell ⟨g,i,none⟩ (.slice A' (l+1) c')).ownsRow (g+1) 3 1 r1.val r1.xs.length (cellsI r1.xs)∧AllFit r1.xs∧r1.xs.length=zfh n (j+1) i1:=fun i1 r1 h=>by
    rcases hget i1 r1 h with⟨rfl,rfl⟩|⟨hne,h⟩
    ·refine⟨oN,by rw[hrn];exact zfG Hrf.out hxf,?_⟩
     rw[hrl1,zhP (by omega) hin,if_pos Hi.out.symm,←Hrc.out,HHle.out]
    ·obtain⟨q1,q2,q3⟩:=HRS.out i1 r1 h;have i1n:i1<n:=by have:=(zu.1 h).1;rw[Hrl.out]at this;exact this
     refine⟨?_,q2,?_⟩
     ·have o5:=own_below q1 HBA.out;have O:Only (fun q=>some q=(Value.slice A l c).ownBlock) (wr.alloc (.cells #[.int .i64 x] 3)) w4:=(Only.refl _ _).grown g4 fun q _ hq=>hq.symm
      have o6:=zae o5 O fun q hq he=>by
       rw[bA,←HAe.out]at he;rw[RowV.own_val]at hq;exact HDI.out i i1 ri r1 q (fun h=>hne h.symm) Hri.out h he.symm hq
      exact zap o6 k4 (by decide) i (.slice A' (l+1) c')
     ·rw[zhP (by omega) i1n,if_neg (by rw[Hi.out];exact hne),q3]
      rfl
   have hdi5:∀(i1 i2:Nat) (r1 r2:RowV) (q:Nat),i1≠i2→(rs.set i rn)[i1]?=some r1→(rs.set i rn)[i2]?=some r2→blkOf r1.A=some q→blkOf r2.A≠some q:=fun i1 i2 r1 r2 q hne E1 E2 hq hq2=>by
    rcases hget i1 r1 E1 with⟨rfl,rfl⟩|⟨n1,e1⟩
    ·rcases hget i2 r2 E2 with⟨rfl,-⟩|⟨n2,e2⟩
     ·exact hne rfl
     ·rw[hrn]at hq;rcases hnew q hq with h|h
      ·exact HDI.out _ i2 ri r2 q hne Hri.out e2 h hq2
      ·have:=hblk i2 r2 e2 q hq2;omega
    ·rcases hget i2 r2 E2 with⟨rfl,rfl⟩|⟨n2,e2⟩
     ·rw[hrn]at hq2;rcases hnew q hq2 with h|h
      ·exact HDI.out i1 _ r1 ri q hne e1 Hri.out hq h
      ·have:=hblk i1 r1 e1 q hq;omega
     ·exact HDI.out i1 i2 r1 r2 q hne e1 e2 hq hq2
   have b5:Below g w (w4.setCell ⟨g,i,none⟩ (.slice A' (l+1) c')):=by
    have h1:=HBw.out.trans (HBA.out.mono (by have:=Hgz.out;omega))
    exact(h1.grown g4 (by have:=Hgz.out;have:=Hz3.out;omega) (fun q hq=>by have:=own_ge o3 hq;omega)).setCell (p:=⟨g,i,none⟩) lR_ _
   have hz5:g<(w4.setCell ⟨g,i,none⟩ (.slice A' (l+1) c')).heap.size:=by
    have:=g4.size
    have:=Hgz.out
    have:=Hz3.out
    simp;omega
   have HK5:=Lh k5;have HR5:=Lh hrs5;have HD5:=Lh hdi5;have HB5:=Lh b5;have HZ5:=Lh hz5;clear k4 k5 oN hnew hget hblk hrs5 hdi5 b5 hz5 hset hrv hrl1 hrn o4 g4 h4' o3 r3 c2 hval bA
   go_wp2_with fail
   go_roundw
   case rel=>exact⟨j+1,rs.set i rn,by omega,by go_num,by rw[zaR];exact Hrl.out,HB5.out,HZ5.out,HK5.out,HR5.out,HD5.out⟩
   case measure=>simp[intOf];omega
  ·obtain rfl:j=t:=by omega
   have hlen:∀r∈rs,wr.ownsRow (g+1) 3 1 r.val r.xs.length (cellsI r.xs)∧AllFit r.xs∧r.xs.length=m:=fun r hr=>by
    obtain⟨i,hi⟩:=zbY hr;obtain⟨q1,q2,q3⟩:=hrs i r hi;exact⟨q1,q2,by rw[q3,←Ht.out];exact znf (by omega)⟩
   have G:zbu wr g (.slice (some ⟨g,0,none⟩) n n) rs:=by
    refine⟨?_,fun r hr=>⟨rd_of_own (hlen r hr).1,(hlen r hr).2.1,by rw[(hlen r hr).2.2];exact hm.2,by obtain⟨_,_,h,hle⟩:=zH (hlen r hr).1;injection h with _ _ h;exact h▸hle⟩,fun r hr q hq=>Nat.le_of_succ_le (own_ge (hlen r hr).1 (by rw[RowV.own_val];exact hq)),fun r hr q hq h=>by
     have:=own_ge (hlen r hr).1 (k:=q) (by rw[RowV.own_val];exact hq)
     simp only[Value.ownBlock]at h;injection h with h;omega⟩
    have:=zke kr (n:=n) (by rw[zA,hrl]) (by unfold maxLen;omega) (zF g)
    rw[hrl];exact this
   have hmap:rs.map (fun r=>(r.xs.length:Int))=List.replicate n (m:Int):=by
    refine List.eq_replicate_iff.2 ⟨by simp[hrl],fun y hy=>?_⟩
    obtain⟨r,hr,rfl⟩:=zY.1 hy;rw[(hlen r hr).2.2]
   have HG:=Lh G;have HM:=Lh hmap;have HB:=Lh hb;clear kr hrs hdis hb hgz hlen G hmap hrl
   go_wp2_with fail
   go_ret2;exact⟨_,rfl,rs,by rw[Hg.out];exact HG.out,HM.out,by rw[Hg.out];exact HB.out⟩
inductive KdV
 |up|down|weave|unweave|add|quot|copies|drop
 |filter (T:Option Addr) (ct:Nat) (taps:List Int) (S:Option Addr) (cs:Nat) (seen:List Int)
 |sum (x:Int)
 |tick (x d:Int)
def KdV.ty:KdV→TypeId
 | .up=> 205 | .down=> 207 | .weave=> 209 | .unweave=> 211 | .add=> 213 | .quot=> 215
 | .copies=> 222 | .drop=> 227 | .filter .. => 202 | .sum _=> 220 | .tick .. => 225
def KdV.pt:KdV→TypeId
 | .up=> 203 | .down=> 206 | .weave=> 208 | .unweave=> 210 | .add=> 212 | .quot=> 214
 | .copies=> 221 | .drop=> 226 | .filter .. => 200 | .sum _=> 216 | .tick .. => 223
def KdV.fn:KdV→FuncId
 | .up=> 136 | .down=> 137 | .weave=> 138 | .unweave=> 139 | .add=> 140
 | .quot=> 142 | .copies=> 146 | .drop=> 148 | .filter .. => 132 | .sum _=> 145 | .tick .. => 147
def KdV.extra:KdV→List Value
 | .filter T ct taps S cs seen=>[.slice T taps.length ct, .slice S seen.length cs]
 | .sum x=>[.int .i64 x]
 | .tick x d=>[.int .i64 x, .int .i64 d]
 |_=>[]
def KdV.rates(κ:KdV)(rin rout:List Int):Prop:=
 match κ with
 | .filter _ _ taps _ _ seen=>rin=[1]∧rout=[1]∧taps.length=seen.length+1∧seen.length≤1000
 | .up=>rin=[1]∧∃n:Nat,(1≤n∧n≤64)∧rout=[(n:Int)]
 | .down=>rout=[1]∧∃n:Nat,(1≤n∧n≤64)∧rin=[(n:Int)]
 | .weave=>∃n m:Nat,(1≤n∧n≤16)∧(1≤m∧m≤64)∧n*m≤64∧rin=List.replicate n (m:Int)∧rout=[((n*m:Nat):Int)]
 | .unweave=>∃n m:Nat,(1≤n∧n≤16)∧(1≤m∧m≤64)∧n*m≤64∧rin=[((n*m:Nat):Int)]∧rout=List.replicate n (m:Int)
 | .add=>rout=[1]∧∃n:Nat,(1≤n∧n≤16)∧rin=List.replicate n 1
 | .copies=>rin=[1]∧∃n:Nat,(1≤n∧n≤16)∧rout=List.replicate n 1
 | .quot=>rin=[1,1]∧rout=[1]
 | .sum _=>rin=[1]∧rout=[1]
 | .tick .. =>rin=[]∧rout=[1]
 | .drop=>rout=[]∧∃n:Nat,(1≤n∧n≤64)∧rin=[(n:Int)]
def KdV.ok(κ:KdV)(w:World):Prop:=
 match κ with
 | .filter T _ taps S _ seen=>Rd w w.heap.size T (cellsI taps)∧AllFit taps∧Rd w w.heap.size S (cellsI seen)∧AllFit seen
 | .sum x=>fits x
 | .tick x d=>fits x∧fits d
 |_=>True
def KdV.fix(κ:KdV)(q:Nat):Prop:=
 match κ with
 | .filter T _ taps S _ seen=>(taps≠[]∧blkOf T=some q)∨(seen≠[]∧blkOf S=some q)
 |_=>False
def KdV.fx(κ:KdV)(Ai Ao:Option Addr)(q:Nat):Prop:=blkOf Ai=some q∨blkOf Ao=some q∨κ.fix q
structure KdM(w:World)(b:Nat)(κ:KdV)(rin rout:List Int)(Ai:Option Addr)(ci:Nat)(Ao:Option Addr)(co:Nat)(n:Int):Prop where
 blk:Blk w b κ.ty (Value.slice Ai rin.length ci::Value.slice Ao rout.length co::Value.int .i64 n::κ.extra).toArray
 ri:Rd w w.heap.size Ai (cellsI rin)
 ro:Rd w w.heap.size Ao (cellsI rout)
 rt:κ.rates rin rout
 ex:κ.ok w
 ap:∀q,κ.fx Ai Ao q→q≠b
theorem KdV.ok.only{X:Nat→Prop}{w w':World}{κ:KdV}(h:κ.ok w)(ho:Only X w w')(hX:∀q,κ.fix q→¬X q):κ.ok w':=by
 cases κ with
 |filter T ct taps S cs seen=>exact⟨Rd.onlyN h.1 ho fun q hx hq=>hX q (.inl ⟨hx,hq⟩),h.2.1,Rd.onlyN h.2.2.1 ho fun q hx hq=>hX q (.inr ⟨hx,hq⟩),h.2.2.2⟩
 |_=>exact h
theorem KdV.ok.lt{w:World}{κ:KdV}(h:κ.ok w){q:Nat}(hq:κ.fix q):q<w.heap.size:=by
 cases κ with
 |filter T ct taps S cs seen=>
  rcases hq with⟨h1,h2⟩|⟨h1,h2⟩
  ·exact Rd.ltN h.1 h1 h2
  ·exact Rd.ltN h.2.2.1 h1 h2
 |_=>exact hq.elim
theorem KdM.only{X:Nat→Prop}{w w':World}{b:Nat}{κ:KdV}{rin rout:List Int}{Ai Ao:Option Addr}{ci co:Nat}{n:Int}(h:KdM w b κ rin rout Ai ci Ao co n)(ho:Only X w w')(hb:¬X b)(hX:∀q,κ.fx Ai Ao q→¬X q):KdM w' b κ rin rout Ai ci Ao co n:=
 ⟨h.blk.only ho hb,(Rd.only h.ri ho lR_ fun q hq=>hX q (.inl hq)).more ho.size,(Rd.only h.ro ho lR_ fun q hq=>hX q (.inr (.inl hq))).more ho.size,h.rt,h.ex.only ho fun q hq=>hX q (.inr (.inr hq)),h.ap⟩
theorem KdM.below{w w':World}{b:Nat}{κ:KdV}{rin rout:List Int}{Ai Ao:Option Addr}{ci co:Nat}{n:Int}(h:KdM w b κ rin rout Ai ci Ao co n)(hb:Below w.heap.size w w'):KdM w' b κ rin rout Ai ci Ao co n:=
 h.only (X:=fun _=>False) (Only.of_below hb) id (fun _ _=>id)
theorem zf8(κ:KdV)(bk:Nat)(w:World):(method 357 κ.pt (.pointer (some ⟨bk,0,none⟩)) "pianola/actors.rates").run Tryz.prog w= .ok (131, .pointer (some ⟨bk,0,none⟩)) w:=by cases κ<;>kernel_rfl
theorem ziD(κ:KdV)(bk:Nat)(w:World):(method 357 κ.pt (.pointer (some ⟨bk,0,none⟩)) "pianola/actors.fired").run Tryz.prog w= .ok (129, .pointer (some ⟨bk,0,none⟩)) w:=by cases κ<;>kernel_rfl
theorem zii(κ:KdV)(bk:Nat)(w:World):(method 357 κ.pt (.pointer (some ⟨bk,0,none⟩)) "pianola/actors.reckon").run Tryz.prog w= .ok (κ.fn, .pointer (some ⟨bk,0,none⟩)) w:=by cases κ<;>kernel_rfl
theorem zjG(κ:KdV)(args:Array Value)(w:World):(callFunc κ.fn args).run Tryz.prog w= .ok (.enter κ.fn args) w:=by cases κ<;>kernel_rfl
def zlK(w:World)(b:Nat)(κ:KdV)(rin rout:List Int)(Ai:Option Addr)(ci:Nat)(Ao:Option Addr)(co:Nat)(n:Int)(e:Ending)(w':World):Prop:=
 ∃gv ok,e= .returned (.tuple #[gv, .bool ok])∧∃z,w.heap.size≤z∧(∃κ':KdV,κ'.pt=κ.pt∧κ'.fn=κ.fn∧κ'.ty=κ.ty∧KdM w' b κ' rin rout Ai ci Ao co n∧∀q,κ'.fix q→q<z∧(κ.fix q∨w.heap.size≤q))∧Only (fun q=>q=b) w w'∧
  (ok=true→∃outs:List RowV,zbu w' z gv outs∧outs.map (fun r=>(r.xs.length:Int))=rout)
theorem zcL{w w':World}{b:Nat}{κ:KdV}{rin rout:List Int}{Ai Ao:Option Addr}{ci co:Nat}{n:Int}(h:KdM w b κ rin rout Ai ci Ao co n)(hb:Below w.heap.size w w'){gv:Value}{ok:Bool}(hg:ok=true→∃outs:List RowV,zbu w' w.heap.size gv outs∧outs.map (fun r=>(r.xs.length:Int))=rout):
  zlK w b κ rin rout Ai ci Ao co n (.returned (.tuple #[gv, .bool ok])) w':=
 ⟨gv,ok,rfl,w.heap.size,zF _,⟨κ,rfl,rfl,rfl,h.below hb,fun _ hq=>⟨h.ex.lt hq, .inl hq⟩⟩,Only.of_below hb,hg⟩
theorem zd9{rows:List RowV}{n:Int}(h:rows.map (fun r=>(r.xs.length:Int))=[n]):∃r,rows=[r]∧(r.xs.length:Int)=n:=by
 cases rows with
 |nil=>cases h
 |cons r rs=>
  cases rs with
  |nil=>exact⟨r,rfl,by simpa using h⟩
  |cons r' rs=>simp at h
theorem zoC{rows:List RowV}{n m:Int}(h:rows.map (fun r=>(r.xs.length:Int))=[n,m]):∃r r',rows=[r,r']∧(r.xs.length:Int)=n∧(r'.xs.length:Int)=m:=by
 cases rows with
 |nil=>cases h
 |cons r rs=>
  obtain⟨r',rfl,h2⟩:=zd9 (rows:=rs) (n:=m) (List.cons.inj h).2;exact⟨r,r',rfl,(List.cons.inj h).1,h2⟩
theorem zkf{rows:List RowV}{n m:Nat}(h:rows.map (fun r=>(r.xs.length:Int))=List.replicate n (m:Int)):rows.length=n∧∀r∈rows,r.xs.length=m:=by
 have h1:=congrArg List.length h;rw[zA,zK]at h1;refine⟨h1,fun r hr=>?_⟩
 have h2:(r.xs.length:Int)∈List.replicate n (m:Int):=h▸zY.2 ⟨r,hr,rfl⟩
 rw[zbM]at h2;omega
theorem zkz(κ:KdV)(b:Nat)(rin rout:List Int)(Ai:Option Addr)(ci:Nat)(Ao:Option Addr)(co:Nat)(n:Int)(w:World)(h:KdM w b κ rin rout Ai ci Ao co n)(H:Option Addr)(rows:List RowV)(ch:Nat)(hI:InM w w.heap.size H rows)(hlen:rows.map (fun r=>(r.xs.length:Int))=rin):
  Calls Tryz.prog κ.fn #[.pointer (some ⟨b,0,none⟩), .slice H rows.length ch] w (zlK w b κ rin rout Ai ci Ao co n):=by
 cases κ with
 |up=>
  obtain⟨e1,m,hm,rfl⟩:=h.rt;obtain⟨r,rfl,hr⟩:=zd9 (hlen.trans e1);refine(zpc b m _ _ _ Ao co w h.blk h.ro hm H [r] 1 ch hI rfl r rfl (by omega)).mono ?_
  rintro e w' ⟨gv,rfl,outs,hg,ho,hb⟩;exact zcL h hb fun _=>⟨outs,hg,ho⟩
 |down=>
  obtain⟨rfl,m,hm,e1⟩:=h.rt;obtain⟨r,rfl,hr⟩:=zd9 (hlen.trans e1);refine(zm9 b w H [r] 1 ch hI rfl r rfl _ (zk (by omega:0<r.xs.length))).mono ?_
  rintro e w' ⟨gv,rfl,outs,hg,ho,hb⟩;exact zcL h hb fun _=>⟨outs,hg,ho⟩
 |weave=>
  obtain⟨m,k,hm,hk,hmk,e1,rfl⟩:=h.rt;obtain⟨hl,hr⟩:=zkf (hlen.trans e1);have hri:=h.ri;have hbl:=h.blk;rw[e1]at hri hbl;rw[zK]at hbl;rw[show m=(m-1)+1 by omega,zc8]at hri
  rw[hl];refine(kWeave_any b m k _ _ Ai Ao ci co (List.replicate (m-1) (k:Int)) w hbl hri h.ro hm hk hmk H rows ch hI hl hr).mono ?_;rintro e w' ⟨gv,rfl,outs,hg,ho,hb⟩;exact zcL h hb fun _=>⟨outs,hg,ho⟩
 |unweave=>
  obtain⟨m,k,hm,hk,hmk,e1,rfl⟩:=h.rt;obtain⟨r,rfl,hr⟩:=zd9 (hlen.trans e1);have hbl:=h.blk;rw[zK]at hbl;refine(ziC b m k _ _ _ Ao co w hbl hm hk hmk H [r] 1 ch hI rfl r rfl (by omega)).mono ?_
  rintro e w' ⟨gv,rfl,outs,hg,ho,hb⟩;exact zcL h hb fun _=>⟨outs,hg,ho⟩
 |add=>
  obtain⟨rfl,m,hm,e1⟩:=h.rt;obtain⟨hl,hr⟩:=zkf (m:=1) (hlen.trans e1);refine(znd b w H rows _ ch hI rfl fun r h=>by rw[hr r h];omega).mono ?_
  rintro e w' ⟨gv,ok,rfl,hg,hb⟩;exact zcL h hb hg
 |quot=>
  obtain⟨e1,rfl⟩:=h.rt;obtain⟨r,r',rfl,hr,hr'⟩:=zoC (hlen.trans e1);refine(znb b w H [r,r'] 2 ch hI rfl r r' rfl rfl (by omega) (by omega)).mono ?_
  rintro e w' ⟨gv,ok,rfl,hg,hb⟩;exact zcL h hb hg
 |copies=>
  obtain⟨e1,m,hm,rfl⟩:=h.rt;obtain⟨r,rfl,hr⟩:=zd9 (hlen.trans e1);have hbl:=h.blk;rw[zK]at hbl;refine(zjF b m _ _ _ Ao co w hbl hm.2 H [r] 1 ch hI rfl r rfl (by omega)).mono ?_
  rintro e w' ⟨gv,rfl,outs,hg,ho,hb⟩;exact zcL h hb fun _=>⟨outs,hg,ho⟩
 |drop=>
  obtain⟨rfl,m,hm,e1⟩:=h.rt;refine(zna b w H _ ch).mono ?_;rintro e w' ⟨rfl,rfl⟩;exact zcL h (zm _ _) fun _=>⟨[],⟨⟨rfl, .inl ⟨rfl,rfl⟩⟩,fun r h=>(by cases h),fun r h=>(by cases h),fun r h=>(by cases h)⟩,rfl⟩
 |sum x=>
  obtain⟨e1,rfl⟩:=h.rt;obtain⟨r,rfl,hr⟩:=zd9 (hlen.trans e1);refine(znc b _ _ _ _ x w h.blk h.ex H [r] 1 ch hI rfl r rfl (by omega)).mono ?_
  rintro e w' ⟨gv,ok,rfl,⟨s',hs',kb⟩,hO,hg⟩;have hk:=fun q (hq:KdV.fx (.sum x) Ai Ao q)=>h.ap q hq
  refine⟨gv,ok,rfl,w.heap.size,zF _,⟨.sum s',rfl,rfl,rfl,⟨kb,(Rd.only h.ri hO lR_ fun q hq=>hk q (.inl hq)).more hO.size,(Rd.only h.ro hO lR_ fun q hq=>hk q (.inr (.inl hq))).more hO.size,⟨e1,rfl⟩,hs',h.ap⟩,fun q hq=>hq.elim⟩,hO,hg⟩
 |tick x d=>
  obtain⟨e1,rfl⟩:=h.rt;refine(zlG b _ _ _ _ x d w h.blk h.ex.1 h.ex.2 _).mono ?_;rintro e w' ⟨gv,ok,rfl,⟨s',hs',kb⟩,hO,hg⟩;have hk:=fun q (hq:KdV.fx (.tick x d) Ai Ao q)=>h.ap q hq
  refine⟨gv,ok,rfl,w.heap.size,zF _,⟨.tick s' d,rfl,rfl,rfl,⟨kb,(Rd.only h.ri hO lR_ fun q hq=>hk q (.inl hq)).more hO.size,(Rd.only h.ro hO lR_ fun q hq=>hk q (.inr (.inl hq))).more hO.size,⟨e1,rfl⟩,⟨hs',h.ex.2⟩,h.ap⟩,fun q hq=>hq.elim⟩,hO,hg⟩
 |filter T ct taps S cs seen=>
  obtain⟨e1,rfl,htl,hsl⟩:=h.rt;obtain⟨r,rfl,hr⟩:=zd9 (hlen.trans e1);have hbl:Blk w b 202 #[.slice Ai rin.length ci, .slice Ao 1 co, .int .i64 n, .slice T (seen.length+1) ct, .slice S seen.length cs]:=by
   have:=h.blk
   have e:(KdV.filter T ct taps S cs seen).extra=[.slice T (seen.length+1) ct, .slice S seen.length cs]:=by simp[KdV.extra,htl]
   rw[e]at this;exact this
  refine(zjE b _ _ _ _ T ct seen.length cs taps seen S w hbl h.ex.1 htl h.ex.2.1 h.ex.2.2.1 rfl h.ex.2.2.2 hsl H [r] 1 ch hI rfl r rfl (by omega)).mono ?_
  rintro e w' ⟨gv,ok,rfl,⟨S',cs',seen',kb,hrd,hl',hf',z,hz,hS',hg⟩,hO⟩;have hk:=fun q (hq:KdV.fx (.filter T ct taps S cs seen) Ai Ao q)=>h.ap q hq
  have hb:=h.blk.lt;have hfix:∀q,KdV.fix (.filter T ct taps S' cs' seen') q→q<z∧(KdV.fix (.filter T ct taps S cs seen) q∨w.heap.size≤q):=fun q hq=>by
   rcases hq with hq|hq
   ·exact⟨zP (Rd.ltN h.ex.1 hq.1 hq.2) hz, .inl (.inl hq)⟩
   ·have hne:seen≠[]:=fun hc=>hq.1 (zdy.1 (by rw[hl',hc];rfl))
    obtain⟨h1,h|h⟩:=hS' q hq.1 hq.2
    ·exact⟨h1, .inl (.inr ⟨hne,h⟩)⟩
    ·exact⟨h1, .inr h⟩
  refine⟨gv,ok,rfl,z,hz,⟨.filter T ct taps S' cs' seen',rfl,rfl,rfl,⟨?_,(Rd.only h.ri hO lR_ fun q hq=>hk q (.inl hq)).more hO.size,(Rd.only h.ro hO lR_ fun q hq=>hk q (.inr (.inl hq))).more hO.size,⟨e1,rfl,by omega,by omega⟩,⟨Rd.onlyN h.ex.1 hO fun q hx hq=>hk q (.inr (.inr (.inl ⟨hx,hq⟩))),h.ex.2.1,hrd,hf'⟩,fun q hq=>?_⟩,hfix⟩,hO,hg⟩
  ·have e:(KdV.filter T ct taps S' cs' seen').extra=[.slice T (seen.length+1) ct, .slice S' seen.length cs']:=by simp[KdV.extra,htl,hl']
   rw[e];exact kb
  ·rcases hq with hq|hq|hq
   ·exact hk q (.inl hq)
   ·exact hk q (.inr (.inl hq))
   ·rcases(hfix q hq).2 with h'|h'
    ·exact hk q (.inr (.inr h'))
    ·omega
structure RaI(w0:World)(b:Nat)(Ai:Option Addr)(li ci:Nat)(Ao:Option Addr)(lo co:Nat)(rin rout:List Int)(L:Nat→Bool)(V:Nat→Value)(w:World):Prop where
 bel:Below w0.heap.size w0 w
 f4:L 4=true→V 8= .slice (sAddr (V 8)) li (sCap (V 8))∧w.ownsRow w0.heap.size 3 1 (V 8) li (cellsI rin)
 f9:L 9=true→V 13= .slice (sAddr (V 13)) lo (sCap (V 13))∧w.ownsRow w0.heap.size 3 1 (V 13) lo (cellsI rout)
 g10:L 10=true→V 2=V 8
 g11:L 11=true→V 3=V 13
 e0:L 0=true→V 4= .pointer (some ⟨b,0,none⟩)
 e1:L 1=true→V 5= .pointer (some ⟨b,0,none⟩)
 e2:L 2=true→V 6= .pointer (some ⟨b,0,none⟩)
 e3:L 3=true→V 7= .slice Ai li ci
 e5:L 5=true→V 9= .pointer (some ⟨b,0,none⟩)
 e6:L 6=true→V 10= .pointer (some ⟨b,0,none⟩)
 e7:L 7=true→V 11= .pointer (some ⟨b,1,none⟩)
 e8:L 8=true→V 12= .slice Ao lo co
theorem zhQ(b:Nat)(Ai:Option Addr)(li ci:Nat)(Ao:Option Addr)(lo co:Nat)(rin rout:List Int)(w:World)(c0:w.cell? ⟨b,0,none⟩=some (.slice Ai li ci))(c1:w.cell? ⟨b,1,none⟩=some (.slice Ao lo co))(hbw:b<w.heap.size)
  (hi:Rd w w.heap.size Ai (cellsI rin)) (ho:Rd w w.heap.size Ao (cellsI rout)) (hli:rin.length=li) (hlo:rout.length=lo) (hl1:li≤1000) (hl2:lo≤1000):
  Calls Tryz.prog 131 #[.pointer (some ⟨b,0,none⟩)] w fun e w'=>∃A c A' c',e= .returned (.tuple #[.slice A li c, .slice A' lo c'])∧w'.ownsRow w.heap.size 3 1 (.slice A li c) li (cellsI rin)∧w'.ownsRow w.heap.size 3 1 (.slice A' lo c') lo (cellsI rout)∧Below w.heap.size w w':=by
 have HC0:=Lh c0;have HC1:=Lh c1;have HRi:=Lh hi;have HRo:=Lh ho;have Hli:=Lh hli;have Hlo:=Lh hlo;clear c0 c1 hi ho hli hlo
 go_enter Tryz.func131, Tryz.ntmps131
 go_wp2_with fail;have hI0:∀V,RaI w b Ai li ci Ao lo co rin rout (fun _=>false) V w.drew:=fun V=>by
  constructor
  all_goals first
   |exact Drawn.below _ ((Drawn.refl w).drewN 1)
   |(intro h;cases h)
 refine zN [4,5,6,7,8,9,10,11,12,13,2,3] (RaI w b Ai li ci Ao lo co rin rout) (by kernel_rfl) (by kernel_rfl) ?_ ?_ ?_
 ·exact hI0 _
 ·intro i o ho L V w1 hi hL hno h K hK;simp only[putAll,zi,zj,zc,ze,zd];rcases i with _|_|_|_|_|_|_|_|_|_|_|_|i
  ·obtain rfl:=sJ ho;clear hL hno
   go_simp;exact hK (zg V 4 _) _ _ (by simp[putAll,zg]) {h with e0:=fun _=>rfl}
  ·obtain rfl:=sJ ho;have e0:=h.e0 (hL ⟨0, .data⟩ (by simp) rfl)
   clear hL hno
   go_simp;exact hK (zg V 5 _) _ _ (by simp[putAll,zg,e0]) {h with e1:=fun _=>rfl}
  ·obtain rfl:=sJ ho;have e1:=h.e1 (hL ⟨1, .data⟩ (by simp) rfl)
   clear hL hno
   go_simp;exact hK (zg V 6 _) _ _ (by simp[putAll,zg,e1]) {h with e2:=fun _=>rfl}
  ·obtain rfl:=sJ ho;have e2:=h.e2 (hL ⟨2, .data⟩ (by simp) rfl)
   have ct:=(h.bel.cell (p:=⟨b,0,none⟩) hbw).trans HC0.out;clear hL hno
   go_simp;exact hK (zg V 7 _) _ _ (by simp[putAll,zg,e2]) {h with e3:=fun _=>rfl}
  ·obtain rfl:=sJ ho;have e3:=h.e3 (hL ⟨3, .data⟩ (by simp) rfl)
   have l10:=hno 10 (by kernel_rfl)
   clear hL hno;have hz:=h.bel.size;have hr:=(HRi.out.below h.bel lR_).more hz
   go_simp;refine(zf6 _ Ai li ci w1 Hli.out hr (by omega)).mono ?_
   rintro e w3 ⟨A3,c3,rfl,o3,b3⟩;refine hK (zg V 8 (.slice A3 li c3)) _ _ (by simp[putAll,zg,e3]) ?_
   exact{h with
    bel:=h.bel.trans (b3.mono hz)
    f4:=fun _=>⟨rfl,World.ownsRow.mono o3 hz⟩
    f9:=fun hl=>⟨(h.f9 hl).1,own_below (h.f9 hl).2 b3⟩
    g10:=nX_ l10}
  ·obtain rfl:=sJ ho;clear hL hno
   go_simp;exact hK (zg V 9 _) _ _ (by simp[putAll,zg]) {h with e5:=fun _=>rfl}
  ·obtain rfl:=sJ ho;have e5:=h.e5 (hL ⟨5, .data⟩ (by simp) rfl)
   clear hL hno
   go_simp;exact hK (zg V 10 _) _ _ (by simp[putAll,zg,e5]) {h with e6:=fun _=>rfl}
  ·obtain rfl:=sJ ho;have e6:=h.e6 (hL ⟨6, .data⟩ (by simp) rfl)
   clear hL hno
   go_simp;exact hK (zg V 11 _) _ _ (by simp[putAll,zg,e6]) {h with e7:=fun _=>rfl}
  ·obtain rfl:=sJ ho;have e7:=h.e7 (hL ⟨7, .data⟩ (by simp) rfl)
   have ct:=(h.bel.cell (p:=⟨b,1,none⟩) hbw).trans HC1.out;clear hL hno
   go_simp;exact hK (zg V 12 _) _ _ (by simp[putAll,zg,e7]) {h with e8:=fun _=>rfl}
  ·obtain rfl:=sJ ho;have e8:=h.e8 (hL ⟨8, .data⟩ (by simp) rfl)
   have l11:=hno 11 (by kernel_rfl)
   clear hL hno;have hz:=h.bel.size;have hr:=(HRo.out.below h.bel lR_).more hz
   go_simp;refine(zf6 _ Ao lo co w1 Hlo.out hr (by omega)).mono ?_
   rintro e w3 ⟨A3,c3,rfl,o3,b3⟩;refine hK (zg V 13 (.slice A3 lo c3)) _ _ (by simp[putAll,zg,e8]) ?_
   exact{h with
    bel:=h.bel.trans (b3.mono hz)
    f9:=fun _=>⟨rfl,World.ownsRow.mono o3 hz⟩
    f4:=fun hl=>⟨(h.f4 hl).1,own_below (h.f4 hl).2 b3⟩
    g11:=nX_ l11}
  ·obtain rfl:=sJ ho;have hd:=(h.f4 (hL ⟨4, .data⟩ (by simp) rfl)).1
   generalize sAddr (V 8)=A9 at hd;generalize sCap (V 8)=c9 at hd;clear hL hno
   go_simp;refine hK (zg V 2 (.slice A9 li c9)) _ _ (by simp[putAll,zg,hd]) ?_
   exact{h with g10:=fun _=>hd.symm}
  ·obtain rfl:=sJ ho;have hd:=(h.f9 (hL ⟨9, .data⟩ (by simp) rfl)).1
   generalize sAddr (V 13)=A9 at hd;generalize sCap (V 13)=c9 at hd;clear hL hno
   go_simp;refine hK (zg V 3 (.slice A9 lo c9)) _ _ (by simp[putAll,zg,hd]) ?_
   exact{h with g11:=fun _=>hd.symm}
  ·simp at ho
 ·clear hI0;intro L V w2 hL h;have h4:=h.f4 (hL 4 (by simp))
  have h9:=h.f9 (hL 9 (by simp))
  have e10:=(h.g10 (hL 10 (by simp))).trans h4.1
  have e11:=(h.g11 (hL 11 (by simp))).trans h9.1
  have hb:=h.bel;clear h hL;generalize sAddr (V 8)=A1 at h4 e10;generalize sCap (V 8)=d1 at h4 e10;generalize sAddr (V 13)=A2 at h9 e11;generalize sCap (V 13)=d2 at h9 e11;obtain⟨x1,x2⟩:=h4;obtain⟨x3,x4⟩:=h9;rw[x1]at x2;rw[x3]at x4;have HX2:=Lh x2;have HX4:=Lh x4;have HB:=Lh hb;simp only[putAll,zi,zj,zc,ze,zd,e10,e11];clear x1 x2 x3 x4 e10 e11 hb
  go_wp2_with fail
  go_ret2;exact⟨A1,d1,A2,d2,rfl,HX2.out,HX4.out,HB.out⟩
theorem zkA(b:Nat)(n:Int)(w:World)(c2:w.cell? ⟨b,2,none⟩=some (.int .i64 n))(f2:w.frozen? ⟨b,2,none⟩=false)(hn:0≤n∧n≤4611686018427387904):
  Calls Tryz.prog 129 #[.pointer (some ⟨b,0,none⟩)] w fun e w'=>e= .returned (.tuple #[])∧w'=w.setCell ⟨b,2,none⟩ (.int .i64 (n+1)):=by
 have e2:IntKind.i64.wrap (n+1)=n+1:=by rw[IntKind.wrap_i64];omega
 go_enter Tryz.func129, Tryz.ntmps129
 go_wp2_with fail
 go_end0
 exact⟨rfl,rfl⟩
theorem zgu{n:Nat}{m:Nat}(hn:n≤16)(hm:1≤m∧m≤64):(List.replicate n (m:Int)).length≤16∧∀x∈List.replicate n (m:Int),1≤x∧x≤64:=
 ⟨by rw[zK];exact hn,fun x hx=>by rw[zbM]at hx;omega⟩
theorem zeT{x:Int}(h:1≤x∧x≤64):[x].length≤16∧∀y∈[x],1≤y∧y≤64:=⟨by simp,fun y hy=>by simp at hy;subst hy;exact h⟩
theorem KdV.rates_few{κ:KdV}{rin rout:List Int}(h:κ.rates rin rout):(rin.length≤16∧∀x∈rin,1≤x∧x≤64)∧(rout.length≤16∧∀x∈rout,1≤x∧x≤64):=by
 have o:[(1:Int)].length≤16∧∀y∈[(1:Int)],1≤y∧y≤64:=zeT (by omega)
 have z:([]:List Int).length≤16∧∀y∈([]:List Int),1≤y∧y≤64:=⟨by simp,fun y hy=>(by cases hy)⟩
 cases κ with
 |up=>obtain⟨rfl,n,hn,rfl⟩:=h;exact⟨o,zeT (by omega)⟩
 |down=>obtain⟨rfl,n,hn,rfl⟩:=h;exact⟨zeT (by omega),o⟩
 |weave=>obtain⟨n,m,hn,hm,hnm,rfl,rfl⟩:=h;have:=zbw (show 0<n by omega) (show 0<m by omega);exact⟨zgu hn.2 hm,zeT (by omega)⟩
 |unweave=>obtain⟨n,m,hn,hm,hnm,rfl,rfl⟩:=h;have:=zbw (show 0<n by omega) (show 0<m by omega);exact⟨zeT (by omega),zgu hn.2 hm⟩
 |add=>obtain⟨rfl,n,hn,rfl⟩:=h;exact⟨zgu (m:=1) hn.2 (by omega),o⟩
 |copies=>obtain⟨rfl,n,hn,rfl⟩:=h;exact⟨o,zgu (m:=1) hn.2 (by omega)⟩
 |quot=>obtain⟨rfl,rfl⟩:=h;exact⟨⟨by simp,fun x hx=>by simp at hx;omega⟩,o⟩
 |drop=>obtain⟨rfl,n,hn,rfl⟩:=h;exact⟨zeT (by omega),z⟩
 |sum x=>obtain⟨rfl,rfl⟩:=h;exact⟨o,o⟩
 |tick x d=>obtain⟨rfl,rfl⟩:=h;exact⟨z,o⟩
 |filter T ct taps S cs seen=>obtain⟨rfl,rfl,-⟩:=h;exact⟨o,o⟩
theorem zkB(bb bk:Nat)(κ:KdV)(rin rout:List Int)(Ai:Option Addr)(ci:Nat)(Ao:Option Addr)(co:Nat)(n:Int)(w:World)(kb:Blk w bb 187 #[.iface κ.pt (.pointer (some ⟨bk,0,none⟩))])(h:KdM w bk κ rin rout Ai ci Ao co n):
  Calls Tryz.prog 61 #[.pointer (some ⟨bb,0,none⟩)] w fun e w'=>∃A c A' c',e= .returned (.tuple #[.slice A rin.length c, .slice A' rout.length c'])∧w'.ownsRow w.heap.size 3 1 (.slice A rin.length c) rin.length (cellsI rin)∧w'.ownsRow w.heap.size 3 1 (.slice A' rout.length c') rout.length (cellsI rout)∧Below w.heap.size w w':=by
 obtain⟨h1,h2⟩:=KdV.rates_few h.rt;have c0:=kb.cellL 0 rfl;have hm:=zf8 κ bk;have d0:=h.blk.cellL 0 rfl;have d1:=h.blk.cellL 1 rfl;have HR:=Lh (zhQ bk Ai rin.length ci Ao rout.length co rin rout w d0 d1 h.blk.lt h.ri h.ro rfl rfl (by omega) (by omega))
 generalize rin.length=li at*;generalize rout.length=lo at*;generalize κ.pt=pt at*;clear kb h d0 d1 h1 h2
 go_enter Tryz.func61, Tryz.ntmps61
 go_wp2_with fail;refine HR.out.mono ?_
 rintro e w2 ⟨A,c,A',c',rfl,o1,o2,hb⟩;have HO1:=Lh o1;have HO2:=Lh o2;have HB:=Lh hb;clear o1 o2 hb hm c0
 go_wp2_with fail
 go_ret2;exact⟨A,c,A',c',rfl,HO1.out,HO2.out,HB.out⟩
end Go.Proofs.YtpmlljbebdidgaaGreatDoor
