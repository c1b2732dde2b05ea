/- Lemmas and walks for the claim: Ha, Gc. -/
import Derived.Test.YtpmlljbebdidgaaGreatDoorA0
import Derived.Test.YtpmlljbebdidgaaGreatDoorA11
import Derived.Maps.OwnSet
import Derived.Test.YtpmlljbebdidgaaGreatDoorA6
import Derived.StringKeys
set_option linter.unusedSimpArgs false
set_option maxRecDepth 100000
set_option maxHeartbeats 4000000
namespace Go.Proofs.YtpmlljbebdidgaaGreatDoor
open Go.RowKit Go.Maps
def zi0(ars:List ArcV)(F:Nat→Int)(v:Nat):BlkV:=⟨v,F v,optI (shortO ars F v)⟩
structure zhk(n:Nat)(ars:List ArcV)(F:Nat→Int)(vs:List Nat):Prop where
 ne:0<vs.length
 nd:vs.Nodup
 lt:∀v∈vs,v<n
 fired:∀v∈vs,0≤F v∧F v≤4096
 arc:∀v∈vs,∃i u:Nat,shortO ars F v=some i∧i<ars.length∧(arcAt ars i).t=v∧(arcAt ars i).f=u∧u∈vs∧(arcAt ars i).s+(arcAt ars i).g*F u<(arcAt ars i).k*(F v+1)
def putF(F:Nat→Int)(D:DataW Unit)(v:Nat):DataW Unit:=D.put (.int .i64 (v:Int)) (.lit (.int .i64 (F v)))
def mapD(F:Nat→Int)(vs:List Nat):DataW Unit:=vs.foldl (putF F) (.map [])
theorem zpi(v:Nat):WideAt.IsKeyLit (.int .i64 (v:Int)):=trivial
theorem zi1(F:Nat→Int):∀(vs:List Nat) (D:DataW Unit),IsMap D→(∀v∈vs,v<1000000)→∀u:Nat,u<1000000→
  IsMap (vs.foldl (putF F) D)∧
  Maps.has (vs.foldl (putF F) D) (.int .i64 (u:Int))=(decide (u∈vs)||Maps.has D (.int .i64 (u:Int)))∧
  ∀z,(vs.foldl (putF F) D).atKey (.int .i64 (u:Int)) z=if u∈vs then .lit (.int .i64 (F u))else D.atKey (.int .i64 (u:Int)) z:=by
 intro vs
 induction vs with
 |nil=>intro D hD _ u _;exact⟨hD,by simp,fun z=>by simp⟩
 |cons v vs ih=>
  intro D hD hlt u hu;obtain⟨h1,h2,h3⟩:=ih (putF F D v) (hD.put _ _) (fun x hx=>hlt x (by simp[hx])) u hu
  refine⟨h1,?_,fun z=>?_⟩
  ·rw[zi,h2];unfold putF;by_cases e:u=v
   ·subst e;rw[has_put_same hD (zpi _)];simp
   ·rw[has_put_other (fun hc=>by injection hc with _ hc;omega)]
    simp[e]
  ·rw[zi,h3];unfold putF;by_cases e:u=v
   ·subst e;rw[atKey_put_same hD (zpi _)];simp
   ·rw[atKey_put_other (fun hc=>by injection hc with _ hc;omega)]
    simp[e]
theorem zmn(F:Nat→Int)(vs:List Nat)(v:Nat):mapD F (vs++[v])=(mapD F vs).put (.int .i64 (v:Int)) (.lit (.int .i64 (F v))):=by simp[mapD,putF]
theorem zi2(F:Nat→Int){vs:List Nat}(h:∀v∈vs,v<1000000){u:Nat}(hu:u<1000000):Maps.has (mapD F vs) (.int .i64 (u:Int))=decide (u∈vs):=by
 unfold mapD;rw[(zi1 F vs _ isMap_empty h u hu).2.1];have:Maps.has (.map []:DataW Unit) (.int .i64 (u:Int))=false:=rfl;rw[this,Bool.or_false]
theorem zoO(F:Nat→Int){vs:List Nat}(h:∀v∈vs,v<1000000){u:Nat}(hu:u∈vs)(z:DataW Unit):(mapD F vs).atKey (.int .i64 (u:Int)) z= .lit (.int .i64 (F u)):=by
 unfold mapD;rw[(zi1 F vs _ isMap_empty h u (h u hu)).2.2 z,if_pos hu]
theorem zi3:Keyed Tryz.prog 3 :=int_keyed Tryz.underlying3
theorem ziu(w:World):(zeroValue 3).run Tryz.prog w= .ok (.int .i64 0) w:=by kernel_rfl
theorem zjX(n:Nat)(ars:List ArcV)(A:Option Addr)(c:Nat)(F:Nat→Int)(vs:List Nat)(S:Option Addr)(m cs:Nat)(w:World)(hm:vs.length=m)(hC:checkF n ars=0)(hN:zbX n ars)(hr:Rd w w.heap.size A (cellsA ars))
  (hs:Rd w w.heap.size S (zba (vs.map (zi0 ars F)))) (hV:zhk n ars F vs):
  Calls Tryz.prog 23 #[.agg #[.int .i64 n, .slice A ars.length c], .slice S m cs] w fun e w'=>e= .returned (.int .i64 0)∧Below w.heap.size w w':=by
 have n32:=hN.n32;have l96:=hN.l96;have hmm:= @run_makeMap Tryz.prog;obtain⟨B,hB⟩:∃B,w.heap.size=B:=⟨_,rfl⟩;rw[hB]at hr hs⊢;have hvl:m≤1000:=by
  have h1:=hV.nd.length_le_of_subset (l₂:=List.range n) fun v hv=>zM.2 (hV.lt v hv)
  rw[List.length_range]at h1;omega
 have hlt0:0<m:=hm▸hV.ne
 have hsmall:∀v∈vs,v<1000000:=fun v hv=>by have:=hV.lt v hv;omega
 have b1:=(zm B w).alloc (by omega) (.cells #[.int .i64 n, .slice A ars.length c] 30)
 have k1:=Blk.new w B hB.symm 30 #[.int .i64 n, .slice A ars.length c];have hz1:(w.alloc (.cells #[.int .i64 n, .slice A ars.length c] 30)).heap.size=B+1:=by simp;omega
 have HV:=Lh hV;have HC:=Lh hC;have HN:=Lh hN;have Hsm:=Lh hsmall;have Hm:=Lh hm;clear hV hC hN hsmall hm
 go_enter Tryz.func23, Tryz.ntmps23
 go_wp2_with fail;generalize w.alloc (.cells #[.int .i64 n, .slice A ars.length c] 30)=W1 at*
 refine(zeu n ars A ars.length c W1 rfl HN.out.fit ((hr.below b1 lR_).more (by omega)) (by unfold maxLen;omega)).mono ?_
 rintro e w2 ⟨rfl,hb2⟩;rw[HC.out];have b2:=b1.trans (hb2.mono (by omega))
 have k2:=k1.below hb2 (by omega)
 have hz2:=hb2.size;clear b1 k1 hb2;have hz:((m:Int)==0)=false:=beq_eq_false_iff_ne.2 (by omega)
 obtain⟨M,hM⟩:∃M,w2.heap.size=M:=⟨_,rfl⟩;have hmk:=hmm;have o3:=World.ownsMap_made w2 Tryz.prog 3 (plainElem (H:=Unit) Tryz.prog 3);have b3:=b2.alloc (by omega) (.map #[] 0)
 have k3:=k2.alloc (.map #[] 0);have z3:(w2.alloc (.map #[] 0)).heap.size=M+1:=by simp;omega
 rw[hM]at o3
 go_wp2_with fail
 try rw[hM]
 go_loopw [28] (fun i wr=>∃k:Nat,k≤m∧i= .int .i64 k∧Below B w wr∧Blk wr B 30 #[.int .i64 n, .slice A ars.length c]∧M<wr.heap.size∧wr.ownsMap Tryz.prog 3 (plainElem (H:=Unit) Tryz.prog 3) M k (mapD F (vs.take k))) (fun i _=>m-(intOf i).toNat)
 case atStart=>exact⟨0,by omega,rfl,b3,k3,by omega,o3⟩
 case round=>
  clear o3 b3 k3 z3 b2 k2;obtain⟨k,hk,rfl,hb,kb,hMw,ho⟩:=hrel;by_cases hlt:k<m
  ·have hkv:k<vs.length:=by rw[Hm.out];exact hlt
   obtain⟨v,hv⟩:∃v,vs[k]?=some v:=⟨_,zk hkv⟩;have hvm:=zv hv;obtain⟨sb,so,x,rfl,c0,c1,c2,hx⟩:=(hs.below hb lR_).blkAt (k:=k) (by rw[zA];exact hkv)
   obtain rfl:x=zi0 ars F v:=by have h:=hx.out;rw[zp,hv]at h;exact(zq h).symm
   simp only[zi0]at c0 c1 c2;have hvn:=HV.out.lt v hvm;have hvf:=HV.out.fired v hvm;obtain⟨f,hf⟩:∃f,F v=f:=⟨_,rfl⟩;obtain⟨ai,hai⟩:∃a,optI (shortO ars F v)=a:=⟨_,rfl⟩;rw[hai]at c2;have hin:v∉vs.take k:=zey HV.out.nd hv;have hnx:mapD F (vs.take (k+1))=(mapD F (vs.take k)).put (.int .i64 (v:Int)) (.lit (.int .i64 (F v))):=by rw[zgo hv,zmn]
   have hhas:Maps.has (mapD F (vs.take k)) (.int .i64 (v:Int))=false:=by rw[zi2 F (fun u hu=>Hsm.out u (zcU hu)) (Hsm.out v hvm)];exact decide_eq_false hin
   generalize mapD F (vs.take k)=D at ho hnx hhas;rw[hf]at c1 hvf hnx;have ba:=bA_ wr (.cells #[.int .i64 v, .int .i64 f, .int .i64 ai] 136);have kn:=kb.below ba kb.lt;have ka:=bN_ ba;have on:=ho.alloc (.cells #[.int .i64 v, .int .i64 f, .int .i64 ai] 136);have bn:=hb.trans (ba.mono (by omega))
   have zn:(wr.alloc (.cells #[.int .i64 v, .int .i64 f, .int .i64 ai] 136)).heap.size=wr.heap.size+1:=by simp
   have d0:=ka.cell 0;have d1:=ka.cell 1;have n0:=kn.cell 0;simp at d0 d1 n0;have hkey:keyOf Tryz.prog 3 (.int .i64 (v:Int))=some (.int .i64 (v:Int)):=keyOf_int_mk Tryz.underlying3 (WalkArith.wf_i64 (by omega))
   have h1:(0:Int)≤(k:Int):=by omega
   have h2:(k:Int)<(m:Int):=by omega
   have Hnx:=Lh hnx;clear hb kb ho ba ka hx hin hnx hf hai
   go_wp2_with (first
    |(at_lookup;refine wpList_lookup_own_ok_int _ rfl _ _ 134 rfl 3 3 .i64 zi3 Tryz.underlying134 Tryz.underlying3 (ziu _) M k D rfl on _ _ rfl hkey ?_;intro cv hat hwc)
    |(at_mapUpdate;refine wpList_mapUpdate_own _ rfl _ _ _ 134 rfl 3 3 zi3 Tryz.underlying134 _ M k D rfl on (by unfold maxLen;omega) _ _ _ rfl rfl hkey _ [] (plainElem_int Tryz.underlying3 (WalkArith.wf_i64 (by omega))) ?_;intro w4 hown4 hgrow4)
    |go_in)
   go_roundw
   case rel=>exact⟨k+1,by omega,by go_num,bn.grown hgrow4 (by omega) (fun j hj=>by cases hj;omega),kn.grown hgrow4 (by intro hc;cases hc;omega),by have:=hgrow4.size;omega,Hnx.out▸hown4⟩
   case measure=>simp[intOf];omega
  ·obtain rfl:k=m:=by omega
   have hk2:vs.take k=vs:=zL (by rw[Hm.out];exact zF _)
   rw[hk2]at ho;have HO:=Lh ho;clear ho hk2
   go_wp2_with fail
   go_loopw [11,70] (fun a i wx=>∃q:Nat,q≤k∧i= .int .i64 q∧a= .bool false∧Below B w wx∧Blk wx B 30 #[.int .i64 n, .slice A ars.length c]∧M<wx.heap.size∧wx.ownsMap Tryz.prog 3 (plainElem (H:=Unit) Tryz.prog 3) M k (mapD F vs)) (fun _ i _=>k-(intOf i).toNat)
   case atStart=>exact⟨0,by omega,rfl,rfl,hb,kb,hMw,HO.out⟩
   case round=>
    clear hb kb hMw HO;obtain⟨q,hq,rfl,rfl,hb,kb,hMw,ho⟩:=hrel;by_cases hlt:q<k
    ·have hkv:q<vs.length:=by rw[Hm.out];exact hlt
     obtain⟨v,hv⟩:∃v,vs[q]?=some v:=⟨_,zk hkv⟩;have hvm:=zv hv;obtain⟨sb,so,x,rfl,c0,c1,c2,hx⟩:=(hs.below hb lR_).blkAt (k:=q) (by rw[zA];exact hkv)
     obtain rfl:x=zi0 ars F v:=by have h:=hx.out;rw[zp,hv]at h;exact(zq h).symm
     simp only[zi0]at c0 c1 c2;have hvn:=HV.out.lt v hvm;have hvf:=HV.out.fired v hvm;obtain⟨i,u,hsh,hi,hat,haf,hum,hll⟩:=HV.out.arc v hvm;have huf:=HV.out.fired u hum;have hun:=HV.out.lt u hum;rw[hsh]at c2;simp only[optI]at c2;have hhas:Maps.has (mapD F vs) (.int .i64 (u:Int))=true:=by rw[zi2 F Hsm.out (Hsm.out u hum)];exact decide_eq_true hum
     have hD:=zoO F Hsm.out hum (.lit (.int .i64 0));generalize mapD F vs=D at ho hhas hD;obtain⟨f,hf⟩:∃f,F v=f:=⟨_,rfl⟩;obtain⟨fu,hfu⟩:∃f,F u=f:=⟨_,rfl⟩;rw[hf]at c1 hvf hll;rw[hfu]at huf hll hD;have ba:=bA_ wr (.cells #[.int .i64 v, .int .i64 f, .int .i64 i] 136);have b4:=hb.trans (ba.mono (by omega))
     obtain⟨ab,ao,a,rfl,-,-,e0,e1,e2,e3,e4,-,hax⟩:=(hr.below b4 lR_).arc HN.out.fit hi;obtain rfl:a=arcAt ars i:=(zdt hax.out).symm;obtain⟨g1,g2,g3,g4,g5,g6,g7,g8,g9,g10⟩:=HN.out.ok _ (zfe hi);rw[haf]at e0;rw[hat]at e1;generalize (arcAt ars i).g=ag at*;generalize (arcAt ars i).k=ak at*;generalize (arcAt ars i).s=as_ at*;clear hax g1 g2 g3 g4 hat haf hsh;have m1:=zak (show 0≤ag by omega) huf.1
     have m2:=zaC g6 huf.2 huf.1 (show(0:Int)≤64 by omega)
     have m3:=zak (show 0≤ak by omega) (show 0≤f+1 by omega)
     have m4:=zaC g8 (show f+1≤4097 by omega) (show 0≤f+1 by omega) (show(0:Int)≤64 by omega)
     have hall:∀cv:Int,D.atKey (.int .i64 (u:Int)) (.lit (.int .i64 0))= .lit (.int .i64 cv)→IntKind.i64.wrap (ag*cv)=ag*cv∧IntKind.i64.wrap (as_+ag*cv)=as_+ag*cv∧IntKind.i64.wrap (f+1)=f+1∧IntKind.i64.wrap (ak*(f+1))=ak*(f+1)∧decide (ak*(f+1)≤as_+ag*cv)=false:=by
      intro cv h;rw[hD]at h;injection h with h;injection h with _ h;subst h;exact⟨IntWalk.i64_in _ (by omega),IntWalk.i64_in _ (by omega),IntWalk.i64_in _ (by omega),IntWalk.i64_in _ (by omega),decide_eq_false (by omega)⟩
     have Hall:=Lh hall;obtain⟨W4,hW4⟩:∃W,wr.alloc (.cells #[.int .i64 v, .int .i64 f, .int .i64 i] 136)=W:=⟨_,rfl⟩;have kn:=kb.below ba kb.lt;have ka:=Blk.new wr _ rfl 136 #[.int .i64 v, .int .i64 f, .int .i64 i];have on:=ho.alloc (.cells #[.int .i64 v, .int .i64 f, .int .i64 i] 136);have zn:(wr.alloc (.cells #[.int .i64 v, .int .i64 f, .int .i64 i] 136)).heap.size=wr.heap.size+1:=by simp
     rw[hW4]at kn ka on zn e0 e1 e2 e3 e4 b4;have bb:=bA_ W4 (.cells #[.int .i64 u, .int .i64 v, .int .i64 ag, .int .i64 ak, .int .i64 as_] 76);have b5:=b4.trans (bb.mono (by omega))
     have kn5:=kn.below bb kn.lt;have ka5:=ka.below bb ka.lt;have kc:=Blk.new W4 _ rfl 76 #[.int .i64 u, .int .i64 v, .int .i64 ag, .int .i64 ak, .int .i64 as_];have on5:=on.alloc (.cells #[.int .i64 u, .int .i64 v, .int .i64 ag, .int .i64 ak, .int .i64 as_] 76);have zn5:(W4.alloc (.cells #[.int .i64 u, .int .i64 v, .int .i64 ag, .int .i64 ak, .int .i64 as_] 76)).heap.size=W4.heap.size+1:=by simp
     have p0:=kn.cellL 0 rfl;have p1:=kn.cellL 1 rfl;have s0:=ka.cellL 0 rfl;have s1:=ka.cellL 1 rfl;have s2:=ka.cellL 2 rfl;have t0:=ka5.cellL 0 rfl;have t1:=ka5.cellL 1 rfl;have r0:=kc.cellL 0 rfl;have r1:=kc.cellL 1 rfl;have r2:=kc.cellL 2 rfl;have r3:=kc.cellL 3 rfl;have r4:=kc.cellL 4 rfl;have hkey:keyOf Tryz.prog 3 (.int .i64 (u:Int))=some (.int .i64 (u:Int)):=keyOf_int_mk Tryz.underlying3 (WalkArith.wf_i64 (by omega))
     have h1:(0:Int)≤(q:Int):=by omega
     have h2:(q:Int)<(k:Int):=by omega
     have h3:(0:Int)≤(i:Int):=by omega
     have h4:(i:Int)<(ars.length:Int):=by omega
     have h5:((v:Int) !=(v:Int))=false:=by simp
     clear hb kb ho ba bb hx hall hf hfu hll hD m1 m2 m3 m4 kn ka on kc ka5
     go_wp2_with (first
      |(at_lookup;refine wpList_lookup_own_ok_int _ rfl _ _ 134 rfl 3 3 .i64 zi3 Tryz.underlying134 Tryz.underlying3 (ziu _) M k D rfl on5 _ _ rfl hkey ?_;intro cv hat hwc;obtain⟨q1,q2,q3,q4,q5⟩:=Hall.out cv hat;clear hat)
      |go_in)
     go_roundw
     case rel=>exact⟨q+1,by omega,by go_num,rfl,b5,kn5,by omega,on5⟩
     case measure=>simp[intOf];omega
    ·have HB:=Lh hb
     go_wp2_with fail
     go_ret;exact⟨rfl,HB.out⟩
end Go.Proofs.YtpmlljbebdidgaaGreatDoor
namespace Go.Proofs.YtpmlljbebdidgaaGreatDoor
open Go.RowKit Go.Maps Go.WideMaps
def putS(D:DataW Unit)(s:List UInt8):DataW Unit:=D.put (.string s) (.lit (.int .i64 1))
def zfn(ns:List (List UInt8)):DataW Unit:=ns.foldl putS (.map [])
def nameE(ns:List (List UInt8))(s:ByteArray):Int:=if nameB s=true then(if s.data.toList∈ns then 83 else 0)else 82
theorem zmd:∀(ns:List (List UInt8)) (D:DataW Unit),IsMap D→∀u:List UInt8,
  IsMap (ns.foldl putS D)∧∀z,(ns.foldl putS D).atKey (.string u) z=if u∈ns then .lit (.int .i64 1)else D.atKey (.string u) z:=by
 intro ns
 induction ns with
 |nil=>intro D hD u;exact⟨hD,fun z=>by simp⟩
 |cons s ns ih=>
  intro D hD u;obtain⟨h1,h2⟩:=ih (putS D s) (hD.put _ _) u;refine⟨h1,fun z=>?_⟩
  rw[zi,h2];unfold putS;by_cases e:u=s
  ·subst e;rw[atKey_put_same hD (show WideAt.IsKeyLit (.string u)from trivial)]
   simp
  ·rw[atKey_put_other (fun hc=>e (by injection hc))]
   simp[e]
theorem zme(ns:List (List UInt8))(s:List UInt8):zfn (ns++[s])=(zfn ns).put (.string s) (.lit (.int .i64 1)):=by simp[zfn,putS]
theorem zoJ(ns:List (List UInt8))(s:List UInt8):(zfn ns).atKey (.string s) (.lit (.int .i64 0))= .lit (.int .i64 (if s∈ns then 1 else 0)):=by
 unfold zfn;rw[(zmd ns _ isMap_empty s).2];split
 ·rfl
 ·rfl
theorem ziX:Keyed Tryz.prog 9 :=string_keyed Tryz.underlying9
def ze4(ns:List (List UInt8))(s:ByteArray):List (List UInt8):=if nameE ns s=0 then ns++[s.data.toList]else ns
theorem zmf{w w':World}{m:Nat}(h:w.grownBy w' (some m)):Only (fun k=>k=m) w w':=⟨h.os,h.tape,h.output,h.size,fun k hk hX=>h.block k hk (fun hc=>hX (by injection hc))⟩
theorem zh0(gc m n:Nat)(ns:List (List UInt8))(s:ByteArray)(w:World)(hs:s.size≤maxLen)(hn:n≤1000)(hg:gc<w.heap.size)(hc:w.cell? ⟨gc,5,none⟩=some (.map (some m)))(ho:w.ownsMap Tryz.prog 9 (plainElem (H:=Unit) Tryz.prog 3) m n (zfn ns)):
  Calls Tryz.prog 88 #[.pointer (some ⟨gc,0,none⟩), .string s] w fun e w'=>e= .returned (.int .i64 (nameE ns s))∧
   w'.ownsMap Tryz.prog 9 (plainElem (H:=Unit) Tryz.prog 3) m (n+1) (zfn (ze4 ns s))∧Only (fun k=>k=m) w w':=by
 have hat:=zoJ ns s.data.toList;have hsn:=zme ns s.data.toList;obtain⟨r,hr⟩:∃r,nameB s=r:=⟨_,rfl⟩;have hE:nameE ns s=if r=true then(if s.data.toList∈ns then 83 else 0)else 82:=by unfold nameE;rw[hr]
 have hNN:ze4 ns s=if r=true∧s.data.toList∉ns then ns++[s.data.toList]else ns:=by
  unfold ze4;rw[hE];cases r with
  |true=>by_cases h:s.data.toList∈ns<;>simp[h]
  |false=>simp
 rw[hE,hNN];have HR:=Lh hr;have HAT:=Lh hat;have HSN:=Lh hsn;clear hr hat hsn hE hNN;generalize hD:zfn ns=D at*;have hkey:keyOf Tryz.prog 9 (.string s)=some (.string s.data.toList):=keyOf_string_mk Tryz.underlying9 hs
 go_enter Tryz.func88, Tryz.ntmps88
 go_wp2_with fail;refine(ziW s w hs).mono ?_
 rintro e w1 ⟨rfl,hb1⟩;rw[HR.out];have o1:w1.ownsMap Tryz.prog 9 (plainElem (H:=Unit) Tryz.prog 3) m n D:=ho.kept (row:=none) ⟨hb1.os,hb1.tape,hb1.output,hb1.size,fun k hk _=>hb1.block k hk⟩ (by simp)
 have c1:=(hb1.cell hg).trans hc;have q1:Only (fun k=>k=m) w w1:=(zff hb1).mono fun k hk hX=>by omega
 clear hb1;cases r with
 |false=>
  go_wp2_with fail
  go_ret;exact⟨rfl,by simpa [hD]using o1.mono (zdK n),q1⟩
 |true=>
  by_cases hin:s.data.toList∈ns
  ·have hq:D.atKey (.string s.data.toList) (.lit (.int .i64 0))= .lit (.int .i64 1):=by rw[HAT.out,if_pos hin]
   have HQ:=Lh hq;have Hin:=Lh hin;clear hq hin
   go_wp2_with (first
    |(at_lookup;refine wpList_lookup_own_int _ rfl _ _ 165 rfl 9 3 .i64 ziX Tryz.underlying165 Tryz.underlying3 (ziu _) m n D rfl o1 _ _ rfl hkey ?_;intro c hat hwc;have hc1:decide (0<c)=true:=by(rw[HQ.out]at hat;injection hat with hat;injection hat with _ hat;rw[←hat];rfl))
    |go_in)
   go_ret;exact⟨rfl,by simpa [Hin.out,hD]using o1.mono (zdK n),q1⟩
  ·have hq:D.atKey (.string s.data.toList) (.lit (.int .i64 0))= .lit (.int .i64 0):=by rw[HAT.out,if_neg hin]
   have HQ:=Lh hq;have Hin:=Lh hin;clear hq hin
   go_wp2_with (first
    |(at_lookup;refine wpList_lookup_own_int _ rfl _ _ 165 rfl 9 3 .i64 ziX Tryz.underlying165 Tryz.underlying3 (ziu _) m n D rfl o1 _ _ rfl hkey ?_;intro c hat hwc;have hc1:decide (0<c)=false:=by(rw[HQ.out]at hat;injection hat with hat;injection hat with _ hat;rw[←hat];rfl))
    |(at_mapUpdate;refine wpList_mapUpdate_own _ rfl _ _ _ 165 rfl 9 3 ziX Tryz.underlying165 _ m n D rfl o1 (by unfold maxLen;omega) _ _ _ rfl rfl hkey _ [] (plainElem_int Tryz.underlying3 (WalkArith.wf_i64 (by omega))) ?_;intro w4 hown4 hgrow4)
    |go_in)
   go_ret;exact⟨rfl,by simpa [Hin.out,HSN.out]using hown4,q1.trans (zmf hgrow4)⟩
def cellsO(r:List Bool):List Value:=r.map Value.bool
theorem zir(r:List Bool):(cellsO r).length=r.length:=by simp[cellsO]
theorem zkS(r:List Bool)(p:Nat)(b:Bool):(cellsO r).set p (.bool b)=cellsO (r.set p b):=by unfold cellsO;rw[zbn]
structure zdP(w:World)(B g c:Nat)(R:Nat→Nat)(M:List (List Bool)):Prop where
 hdr:w.ownsRow B 143 1 (.slice (some ⟨g,0,none⟩) M.length c) M.length ((List.range M.length).map fun j=> .slice (some ⟨R j,0,none⟩) (M.getD j []).length (M.getD j []).length)
 row:∀j,j<M.length→w.ownsRow B 4 1 (.slice (some ⟨R j,0,none⟩) (M.getD j []).length (M.getD j []).length) (M.getD j []).length (cellsO (M.getD j []))
 inj:∀j j',j<M.length→j'<M.length→R j=R j'→j=j'
theorem zdP.cellH{w:World}{B g c:Nat}{R:Nat→Nat}{M:List (List Bool)}(h:zdP w B g c R M){j:Nat}(hj:j<M.length):w.cell? ⟨g,j,none⟩=some (.slice (some ⟨R j,0,none⟩) (M.getD j []).length (M.getD j []).length):=by
 rw[h.hdr.cellAt j (by omega)]
 simp[hj]
theorem zdP.cellR{w:World}{B g c:Nat}{R:Nat→Nat}{M:List (List Bool)}(h:zdP w B g c R M){j p:Nat}(hj:j<M.length)(hp:p<(M.getD j []).length):w.cell? ⟨R j,p,none⟩=some (.bool ((M.getD j []).getD p false)):=by
 rw[(h.row j hj).cellAt p (by omega)]
 unfold cellsO;rw[zp,zz,zz];rw[zz]at hp;rw[zk hp]
 rfl
def takeE(M:List (List Bool))(a p:Int):Int:=
 if a<0∨(M.length:Int)≤a then 84 else if p<0∨((M.getD a.toNat []).length:Int)≤p then 85 else if(M.getD a.toNat []).getD p.toNat false=true then 86 else 0
def zbf(M:List (List Bool))(a p:Int):List (List Bool):=if takeE M a p=0 then M.set a.toNat ((M.getD a.toNat []).set p.toNat true)else M
theorem zdQ{M:List (List Bool)}{a:Nat}(ha:a<M.length)(r:List Bool):(M.set a r).getD a []=r:=by
 rw[zz,zaJ,if_pos rfl,if_pos ha];rfl
theorem zdn{M:List (List Bool)}{a j:Nat}(h:a≠j)(r:List Bool):(M.set a r).getD j []=M.getD j []:=by
 rw[zz,zaJ,if_neg h,←zz]
theorem zdP.store{w:World}{B g c:Nat}{R:Nat→Nat}{M:List (List Bool)}(h:zdP w B g c R M){a p:Nat}(ha:a<M.length):zdP (w.setCell ⟨R a,p,none⟩ (.bool true)) B g c R (M.set a ((M.getD a []).set p true)):=by
 have hO:=zbl w ⟨R a,p,none⟩ (.bool true);have hne:g≠R a:=fun hc=>by
  obtain⟨cs,h1⟩:=own_block h.hdr (b:=g) rfl;obtain⟨cs',h2⟩:=own_block (h.row a ha) (b:=R a) rfl;rw[←hc]at h2;exact absurd (zaP h1 h2) (by decide)
 refine⟨?_,fun j hj=>?_,fun j j' hj hj'=>h.inj j j' (by simpa using hj) (by simpa using hj')⟩
 ·have h1:=zae h.hdr hO fun b hb=>by injection hb with hb;rw[←hb];exact hne
  rw[zaR];have e:(fun j=>Value.slice (some ⟨R j,0,none⟩) ((M.set a ((M.getD a []).set p true)).getD j []).length ((M.set a ((M.getD a []).set p true)).getD j []).length)=fun j=>Value.slice (some ⟨R j,0,none⟩) (M.getD j []).length (M.getD j []).length:=by
   funext j
   by_cases hj:a=j
   ·subst hj;rw[zdQ ha,zaR]
   ·rw[zdn hj]
  rw[e];exact h1
 ·rw[zaR]at hj;by_cases hja:a=j
  ·subst hja;rw[zdQ ha,zaR,←zkS];exact((h.row a ha).stored p (.bool true)).1
  ·rw[zdn hja];exact zae (h.row j hj) hO fun b hb=>by injection hb with hb;rw[←hb];exact fun hc=>hja (h.inj a j ha hj hc.symm)
theorem zmg(B g c:Nat)(R:Nat→Nat)(M:List (List Bool))(a p:Int)(w:World)(hM:zdP w B g c R M):
  Calls Tryz.prog 89 #[.slice (some ⟨g,0,none⟩) M.length c, .int .i64 a, .int .i64 p] w fun e w'=>e= .returned (.int .i64 (takeE M a p))∧(w'=if takeE M a p=0 then w.setCell ⟨R a.toNat,p.toNat,none⟩ (.bool true)else w):=by
 by_cases ha:a<0
 ·have hE:takeE M a p=84:=by unfold takeE;rw[if_pos (.inl ha)]
  rw[hE];clear hE
  go_enter Tryz.func89, Tryz.ntmps89
  go_wp2_with fail
  go_ret;exact⟨rfl,rfl⟩
 obtain⟨i,rfl⟩:∃i:Nat,a=i:=⟨a.toNat,by omega⟩
 by_cases hi:i<M.length
 ·have hch:=hM.cellH hi;have hi1:(0:Int)≤(i:Int):=by omega
  have hi2:(i:Int)<(M.length:Int):=by omega
  by_cases hp:p<0
  ·have hE:takeE M i p=85:=by unfold takeE;rw[if_neg (by omega),if_pos (.inl hp)]
   rw[hE];clear hE ha
   go_enter Tryz.func89, Tryz.ntmps89
   go_wp2_with fail
   go_ret;exact⟨rfl,rfl⟩
  obtain⟨q,rfl⟩:∃q:Nat,p=q:=⟨p.toNat,by omega⟩
  by_cases hq:q<(M.getD i []).length
  ·have hcr:=hM.cellR hi hq;have hfr:=(hM.row i hi).frozenAt q;have hE:takeE M i q=if(M.getD i []).getD q false=true then 86 else 0:=by unfold takeE;rw[if_neg (by omega),zE,if_neg (by omega),zE]
   rw[hE,zE,zE];have hq1:(0:Int)≤(q:Int):=by omega
   have hq2:(q:Int)<((M.getD i []).length:Int):=by omega
   clear hE ha hp;generalize (M.getD i []).getD q false=b at*;generalize (M.getD i []).length=L at*;generalize M.length=N at*;cases b with
   |true=>
    go_enter Tryz.func89, Tryz.ntmps89
    go_wp2_with fail
    go_ret;exact⟨rfl,rfl⟩
   |false=>
    go_enter Tryz.func89, Tryz.ntmps89
    go_wp2_with fail
    go_ret;exact⟨rfl,rfl⟩
  ·have hE:takeE M i q=85:=by unfold takeE;rw[if_neg (by omega),zE,if_pos (.inr (by omega))]
   rw[hE];have hq3:decide ((M.getD i []).length≤q)=true:=decide_eq_true (by omega)
   clear hE ha hp hq;generalize (M.getD i []).length=L at*;generalize M.length=N at*
   go_enter Tryz.func89, Tryz.ntmps89
   go_wp2_with fail
   go_ret;exact⟨rfl,rfl⟩
 ·have hE:takeE M i p=84:=by unfold takeE;rw[if_pos (.inr (by omega))]
  rw[hE];have hq3:decide (M.length≤i)=true:=decide_eq_true (by omega)
  clear hE ha hi;generalize M.length=N at*
  go_enter Tryz.func89, Tryz.ntmps89
  go_wp2_with fail
  go_ret;exact⟨rfl,rfl⟩
theorem zde(M:List (List Bool))(a p:Int):(zbf M a p).length=M.length:=by
 unfold zbf;split
 ·rw[zaR]
 ·rfl
theorem zdX{M:List (List Bool)}{a p:Int}(h:takeE M a p=0):0≤a∧a<M.length∧0≤p∧p<(M.getD a.toNat []).length∧(M.getD a.toNat []).getD p.toNat false=false:=by
 unfold takeE at h;split at h
 ·cases h
 ·split at h
  ·cases h
  ·split at h
   ·cases h
   ·rename_i h1 h2 h3
    refine⟨by omega,by omega,by omega,by omega,?_⟩
    cases hb:(M.getD a.toNat []).getD p.toNat false with
    |true=>exact absurd hb h3
    |false=>rfl
def rowsX(R:Nat→Nat)(n:Nat):Nat→Prop:=fun k=>∃j,j<n∧k=R j
theorem znF(B g c:Nat)(R:Nat→Nat)(M:List (List Bool))(a p:Int)(w:World)(hM:zdP w B g c R M):
  Calls Tryz.prog 89 #[.slice (some ⟨g,0,none⟩) M.length c, .int .i64 a, .int .i64 p] w fun e w'=>e= .returned (.int .i64 (takeE M a p))∧zdP w' B g c R (zbf M a p)∧Only (rowsX R M.length) w w':=by
 refine(zmg B g c R M a p w hM).mono ?_;rintro e w' ⟨rfl,rfl⟩;refine⟨rfl,?_,?_⟩
 ·unfold zbf;split
  ·rename_i h
   obtain⟨h1,h2,h3,h4,-⟩:=zdX h;exact hM.store (p:=p.toNat) (by omega)
  ·exact hM
 ·split
  ·rename_i h
   obtain⟨h1,h2,h3,h4,-⟩:=zdX h;exact(zbl w ⟨R a.toNat,p.toNat,none⟩ (.bool true)).mono fun k _ hk=>⟨a.toNat,by omega,hk⟩
  ·exact Only.refl _ w
end Go.Proofs.YtpmlljbebdidgaaGreatDoor
