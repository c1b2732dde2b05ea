/- Lemmas and walks for the claim: Dq, Dr, Ds. -/
import Derived.Test.YtpmlljbebdidgaaGreatDoorA0
import Derived.Test.YtpmlljbebdidgaaGreatDoorA17
set_option linter.unusedSimpArgs false
set_option maxRecDepth 100000
set_option maxHeartbeats 1000000
namespace Go.Proofs.YtpmlljbebdidgaaGreatDoor
open Go.RowKit Go.ChangeShapes
theorem zbu.only{X:Nat→Prop}{w w':World}{z:Nat}{gv:Value}{rows:List RowV}(h:zbu w z gv rows)(ho:Only X w w')(hX:∀q,z≤q→¬X q):zbu w' z gv rows:=
 ⟨zae h.row ho fun q hq=>hX q (own_ge h.row hq),fun r hr=>{(h.ok r hr)with rd:=(Rd.only (h.ok r hr).rd ho lR_ fun q hq=>hX q (h.far r hr q hq)).more ho.size},h.far,h.ap⟩
theorem KdV.ty_ne(κ:KdV):κ.ty≠ 187 :=by cases κ<;>(unfold KdV.ty;simp only;decide)
def zfs(w:World)(bk:Nat)(κ:KdV)(rin rout:List Int)(Ai:Option Addr)(ci:Nat)(Ao:Option Addr)(co:Nat)(n:Int)(e:Ending)(w':World):Prop:=
 ∃gv ec,e= .returned (.tuple #[gv, .int .i64 ec])∧∃z,w.heap.size≤z∧(∃(κ':KdV) (n':Int),κ'.pt=κ.pt∧(n≤n'∧n'≤n+1)∧KdM w' bk κ' rin rout Ai ci Ao co n'∧∀q,κ'.fix q→q<z∧(κ.fix q∨w.heap.size≤q))∧Only (fun q=>q=bk) w w'∧
  (ec=0∨ec=70)∧(ec=0→∃outs:List RowV,zbu w' z gv outs∧outs.map (fun r=>(r.xs.length:Int))=rout)
theorem zlL(bb bk:Nat)(κ:KdV)(rin rout:List Int)(Ai:Option Addr)(ci:Nat)(Ao:Option Addr)(co:Nat)(n:Int)(w:World)(kb:Blk w bb 187 #[.iface κ.pt (.pointer (some ⟨bk,0,none⟩))])(h:KdM w bk κ rin rout Ai ci Ao co n)(hn:0≤n∧n≤4611686018427387904)(H:Option Addr)(rows:List RowV)(ch:Nat)(hI:InM w w.heap.size H rows)(hlen:rows.map (fun r=>(r.xs.length:Int))=rin):
  Calls Tryz.prog 86 #[.pointer (some ⟨bb,0,none⟩), .slice H rows.length ch] w (zfs w bk κ rin rout Ai ci Ao co n):=by
 obtain⟨h1,h2⟩:=KdV.rates_few h.rt;have c0:=kb.cellL 0 rfl;have hm1:=zf8 κ bk;have hm2:=zii κ bk;have hm3:=ziD κ bk;have hc:=zjG κ;have d0:=h.blk.cellL 0 rfl;have d1:=h.blk.cellL 1 rfl;have hml:rows.length=rin.length:=by rw[←hlen,zA]
 have HR:=Lh (zhQ bk Ai rin.length ci Ao rout.length co rin rout w d0 d1 h.blk.lt h.ri h.ro rfl rfl (by omega) (by omega))
 have Hlen:=Lh hlen;have Hml:=Lh hml;have HK:=Lh h;have HI:=Lh hI;have HKB:=Lh kb;have hfew:rin.length≤16:=h1.1;rw[hml];obtain⟨li,hli⟩:∃l,rin.length=l:=⟨_,rfl⟩;obtain⟨lo,hlo⟩:∃l,rout.length=l:=⟨_,rfl⟩;rw[hli,hlo]at HR;rw[hli]at Hml hfew⊢;have Hli:=Lh hli;obtain⟨pt,hpt⟩:∃p,κ.pt=p:=⟨_,rfl⟩;obtain⟨fn,hfn⟩:∃p,κ.fn=p:=⟨_,rfl⟩;rw[hpt]at hm1 hm2 hm3 c0;rw[hfn]at hc hm2;have Hpt:=Lh hpt;have Hfn:=Lh hfn;clear kb h d0 d1 h1 h2 hlen hml hI hli hlo hpt hfn
 go_enter Tryz.func86, Tryz.ntmps86
 go_wp2_with fail;refine HR.out.mono ?_
 rintro e w2 ⟨A,c,A',c',rfl,o1,-,hb⟩;have hnn:((li:Int) !=(li:Int))=false:=by simp
 have HO1:=Lh o1;have HB:=Lh hb;clear o1 hb c0
 go_wp2_with fail
 go_loopw [29] (fun i wr=>∃k:Nat,k≤li∧i= .int .i64 k∧Drawn w2 wr) (fun i _=>li-(intOf i).toNat)
 case atStart=>exact⟨0,by omega,rfl,Drawn.refl _⟩
 case round=>
  obtain⟨k,hk,rfl,hd⟩:=hrel;by_cases hlt:k<li
  ·have hI2:=(HI.out.below (HB.out.trans (hd.below w.heap.size)) lR_);obtain⟨b1,o1,r,rfl,-,hr,c1,-⟩:=hI2.at_ (i:=k) (by rw[Hml.out];exact hlt)
   have ho:=own_below HO1.out (hd.below w2.heap.size);have hrk:rin[k]?=some (r.xs.length:Int):=by rw[←Hlen.out,zp,hr];rfl
   obtain⟨g,rfl⟩:=zbi ho (by omega)
   have c2:wr.cell? ⟨g,k,none⟩=some (.int .i64 (r.xs.length:Int)):=by
    rcases rd_of_own ho with h|⟨b,off,hA,_,hc⟩
    ·have:=congrArg List.length h
     rw[cellsI_length,Hli.out,zaD]at this;omega
    ·injection hA with hA
     injection hA with e1 e2 _
     subst e1 e2
     have:=hc k (.int .i64 (r.xs.length:Int)) (by simp[cellsI,hrk])
     rwa [zaq]at this
   have h3:(0:Int)≤(k:Int):=by omega
   have h4:(k:Int)<(li:Int):=by omega
   generalize r.xs.length=l at*;have hll:((l:Int) !=(l:Int))=false:=by simp
   have HD:=Lh hd;clear hI2 hr ho hrk hd
   go_wp2_with fail
   go_roundw
   case rel=>exact⟨k+1,by omega,by go_num,HD.out⟩
   case measure=>simp[intOf];omega
  ·obtain rfl:k=li:=by omega
   have hbw:=HB.out.trans (hd.below w.heap.size);have hz:=hbw.size;have K2:=HK.out.below hbw;have c0:=(HKB.out.below hbw HKB.out.lt).cellL 0 rfl;rw[Hpt.out]at c0;have HC:=Lh (zkz κ bk rin rout Ai ci Ao co n wr K2 H rows ch ((HI.out.below hbw lR_).more hz) Hlen.out);rw[Hfn.out,Hml.out]at HC;have HBw:=Lh hbw;have Hz:=Lh hz;clear hd hbw hz K2
   go_wp2_with fail;refine HC.out.mono ?_
   rintro e w3 ⟨gv,ok,rfl,z,hzz,⟨κ',hpt',-,hty,K3,hfix⟩,hO,hg⟩;have hne:bb≠bk:=fun hc=>by
    have h1:=HKB.out;rw[hc]at h1;exact κ.ty_ne (zaP HK.out.blk h1)
   have kb3:=((HKB.out.below HBw.out HKB.out.lt).only hO hne);have hbk:=HK.out.blk.lt;have O3:Only (fun q=>q=bk) w w3:=(Only.of_below HBw.out).trans hO
   have HK3:=Lh K3;have HO3:=Lh O3;have HFX:Hid (∀q,κ'.fix q→q<z∧(κ.fix q∨w.heap.size≤q)):=fun q hq=>⟨(hfix q hq).1,(hfix q hq).2.imp id fun h=>zy Hz.out h⟩
   have Hzz:Hid (w.heap.size≤z):=zy Hz.out hzz
   have Hpt':=Lh hpt';have Hg:=Lh hg;clear hpt' hO hg hfix O3 hzz;cases ok with
   |false=>
    clear kb3 K3 hty c0
    go_wp2_with fail
    go_ret2;exact⟨_,70,rfl,z,Hzz.out,⟨κ',n,Hpt'.out,by omega,HK3.out,HFX.out⟩,HO3.out, .inr rfl,fun h=>(by cases h)⟩
   |true=>
    have c0:=kb3.cellL 0 rfl;rw[Hpt.out]at c0;have d2:=K3.blk.cellL 2 rfl;have f2:=K3.blk.frozen 2;have HF:=Lh (zkA bk n w3 d2 f2 hn);have k4:=K3.blk.set 2 (.int .i64 (n+1));simp only[zc,ze,zd]at k4;have O4:Only (fun q=>q=bk) w3 (w3.setCell ⟨bk,2,none⟩ (.int .i64 (n+1))):=(Only.refl _ _).setCell _ _ fun _=>rfl
    have K4:KdM (w3.setCell ⟨bk,2,none⟩ (.int .i64 (n+1))) bk κ' rin rout Ai ci Ao co (n+1):=
     ⟨k4,(Rd.only K3.ri O4 lR_ fun q hq=>K3.ap q (.inl hq)).more O4.size,(Rd.only K3.ro O4 lR_ fun q hq=>K3.ap q (.inr (.inl hq))).more O4.size,K3.rt,K3.ex.only O4 fun q hq=>K3.ap q (.inr (.inr hq)),K3.ap⟩
    obtain⟨outs,G,hout⟩:=Hg.out rfl;have G4:=G.only O4 fun q hq he=>by have:=Hzz.out;omega
    have HK4:=Lh K4;have HO4:=Lh (HO3.out.trans O4);have HG4:=Lh G4;have Hout:=Lh hout;clear kb3 K3 hty d2 f2 k4 O4 K4 G hout G4 HO3 HK3 Hg
    go_wp2_with fail;refine HF.out.mono ?_
    rintro e w5 ⟨rfl,rfl⟩
    go_wp2_with fail
    go_ret2;exact⟨_,0,rfl,z,Hzz.out,⟨κ',n+1,Hpt'.out,by omega,HK4.out,HFX.out⟩,HO4.out, .inl rfl,fun _=>⟨outs,HG4.out,Hout.out⟩⟩
theorem zeH{n m:Int}:withinB n m=true↔1≤n∧n≤m:=by unfold withinB;simp
theorem zeX{n m:Int}(h:withinB n m=true):∃k:Nat,n=k∧1≤k∧(k:Int)≤m:=⟨n.toNat,by have:=zeH.1 h;omega,by have:=zeH.1 h;omega,by have:=zeH.1 h;omega⟩
theorem zb4{tag:Int}{ps I O:List Int}(h:shapeR tag ps=(I,O,0))(k:Int)(hk:tag=k)(h1:1≤k∧k≤11):zZ k ps.length (ps[0]?.getD 0) (ps[1]?.getD 0) (decide (ps.length=1)) (pairB ps.length (ps[0]?.getD 0) (ps[1]?.getD 0))=(I,O,0):=by
 subst hk;unfold shapeR at h;rw[if_neg (by omega)]at h
 exact h
theorem ziE{l:Nat}{n m:Int}{s p:Bool}{I O:List Int}(h:zZ 1 l n m s p=(I,O,0)):I=[1]∧O=[1]∧1≤l∧l≤16:=by
 unfold zZ at h;simp at h;split at h
 ·rename_i hw
  have:=zeH.1 hw
  simp at h
  exact⟨h.1.symm,h.2.symm,by omega,by omega⟩
 ·simp at h
theorem zng{l:Nat}{n m:Int}{s p:Bool}{I O:List Int}(h:zZ 2 l n m s p=(I,O,0)):KdV.rates .up I O:=by
 unfold zZ at h;simp at h;split at h
 ·rename_i hw
  obtain⟨k,rfl,h1,h2⟩:=zeX hw.2;simp at h;exact⟨h.1.symm,k,by omega,h.2.symm⟩
 ·simp at h
theorem zkC{l:Nat}{n m:Int}{s p:Bool}{I O:List Int}(h:zZ 3 l n m s p=(I,O,0)):KdV.rates .down I O:=by
 unfold zZ at h;simp at h;split at h
 ·rename_i hw
  obtain⟨k,rfl,h1,h2⟩:=zeX hw.2;simp at h;exact⟨h.2.symm,k,by omega,h.1.symm⟩
 ·simp at h
theorem zgZ{l:Nat}{n m:Int}(h:pairB l n m=true):∃a b:Nat,n=a∧m=b∧(1≤a∧a≤16)∧(1≤b∧b≤64)∧a*b≤64:=by
 unfold pairB at h;simp only[zag,decide_eq_true_eq]at h;obtain⟨-,h1,h2,h3⟩:=h;obtain⟨a,rfl,a1,a2⟩:=zeX h1;obtain⟨b,rfl,b1,b2⟩:=zeX h2;refine⟨a,b,rfl,rfl,by omega,by omega,?_⟩
 rw[←zax]at h3;omega
theorem zjH{l:Nat}{n m:Int}{s:Bool}{I O:List Int}(h:zZ 4 l n m s (pairB l n m)=(I,O,0)):KdV.rates .weave I O:=by
 unfold zZ at h;simp at h;split at h
 ·rename_i hw
  obtain⟨a,b,rfl,rfl,h1,h2,h3⟩:=zgZ hw;simp at h;exact⟨a,b,h1,h2,h3,h.1.symm,by rw[←h.2,zax]⟩
 ·simp at h
theorem zij{l:Nat}{n m:Int}{s:Bool}{I O:List Int}(h:zZ 5 l n m s (pairB l n m)=(I,O,0)):KdV.rates .unweave I O:=by
 unfold zZ at h;simp at h;split at h
 ·rename_i hw
  obtain⟨a,b,rfl,rfl,h1,h2,h3⟩:=zgZ hw;simp at h;exact⟨a,b,h1,h2,h3,by rw[←h.1,zax],h.2.symm⟩
 ·simp at h
theorem zlM{l:Nat}{n m:Int}{s p:Bool}{I O:List Int}(h:zZ 6 l n m s p=(I,O,0)):KdV.rates .add I O:=by
 unfold zZ at h;simp at h;split at h
 ·rename_i hw
  obtain⟨k,rfl,h1,h2⟩:=zeX hw.2;simp at h;exact⟨h.2.symm,k,by omega,h.1.symm⟩
 ·simp at h
theorem zkD{l:Nat}{n m:Int}{s p:Bool}{I O:List Int}(h:zZ 7 l n m s p=(I,O,0)):KdV.rates .quot I O:=by
 unfold zZ at h;simp at h;split at h
 ·simp at h
  exact⟨h.1.symm,h.2.symm⟩
 ·simp at h
theorem zlN{l:Nat}{n m:Int}{s p:Bool}{I O:List Int}(h:zZ 8 l n m s p=(I,O,0)):I=[1]∧O=[1]:=by
 unfold zZ at h;simp at h;split at h
 ·simp at h
  exact⟨h.1.symm,h.2.symm⟩
 ·simp at h
theorem ziF{l:Nat}{n m:Int}{s p:Bool}{I O:List Int}(h:zZ 9 l n m s p=(I,O,0)):KdV.rates .copies I O:=by
 unfold zZ at h;simp at h;split at h
 ·rename_i hw
  obtain⟨k,rfl,h1,h2⟩:=zeX hw.2;simp at h;exact⟨h.1.symm,k,by omega,h.2.symm⟩
 ·simp at h
theorem zkE{l:Nat}{n m:Int}{s p:Bool}{I O:List Int}(h:zZ 10 l n m s p=(I,O,0)):I=[]∧O=[1]∧l=2:=by
 unfold zZ at h;simp at h;split at h
 ·rename_i hw
  simp at h
  exact⟨h.1,h.2.symm,hw⟩
 ·simp at h
theorem shape_drop{l:Nat}{n m:Int}{s p:Bool}{I O:List Int}(h:zZ 11 l n m s p=(I,O,0)):KdV.rates .drop I O:=by
 unfold zZ at h;simp at h;split at h
 ·rename_i hw
  obtain⟨k,rfl,h1,h2⟩:=zeX hw.2;simp at h;exact⟨h.2,k,by omega,h.1.symm⟩
 ·simp at h
def zb3(w:World)(I O:List Int)(Ai:Option Addr)(ci:Nat)(Ao:Option Addr)(co:Nat)(e:Ending)(w':World):Prop:=
 ∃(κ:KdV) (bk:Nat),e= .returned (.iface κ.pt (.pointer (some ⟨bk,0,none⟩)))∧KdM w' bk κ I O Ai ci Ao co 0∧Below w.heap.size w w'∧w.heap.size≤bk∧∀q,κ.fix q→w.heap.size≤q
theorem make_up(I O:List Int)(Ai:Option Addr)(ci:Nat)(Ao:Option Addr)(co:Nat)(pv:Value)(w:World)(ri:Rd w w.heap.size Ai (cellsI I))(ro:Rd w w.heap.size Ao (cellsI O))(ai:∀q,blkOf Ai=some q→q<w.heap.size)(ao:∀q,blkOf Ao=some q→q<w.heap.size)(hrt:KdV.rates .up I O):
  Calls Tryz.prog 83 #[.int .u8 2, .agg #[.slice Ai I.length ci, .slice Ao O.length co, .int .i64 0],pv] w (zb3 w I O Ai ci Ao co):=by
 have b1:=bA_ w (.cells #[.slice Ai I.length ci, .slice Ao O.length co, .int .i64 0] 185);have k1:=bN_ b1;have z1:(w.alloc (.cells #[.slice Ai I.length ci, .slice Ao O.length co, .int .i64 0] 185)).heap.size=w.heap.size+1:=by simp
 have b2:=(zm _ (w.alloc (.cells #[.slice Ai I.length ci, .slice Ao O.length co, .int .i64 0] 185))).alloc lR_ (.cells #[.slice Ai I.length ci, .slice Ao O.length co, .int .i64 0] 205);have k2:=Blk.new (w.alloc (.cells #[.slice Ai I.length ci, .slice Ao O.length co, .int .i64 0] 185)) _ rfl 205 #[.slice Ai I.length ci, .slice Ao O.length co, .int .i64 0];have c0:=k1.cellL 0 rfl;have c1:=k1.cellL 1 rfl;have c2:=k1.cellL 2 rfl;have b12:=b1.trans (b2.mono (by omega))
 have K:KdM ((w.alloc (.cells #[.slice Ai I.length ci, .slice Ao O.length co, .int .i64 0] 185)).alloc (.cells #[.slice Ai I.length ci, .slice Ao O.length co, .int .i64 0] 205)) (w.heap.size+1) .up I O Ai ci Ao co 0:=by
  rw[z1]at k2;refine⟨k2,(ri.below b12 lR_).more b12.size,(ro.below b12 lR_).more b12.size,hrt,trivial,fun q hq=>?_⟩
  rcases hq with hq|hq|hq
  ·have:=ai q hq;omega
  ·have:=ao q hq;omega
  ·exact hq.elim
 have HK:=Lh K;have HB:=Lh b12;generalize I.length=li at*;generalize O.length=lo at*;clear b1 k1 b2 k2 b12 K z1
 go_enter Tryz.func83, Tryz.ntmps83
 go_wp2_with fail
 go_ret;exact⟨.up,w.heap.size+1,rfl,HK.out,HB.out,by omega,fun q hq=>hq.elim⟩
theorem zlO(I O:List Int)(Ai:Option Addr)(ci:Nat)(Ao:Option Addr)(co:Nat)(pv:Value)(w:World)(ri:Rd w w.heap.size Ai (cellsI I))(ro:Rd w w.heap.size Ao (cellsI O))(ai:∀q,blkOf Ai=some q→q<w.heap.size)(ao:∀q,blkOf Ao=some q→q<w.heap.size)(hrt:KdV.rates .down I O):
  Calls Tryz.prog 83 #[.int .u8 3, .agg #[.slice Ai I.length ci, .slice Ao O.length co, .int .i64 0],pv] w (zb3 w I O Ai ci Ao co):=by
 have b1:=bA_ w (.cells #[.slice Ai I.length ci, .slice Ao O.length co, .int .i64 0] 185);have k1:=bN_ b1;have z1:(w.alloc (.cells #[.slice Ai I.length ci, .slice Ao O.length co, .int .i64 0] 185)).heap.size=w.heap.size+1:=by simp
 have b2:=(zm _ (w.alloc (.cells #[.slice Ai I.length ci, .slice Ao O.length co, .int .i64 0] 185))).alloc lR_ (.cells #[.slice Ai I.length ci, .slice Ao O.length co, .int .i64 0] 207);have k2:=Blk.new (w.alloc (.cells #[.slice Ai I.length ci, .slice Ao O.length co, .int .i64 0] 185)) _ rfl 207 #[.slice Ai I.length ci, .slice Ao O.length co, .int .i64 0];have c0:=k1.cellL 0 rfl;have c1:=k1.cellL 1 rfl;have c2:=k1.cellL 2 rfl;have b12:=b1.trans (b2.mono (by omega))
 have K:KdM ((w.alloc (.cells #[.slice Ai I.length ci, .slice Ao O.length co, .int .i64 0] 185)).alloc (.cells #[.slice Ai I.length ci, .slice Ao O.length co, .int .i64 0] 207)) (w.heap.size+1) .down I O Ai ci Ao co 0:=by
  rw[z1]at k2;refine⟨k2,(ri.below b12 lR_).more b12.size,(ro.below b12 lR_).more b12.size,hrt,trivial,fun q hq=>?_⟩
  rcases hq with hq|hq|hq
  ·have:=ai q hq;omega
  ·have:=ao q hq;omega
  ·exact hq.elim
 have HK:=Lh K;have HB:=Lh b12;generalize I.length=li at*;generalize O.length=lo at*;clear b1 k1 b2 k2 b12 K z1
 go_enter Tryz.func83, Tryz.ntmps83
 go_wp2_with fail
 go_ret;exact⟨.down,w.heap.size+1,rfl,HK.out,HB.out,by omega,fun q hq=>hq.elim⟩
theorem zkF(I O:List Int)(Ai:Option Addr)(ci:Nat)(Ao:Option Addr)(co:Nat)(pv:Value)(w:World)(ri:Rd w w.heap.size Ai (cellsI I))(ro:Rd w w.heap.size Ao (cellsI O))(ai:∀q,blkOf Ai=some q→q<w.heap.size)(ao:∀q,blkOf Ao=some q→q<w.heap.size)(hrt:KdV.rates .weave I O):
  Calls Tryz.prog 83 #[.int .u8 4, .agg #[.slice Ai I.length ci, .slice Ao O.length co, .int .i64 0],pv] w (zb3 w I O Ai ci Ao co):=by
 have b1:=bA_ w (.cells #[.slice Ai I.length ci, .slice Ao O.length co, .int .i64 0] 185);have k1:=bN_ b1;have z1:(w.alloc (.cells #[.slice Ai I.length ci, .slice Ao O.length co, .int .i64 0] 185)).heap.size=w.heap.size+1:=by simp
 have b2:=(zm _ (w.alloc (.cells #[.slice Ai I.length ci, .slice Ao O.length co, .int .i64 0] 185))).alloc lR_ (.cells #[.slice Ai I.length ci, .slice Ao O.length co, .int .i64 0] 209);have k2:=Blk.new (w.alloc (.cells #[.slice Ai I.length ci, .slice Ao O.length co, .int .i64 0] 185)) _ rfl 209 #[.slice Ai I.length ci, .slice Ao O.length co, .int .i64 0];have c0:=k1.cellL 0 rfl;have c1:=k1.cellL 1 rfl;have c2:=k1.cellL 2 rfl;have b12:=b1.trans (b2.mono (by omega))
 have K:KdM ((w.alloc (.cells #[.slice Ai I.length ci, .slice Ao O.length co, .int .i64 0] 185)).alloc (.cells #[.slice Ai I.length ci, .slice Ao O.length co, .int .i64 0] 209)) (w.heap.size+1) .weave I O Ai ci Ao co 0:=by
  rw[z1]at k2;refine⟨k2,(ri.below b12 lR_).more b12.size,(ro.below b12 lR_).more b12.size,hrt,trivial,fun q hq=>?_⟩
  rcases hq with hq|hq|hq
  ·have:=ai q hq;omega
  ·have:=ao q hq;omega
  ·exact hq.elim
 have HK:=Lh K;have HB:=Lh b12;generalize I.length=li at*;generalize O.length=lo at*;clear b1 k1 b2 k2 b12 K z1
 go_enter Tryz.func83, Tryz.ntmps83
 go_wp2_with fail
 go_ret;exact⟨.weave,w.heap.size+1,rfl,HK.out,HB.out,by omega,fun q hq=>hq.elim⟩
theorem ziG(I O:List Int)(Ai:Option Addr)(ci:Nat)(Ao:Option Addr)(co:Nat)(pv:Value)(w:World)(ri:Rd w w.heap.size Ai (cellsI I))(ro:Rd w w.heap.size Ao (cellsI O))(ai:∀q,blkOf Ai=some q→q<w.heap.size)(ao:∀q,blkOf Ao=some q→q<w.heap.size)(hrt:KdV.rates .unweave I O):
  Calls Tryz.prog 83 #[.int .u8 5, .agg #[.slice Ai I.length ci, .slice Ao O.length co, .int .i64 0],pv] w (zb3 w I O Ai ci Ao co):=by
 have b1:=bA_ w (.cells #[.slice Ai I.length ci, .slice Ao O.length co, .int .i64 0] 185);have k1:=bN_ b1;have z1:(w.alloc (.cells #[.slice Ai I.length ci, .slice Ao O.length co, .int .i64 0] 185)).heap.size=w.heap.size+1:=by simp
 have b2:=(zm _ (w.alloc (.cells #[.slice Ai I.length ci, .slice Ao O.length co, .int .i64 0] 185))).alloc lR_ (.cells #[.slice Ai I.length ci, .slice Ao O.length co, .int .i64 0] 211);have k2:=Blk.new (w.alloc (.cells #[.slice Ai I.length ci, .slice Ao O.length co, .int .i64 0] 185)) _ rfl 211 #[.slice Ai I.length ci, .slice Ao O.length co, .int .i64 0];have c0:=k1.cellL 0 rfl;have c1:=k1.cellL 1 rfl;have c2:=k1.cellL 2 rfl;have b12:=b1.trans (b2.mono (by omega))
 have K:KdM ((w.alloc (.cells #[.slice Ai I.length ci, .slice Ao O.length co, .int .i64 0] 185)).alloc (.cells #[.slice Ai I.length ci, .slice Ao O.length co, .int .i64 0] 211)) (w.heap.size+1) .unweave I O Ai ci Ao co 0:=by
  rw[z1]at k2;refine⟨k2,(ri.below b12 lR_).more b12.size,(ro.below b12 lR_).more b12.size,hrt,trivial,fun q hq=>?_⟩
  rcases hq with hq|hq|hq
  ·have:=ai q hq;omega
  ·have:=ao q hq;omega
  ·exact hq.elim
 have HK:=Lh K;have HB:=Lh b12;generalize I.length=li at*;generalize O.length=lo at*;clear b1 k1 b2 k2 b12 K z1
 go_enter Tryz.func83, Tryz.ntmps83
 go_wp2_with fail
 go_ret;exact⟨.unweave,w.heap.size+1,rfl,HK.out,HB.out,by omega,fun q hq=>hq.elim⟩
theorem znh(I O:List Int)(Ai:Option Addr)(ci:Nat)(Ao:Option Addr)(co:Nat)(pv:Value)(w:World)(ri:Rd w w.heap.size Ai (cellsI I))(ro:Rd w w.heap.size Ao (cellsI O))(ai:∀q,blkOf Ai=some q→q<w.heap.size)(ao:∀q,blkOf Ao=some q→q<w.heap.size)(hrt:KdV.rates .add I O):
  Calls Tryz.prog 83 #[.int .u8 6, .agg #[.slice Ai I.length ci, .slice Ao O.length co, .int .i64 0],pv] w (zb3 w I O Ai ci Ao co):=by
 have b1:=bA_ w (.cells #[.slice Ai I.length ci, .slice Ao O.length co, .int .i64 0] 185);have k1:=bN_ b1;have z1:(w.alloc (.cells #[.slice Ai I.length ci, .slice Ao O.length co, .int .i64 0] 185)).heap.size=w.heap.size+1:=by simp
 have b2:=(zm _ (w.alloc (.cells #[.slice Ai I.length ci, .slice Ao O.length co, .int .i64 0] 185))).alloc lR_ (.cells #[.slice Ai I.length ci, .slice Ao O.length co, .int .i64 0] 213);have k2:=Blk.new (w.alloc (.cells #[.slice Ai I.length ci, .slice Ao O.length co, .int .i64 0] 185)) _ rfl 213 #[.slice Ai I.length ci, .slice Ao O.length co, .int .i64 0];have c0:=k1.cellL 0 rfl;have c1:=k1.cellL 1 rfl;have c2:=k1.cellL 2 rfl;have b12:=b1.trans (b2.mono (by omega))
 have K:KdM ((w.alloc (.cells #[.slice Ai I.length ci, .slice Ao O.length co, .int .i64 0] 185)).alloc (.cells #[.slice Ai I.length ci, .slice Ao O.length co, .int .i64 0] 213)) (w.heap.size+1) .add I O Ai ci Ao co 0:=by
  rw[z1]at k2;refine⟨k2,(ri.below b12 lR_).more b12.size,(ro.below b12 lR_).more b12.size,hrt,trivial,fun q hq=>?_⟩
  rcases hq with hq|hq|hq
  ·have:=ai q hq;omega
  ·have:=ao q hq;omega
  ·exact hq.elim
 have HK:=Lh K;have HB:=Lh b12;generalize I.length=li at*;generalize O.length=lo at*;clear b1 k1 b2 k2 b12 K z1
 go_enter Tryz.func83, Tryz.ntmps83
 go_wp2_with fail
 go_ret;exact⟨.add,w.heap.size+1,rfl,HK.out,HB.out,by omega,fun q hq=>hq.elim⟩
theorem zlP(I O:List Int)(Ai:Option Addr)(ci:Nat)(Ao:Option Addr)(co:Nat)(pv:Value)(w:World)(ri:Rd w w.heap.size Ai (cellsI I))(ro:Rd w w.heap.size Ao (cellsI O))(ai:∀q,blkOf Ai=some q→q<w.heap.size)(ao:∀q,blkOf Ao=some q→q<w.heap.size)(hrt:KdV.rates .quot I O):
  Calls Tryz.prog 83 #[.int .u8 7, .agg #[.slice Ai I.length ci, .slice Ao O.length co, .int .i64 0],pv] w (zb3 w I O Ai ci Ao co):=by
 have b1:=bA_ w (.cells #[.slice Ai I.length ci, .slice Ao O.length co, .int .i64 0] 185);have k1:=bN_ b1;have z1:(w.alloc (.cells #[.slice Ai I.length ci, .slice Ao O.length co, .int .i64 0] 185)).heap.size=w.heap.size+1:=by simp
 have b2:=(zm _ (w.alloc (.cells #[.slice Ai I.length ci, .slice Ao O.length co, .int .i64 0] 185))).alloc lR_ (.cells #[.slice Ai I.length ci, .slice Ao O.length co, .int .i64 0] 215);have k2:=Blk.new (w.alloc (.cells #[.slice Ai I.length ci, .slice Ao O.length co, .int .i64 0] 185)) _ rfl 215 #[.slice Ai I.length ci, .slice Ao O.length co, .int .i64 0];have c0:=k1.cellL 0 rfl;have c1:=k1.cellL 1 rfl;have c2:=k1.cellL 2 rfl;have b12:=b1.trans (b2.mono (by omega))
 have K:KdM ((w.alloc (.cells #[.slice Ai I.length ci, .slice Ao O.length co, .int .i64 0] 185)).alloc (.cells #[.slice Ai I.length ci, .slice Ao O.length co, .int .i64 0] 215)) (w.heap.size+1) .quot I O Ai ci Ao co 0:=by
  rw[z1]at k2;refine⟨k2,(ri.below b12 lR_).more b12.size,(ro.below b12 lR_).more b12.size,hrt,trivial,fun q hq=>?_⟩
  rcases hq with hq|hq|hq
  ·have:=ai q hq;omega
  ·have:=ao q hq;omega
  ·exact hq.elim
 have HK:=Lh K;have HB:=Lh b12;generalize I.length=li at*;generalize O.length=lo at*;clear b1 k1 b2 k2 b12 K z1
 go_enter Tryz.func83, Tryz.ntmps83
 go_wp2_with fail
 go_ret;exact⟨.quot,w.heap.size+1,rfl,HK.out,HB.out,by omega,fun q hq=>hq.elim⟩
theorem zni(I O:List Int)(Ai:Option Addr)(ci:Nat)(Ao:Option Addr)(co:Nat)(pv:Value)(w:World)(ri:Rd w w.heap.size Ai (cellsI I))(ro:Rd w w.heap.size Ao (cellsI O))(ai:∀q,blkOf Ai=some q→q<w.heap.size)(ao:∀q,blkOf Ao=some q→q<w.heap.size)(hrt:KdV.rates (.sum 0) I O):
  Calls Tryz.prog 83 #[.int .u8 8, .agg #[.slice Ai I.length ci, .slice Ao O.length co, .int .i64 0],pv] w (zb3 w I O Ai ci Ao co):=by
 have b1:=bA_ w (.cells #[.slice Ai I.length ci, .slice Ao O.length co, .int .i64 0] 185);have k1:=bN_ b1;have z1:(w.alloc (.cells #[.slice Ai I.length ci, .slice Ao O.length co, .int .i64 0] 185)).heap.size=w.heap.size+1:=by simp
 have b2:=(zm _ (w.alloc (.cells #[.slice Ai I.length ci, .slice Ao O.length co, .int .i64 0] 185))).alloc lR_ (.cells #[.slice Ai I.length ci, .slice Ao O.length co, .int .i64 0, .int .i64 0] 220);have k2:=Blk.new (w.alloc (.cells #[.slice Ai I.length ci, .slice Ao O.length co, .int .i64 0] 185)) _ rfl 220 #[.slice Ai I.length ci, .slice Ao O.length co, .int .i64 0, .int .i64 0];have c0:=k1.cellL 0 rfl;have c1:=k1.cellL 1 rfl;have c2:=k1.cellL 2 rfl;have b12:=b1.trans (b2.mono (by omega))
 have K:KdM ((w.alloc (.cells #[.slice Ai I.length ci, .slice Ao O.length co, .int .i64 0] 185)).alloc (.cells #[.slice Ai I.length ci, .slice Ao O.length co, .int .i64 0, .int .i64 0] 220)) (w.heap.size+1) (.sum 0) I O Ai ci Ao co 0:=by
  rw[z1]at k2;refine⟨k2,(ri.below b12 lR_).more b12.size,(ro.below b12 lR_).more b12.size,hrt,by show fits 0;unfold fits;omega,fun q hq=>?_⟩
  rcases hq with hq|hq|hq
  ·have:=ai q hq;omega
  ·have:=ao q hq;omega
  ·exact hq.elim
 have HK:=Lh K;have HB:=Lh b12;generalize I.length=li at*;generalize O.length=lo at*;clear b1 k1 b2 k2 b12 K z1
 go_enter Tryz.func83, Tryz.ntmps83
 go_wp2_with fail
 go_ret;exact⟨(.sum 0),w.heap.size+1,rfl,HK.out,HB.out,by omega,fun q hq=>hq.elim⟩
theorem zjI(I O:List Int)(Ai:Option Addr)(ci:Nat)(Ao:Option Addr)(co:Nat)(pv:Value)(w:World)(ri:Rd w w.heap.size Ai (cellsI I))(ro:Rd w w.heap.size Ao (cellsI O))(ai:∀q,blkOf Ai=some q→q<w.heap.size)(ao:∀q,blkOf Ao=some q→q<w.heap.size)(hrt:KdV.rates .copies I O):
  Calls Tryz.prog 83 #[.int .u8 9, .agg #[.slice Ai I.length ci, .slice Ao O.length co, .int .i64 0],pv] w (zb3 w I O Ai ci Ao co):=by
 have b1:=bA_ w (.cells #[.slice Ai I.length ci, .slice Ao O.length co, .int .i64 0] 185);have k1:=bN_ b1;have z1:(w.alloc (.cells #[.slice Ai I.length ci, .slice Ao O.length co, .int .i64 0] 185)).heap.size=w.heap.size+1:=by simp
 have b2:=(zm _ (w.alloc (.cells #[.slice Ai I.length ci, .slice Ao O.length co, .int .i64 0] 185))).alloc lR_ (.cells #[.slice Ai I.length ci, .slice Ao O.length co, .int .i64 0] 222);have k2:=Blk.new (w.alloc (.cells #[.slice Ai I.length ci, .slice Ao O.length co, .int .i64 0] 185)) _ rfl 222 #[.slice Ai I.length ci, .slice Ao O.length co, .int .i64 0];have c0:=k1.cellL 0 rfl;have c1:=k1.cellL 1 rfl;have c2:=k1.cellL 2 rfl;have b12:=b1.trans (b2.mono (by omega))
 have K:KdM ((w.alloc (.cells #[.slice Ai I.length ci, .slice Ao O.length co, .int .i64 0] 185)).alloc (.cells #[.slice Ai I.length ci, .slice Ao O.length co, .int .i64 0] 222)) (w.heap.size+1) .copies I O Ai ci Ao co 0:=by
  rw[z1]at k2;refine⟨k2,(ri.below b12 lR_).more b12.size,(ro.below b12 lR_).more b12.size,hrt,trivial,fun q hq=>?_⟩
  rcases hq with hq|hq|hq
  ·have:=ai q hq;omega
  ·have:=ao q hq;omega
  ·exact hq.elim
 have HK:=Lh K;have HB:=Lh b12;generalize I.length=li at*;generalize O.length=lo at*;clear b1 k1 b2 k2 b12 K z1
 go_enter Tryz.func83, Tryz.ntmps83
 go_wp2_with fail
 go_ret;exact⟨.copies,w.heap.size+1,rfl,HK.out,HB.out,by omega,fun q hq=>hq.elim⟩
theorem zlQ(I O:List Int)(Ai:Option Addr)(ci:Nat)(Ao:Option Addr)(co:Nat)(pv:Value)(w:World)(ri:Rd w w.heap.size Ai (cellsI I))(ro:Rd w w.heap.size Ao (cellsI O))(ai:∀q,blkOf Ai=some q→q<w.heap.size)(ao:∀q,blkOf Ao=some q→q<w.heap.size)(hrt:KdV.rates .drop I O):
  Calls Tryz.prog 83 #[.int .u8 11, .agg #[.slice Ai I.length ci, .slice Ao O.length co, .int .i64 0],pv] w (zb3 w I O Ai ci Ao co):=by
 have b1:=bA_ w (.cells #[.slice Ai I.length ci, .slice Ao O.length co, .int .i64 0] 185);have k1:=bN_ b1;have z1:(w.alloc (.cells #[.slice Ai I.length ci, .slice Ao O.length co, .int .i64 0] 185)).heap.size=w.heap.size+1:=by simp
 have b2:=(zm _ (w.alloc (.cells #[.slice Ai I.length ci, .slice Ao O.length co, .int .i64 0] 185))).alloc lR_ (.cells #[.slice Ai I.length ci, .slice Ao O.length co, .int .i64 0] 227);have k2:=Blk.new (w.alloc (.cells #[.slice Ai I.length ci, .slice Ao O.length co, .int .i64 0] 185)) _ rfl 227 #[.slice Ai I.length ci, .slice Ao O.length co, .int .i64 0];have c0:=k1.cellL 0 rfl;have c1:=k1.cellL 1 rfl;have c2:=k1.cellL 2 rfl;have b12:=b1.trans (b2.mono (by omega))
 have K:KdM ((w.alloc (.cells #[.slice Ai I.length ci, .slice Ao O.length co, .int .i64 0] 185)).alloc (.cells #[.slice Ai I.length ci, .slice Ao O.length co, .int .i64 0] 227)) (w.heap.size+1) .drop I O Ai ci Ao co 0:=by
  rw[z1]at k2;refine⟨k2,(ri.below b12 lR_).more b12.size,(ro.below b12 lR_).more b12.size,hrt,trivial,fun q hq=>?_⟩
  rcases hq with hq|hq|hq
  ·have:=ai q hq;omega
  ·have:=ao q hq;omega
  ·exact hq.elim
 have HK:=Lh K;have HB:=Lh b12;generalize I.length=li at*;generalize O.length=lo at*;clear b1 k1 b2 k2 b12 K z1
 go_enter Tryz.func83, Tryz.ntmps83
 go_wp2_with fail
 go_ret;exact⟨.drop,w.heap.size+1,rfl,HK.out,HB.out,by omega,fun q hq=>hq.elim⟩
end Go.Proofs.YtpmlljbebdidgaaGreatDoor
