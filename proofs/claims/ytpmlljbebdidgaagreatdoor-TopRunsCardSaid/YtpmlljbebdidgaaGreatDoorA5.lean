/- Lemmas and walks for the claim: Sj, Sk, Sl. -/
import Derived.Test.YtpmlljbebdidgaaGreatDoorA0
import Derived.Test.YtpmlljbebdidgaaGreatDoorA4
import Derived.Deep.OwnRows
import Derived.Deep.Onto
set_option linter.unusedSimpArgs false
set_option maxRecDepth 100000
set_option maxHeartbeats 4000000
namespace Go.Proofs.YtpmlljbebdidgaaGreatDoor
open Go.RowKit
def zcy(r:Int):Bool:=decide (1≤r∧r≤4096)
def repAt(rs:List Int)(v:Int):Int:=rs[v.toNat]?.getD 0
def zcG(rs:List Int)(a:ArcV):Bool:=decide (a.g*repAt rs a.f=a.k*repAt rs a.t)
def holdE(n:Int)(ars:List ArcV)(rs:List Int):Int:=if checkF n ars=0 then(if(rs.length:Int)=n then 0 else 1)else checkF n ars
def holdB(n:Int)(ars:List ArcV)(rs:List Int):Bool:=decide (checkF n ars=0∧(rs.length:Int)=n)&&(rs.all zcy&&ars.all (zcG rs))
theorem zca{rs:List Int}(h:rs.all zcy=true){f:Nat}(hf:f<rs.length):1≤repAt rs f∧repAt rs f≤4096:=by
 unfold repAt;rw[zE,zk hf]
 have:=zU.1 h _ (zaF hf)
 simpa [zcy]using this
theorem zjp{w:World}{B b off:Nat}{rs:List Int}(h:Rd w B (some ⟨b,off,none⟩) (cellsI rs)){f:Nat}(hf:f<rs.length):w.cell? ⟨b,off+f,none⟩=some (.int .i64 (repAt rs f)):=by
 unfold repAt;rw[zE,zk hf];rcases h with h|⟨b',off',hA,_,hc⟩
 ·have:=cellsI_length rs;rw[h]at this;simp at this;omega
 ·injection hA with hA
  injection hA with h1 h2 _
  subst h1 h2;exact hc f _ (by simp[cellsI,zp,zk hf])
theorem zmO(n:Int)(ars:List ArcV)(A:Option Addr)(l c:Nat)(rs:List Int)(R:Option Addr)(m cr:Nat)(w:World)(hl:ars.length=l)(hx:∀a∈ars,a.fit)(hr:Rd w w.heap.size A (cellsA ars))(hm:l≤maxLen)
  (hrs:rs.length=m) (hfr:AllFit rs) (hrr:Rd w w.heap.size R (cellsI rs)) (hmm:m≤maxLen):
  Calls Tryz.prog 30 #[.agg #[.int .i64 n, .slice A l c], .slice R m cr] w fun e w'=>e= .returned (.tuple #[.bool (holdB n ars rs), .int .i64 (holdE n ars rs)])∧Below w.heap.size w w':=by
 subst hl hrs;unfold maxLen at hmm;have b1:=bA_ w (.cells #[.int .i64 n, .slice A ars.length c] 30);have k1:=bN_ b1;obtain⟨q,hq⟩:∃q,checkF n ars=q:=⟨_,rfl⟩;obtain⟨hB,hhB⟩:∃x,holdB n ars rs=x:=⟨_,rfl⟩;obtain⟨hE,hhE⟩:∃x,holdE n ars rs=x:=⟨_,rfl⟩;rw[hhB,hhE];have Hq:=Lh hq;have HB:=Lh hhB;have HE:=Lh hhE;clear hq hhB hhE
 go_enter Tryz.func30, Tryz.ntmps30
 go_wp2_with fail;refine(zeu n ars A ars.length c _ rfl hx ((hr.below b1 lR_).more b1.size) hm).mono ?_;rintro e w2 ⟨rfl,hb2⟩
 rw[Hq.out];have b2:=b1.trans (hb2.mono b1.size);have k2:=k1.below hb2 (by simp)
 have s0:=k2.cell 0;have s1:=k2.cell 1;simp at s0 s1;have hlw:=k2.lt;clear b1 k1 hb2;by_cases hq0:q=0
 ·subst hq0;obtain⟨nn,rfl,hN⟩:=netOk_of Hq.out;have n32:=hN.n32;have l96:=hN.l96;by_cases hln:rs.length=nn
  ·subst hln;have e1:hE=0:=by rw[←HE.out];unfold holdE;rw[if_pos Hq.out,if_pos rfl]
   have e2:hB=(rs.all zcy&&ars.all (zcG rs)):=by rw[←HB.out];unfold holdB;rw[decide_eq_true (p:=checkF (rs.length:Int) ars=0∧(rs.length:Int)=(rs.length:Int)) ⟨Hq.out,rfl⟩,za3]
   subst e1;have E2:=Lh e2;have HN:=Lh hN;clear e2 hN HE;have hqq:((rs.length:Int) !=(rs.length:Int))=false:=by simp
   go_wp2_with fail
   go_loopw [23] (fun i wr=>∃k:Nat,k≤rs.length∧i= .int .i64 k∧wr=w2∧Hid (rs.all zcy=(rs.drop k).all zcy)) (fun i _=>rs.length-(intOf i).toNat)
   case atStart=>exact⟨0,by omega,rfl,rfl,rfl⟩
   case round=>
    obtain⟨k,hk,rfl,rfl,He⟩:=hrel;by_cases hlt:k<rs.length
    ·obtain⟨b,off,x,rfl,hb,hxf,hc,hd,hxx⟩:=(hrr.below b2 lR_).at_ hfr hlt;by_cases h1:x<1
     ·have e3:hB=false:=by rw[E2.out,He.out,hd.out];simp[zcy];omega
      subst e3
      go_wp2
      go_ret2;exact⟨rfl,b2⟩
     ·by_cases h2:4096<x
      ·have e3:hB=false:=by rw[E2.out,He.out,hd.out];simp[zcy];omega
       subst e3
       go_wp2
       go_ret2;exact⟨rfl,b2⟩
      ·have He':Hid (rs.all zcy=(rs.drop (k+1)).all zcy):=by
        unfold Hid;rw[He.out,hd.out,zcZ,show zcy x=true from decide_eq_true ⟨by omega,by omega⟩,za3]
       clear He hd hxx
       go_wp2
       go_roundw
       case rel=>exact⟨k+1,by omega,by go_num,trivial,He'⟩
       case measure=>simp[intOf];omega
    ·have hall:rs.all zcy=true:=by rw[He.out,zS (by omega)];rfl
     have e3:hB=ars.all (zcG rs):=by rw[E2.out,hall,za3]
     have E3:=Lh e3;have Hall:=Lh hall;clear e3 E2 hall He
     go_wp2
     clear hlt hk
     go_loopw [37] (fun i wx=>∃j:Nat,j≤ars.length∧i= .int .i64 j∧Below w.heap.size w wx∧Hid (ars.all (zcG rs)=(ars.drop j).all (zcG rs))) (fun i _=>ars.length-(intOf i).toNat)
     case atStart=>exact⟨0,by omega,rfl,b2,rfl⟩
     case round=>
      clear b2 k2 s0 s1;obtain⟨j,hj,rfl,hb,He⟩:=hrel;by_cases hlt:j<ars.length
      ·obtain⟨b,off,a,rfl,hbl,-,c0,c1,c2,c3,c4,hd,hx'⟩:=(hr.below hb lR_).arc hx hlt;have hok:=HN.out.ok a (zv hx'.out);obtain⟨f,t,ag,ak,az,rfl,hf,ht,hg1,hg2,hk1,hk2,hs1,hs2⟩:=zo7 hok;have F1:=zca Hall.out hf;have F2:=zca Hall.out ht;obtain⟨b',off',x0,rfl,hb',_,_,_,_⟩:=(hrr.below hb lR_).at_ hfr hf;obtain⟨W1,hW1⟩:∃W1,wr.alloc (.cells #[.int .i64 f, .int .i64 t, .int .i64 ag, .int .i64 ak, .int .i64 az] 76)=W1:=⟨_,rfl⟩;have b3:Below w.heap.size w W1:=hW1▸hb.alloc hb.size _;have a2:Blk W1 wr.heap.size 76 #[.int .i64 f, .int .i64 t, .int .i64 ag, .int .i64 ak, .int .i64 az]:=hW1▸Blk.new wr _ rfl _ _;have q1:=zjp (hrr.below b3 lR_) hf;have q2:=zjp (hrr.below b3 lR_) ht;have hev:Hid (zcG rs ⟨f,t,ag,ak,az⟩=decide (ag*repAt rs f=ak*repAt rs t)):=rfl;generalize repAt rs f=x at*;generalize repAt rs t=y at*;have m1:0≤ag*x:=zak (by omega) (by omega)
       have m2:ag*x≤64*4096:=zaC hg2 (by omega) (by omega) (by omega)
       have m3:0≤ak*y:=zak (by omega) (by omega)
       have m4:ak*y≤64*4096:=zaC hk2 (by omega) (by omega) (by omega)
       have v1:IntKind.i64.wrap (ag*x)=ag*x:=IntWalk.i64_in _ (by omega)
       have v2:IntKind.i64.wrap (ak*y)=ak*y:=IntWalk.i64_in _ (by omega)
       have g1:(0:Int)≤(f:Int):=by omega
       have g2:(f:Int)<(rs.length:Int):=by omega
       have g3:(0:Int)≤(t:Int):=by omega
       have g4:(t:Int)<(rs.length:Int):=by omega
       have e0:=a2.cell 0;have e1:=a2.cell 1;have e2:=a2.cell 2;have e3:=a2.cell 3;simp at e0 e1 e2 e3 c0 c1 c2 c3 c4;by_cases hxy:ag*x=ak*y
       ·have z1:(ag*x !=ak*y)=false:=by simp[hxy]
        have He':Hid (ars.all (zcG rs)=(ars.drop (j+1)).all (zcG rs)):=by
         unfold Hid;rw[He.out,hd.out,zcZ,hev.out,decide_eq_true hxy,za3]
        clear He hd hev hxy hx' hok
        go_upto_region 15 with fail
        try rw[hW1]
        go_quiet (fail)
        go_wp2
        go_roundw
        case rel=>exact⟨j+1,by omega,by go_num,Below.drewN b3 _,He'⟩
        case measure=>simp[intOf];omega
       ·have z1:(ag*x !=ak*y)=true:=by simp[hxy]
        have e5:hB=false:=by rw[E3.out,He.out,hd.out,zcZ,hev.out,decide_eq_false hxy,Bool.false_and]
        subst e5;clear He hd hev hxy hx' hok
        go_upto_region 15 with fail
        try rw[hW1]
        go_quiet (fail)
        go_wp2
        go_ret2;exact⟨rfl,Below.drewN b3 _⟩
      ·have e5:hB=true:=by rw[E3.out,He.out,zS (by omega)];rfl
       subst e5
       go_wp2
       go_ret2;exact⟨rfl,hb⟩
  ·have e1:hE=1:=by rw[←HE.out];unfold holdE;rw[if_pos Hq.out,if_neg (by omega)]
   have e2:hB=false:=by rw[←HB.out];unfold holdB;rw[decide_eq_false (p:=checkF (nn:Int) ars=0∧(rs.length:Int)=(nn:Int)) (by omega),Bool.false_and]
   subst e1 e2;have hqq:((rs.length:Int) !=(nn:Int))=true:=by simp;omega
   go_wp2
   go_ret2;exact⟨rfl,b2⟩
 ·have e1:hE=q:=by rw[←HE.out];unfold holdE;rw[Hq.out,if_neg hq0]
  have e2:hB=false:=by rw[←HB.out];unfold holdB;rw[decide_eq_false (p:=checkF n ars=0∧(rs.length:Int)=n) (by rw[Hq.out];exact fun h=>hq0 h.1),Bool.false_and]
  subst e1 e2;have hqq:(hE !=0)=true:=by simpa using hq0
  go_wp2
  go_ret2;exact⟨rfl,b2⟩
theorem zez(n:Nat):madeCells #[Value.int .i64 0] n=(cellsI (rowF (fun _=>0) n)).toArray:=by
 apply Array.ext'
 apply zbb
 ·simp[madeCells,cellsI,rowF]
 ·intro j h1 h2;simp[madeCells,cellsI,rowF,zc4]
theorem zbL(w:World)(b:Nat)(hb:b=w.heap.size)(e:TypeId)(cs:List Value)(n:Nat)(hn:cs.length=n)(hm:n≤maxLen):(w.alloc (.cells cs.toArray e)).ownsRow b e 1 (.slice (some ⟨b,0,none⟩) n n) n cs:=by
 subst hb hn;exact⟨by simp, .inr ⟨w.heap.size,cs.length,cs.toArray,rfl,zF _,heap_alloc_new w _,zF _,hm,by simp,by simp⟩⟩
end Go.Proofs.YtpmlljbebdidgaaGreatDoor
