/- Lemmas and walks for the claim: Ga, Sg, Sh, Si, Sj, Sk, Sl. -/
import Derived.Test.YtpmlljbebdidgaaGreatDoorA0
import Derived.Test.YtpmlljbebdidgaaGreatDoorA4
import Derived.Test.YtpmlljbebdidgaaGreatDoorA1
import Derived.Test.YtpmlljbebdidgaaGreatDoorA3
import Derived.Deep.RegionHeld3
import Derived.Deep.OwnRows
import Derived.Deep.Onto
set_option maxRecDepth 100000
set_option maxHeartbeats 4000000
namespace Go.Proofs.YtpmlljbebdidgaaGreatDoor
open Go.RowKit
def bt(s:ByteArray)(k:Nat):Int:=if h:k<s.size then((s[k]'h).toNat:Int)else 0
theorem get_bt(s:ByteArray):∀(n:Nat) (h:n<s.size),((s[n]'h).toNat:Int)=bt s n:=fun n h=>by unfold bt;rw[dif_pos h]
def letB(b:Int):Bool:=decide (97≤b)&&decide (b≤122)
def digB(b:Int):Bool:=decide (48≤b)&&decide (b≤57)
def insB(b:Int):Bool:=letB b||digB b||decide (b=95)
def insTo(s:ByteArray):Nat→Nat→Nat
 |0,k=>k
 |f+1,k=>if k<s.size∧insB (bt s k)=true then insTo s f (k+1)else k
def nameB(s:ByteArray):Bool:=letB (bt s 0)&&decide (insTo s s.size 0=s.size)&&decide (s.size≤16)
theorem letter_any(b:Int)(w:World):Calls Tryz.prog 97 #[.int .u8 b] w fun e w'=>e= .returned (.bool (letB b))∧w=w':=by
 unfold letB;by_cases h1:97≤b
 ·by_cases h2:b≤122
  ·go_enter Tryz.func97, Tryz.ntmps97
   go_wp2
   go_ret
   first|(simp;omega)|omega
  ·go_enter Tryz.func97, Tryz.ntmps97
   go_wp2
   go_ret
   first|(simp;omega)|omega
 ·go_enter Tryz.func97, Tryz.ntmps97
  go_wp2
  go_ret
  first|(simp;omega)|omega
theorem digit_any(b:Int)(w:World):Calls Tryz.prog 103 #[.int .u8 b] w fun e w'=>e= .returned (.bool (digB b))∧w=w':=by
 unfold digB;by_cases h1:48≤b
 ·by_cases h2:b≤57
  ·go_enter Tryz.func103, Tryz.ntmps103
   go_wp2
   go_ret
   first|(simp;omega)|omega
  ·go_enter Tryz.func103, Tryz.ntmps103
   go_wp2
   go_ret
   first|(simp;omega)|omega
 ·go_enter Tryz.func103, Tryz.ntmps103
  go_wp2
  go_ret
  first|(simp;omega)|omega
theorem inside_any(b:Int)(w:World):Calls Tryz.prog 100 #[.int .u8 b] w fun e w'=>e= .returned (.bool (insB b))∧w=w':=by
 unfold insB;obtain⟨x,hx⟩:∃x,letB b=x:=⟨_,rfl⟩;obtain⟨y,hy⟩:∃y,digB b=y:=⟨_,rfl⟩;rw[hx,hy];have Hx:=Lh hx;have Hy:=Lh hy;clear hx hy
 go_enter Tryz.func100, Tryz.ntmps100
 go_wp2_with fail;refine(letter_any b w).mono ?_
 rintro e w1 ⟨rfl,hw1⟩;subst hw1;rw[Hx.out];cases x with
 |true=>
  go_wp2_with fail
  go_ret;simp
 |false=>
  go_wp2_with fail;refine(digit_any b w).mono ?_
  rintro e w2 ⟨rfl,hw2⟩;subst hw2;rw[Hy.out];cases y with
  |true=>
   go_wp2_with fail
   go_ret;simp
  |false=>
   go_wp2_with fail
   go_ret;by_cases h:b=95<;>simp[h]
theorem more_any(g:Nat)(s:ByteArray)(k:Nat)(w:World)(h0:w.cell? ⟨g,0,none⟩=some (.string s))(h1:w.cell? ⟨g,1,none⟩=some (.int .i64 k)):
  Calls Tryz.prog 102 #[.pointer (some ⟨g,0,none⟩)] w fun e w'=>e= .returned (.bool (decide (k<s.size)))∧Drawn w w':=by
 go_enter Tryz.func102, Tryz.ntmps102
 go_wp2
 go_region
 go_wp2
 go_ret;exact⟨rfl,(Drawn.refl w).drewN 1⟩
theorem peek_any(g:Nat)(s:ByteArray)(w:World)(h0:w.cell? ⟨g,0,none⟩=some (.string s))(h1:w.cell? ⟨g,1,none⟩=some (.int .i64 0)):
  Calls Tryz.prog 98 #[.pointer (some ⟨g,0,none⟩), .int .i64 0] w fun e w'=>e= .returned (.int .u8 (bt s 0))∧Drawn w w':=by
 have hb:=get_bt s;by_cases hs:0<s.size
 ·have hs2:decide ((s.size:Int)≤0)=false:=decide_eq_false (by omega)
  have hs3:(0:Int)<(s.size:Int):=by omega
  have hs4:¬s=ByteArray.empty:=fun h=>by rw[h]at hs;simp at hs
  go_enter Tryz.func98, Tryz.ntmps98
  go_wp2
  go_region
  go_wp2
  go_region
  go_wp2
  go_ret;exact⟨rfl,(Drawn.refl w).drewN 2⟩
 ·have hs2:s.size=0:=by omega
  have hs3:bt s 0=0:=by unfold bt;rw[dif_neg hs]
  rw[hs3];have hs4:s=ByteArray.empty:=ByteArray.size_eq_zero_iff.1 hs2;subst hs4
  go_enter Tryz.func98, Tryz.ntmps98
  go_wp2
  go_region
  go_wp2
  go_ret;exact⟨rfl,(Drawn.refl w).drewN 1⟩
theorem insTo_le(s:ByteArray):∀f k,k≤s.size→insTo s f k≤s.size:=by
 intro f
 induction f with
 |zero=>intro k hk;exact hk
 |succ f ih=>
  intro k hk;simp only[insTo];split
  ·exact ih _ (by omega)
  ·exact hk
theorem insTo_step(s:ByteArray){k:Nat}(hk:k<s.size):insTo s (s.size-k) k=if insB (bt s k)=true then insTo s (s.size-(k+1)) (k+1)else k:=by
 rw[show s.size-k=(s.size-(k+1))+1 by omega]
 simp only[insTo];by_cases h:insB (bt s k)=true
 ·rw[if_pos ⟨hk,h⟩,if_pos h]
 ·rw[if_neg (fun hc=>h hc.2),if_neg h]
theorem while_any(g:Nat)(s:ByteArray)(w:World)(hg:Blk w g 231 #[.string s, .int .i64 0])(hs:s.size≤maxLen):
  Calls Tryz.prog 99 #[.pointer (some ⟨g,0,none⟩), .func (.func 100) #[] #[]] w fun e w'=>e= .returned (.string (s.extract 0 (insTo s s.size 0)))∧Below g w w':=by
 have hb:=get_bt s;unfold maxLen at hs;have g1:=hg.cellL 1 rfl;obtain⟨K,hK⟩:∃K,insTo s s.size 0=K:=⟨_,rfl⟩;have hKl:K≤s.size:=by rw[←hK];exact insTo_le s _ _ (by omega)
 rw[hK];have HK:=Lh hK;clear hK
 go_enter Tryz.func99, Tryz.ntmps99
 go_wp2_with fail;clear g1
 go_loopg [24] s.size (fun gg _ wr=>∃k:Nat,k≤s.size∧gg=s.size-k∧Blk wr g 231 #[.string s, .int .i64 k]∧Hid (insTo s (s.size-k) k=K)∧Below g w wr)
 case atStart=>exact⟨0,by omega,by omega,hg,HK,Below.refl _ _⟩
 case round=>
  clear hg;obtain⟨k,hk,rfl,hg,hi,hbw⟩:=hrel;have g0:=hg.cellL 0 rfl;have g1:=hg.cellL 1 rfl;by_cases hks:k<s.size
  ·have hst:=insTo_step s hks;rw[hi.out]at hst;have h1:(0:Int)≤(k:Int):=by omega
   have h2:(k:Int)<(s.size:Int):=by omega
   obtain⟨b,hbk⟩:∃b,bt s k=b:=⟨_,rfl⟩;obtain⟨r,hr⟩:∃r,insB b=r:=⟨_,rfl⟩;rw[hbk,hr]at hst;have Hst:=Lh hst;have hM:=fun d=>more_any g s k (wr.drewN d) g0 g1
   rw[decide_eq_true hks]at hM;have HM:=Lh hM;have hI:=fun d=>inside_any b (wr.drewN d)
   rw[hr]at hI;have HI:=Lh hI;clear hM hI;have Hr:=Lh hr;clear hst hr hi
   go_wp2_with fail
   go_quiet ((first|(go_at_call 102;exact quiet_drawn (HM.out _))|(go_at_call 100;exact quiet_left (HI.out _))))
   generalize hW2:World.drewN wr _=W2;have kg:Blk W2 g 231 #[.string s, .int .i64 k]:=by rw[←hW2];exact hg
   have b2:Below g w W2:=by rw[←hW2];exact Below.drewN hbw _
   have c0:=kg.cellL 0 rfl;have c1:=kg.cellL 1 rfl;clear hg hbw hW2 g0 g1 HM HI hb;cases r with
   |true=>
    have kn:=kg.set 1 (.int .i64 ((k:Int)+1));simp only[List.setIfInBounds_toArray,List.set_cons_zero,List.set_cons_succ]at kn;have b3:=b2.setCell (p:=⟨g,1,none⟩) lR_ (.int .i64 ((k:Int)+1));have f1:=kg.frozen 1;have hw:IntKind.i64.wrap ((k:Int)+1)=(k:Int)+1:=IntWalk.i64_in _ (by omega)
    rw[if_pos rfl]at Hst;have HKN:=Lh kn;clear kn kg b2
    go_wp2_with fail
    go_roundg (s.size-(k+1))
    case measure=>omega
    case rel=>exact⟨k+1,by omega,rfl,HKN.out,Hst.out.symm,b3⟩
   |false=>
    obtain rfl:K=k:=by have:=Hst.out;simpa using this
    have h3:(K:Int)≤(s.size:Int):=by omega
    have h4:(0:Int)≤0:=by omega
    go_wp2_with fail
    go_region
    go_wp2
    go_ret;exact⟨rfl,Below.drewN b2 1⟩
  ·obtain rfl:k=s.size:=by omega
   have hM:=fun d=>more_any g s s.size (wr.drewN d) g0 g1
   rw[decide_eq_false (Nat.lt_irrefl _)]at hM;have HM:=Lh hM;clear hM;obtain rfl:K=s.size:=by have:=hi.out;rw[Nat.sub_self]at this;exact this.symm
   go_wp2_with fail
   go_quiet ((go_at_call 102;exact quiet_drawn (HM.out _)))
   generalize hW2:World.drewN wr _=W2;have kg:Blk W2 g 231 #[.string s, .int .i64 s.size]:=by rw[←hW2];exact hg
   have b2:Below g w W2:=by rw[←hW2];exact Below.drewN hbw _
   have c0:=kg.cellL 0 rfl;have c1:=kg.cellL 1 rfl;clear hg hbw hW2 g0 g1 HM hb;have h3:(0:Int)≤(s.size:Int):=by omega
   go_wp2_with fail
   go_region
   go_wp2
   go_ret;exact⟨by rw[ByteArray.extract_zero_size];rfl,Below.drewN b2 1⟩
theorem name_any(s:ByteArray)(w:World)(hs:s.size≤maxLen):
  Calls Tryz.prog 87 #[.string s] w fun e w'=>e= .returned (.bool (nameB s))∧Below w.heap.size w w':=by
 have hnil:=hs;unfold maxLen at hs;obtain⟨B,hB⟩:∃B,w.heap.size=B:=⟨_,rfl⟩;rw[hB];have b1:=(Below.refl B w).alloc (by omega) (.cells #[.string s, .int .i64 0] 231)
 have k1:=Blk.new w B hB.symm 231 #[.string s, .int .i64 0];obtain⟨r1,hr1⟩:∃r,letB (bt s 0)=r:=⟨_,rfl⟩;obtain⟨K,hK⟩:∃K,insTo s s.size 0=K:=⟨_,rfl⟩;have hKl:K≤s.size:=by rw[←hK];exact insTo_le s _ _ (by omega)
 have hxs:(s.extract 0 K).size=K:=by rw[ByteArray.size_extract];omega
 have hres:nameB s=(r1&&decide (K=s.size)&&decide (s.size≤16)):=by unfold nameB;rw[hr1,hK]
 rw[hres];have Hr1:=Lh hr1;have HK:=Lh hK;clear hr1 hK hres
 go_enter Tryz.func87, Tryz.ntmps87
 go_wp2_with fail;generalize hW1:w.alloc (.cells #[.string s, .int .i64 0] 231)=W1 at*
 have c0:=k1.cellL 0 rfl;have c1:=k1.cellL 1 rfl;refine(peek_any B s W1 c0 c1).mono ?_;rintro e w2 ⟨rfl,hd2⟩;have k2:=k1.below (hd2.below (B+1)) (by omega)
 have b2:=b1.trans (hd2.below _)
 go_wp2_with fail;refine(letter_any (bt s 0) w2).mono ?_
 rintro e w3 ⟨rfl,hw3⟩;subst hw3;rw[Hr1.out];clear c0 c1 hd2 k1 b1 hW1;cases r1 with
 |false=>
  go_wp2_with fail
  go_ret;exact⟨by simp,b2⟩
 |true=>
  go_wp2_with fail;refine(while_any B s w2 k2 hnil).mono ?_
  rintro e w4 ⟨rfl,hb4⟩;rw[HK.out];have b4:=b2.trans hb4;by_cases hKs:K=s.size
  ·subst hKs;have he:((s.size:Int)==(s.size:Int))=true:=by simp
   have hd:decide (((s.extract 0 s.size).size:Int)=(s.size:Int))=true:=by rw[hxs];simp
   by_cases h16:s.size≤16
   ·go_wp2_with fail
    go_ret;exact⟨by simp;omega,b4⟩
   ·go_wp2_with fail
    go_ret;exact⟨by simp;omega,b4⟩
  ·have hd:((K:Int)==(s.size:Int))=false:=by simp;omega
   go_wp2_with fail
   go_ret;exact⟨by simp[hKs],b4⟩
theorem arc_nat{n:Nat}{a:ArcV}(h:a.ok n):∃(f t:Nat) (g k s:Int),a=⟨f,t,g,k,s⟩∧f<n∧t<n∧1≤g∧g≤64∧1≤k∧k≤64∧0≤s∧s≤256:=by
 obtain⟨f,t,g,k,s⟩:=a;obtain⟨h1,h2,h3,h4,h5⟩:=h;simp only at h1 h2 h3 h4 h5;exact⟨f.toNat,t.toNat,g,k,s,by rw[Int.toNat_of_nonneg h1,Int.toNat_of_nonneg h3],by omega,by omega,h5⟩
theorem own_firCell{w:World}{B n g c:Nat}{F:Nat→Int}(h:w.ownsRow B 3 1 (.slice (some ⟨g,0,none⟩) n c) n (cellsI (rowF F n))){j:Nat}(hj:j<n):w.cell? ⟨g,j,none⟩=some (.int .i64 (F j)):=by
 rw[h.cellAt j (by omega)]
 simp only[cellsI,List.getElem?_map,rowF_at F hj]
 rfl
theorem Only.below{X:Nat→Prop}{w w' w'':World}(h:Only X w w')(hb:Below w'.heap.size w' w''):Only X w w'':=h.trans ((belowOnly hb).mono (fun _ hk hX=>absurd hk (by omega)))
def repB(r:Int):Bool:=decide (1≤r∧r≤4096)
def repAt(rs:List Int)(v:Int):Int:=rs[v.toNat]?.getD 0
def evenB(rs:List Int)(a:ArcV):Bool:=decide (a.g*repAt rs a.f=a.k*repAt rs a.t)
def holdE(n:Int)(ars:List ArcV)(rs:List Int):Int:=if checkF n ars=0 then(if(rs.length:Int)=n then 0 else 1)else checkF n ars
def holdB(n:Int)(ars:List ArcV)(rs:List Int):Bool:=decide (checkF n ars=0∧(rs.length:Int)=n)&&(rs.all repB&&ars.all (evenB rs))
theorem repAt_lt{rs:List Int}(h:rs.all repB=true){f:Nat}(hf:f<rs.length):1≤repAt rs f∧repAt rs f≤4096:=by
 unfold repAt;rw[Int.toNat_natCast,List.getElem?_eq_getElem hf]
 have:=List.all_eq_true.1 h _ (List.getElem_mem hf)
 simpa [repB]using this
theorem rd_repAt{w:World}{B b off:Nat}{rs:List Int}(h:Rd w B (some ⟨b,off,none⟩) (cellsI rs)){f:Nat}(hf:f<rs.length):w.cell? ⟨b,off+f,none⟩=some (.int .i64 (repAt rs f)):=by
 unfold repAt;rw[Int.toNat_natCast,List.getElem?_eq_getElem hf];rcases h with h|⟨b',off',hA,_,hc⟩
 ·have:=cellsI_length rs;rw[h]at this;simp at this;omega
 ·injection hA with hA
  injection hA with h1 h2 _
  subst h1 h2;exact hc f _ (by simp[cellsI,List.getElem?_map,List.getElem?_eq_getElem hf])
theorem holds_any(n:Int)(ars:List ArcV)(A:Option Addr)(l c:Nat)(rs:List Int)(R:Option Addr)(m cr:Nat)(w:World)(hl:ars.length=l)(hx:∀a∈ars,a.fit)(hr:Rd w w.heap.size A (cellsA ars))(hm:l≤maxLen)
  (hrs:rs.length=m) (hfr:AllFit rs) (hrr:Rd w w.heap.size R (cellsI rs)) (hmm:m≤maxLen):
  Calls Tryz.prog 30 #[.agg #[.int .i64 n, .slice A l c], .slice R m cr] w fun e w'=>e= .returned (.tuple #[.bool (holdB n ars rs), .int .i64 (holdE n ars rs)])∧Below w.heap.size w w':=by
 subst hl hrs;unfold maxLen at hmm;have b1:=bA_ w (.cells #[.int .i64 n, .slice A ars.length c] 30);have k1:=bN_ b1;obtain⟨q,hq⟩:∃q,checkF n ars=q:=⟨_,rfl⟩;obtain⟨hB,hhB⟩:∃x,holdB n ars rs=x:=⟨_,rfl⟩;obtain⟨hE,hhE⟩:∃x,holdE n ars rs=x:=⟨_,rfl⟩;rw[hhB,hhE];have Hq:=Lh hq;have HB:=Lh hhB;have HE:=Lh hhE;clear hq hhB hhE
 go_enter Tryz.func30, Tryz.ntmps30
 go_wp2_with fail;refine(check_any n ars A ars.length c _ rfl hx ((hr.below b1 lR_).more b1.size) hm).mono ?_;rintro e w2 ⟨rfl,hb2⟩
 rw[Hq.out];have b2:=b1.trans (hb2.mono b1.size);have k2:=k1.below hb2 (by simp)
 have s0:=k2.cell 0;have s1:=k2.cell 1;simp at s0 s1;have hlw:=k2.lt;clear b1 k1 hb2;by_cases hq0:q=0
 ·subst hq0;obtain⟨nn,rfl,hN⟩:=netOk_of Hq.out;have n32:=hN.n32;have l96:=hN.l96;by_cases hln:rs.length=nn
  ·subst hln;have e1:hE=0:=by rw[←HE.out];unfold holdE;rw[if_pos Hq.out,if_pos rfl]
   have e2:hB=(rs.all repB&&ars.all (evenB rs)):=by rw[←HB.out];unfold holdB;rw[decide_eq_true (p:=checkF (rs.length:Int) ars=0∧(rs.length:Int)=(rs.length:Int)) ⟨Hq.out,rfl⟩,Bool.true_and]
   subst e1;have E2:=Lh e2;have HN:=Lh hN;clear e2 hN HE;have hqq:((rs.length:Int) !=(rs.length:Int))=false:=by simp
   go_wp2_with fail
   go_loopw [23] (fun i wr=>∃k:Nat,k≤rs.length∧i= .int .i64 k∧wr=w2∧Hid (rs.all repB=(rs.drop k).all repB)) (fun i _=>rs.length-(intOf i).toNat)
   case atStart=>exact⟨0,by omega,rfl,rfl,rfl⟩
   case round=>
    obtain⟨k,hk,rfl,rfl,He⟩:=hrel;by_cases hlt:k<rs.length
    ·obtain⟨b,off,x,rfl,hb,hxf,hc,hd,hxx⟩:=(hrr.below b2 lR_).at_ hfr hlt;by_cases h1:x<1
     ·have e3:hB=false:=by rw[E2.out,He.out,hd.out];simp[repB];omega
      subst e3
      go_wp2
      go_ret2;exact⟨rfl,b2⟩
     ·by_cases h2:4096<x
      ·have e3:hB=false:=by rw[E2.out,He.out,hd.out];simp[repB];omega
       subst e3
       go_wp2
       go_ret2;exact⟨rfl,b2⟩
      ·have He':Hid (rs.all repB=(rs.drop (k+1)).all repB):=by
        unfold Hid;rw[He.out,hd.out,List.all_cons,show repB x=true from decide_eq_true ⟨by omega,by omega⟩,Bool.true_and]
       clear He hd hxx
       go_wp2
       go_roundw
       case rel=>exact⟨k+1,by omega,by go_num,trivial,He'⟩
       case measure=>simp[intOf];omega
    ·have hall:rs.all repB=true:=by rw[He.out,List.drop_eq_nil_of_le (by omega)];rfl
     have e3:hB=ars.all (evenB rs):=by rw[E2.out,hall,Bool.true_and]
     have E3:=Lh e3;have Hall:=Lh hall;clear e3 E2 hall He
     go_wp2
     clear hlt hk
     go_loopw [37] (fun i wx=>∃j:Nat,j≤ars.length∧i= .int .i64 j∧Below w.heap.size w wx∧Hid (ars.all (evenB rs)=(ars.drop j).all (evenB rs))) (fun i _=>ars.length-(intOf i).toNat)
     case atStart=>exact⟨0,by omega,rfl,b2,rfl⟩
     case round=>
      clear b2 k2 s0 s1;obtain⟨j,hj,rfl,hb,He⟩:=hrel;by_cases hlt:j<ars.length
      ·obtain⟨b,off,a,rfl,hbl,-,c0,c1,c2,c3,c4,hd,hx'⟩:=(hr.below hb lR_).arc hx hlt;have hok:=HN.out.ok a (List.mem_of_getElem? hx'.out);obtain⟨f,t,ag,ak,az,rfl,hf,ht,hg1,hg2,hk1,hk2,hs1,hs2⟩:=arc_nat hok;have F1:=repAt_lt Hall.out hf;have F2:=repAt_lt Hall.out ht;obtain⟨b',off',x0,rfl,hb',_,_,_,_⟩:=(hrr.below hb lR_).at_ hfr hf;obtain⟨W1,hW1⟩:∃W1,wr.alloc (.cells #[.int .i64 f, .int .i64 t, .int .i64 ag, .int .i64 ak, .int .i64 az] 76)=W1:=⟨_,rfl⟩;have b3:Below w.heap.size w W1:=hW1▸hb.alloc hb.size _;have a2:Blk W1 wr.heap.size 76 #[.int .i64 f, .int .i64 t, .int .i64 ag, .int .i64 ak, .int .i64 az]:=hW1▸Blk.new wr _ rfl _ _;have q1:=rd_repAt (hrr.below b3 lR_) hf;have q2:=rd_repAt (hrr.below b3 lR_) ht;have hev:Hid (evenB rs ⟨f,t,ag,ak,az⟩=decide (ag*repAt rs f=ak*repAt rs t)):=rfl;generalize repAt rs f=x at*;generalize repAt rs t=y at*;have m1:0≤ag*x:=Int.mul_nonneg (by omega) (by omega)
       have m2:ag*x≤64*4096:=Int.mul_le_mul hg2 (by omega) (by omega) (by omega)
       have m3:0≤ak*y:=Int.mul_nonneg (by omega) (by omega)
       have m4:ak*y≤64*4096:=Int.mul_le_mul hk2 (by omega) (by omega) (by omega)
       have v1:IntKind.i64.wrap (ag*x)=ag*x:=IntWalk.i64_in _ (by omega)
       have v2:IntKind.i64.wrap (ak*y)=ak*y:=IntWalk.i64_in _ (by omega)
       have g1:(0:Int)≤(f:Int):=by omega
       have g2:(f:Int)<(rs.length:Int):=by omega
       have g3:(0:Int)≤(t:Int):=by omega
       have g4:(t:Int)<(rs.length:Int):=by omega
       have e0:=a2.cell 0;have e1:=a2.cell 1;have e2:=a2.cell 2;have e3:=a2.cell 3;simp at e0 e1 e2 e3 c0 c1 c2 c3 c4;by_cases hxy:ag*x=ak*y
       ·have z1:(ag*x !=ak*y)=false:=by simp[hxy]
        have He':Hid (ars.all (evenB rs)=(ars.drop (j+1)).all (evenB rs)):=by
         unfold Hid;rw[He.out,hd.out,List.all_cons,hev.out,decide_eq_true hxy,Bool.true_and]
        clear He hd hev hxy hx' hok
        go_upto_region 15 with fail
        try rw[hW1]
        go_quiet (fail)
        go_wp2
        go_roundw
        case rel=>exact⟨j+1,by omega,by go_num,Below.drewN b3 _,He'⟩
        case measure=>simp[intOf];omega
       ·have z1:(ag*x !=ak*y)=true:=by simp[hxy]
        have e5:hB=false:=by rw[E3.out,He.out,hd.out,List.all_cons,hev.out,decide_eq_false hxy,Bool.false_and]
        subst e5;clear He hd hev hxy hx' hok
        go_upto_region 15 with fail
        try rw[hW1]
        go_quiet (fail)
        go_wp2
        go_ret2;exact⟨rfl,Below.drewN b3 _⟩
      ·have e5:hB=true:=by rw[E3.out,He.out,List.drop_eq_nil_of_le (by omega)];rfl
       subst e5
       go_wp2
       go_ret2;exact⟨rfl,hb⟩
  ·have e1:hE=1:=by rw[←HE.out];unfold holdE;rw[if_pos Hq.out,if_neg (by omega)]
   have e2:hB=false:=by rw[←HB.out];unfold holdB;rw[decide_eq_false (p:=checkF (nn:Int) ars=0∧(rs.length:Int)=(nn:Int)) (by omega),Bool.false_and]
   subst e1 e2;have hqq:((rs.length:Int) !=(nn:Int))=true:=by simp;omega
   go_wp2
   go_ret2;exact⟨rfl,b2⟩
 ·have e1:hE=q:=by rw[←HE.out];unfold holdE;rw[Hq.out,if_neg hq0]
  have e2:hB=false:=by rw[←HB.out];unfold holdB;rw[decide_eq_false (p:=checkF n ars=0∧(rs.length:Int)=n) (by rw[Hq.out];exact fun h=>hq0 h.1),Bool.false_and]
  subst e1 e2;have hqq:(hE !=0)=true:=by simpa using hq0
  go_wp2
  go_ret2;exact⟨rfl,b2⟩
theorem made_ints(n:Nat):madeCells #[Value.int .i64 0] n=(cellsI (rowF (fun _=>0) n)).toArray:=by
 apply Array.ext'
 apply List.ext_getElem
 ·simp[madeCells,cellsI,rowF]
 ·intro j h1 h2;simp[madeCells,cellsI,rowF,Nat.mod_one]
theorem own_new_Sl(w:World)(b:Nat)(hb:b=w.heap.size)(e:TypeId)(cs:List Value)(n:Nat)(hn:cs.length=n)(hm:n≤maxLen):(w.alloc (.cells cs.toArray e)).ownsRow b e 1 (.slice (some ⟨b,0,none⟩) n n) n cs:=by
 subst hb hn;exact⟨by simp, .inr ⟨w.heap.size,cs.length,cs.toArray,rfl,Nat.le_refl _,heap_alloc_new w _,Nat.le_refl _,hm,by simp,by simp⟩⟩
end Go.Proofs.YtpmlljbebdidgaaGreatDoor
