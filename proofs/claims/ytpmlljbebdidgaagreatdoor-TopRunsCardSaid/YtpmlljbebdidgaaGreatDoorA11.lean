/- Lemmas and walks for the claim: St, La, Su, Sx. -/
import Derived.Test.YtpmlljbebdidgaaGreatDoorA0
import Derived.Test.YtpmlljbebdidgaaGreatDoorA10
import Derived.Test.YtpmlljbebdidgaaGreatDoorA1
set_option linter.unusedSimpArgs false
set_option maxRecDepth 100000
set_option maxHeartbeats 4000000
namespace Go.Proofs.YtpmlljbebdidgaaGreatDoor
open Go.RowKit
structure R23(wZ:World)(B nn gs:Nat)(R:Option Addr)(rs:List Int)(cr:Nat)(Q:Option Addr)(ps:List Int)(cq:Nat)(L:Nat→Bool)(V:Nat→Value)(w:World):Prop where
 bel:Below wZ.heap.size wZ w
 f1:L 1=true→L 3=false→∃g,V 71= .slice (some ⟨g,0,none⟩) 0 0∧w.ownsRow wZ.heap.size 3 1 (.slice (some ⟨g,0,none⟩) 0 0) 0 []
 f3:L 3=true→w.ownsRow wZ.heap.size 3 1 (V 73) nn (cellsI rs)
 f7:L 7=true→∃gk,V 77= .slice (some ⟨gk,0,none⟩) nn nn∧w.ownsRow wZ.heap.size 3 1 (.slice (some ⟨gk,0,none⟩) nn nn) nn (cellsI (rowF (zcH nn ps 0) nn))∧∀b,(V 73).ownBlock=some b→b≠gk
 f8:L 8=true→V 78= .agg #[.pointer (some ⟨gs,0,none⟩),V 73,V 77, .slice none 0 0]
 f9:L 9=true→∃gr,V 79= .pointer (some ⟨gr,0,none⟩)∧wZ.heap.size≤gr∧Blk w gr 99 #[.pointer (some ⟨gs,0,none⟩),V 73,V 77, .slice none 0 0]
 f10:L 10=true→V 16=V 79
 e0:L 0=true→V 70= .pointer (some ⟨gs,0,none⟩)
 e2:L 2=true→V 72= .slice R nn cr
 e4:L 4=true→V 74= .pointer (some ⟨B,0,none⟩)
 e5:L 5=true→V 75= .int .i64 nn
 e6:L 6=true→V 76= .slice Q ps.length cq
theorem R23.below{wZ w w':World}{B nn gs:Nat}{R:Option Addr}{rs:List Int}{cr:Nat}{Q:Option Addr}{ps:List Int}{cq:Nat}{L:Nat→Bool}{V:Nat→Value}(h:R23 wZ B nn gs R rs cr Q ps cq L V w)(hb:Below w.heap.size w w'):R23 wZ B nn gs R rs cr Q ps cq L V w':=
 {h with
  bel:=h.bel.trans ⟨hb.os,hb.tape,hb.output,hb.size,fun k hk=>hb.block k (by have:=h.bel.size;omega)⟩
  f1:=fun h1 h2=>by obtain⟨g,e,o⟩:=h.f1 h1 h2;exact⟨g,e,own_below o hb⟩
  f3:=fun h1=>own_below (h.f3 h1) hb
  f7:=fun h1=>by obtain⟨g,e,o,d⟩:=h.f7 h1;exact⟨g,e,own_below o hb,d⟩
  f9:=fun h1=>by obtain⟨g,e,hg,k⟩:=h.f9 h1;exact⟨g,e,hg,k.below hb k.lt⟩}
theorem zmT{pick:(Nat→Int)→Int}{n:Int}{ars:List ArcV}{rs ps:List Int}(h:wrongF n ars rs ps≠0):ansF pick n ars rs ps=([],[]):=if_neg h
theorem zek{fn:Func}(hf:fn.results=#[.cell 6 44, .tmp 7]){a:Act}{w:World}{B:Nat}{u v:Value}{res:Int}{R:Ending→World→Prop}(h6:a.tmps.getD 6 undef= .pointer (some ⟨B+1,0,none⟩))(h7:a.tmps.getD 7 undef= .int .i64 res)(hd:a.defers=[])(k:Blk w (B+1) 44 #[u,v])
  (hR:R (.returned (.tuple #[.agg #[u,v], .int .i64 res])) w):bodyPost Tryz.prog fn R .ret a w:=by
 have t0:=k.cellL 0 rfl;have t1:=k.cellL 1 rfl;exact bodyPost_ret (v:= .tuple #[.agg #[u,v], .int .i64 res]) (by simp at h6 h7;simp[results,hf,go_sem,t0,t1,h6,h7]) hd hR
theorem zfF{w0 w:World}{B:Nat}{an:List Int×List BlkV}{u v:Value}(h:an=([],[]))(hb:Below B w0 w)(k:Blk w (B+1) 44 #[u,v]):
  Blk ((w.setCell ⟨B+1,0,none⟩ (.slice none 0 0)).setCell ⟨B+1,1,none⟩ (.slice none 0 0)) (B+1) 44 #[.slice none 0 0, .slice none 0 0]∧
  ((w.setCell ⟨B+1,0,none⟩ (.slice none 0 0)).setCell ⟨B+1,1,none⟩ (.slice none 0 0)).ownsRow B 3 1 (.slice none 0 0) an.1.length (cellsI an.1)∧
  ((w.setCell ⟨B+1,0,none⟩ (.slice none 0 0)).setCell ⟨B+1,1,none⟩ (.slice none 0 0)).ownsRow B 136 3 (.slice none 0 0) an.2.length (zba an.2)∧
  Below B w0 ((w.setCell ⟨B+1,0,none⟩ (.slice none 0 0)).setCell ⟨B+1,1,none⟩ (.slice none 0 0)):=by
 subst h;have kk:=(k.set 0 (.slice none 0 0)).set 1 (.slice none 0 0);simp only[zc,ze,zd]at kk;exact⟨kk,zr _ _ _ _,zr _ _ _ _,(hb.setCell (p:=⟨B+1,0,none⟩) (by simp) _).setCell (p:=⟨B+1,1,none⟩) (by simp) _⟩
theorem zhr(n:Int)(ars:List ArcV)(A:Option Addr)(l c:Nat)(rs:List Int)(R:Option Addr)(m cr:Nat)(ps:List Int)(Q:Option Addr)(q cq:Nat)(w:World)(hl:ars.length=l)(hx:∀a∈ars,a.fit)(hr:Rd w w.heap.size A (cellsA ars))(hm:l≤maxLen)
  (hrs:rs.length=m) (hfr:AllFit rs) (hrr:Rd w w.heap.size R (cellsI rs)) (hmm:m≤maxLen) (hps:ps.length=q) (hfp:AllFit ps) (hrp:Rd w w.heap.size Q (cellsI ps)) (hqm:q*8≤140737488351232):
  Calls Tryz.prog 8 #[.agg #[.int .i64 n, .slice A l c], .slice R m cr, .slice Q q cq] w fun e w'=>∃lv sv,e= .returned (.tuple #[.agg #[lv,sv], .int .i64 (wrongF n ars rs ps)])∧
   w'.ownsRow w.heap.size 3 1 lv (ansF (pickS ars n.toNat rs ps) n ars rs ps).1.length (cellsI (ansF (pickS ars n.toNat rs ps) n ars rs ps).1)∧w'.ownsRow w.heap.size 136 3 sv (ansF (pickS ars n.toNat rs ps) n ars rs ps).2.length (zba (ansF (pickS ars n.toNat rs ps) n ars rs ps).2)∧Below w.heap.size w w':=by
 subst hl hrs hps;obtain⟨ii,hii,hz0,hz1,hz2⟩:=info_parts zas;obtain⟨B,hB⟩:∃B,w.heap.size=B:=⟨_,rfl⟩;rw[hB];obtain⟨res,hres⟩:∃r,wrongF n ars rs ps=r:=⟨_,rfl⟩;obtain⟨an,han⟩:∃r,ansF (pickS ars n.toNat rs ps) n ars rs ps=r:=⟨_,rfl⟩;have hbad:res≠0→an=([],[]):=fun h=>by rw[←han];exact zmT (by rw[hres];exact h)
 rw[hres,han];have Hres:=Lh hres;have Han:=Lh han;have Hbad:=Lh hbad;clear hres han hbad;have b1:=(zm B w).alloc (by omega) (.cells #[.int .i64 n, .slice A ars.length c] 30)
 have k1:=Blk.new w B hB.symm 30 #[.int .i64 n, .slice A ars.length c];have b1':=b1.alloc (by simp;omega) (.cells #[.slice none 0 0, .slice none 0 0] 44)
 have k1':=k1.alloc (.cells #[.slice none 0 0, .slice none 0 0] 44);have kr:=Blk.new (w.alloc (.cells #[.int .i64 n, .slice A ars.length c] 30)) (B+1) (by simp;omega) 44 #[.slice none 0 0, .slice none 0 0]
 rw[hB]at hr hrr hrp;have hz1:((w.alloc (.cells #[.int .i64 n, .slice A ars.length c] 30)).alloc (.cells #[.slice none 0 0, .slice none 0 0] 44)).heap.size=B+2:=by simp;omega
 go_enter Tryz.func8, Tryz.ntmps8
 go_wp2_with fail;generalize ((w.alloc (.cells #[.int .i64 n, .slice A ars.length c] 30)).alloc (.cells #[.slice none 0 0, .slice none 0 0] 44))=W1 at*
 refine(zmO n ars A ars.length c rs R rs.length cr _ rfl hx ((hr.below b1' lR_).more (by omega)) hm rfl hfr ((hrr.below b1' lR_).more (by omega)) hmm).mono ?_;rintro e w2 ⟨rfl,hb2⟩
 have b2:=b1'.trans (hb2.mono (by omega))
 have k2:=k1'.below hb2 (by omega)
 have kr2:=kr.below hb2 (by omega)
 have hzz2:=hb2.size;rw[hz1]at hzz2;clear b1 k1 b1' k1' kr hz1 hb2;obtain⟨hE,hhE⟩:∃x,holdE n ars rs=x:=⟨_,rfl⟩;obtain⟨hBo,hhB⟩:∃x,holdB n ars rs=x:=⟨_,rfl⟩;rw[hhE,hhB];have HE:=Lh hhE;have HB:=Lh hhB;clear hhE hhB;have y0:=kr2.cell 0;have y1:=kr2.cell 1;simp at y0 y1;have z0:=kr2.frozen 0;have z1:=kr2.frozen 1;unfold maxLen at hmm;by_cases hE0:hE=0
 ·subst hE0;cases hBo
  ·have e:res=130:=by rw[←Hres.out];unfold wrongF;rw[if_pos HE.out,if_neg (by rw[HB.out];simp)]
   subst e;obtain⟨j0,j1,j2,j3⟩:=zfF (Hbad.out (by decide)) b2 kr2
   go_wp2_with fail;exact zek rfl rfl rfl rfl j0 ⟨_,_,rfl,j1,j2,j3⟩
  ·obtain⟨hck,hln,hall,-⟩:=zgJ HB.out;obtain⟨nn,rfl,hN⟩:=netOk_of hck;have n32:=hN.n32;have hln2:rs.length=nn:=by omega
   have hsb:=zlp hall;have e:res=if 2048<sumF rs then 5 else if zbP (nn:Int) ps=true then 0 else 100:=by rw[←Hres.out];unfold wrongF;rw[if_pos HE.out,if_pos HB.out]
   have E:=Lh e;have Hall:=Lh hall;have Hsb:=Lh hsb;have Hck:=Lh hck;have HN:=Lh hN;clear e hall hsb hck hN
   go_wp2_with fail
   go_loopw [10,34] (fun s i wr=>∃k:Nat,k≤rs.length∧i= .int .i64 k∧s= .int .i64 (sumF (rs.take k))∧wr=w2) (fun _ i _=>rs.length-(intOf i).toNat)
   case atStart=>exact⟨0,by omega,rfl,rfl,rfl⟩
   case round=>
    obtain⟨k,hk,rfl,rfl,hw⟩:=hrel;have hw':=hw.symm;clear hw;subst hw';have hs1:=Hsb.out k;by_cases hlt:k<rs.length
    ·obtain⟨b,off,x,rfl,hb,hxf,hc,hd,hxx⟩:=(hrr.below b2 lR_).at_ hfr hlt;have hst:=zgp hxx.out;have hs2:=Hsb.out (k+1);rw[hst]at hs2;generalize sumF (rs.take k)=S at*
     go_wp2_with fail;refine⟨⟨k+1,by omega,by go_num,by rw[hst],trivial⟩,by simp[intOf];omega⟩
    ·rw[zL (by omega)]at hs1⊢
     generalize sumF rs=S at*;by_cases hS:2048<S
     ·have e:res=5:=by rw[E.out,if_pos hS]
      subst e;obtain⟨j0,j1,j2,j3⟩:=zfF (Hbad.out (by decide)) b2 kr2
      go_wp2_with fail;exact zek rfl rfl rfl rfl j0 ⟨_,_,rfl,j1,j2,j3⟩
     ·have E2:Hid (res=if zbP (nn:Int) ps=true then 0 else 100):=by unfold Hid;rw[E.out,if_neg hS]
      have d0:=k2.cell 0;simp at d0
      go_wp2_with fail;clear hlt hS hs1
      go_loopw [47] (fun i wx=>∃j:Nat,j≤ps.length∧i= .int .i64 j∧wx=w2∧Hid (zbP (nn:Int) ps=zbP (nn:Int) (ps.drop j))) (fun i _=>ps.length-(intOf i).toNat)
      case atStart=>exact⟨0,by omega,rfl,rfl,rfl⟩
      case round=>
       obtain⟨j,hj,rfl,hw,He⟩:=hrel;have hw':=hw.symm;clear hw;subst hw';by_cases hlt:j<ps.length
       ·obtain⟨b,off,x,rfl,hbl,hxf,hc,hd,hxx⟩:=(hrp.below b2 lR_).at_ hfp hlt;have h1:(0:Int)≤(j:Int):=by omega
        have h2:(j:Int)<(ps.length:Int):=by omega
        by_cases hx0:x<0
        ·have e:res=100:=by rw[E2.out,He.out,if_neg];rw[hd.out];simp[zbP];omega
         subst e;obtain⟨j0,j1,j2,j3⟩:=zfF (Hbad.out (by decide)) b2 kr2
         clear E2 E He hd hxx
         go_wp2_with fail;exact zek rfl rfl rfl rfl j0 ⟨_,_,rfl,j1,j2,j3⟩
        ·by_cases hxn:(nn:Int)≤x
         ·have e:res=100:=by rw[E2.out,He.out,if_neg];rw[hd.out];simp[zbP];omega
          subst e;obtain⟨j0,j1,j2,j3⟩:=zfF (Hbad.out (by decide)) b2 kr2
          clear E2 E He hd hxx
          go_wp2_with fail;exact zek rfl rfl rfl rfl j0 ⟨_,_,rfl,j1,j2,j3⟩
         ·have He':Hid (zbP (nn:Int) ps=zbP (nn:Int) (ps.drop (j+1))):=by
           unfold Hid;rw[He.out];unfold zbP;rw[hd.out,zcZ,decide_eq_true (p:=0≤x∧x<(nn:Int)) (by omega),za3]
          clear He hd hxx E E2
          go_wp2_with fail;refine⟨⟨j+1,by omega,by go_num,trivial,He'⟩,by simp[intOf];omega⟩
       ·have hnp:zbP (nn:Int) ps=true:=by rw[He.out,zS (by omega)];rfl
        have e:res=0:=by rw[E2.out,if_pos hnp]
        subst e;have Hnp:=Lh hnp;clear hnp He E2 E;have d1:=k2.cell 1;simp at d1
        go_wp2_with fail;refine(zhp nn A c ars w2 Hck.out HN.out ((hr.below b2 lR_).more (by omega))).mono ?_
        rintro e w3 ⟨s,rfl,hS,hb3,hsg⟩;have hzz3:=hb3.size;have b3:=b2.trans (hb3.mono (by omega))
        have k3:=k2.below hb3 (by omega)
        have kr3:=kr2.below hb3 (by omega)
        have d3:=k3.cellL 0 rfl;have Hrr:=Lh ((hrr.below b3 lR_).more (B':=w3.heap.size) (by omega))
        have Hrp:=Lh ((hrp.below b3 lR_).more (B':=w3.heap.size) (by omega))
        have Hin:Hid (∀x∈ps,0≤x∧x<nn):=fun x hx=>by have:=zU.1 Hnp.out x hx;simpa using this
        have HS:=Lh hS;have Hb3:=Lh b3;have Hkr3:=Lh kr3;clear hr hrr hrp hx b2 k2 kr2 d0 d1 y0 y1 z0 z1 hS hb3 b3 kr3 k3
        go_wp2_with fail;have hI0:∀V,R23 w3 B nn s.gs R rs cr Q ps cq (fun _=>false) V w3.drew:=fun V=>by
         have h0:=Below.drewN (zm w3.heap.size w3) 1;constructor
         all_goals first
          |exact h0
          |(intro h;cases h)
        refine zei [70,71,72,73,74,75,76,77,78,79,16] (R23 w3 B nn s.gs R rs cr Q ps cq) (by kernel_rfl) (by kernel_rfl) ?_ ?_ ?_
        ·exact hI0 _
        ·intro i o ho L V w1 hi hL hno h K hK;rcases i with _|_|_|_|_|_|_|_|_|_|_|i
         ·cases ho
          simp only[putAll,zi,zj,zc,ze,zd];clear hL hno
          go_simp;exact hK (zg V 70 _) _ _ (by simp[putAll,zg]) {h with e0:=fun _=>rfl}
         ·cases ho
          clear hL;have l3:=hno 3 (by kernel_rfl)
          have l9:=hno 9 (by kernel_rfl)
          have l7:=hno 7 (by kernel_rfl)
          clear hno;simp only[putAll,zi,zj,zc,ze,zd]
          go_simp;refine hK (zg V 71 (.slice (some ⟨w1.heap.size,0,none⟩) 0 0)) _ _ (by simp[putAll,zg]) ?_
          have h':=h.below (bA_ w1 (.cells #[] 3));exact{h' with
           f1:=fun _ _=>⟨_,rfl,(zcO w1 _ rfl _ _).mono h.bel.size⟩}
         ·cases ho
          simp only[putAll,zi,zj,zc,ze,zd];clear hL hno
          go_simp;exact hK (zg V 72 _) _ _ (by simp[putAll,zg]) {h with e2:=fun _=>rfl}
         ·cases ho
          have e2:=h.e2 (hL ⟨2, .data⟩ (by simp) rfl)
          obtain⟨g1,e1',o1⟩:=h.f1 (hL ⟨1, .data⟩ (by simp) rfl) hi
          have e1:V 71=_:=e1'
          have l7:=hno 7 (by kernel_rfl)
          have l8:=hno 8 (by kernel_rfl)
          have l9:=hno 9 (by kernel_rfl)
          clear hL hno;have hrz:=Hrr.out.below h.bel lR_;have hcl:=cellsI_length rs;refine zaQ rfl _ _ 36 rfl w3.heap.size 3 ii (.int .i64 0) 1 8 Tryz.underlying36 hii hz0 hz1 hz2 rfl (by decide) (.slice (some ⟨g1,0,none⟩) 0 0) 0 [] (by simp[putAll,Act.eval,e1]) o1 w3.heap.size R nn cr (cellsI rs) (by simp[putAll,Act.eval,e2]) (by rw[hcl,zaY];exact hln2) hrz (zaA _) (by unfold maxLen;omega) (by omega) h.bel.size ?_
          intro v' w4 o4 g4 hv4;rw[List.nil_append,zaq]at o4;have hg1:=own_ge o1 (k:=g1) rfl;refine hK (zg V 73 v') _ _ (by simp[putAll,Act.put,zg]) ?_
          exact{h with
           bel:=h.bel.grown g4 h.bel.size (fun k hk=>by simp only[Value.ownBlock]at hk;injection hk with hk;omega)
           f1:=fun _ hn=>(by cases hn)
           f3:=fun _=>o4
           f7:=nX_ l7
           f8:=nX_ l8
           f9:=nX_ l9}
         ·cases ho
          simp only[putAll,zi,zj,zc,ze,zd];clear hL hno
          go_simp;exact hK (zg V 74 _) _ _ (by simp[putAll,zg]) {h with e4:=fun _=>rfl}
         ·cases ho
          simp only[putAll,zi,zj,zc,ze,zd];have e4:=h.e4 (hL ⟨4, .data⟩ (by simp) rfl)
          have ct:=(h.bel.cell (p:=⟨B,0,none⟩) (by simp;omega)).trans d3
          clear hL hno
          go_simp;exact hK (zg V 75 _) _ _ (by simp[putAll,zg,e4]) {h with e5:=fun _=>rfl}
         ·cases ho
          simp only[putAll,zi,zj,zc,ze,zd];clear hL hno
          go_simp;exact hK (zg V 76 _) _ _ (by simp[putAll,zg]) {h with e6:=fun _=>rfl}
         ·cases ho
          have e5:=h.e5 (hL ⟨5, .data⟩ (by simp) rfl)
          have e6:=h.e6 (hL ⟨6, .data⟩ (by simp) rfl)
          have o3:=h.f3 (hL ⟨3, .chain⟩ (by simp) rfl)
          have l1:L 1=true→L 3=true:=fun _=>hL ⟨3, .chain⟩ (by simp) rfl
          have l8:=hno 8 (by kernel_rfl)
          have l9:=hno 9 (by kernel_rfl)
          clear hL hno;simp only[putAll,zi,zj,zc,ze,zd]
          go_simp;have hpz:=(Hrp.out.below h.bel lR_).more h.bel.size
          refine(zmQ nn ps Q ps.length cq w1 n32 rfl hfp hpz hqm Hin.out).mono ?_;rintro e w4 ⟨gk,rfl,hgk,ok,bk⟩;refine hK (zg V 77 (.slice (some ⟨gk,0,none⟩) nn nn)) _ _ (by simp[putAll,zg,e5,e6]) ?_
          have h':=h.below bk;exact{h' with
           f7:=fun _=>⟨gk,rfl,ok.mono h.bel.size,fun b hb=>by have:=o3.lt b hb;omega⟩
           f8:=nX_ l8
           f9:=nX_ l9}
         ·cases ho
          have e0:=h.e0 (hL ⟨0, .data⟩ (by simp) rfl)
          have o3:=h.f3 (hL ⟨3, .data⟩ (by simp) rfl)
          obtain⟨gk,e7,o7,hk7⟩:=h.f7 (hL ⟨7, .data⟩ (by simp) rfl)
          obtain⟨A3,c3,e3,_⟩:=zH o3;have l9:=hno 9 (by kernel_rfl)
          clear hL hno;simp only[putAll,zi,zj,zc,ze,zd]
          go_simp;refine hK (zg V 78 (.agg #[.pointer (some ⟨s.gs,0,none⟩),V 73,V 77, .slice none 0 0])) _ _ (by simp[putAll,zg,e0,e3,e7]) ?_
          exact{h with
           f8:=fun _=>rfl
           f9:=nX_ l9}
         ·cases ho
          have e8:=h.f8 (hL ⟨8, .data⟩ (by simp) rfl)
          have l10:=hno 10 (by kernel_rfl)
          clear hL hno;simp only[putAll,zi,zj,zc,ze,zd]
          go_simp;refine hK (zg V 79 (.pointer (some ⟨w1.heap.size,0,none⟩))) _ _ (by simp[putAll,zg,e8]) ?_
          have h':=h.below (bA_ w1 (.cells #[.pointer (some ⟨s.gs,0,none⟩),V 73,V 77, .slice none 0 0] 99));exact{h' with
           f9:=fun _=>⟨_,rfl,h.bel.size,Blk.new w1 _ rfl _ _⟩
           f10:=nX_ l10}
         ·cases ho
          obtain⟨gr,e9,hgr,kgr⟩:=h.f9 (hL ⟨9, .data⟩ (by simp) rfl)
          clear hL hno;simp only[putAll,zi,zj,zc,ze,zd]
          go_simp;refine hK (zg V 16 (V 79)) _ _ (by simp[putAll,zg,e9]) ?_
          exact{h with f10:=fun _=>rfl}
         ·simp at ho
        ·clear hI0;intro L V w4 hL h;have oL:=h.f3 (hL 3 (by simp))
         obtain⟨A3,cl,e3,_⟩:=zH oL;have hpos:=HN.out.pos;rw[e3]at oL;obtain⟨gl,rfl⟩:=zbi oL hpos;obtain⟨gk,e7,oK,hkl⟩:=h.f7 (hL 7 (by simp))
         obtain⟨gr,e9,hgr,kgr⟩:=h.f9 (hL 9 (by simp))
         have e10:=h.f10 (hL 10 (by simp))
         rw[e9]at e10;have hgkl:=hkl gl (by rw[e3];rfl)
         rw[e3,e7]at kgr;have hbel:=h.bel;simp only[putAll,zi,zj,zc,ze,zd,e10];have hX0:zc7 w3 w4 w2.heap.size w3.heap.size ⟨gr,gl,cl,gk⟩ s nn ars (fun _=>0) (leftF rs fun _=>0) (zcH nn ps 0) (.slice none 0 0) []:=
          ⟨(zff hbel).mono (fun k _ hk=> .inr (.inr hk)),kgr,own_below HS.out.tok hbel,own_below HS.out.fir hbel,by rw[zmS hln2];exact oL,oK,zr _ _ _ _,hgr,hgkl,fun b hb=>by cases hb⟩
         clear h hL oL e3 hkl e7 e9 e10 oK hgr kgr hgkl hbel;have HX0:=Lh hX0;obtain⟨r,hr⟩:∃r:RM,(⟨gr,gl,cl,gk⟩:RM)=r:=⟨_,rfl⟩;have hrr:gr=r.gr:=by rw[←hr]
         rw[hr]at HX0;subst hrr;clear hX0 hr;have hgt3:=(HS.out.tok.lt s.gt rfl).2;have hgf3:=(HS.out.fir.lt s.gf rfl).2;have hsm0:zeQ nn fun _=>0:=fun j _=>by simp
         go_wp2_with fail;refine(zjq nn ars (fun _=>0) (leftF rs fun _=>0) (zcH nn ps 0) w2.heap.size r s (.slice none 0 0) w4 HN.out hsm0 (HX0.out.run HS.out rfl hzz3)).mono ?_
         rintro e w5 ⟨rfl,hd5⟩;have HX:=Lh (HX0.out.below (hd5.below _));clear HX0 hsm0 hd5
         go_wp2_with fail
         go_loopg [17] (leftSum nn (leftF rs fun _=>0)) (fun gg v wr=>∃(F:Nat→Int) (lv:Value) (ls:List Int),v= .int .i64 (pickS ars nn rs ps F)∧gg=leftSum nn (leftF rs F)∧zc7 w3 wr w2.heap.size w3.heap.size r s nn ars F (leftF rs F) (zcH nn ps 0) lv ls∧Hid (∀j,j<nn→0≤F j∧F j≤repAt rs j)∧
          Hid (runF (pickS ars nn rs ps) (leftSum nn (leftF rs fun _=>0)) (fun _=>0)=(ls++(runF (pickS ars nn rs ps) (leftSum nn (leftF rs F)) F).1,(runF (pickS ars nn rs ps) (leftSum nn (leftF rs F)) F).2))∧ls.length+leftSum nn (leftF rs F)≤200000)
         case atStart=>
          refine⟨_,_,[],rfl,rfl,HX.out,fun j hj=>⟨zaT _,?_⟩,rfl,?_⟩
          ·have:=zca Hall.out (f:=j) (by omega);omega
          ·have:=zlr (n:=nn) (m:=4096) (L:=leftF rs fun _=>0) fun v hv=>by have:=zca Hall.out (f:=v) (by omega);show repAt rs (v:Int)-0≤_;omega
           have h32:nn*4096≤32*4096:=zb0 _ n32
           simp only[zaD];omega
         case round=>
          clear HX;obtain⟨F,lv,ls,rfl,rfl,X,hF,hE,hlen⟩:=hrel;have hsm:zeQ nn F:=fun j hj=>by have h1:=hF.out j hj;have h2:=zca Hall.out (f:=j) (by omega);omega
          by_cases hpk:0≤pickS ars nn rs ps F
          ·obtain⟨v,hpv,hv,hlv,hmay⟩:=zfX ars nn rs ps F hpk;have hgo:=zo8 (zfX ars nn rs ps) hpk;have hls:=zfr (leftF rs F) v nn hv hlv;rw[←zfg]at hls;rw[hpv,zE]at hgo;have hE2:Hid (runF (pickS ars nn rs ps) (leftSum nn (leftF rs fun _=>0)) (fun _=>0)=((ls++[(v:Int)])++(runF (pickS ars nn rs ps) (leftSum nn (leftF rs (bump F v))) (bump F v)).1,(runF (pickS ars nn rs ps) (leftSum nn (leftF rs (bump F v))) (bump F v)).2)):=by
            unfold Hid;rw[hE.out,hgo,zbR];rfl
           have hF2:Hid (∀j,j<nn→0≤bump F v j∧bump F v j≤repAt rs j):=by
            intro j hj;have h1:=hF.out j hj;unfold bump;by_cases hjv:j=v
            ·subst hjv;rw[zaW];unfold leftF at hlv;omega
            ·rw[zaI hjv];exact h1
           have hlen2:(ls++[(v:Int)]).length+leftSum nn (leftF rs (bump F v))≤200000:=by simp only[zx,zaE];omega
           have hls1:ls.length≤200000:=by omega
           rw[hpv];have hlim:1≤repAt rs v∧repAt rs v≤4096:=zca Hall.out (f:=v) (by omega)
           have hFv:=hF.out v hv;have hF1:∀j,j<nn→0≤F j∧F j+(1:Nat)≤1000000:=fun j hj=>by have h1:=hF.out j hj;have h2:=zca Hall.out (f:=j) (by omega);omega
           have x0:=X.blk.cellL 0 rfl;have ba:=bA_ wr (.cells #[.int .i64 v] 3);have X1:=X.below ba;have S1:=X1.st HS.out rfl;have r1:=zal wr _ rfl 3 [Value.int .i64 v];have hzr:w3.heap.size≤wr.heap.size:=X.only.size;have HX1:=Lh X1;have HS1:=Lh S1;have Hr1:=Lh r1;have HF1:=Lh hF1;have Hmay:=Lh hmay;have Hlv:=Lh hlv;have Hls:=Lh hls;clear X ba X1 S1 r1 hE hF hsm hF1 hmay hgo hlv hls hpk hpv hlen
           go_wp2_with fail;refine(zjn [(v:Int)] (some ⟨wr.heap.size,0,none⟩) 1 1 nn ars F w2.heap.size s _ rfl (fun x hx=>by simp at hx;subst hx;unfold fits;omega) ((Hr1.out).more (by simp)) (by simp only[blkOf];intro hc;injection hc with hc;omega) (by simp only[blkOf];intro hc;injection hc with hc;omega) HN.out HF1.out HS1.out).mono ?_
           rintro e w6 ⟨rfl,S6,O6⟩;obtain⟨hf1,hf2⟩:=zjs Hmay.out;rw[hf2]at S6;rw[hf1];have X6:=HX1.out.fire O6 S6 hgt3 hgf3;have x1:=X6.blk.cellL 1 rfl;have cl6:=zbK X6.lef hv;have fl6:=X6.lef.frozenAt v;obtain⟨lf,hlf⟩:∃lf,leftF rs F v=lf:=⟨_,rfl⟩;have hlfb:0<lf∧lf≤4096:=by rw[←hlf];have:=Hlv.out;unfold leftF at this⊢;omega
           rw[hlf]at cl6;have X7:=X6.setLeft v (lf-1) hgt3 hgf3;rw[←hlf,←zfg,hlf]at X7;have X8:=X7.below ((zm (w6.setCell ⟨r.gl,v,none⟩ (.int .i64 (lf-1))).heap.size _).alloc lR_ (.cells #[.int .i64 v] 3));have x3:=X8.blk.cellL 3 rfl;have r8:=zal (w6.setCell ⟨r.gl,v,none⟩ (.int .i64 (lf-1))) w6.heap.size (by simp) 3 [Value.int .i64 v]
           have hz8:w3.heap.size≤((w6.setCell ⟨r.gl,v,none⟩ (.int .i64 (lf-1))).alloc (.cells #[.int .i64 v] 3)).heap.size:=X8.only.size
           have y3:=X7.blk.cellL 3 rfl;have HX8:=Lh X8;clear X6 X7 X8 S6 O6 HX1 HS1 Hr1 HF1 x0 hf1 hf2
           go_wp2_with (at_builtin;refine zR _ rfl _ _ 36 rfl w3.heap.size 3 ii (.int .i64 0) 1 8 Tryz.underlying36 hii hz0 hz1 hz2 rfl (by decide) _ ls.length (cellsI ls) rfl HX8.out.lst (w6.heap.size+1) (some ⟨w6.heap.size,0,none⟩) 1 1 [.int .i64 v] rfl rfl r8 (by simp[Value.oneCell']) (by unfold maxLen;omega) (by omega) hz8 ?_)
           intro v' w7 o7 g7 h7;have X9:=HX8.out.push (v:Int) hgt3 hgf3 g7 (by simpa using h7) o7
           have k7:Blk w7 r.gr 99 #[.pointer (some ⟨s.gs,0,none⟩), .slice (some ⟨r.gl,0,none⟩) nn r.cl, .slice (some ⟨r.gk,0,none⟩) nn nn,lv]:=HX8.out.blk.grown g7 fun hc=>by
            obtain⟨c2,k2⟩:=own_block HX8.out.lst hc.symm;exact absurd (zaP HX8.out.blk k2) (by decide)
           obtain⟨A7,c7,rfl,_⟩:=zH o7;have y7:=k7.cellL 3 rfl;have z7:=k7.frozen 3;have HX9:=Lh X9;clear X9 k7 o7 g7 h7 x1 cl6 fl6 hlf hlfb x3 y3 r8 hz8 HX8 hlim hFv hls1 Hlv Hmay;have hsm2:zeQ nn (bump F v):=fun j hj=>by have h1:=hF2.out j hj;have h2:=zca Hall.out (f:=j) (by omega);omega
           go_wp2_with fail;refine(zjq nn ars (bump F v) (leftF rs (bump F v)) (zcH nn ps 0) w2.heap.size r s _ _ HN.out hsm2 (HX9.out.run HS.out rfl hzz3)).mono ?_
           rintro e w9 ⟨rfl,hd9⟩;have X10:=HX9.out.below (hd9.below _);have HX10:=Lh X10;clear X10 HX9 hd9 hsm2 y7 z7
           go_wp2_with fail
           go_roundg (leftSum nn (leftF rs (bump F v)))
           case measure=>have:=Hls.out;omega
           case rel=>exact⟨bump F v,_,ls++[(v:Int)],rfl,rfl,HX10.out,hF2,hE2,hlen2⟩
          ·have hst:=zif (pick:=pickS ars nn rs ps) hpk;have hE3:=hE.out;rw[hst]at hE3;rw[zby]at hE3;have hsgt:=(HS.out.tok.lt s.gt rfl).1;have hsgf:=(HS.out.fir.lt s.gf rfl).1;have bw:Below B w wr:=Hb3.out.trans ⟨X.only.os,X.only.tape,X.only.output,X.only.size,fun k hk=>X.only.block k (by omega) (by omega)⟩
           have kr:Blk wr (B+1) 44 #[.slice none 0 0, .slice none 0 0]:=(X.only.block (B+1) (by omega) (by omega)).trans Hkr3.out
           have hzr:w3.heap.size≤wr.heap.size:=X.only.size
           go_wp2_with fail;refine(zlq nn ars F (leftF rs F) (zcH nn ps 0) w2.heap.size r s lv wr HN.out hsm (X.run HS.out rfl hzz3)).mono ?_
           rintro e w9 ⟨bv,rfl,ob,hb9⟩;have bw9:=bw.trans (hb9.mono (by omega))
           have kr9:=kr.below hb9 (by omega)
           have X9:=X.below hb9;have han:=Han.out;unfold ansF at han;rw[if_pos Hres.out,zE,hE3]at han;unfold zob at han;simp only at han;obtain⟨bs,hbs⟩:∃bs,blocksF ars nn F (leftF rs F) nn=bs:=⟨_,rfl⟩;rw[hbs]at han ob;obtain⟨Ab,cb,rfl,_⟩:=zH ob;obtain⟨Al,cl',rfl,_⟩:=zH X9.lst;have y0:=kr9.cell 0;have z0:=kr9.frozen 0;have y1:=(kr9.set 0 (.slice Al ls.length cl')).cell 1;have z1:=(kr9.set 0 (.slice Al ls.length cl')).frozen 1;have y2:=(kr9.set 0 (.slice none 0 0)).cell 1;have z2:=(kr9.set 0 (.slice none 0 0)).frozen 1;simp only[zc,ze,zC,zI,zT]at y0 y1 y2;have j1:=((kr9.set 0 (.slice Al ls.length cl')).set 1 (.slice none 0 0));have j2:=((kr9.set 0 (.slice none 0 0)).set 1 (.slice Ab bs.length cb));simp only[zc,ze,zd]at j1 j2;have m1:∀{e:TypeId} {size m:Nat} {v:Value} {xs:List Value} (a b:Value),w9.ownsRow B e size v m xs→e≠ 44 →((w9.setCell ⟨B+1,0,none⟩ a).setCell ⟨B+1,1,none⟩ b).ownsRow B e size v m xs:=fun a b ho he=>zap (zap ho kr9 he 0 a) (kr9.set 0 a) he 1 b
           have m2:∀(a b:Value),Below B w ((w9.setCell ⟨B+1,0,none⟩ a).setCell ⟨B+1,1,none⟩ b):=fun a b=>(bw9.setCell (p:=⟨B+1,0,none⟩) (by simp) _).setCell (p:=⟨B+1,1,none⟩) (by simp) _
           have x3:=X9.blk.cellL 3 rfl;have ol:=X9.lst;have hbz:=hb9.size;clear X X9 hE hE3 bw kr hb9 kr9 hst bw9;by_cases hb0:bs=[]
           ·subst hb0;rw[if_pos rfl]at han;subst han
            go_wp2_with fail;exact zek rfl rfl rfl rfl j1 ⟨_,_,rfl,m1 _ _ (ol.mono (by omega)) (by decide),zr _ _ _ _,m2 _ _⟩
           ·rw[if_neg hb0]at han;subst han;have hbl:0<bs.length:=List.length_pos_iff.2 hb0
            go_wp2_with fail;exact zek rfl rfl rfl rfl j2 ⟨_,_,rfl,zr _ _ _ _,m1 _ _ (ob.mono (by omega)) (by decide),m2 _ _⟩
 ·have e:res=hE:=by rw[←Hres.out];unfold wrongF;rw[HE.out,if_neg hE0]
  subst e;have hqq:(res !=0)=true:=by simpa using hE0
  obtain⟨j0,j1,j2,j3⟩:=zfF (Hbad.out hE0) b2 kr2
  go_wp2_with fail;exact zek rfl rfl rfl rfl j0 ⟨_,_,rfl,j1,j2,j3⟩
def aw2:List ArcV:=[⟨0,0,1,1,0⟩]
theorem zpx:wrongF 1 aw2 [1] []=0:=by kernel_rfl
theorem zo9:ansF (pickS aw2 1 [1] []) 1 aw2 [1] []=([],[⟨0,0,0⟩]):=by kernel_rfl
theorem zel{xs:List Int}(h:xs.all (fun x=>decide (0≤x∧x≤9))=true):AllFit xs:=by
 intro x hx
 have:=zU.1 h x hx
 simp only[decide_eq_true_eq]at this;unfold fits;omega
theorem zig{a:ArcV}(h:0≤a.f∧a.f≤9∧0≤a.t∧a.t≤9∧0≤a.g∧a.g≤9∧0≤a.k∧a.k≤9∧0≤a.s∧a.s≤9):∀b∈[a],b.fit:=by
 intro b hb;simp only[zW]at hb;subst hb;unfold ArcV.fit fits;omega
theorem zjt{α:Type}{xs ys:List α}{k:Nat}{x y:α}(h:xs.take k=ys.take k)(hx:xs[k]?=some x)(hy:ys[k]?=some y):xs.take (k+1)=ys.take (k+1)↔x=y:=by
 rw[zan,zan,hx,hy,h];simp
theorem zju(xs ys:List Int)(A A':Option Addr)(n n' c c' B B':Nat)(w:World)(hn:xs.length=n)(hn':ys.length=n')(hx:AllFit xs)(hy:AllFit ys)(hr:Rd w B A (cellsI xs))(hr':Rd w B' A' (cellsI ys))(hl:n≤maxLen):
  Calls Tryz.prog 24 #[.slice A n c, .slice A' n' c'] w fun e w'=>e= .returned (.bool (decide (xs=ys)))∧Drawn w w':=by
 subst hn hn';unfold maxLen at hl;by_cases hlen:xs.length=ys.length
 ·obtain⟨res,hres⟩:∃r,decide (xs=ys)=r:=⟨_,rfl⟩;rw[hres];have Hres:=Lh hres;clear hres;have hq:((xs.length:Int) !=(xs.length:Int))=false:=by simp
  rw[←hlen]
  go_enter Tryz.func24, Tryz.ntmps24
  go_wp2
  go_loopw [5] (fun i wr=>∃k:Nat,k≤xs.length∧i= .int .i64 k∧Drawn w wr∧Hid (xs.take k=ys.take k)) (fun i _=>xs.length-(intOf i).toNat)
  case atStart=>exact⟨0,by omega,rfl,Drawn.refl w,by unfold Hid;simp⟩
  case round=>
   obtain⟨k,hk,rfl,hdw,He⟩:=hrel;by_cases hlt:k<xs.length
   ·have hlt':k<ys.length:=by omega
    obtain⟨b,off,x,rfl,hb,hxk,hc,hd,hxx⟩:=(hdw.rd hr).at_ hx hlt;obtain⟨b',off',x',rfl,hb',hxk',hc',hd',hxx'⟩:=(hdw.rd hr').at_ hy hlt';have hst:=zjt He.out hxx.out hxx'.out;have h1:(0:Int)≤(k:Int):=by omega
    have h2:(k:Int)<(xs.length:Int):=by omega
    by_cases hxe:x=x'
    ·subst hxe;have He2:Hid (xs.take (k+1)=ys.take (k+1)):=hst.2 rfl;have h3:(x !=x)=false:=by simp
     clear hd hd' hst
     go_wp2
     go_quiet (fail)
     go_wp2
     go_roundw
     case rel=>exact⟨k+1,by omega,by go_num,hdw.drewN _,He2⟩
     case measure=>simp[intOf];omega
    ·have e:res=false:=by
      rw[←Hres.out];exact decide_eq_false fun hc=>hxe (hst.1 (by rw[hc]))
     subst e;have h3:(x !=x')=true:=by simpa using hxe
     clear hd hd' hst
     go_wp2
     go_quiet (fail)
     go_wp2
     go_ret;exact⟨rfl,hdw.drewN _⟩
   ·have e:res=true:=by
     rw[←Hres.out]
     have:=He.out
     rw[zL (by omega),zL (by omega)]at this
     exact decide_eq_true this
    subst e
    go_wp2
    go_ret;exact⟨rfl,hdw⟩
 ·have hq:((xs.length:Int) !=(ys.length:Int))=true:=by simp;omega
  rw[decide_eq_false (p:=xs=ys) (fun h=>hlen (by rw[h]))]
  go_enter Tryz.func24, Tryz.ntmps24
  go_wp2
  go_ret;exact⟨rfl,Drawn.refl w⟩
theorem zgr(bs:List BlkV):∀(k:Nat) (b:BlkV),bs[k]?=some b→∀j u,b.cells[j]?=some u→(zba bs)[k*3+j]?=some u:=by
 induction bs with
 |nil=>intro k b h;simp at h
 |cons b0 bs ih=>
  intro k b h j u hu;have e:zba (b0::bs)=b0.cells++zba bs:=rfl;cases k with
  |zero=>
   cases h
   have hj:j<b0.cells.length:=(zu.1 hu).1
   rw[e,zbA,zaq,zar hj];exact hu
  |succ k=>
   have h':bs[k]?=some b:=by simpa using h
   rw[e,zO (by simp[BlkV.cells];omega)]
   have:(k+1)*3+j-b0.cells.length=k*3+j:=by simp[BlkV.cells];omega
   rw[this];exact ih k b h' j u hu
theorem Rd.blkAt{w:World}{B:Nat}{A:Option Addr}{bs:List BlkV}{k:Nat}(h:Rd w B A (zba bs))(hk:k<bs.length):
  ∃b off v,A=some ⟨b,off,none⟩∧w.cell? ⟨b,off+k*3,none⟩=some (.int .i64 v.v)∧w.cell? ⟨b,off+k*3+1,none⟩=some (.int .i64 v.f)∧w.cell? ⟨b,off+k*3+2,none⟩=some (.int .i64 v.a)∧Hid (bs[k]?=some v):=by
 have hg:bs[k]?=some bs[k]:=zk hk
 rcases h with h|⟨b,off,hA,_,hc⟩
 ·have:=zis bs;rw[h]at this;simp at this;omega
 ·refine⟨b,off,bs[k],hA,?_,?_,?_,hg⟩
  ·exact hc _ _ (zgr bs k _ hg 0 _ rfl)
  ·rw[za4];exact hc _ _ (zgr bs k _ hg 1 _ rfl)
  ·rw[za4];exact hc _ _ (zgr bs k _ hg 2 _ rfl)
end Go.Proofs.YtpmlljbebdidgaaGreatDoor
