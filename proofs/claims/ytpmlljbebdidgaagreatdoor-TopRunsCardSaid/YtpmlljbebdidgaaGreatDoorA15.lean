/- Lemmas and walks for the claim: Dc, Dd, De, Df, Dg. -/
import Derived.Test.YtpmlljbebdidgaaGreatDoorA0
import Derived.Test.YtpmlljbebdidgaaGreatDoorA3
import Derived.Test.YtpmlljbebdidgaaGreatDoorA14
import Derived.OpenShut
set_option linter.unusedSimpArgs false
set_option maxRecDepth 100000
set_option maxHeartbeats 1000000
namespace Go.Proofs.YtpmlljbebdidgaaGreatDoor
open Go.RowKit
theorem zoB{w:World}{base g n c:Nat}{ys:List Int}(h:w.ownsRow base 3 1 (.slice (some ⟨g,0,none⟩) n c) n (cellsI ys)){k:Nat}:Rd w w.heap.size (some ⟨g,k,none⟩) (cellsI (ys.drop k)):=by
 have e:cellsI (ys.drop k)=(cellsI ys).drop k:=by simp[cellsI,zcm]
 rcases rd_of_own h with hr|⟨b,off,hA,hb,hc⟩
 ·exact .inl (by rw[e,hr,List.drop_nil])
 ·injection hA with hA
  injection hA with h1 h2 _
  subst h1 h2;refine .inr ⟨g,k,rfl,hb,fun j u hu=>?_⟩
  rw[e,List.getElem?_drop]at hu
  have:=hc (k+j) u hu
  rwa [zaq]at this
structure TkI(w0:World)(X:Nat→Prop)(z g gl n c k1 oS:Nat)(cap:Int)(ys:List Int)(L:Nat→Bool)(V:Nat→Value)(w:World):Prop where
 only:Only X w0 w
 hz:z≤w.heap.size
 p0:L 11=false→Blk w g 189 #[.int .i64 cap, .slice (some ⟨gl,0,none⟩) n c, .int .i64 (k1:Nat)]∧w.ownsRow 0 3 1 (.slice (some ⟨gl,0,none⟩) n c) n (cellsI ys)
 b:L 1=true→L 11=false→V 46= .slice (some ⟨gbOf (V 46),0,none⟩) 0 0∧w.ownsRow z 3 1 (.slice (some ⟨gbOf (V 46),0,none⟩) 0 0) 0 []
 p1:L 11=true→L 14=false→Blk w g 189 #[.int .i64 cap, .slice (some ⟨gl,0,none⟩) n c, .int .i64 (k1:Nat)]∧V 56= .slice (sAddr (V 56)) (n-k1) (sCap (V 56))∧w.ownsRow z 3 1 (V 56) (n-k1) (cellsI (ys.drop k1))
 p2:L 14=true→∃A9 c9,V 56= .slice A9 (n-k1) c9∧Blk w g 189 #[.int .i64 cap, .slice A9 (n-k1) c9, .int .i64 (k1:Nat)]∧w.ownsRow z 3 1 (.slice A9 (n-k1) c9) (n-k1) (cellsI (ys.drop k1))
 e10:L 10=true→V 55= .slice (some ⟨gl,oS,none⟩) (n-k1) (c-k1)
 e0:L 0=true→V 45= .pointer (some ⟨g,0,none⟩)
 e2:L 2=true→V 47= .pointer (some ⟨g,0,none⟩)
 e3:L 3=true→V 48= .pointer (some ⟨g,0,none⟩)
 e4:L 4=true→V 49= .pointer (some ⟨g,1,none⟩)
 e5:L 5=true→V 50= .slice (some ⟨gl,0,none⟩) n c
 e6:L 6=true→V 51= .pointer (some ⟨g,0,none⟩)
 e7:L 7=true→V 52= .pointer (some ⟨g,0,none⟩)
 e8:L 8=true→V 53= .pointer (some ⟨g,2,none⟩)
 e9:L 9=true→V 54= .int .i64 (k1:Nat)
 e12:L 12=true→V 57= .pointer (some ⟨g,0,none⟩)
 e13:L 13=true→V 58= .pointer (some ⟨g,1,none⟩)
theorem zlE(q:QV)(w:World)(h:QuM w q)(hl:0<q.len):
  Calls Tryz.prog 125 #[.pointer (some ⟨q.g,0,none⟩)] w fun e w'=>∃x,e= .returned (.tuple #[.int .i64 x, .bool true])∧q.ys[q.k]?=some x∧∃lv ys k,QuM w' {q with lv:=lv,ys:=ys,k:=k}∧ys.drop k=q.ys.drop (q.k+1)∧ys.length≤q.ys.length∧Only q.own w w'∧∀b,lv.ownBlock=some b→q.lv.ownBlock=some b∨w.heap.size≤b:=by
 obtain⟨ii,hii,hz0,hz1,hz2⟩:=info_parts zas;have hpos:0<q.ys.length:=by unfold QV.len at hl;omega
 have hkl:q.k<q.ys.length:=by unfold QV.len at hl;omega
 obtain⟨A,c,hlv,hnc⟩:=zH h.row;have row:=h.row;rw[hlv]at row;obtain⟨gl,rfl⟩:=zbi row hpos;have HL:=Lh (zgN q w h);have HQ:=Lh h;have hcap:=h.cap0;have hwide:=h.wide;obtain⟨n,hn⟩:∃n,q.ys.length=n:=⟨_,rfl⟩;obtain⟨k,hk⟩:∃k,q.k=k:=⟨_,rfl⟩;obtain⟨g,hg⟩:∃g,q.g=g:=⟨_,rfl⟩;obtain⟨cap,hcp⟩:∃c,q.cap=c:=⟨_,rfl⟩;obtain⟨ys,hys⟩:∃ys,q.ys=ys:=⟨_,rfl⟩;obtain⟨l,hle⟩:∃l,q.len=l:=⟨_,rfl⟩;have kb:=h.kb;have hgw:=h.kb.lt;have hog:q.own g:= .inl hg.symm;have hgl:q.own gl:= .inr (by rw[hlv];rfl)
 have hfit:=h.fit;obtain⟨x,hx⟩:∃x,ys[k]?=some x:=⟨_,zk (by rw[←hys,←hk];exact hkl)⟩
 have hxf:fits x:=hfit x (by rw[hys];exact zv hx)
 rw[hcp,hlv,hn,hk,hg]at kb;rw[hn,hys]at row;rw[hle,hg]at HL;rw[hg]at hgw;rw[hn]at hwide hkl hpos;rw[hk]at hkl;rw[hg,hk,hys];have hlz:((l:Int)==0)=false:=by simp;omega
 have Hn:Hid (ys.length=n):=by rw[←hys];exact hn
 have HX:=Lh hx;have Hfit:Hid (AllFit ys):=by rw[←hys];exact hfit
 obtain⟨X,hXe⟩:∃X,q.own=X:=⟨_,rfl⟩;rw[hXe]at hog hgl⊢;have HF:=Lh (⟨hlv,hk,hg,hcp,hys,hcap⟩:q.lv= .slice (some ⟨gl,0,none⟩) q.ys.length c∧q.k=k∧q.g=g∧q.cap=cap∧q.ys=ys∧(0≤q.cap∧q.cap≤9223372036854775807));have HR:=Lh row;have HK:=Lh kb;have HXe:=Lh hXe;rw[hn]at hnc;clear hlv hk hg hcp hys hcap hn hle h HQ hl kb row hfit hx hXe
 go_enter Tryz.func125, Tryz.ntmps125
 go_wp2_with fail;refine HL.out.mono ?_
 rintro e w2 ⟨rfl,d2⟩;have k2:=HK.out.below (d2.below w.heap.size) hgw;have r2:=own_below HR.out (d2.below w.heap.size);have c1:=k2.cellL 1 rfl;have c2:=k2.cellL 2 rfl;have cx:w2.cell? ⟨gl,k,none⟩=some (.int .i64 x):=by
  rcases rd_of_own r2 with hr|⟨b,off,hA,hb,hc⟩
  ·have:=congrArg List.length hr
   rw[cellsI_length,Hn.out]at this;simp at this;omega
  ·injection hA with hA
   injection hA with h1 h2 _
   subst h1 h2
   have:=hc k (.int .i64 x) (by simp[cellsI,HX.out])
   rwa [zaq]at this
 have h1:(0:Int)≤(k:Int):=by omega
 have h2:(k:Int)<(n:Int):=by omega
 have HD2:=Lh d2;have HK2:=Lh k2;have HR2:=Lh r2;clear d2 k2 r2 HL
 go_wp2_with fail
 go_quiet (fail)
 generalize hW3:World.drewN w2 _=W3;have d3:Drawn w2 W3:=by rw[←hW3];exact(Drawn.refl _).drewN _
 have k3:=HK2.out.below (d3.below w2.heap.size) HK2.out.lt;have r3:=own_below HR2.out (d3.below w2.heap.size);have c2:=k3.cellL 2 rfl;have f2:=k3.frozen 2;have k4:=k3.set 2 (.int .i64 ((k:Int)+1));simp only[zc,ze,zd]at k4;have r4:=zap r3 k3 (by decide) 2 (.int .i64 ((k:Int)+1))
 have hk1:(k:Int)+1≤9223372036854775807:=by omega
 have HD3:=Lh (HD2.out.trans d3);clear hW3 d3 k3 r3 c1 cx HK2 HR2
 go_upto_region 6 with fail;obtain⟨W4,hW4⟩:∃W,W3.setCell ⟨g,2,none⟩ (.int .i64 ((k:Int)+1))=W:=⟨_,rfl⟩;have O4:Only X w W4:=by rw[←hW4];exact(Only.of_below (HD3.out.below _)).setCell ⟨g,2,none⟩ _ fun _=>hog
 have hz4:w.heap.size≤W4.heap.size:=O4.size
 rw[hW4]at k4 r4⊢;clear hW4 c2 f2;have c1:=k4.cellL 1 rfl;have c2:=k4.cellL 2 rfl;have HK4:=Lh k4;have HR4:=Lh r4;have HO4:=Lh O4;have done:∀W5,Drawn W4 W5→QuM W5 {g:=g,cap:=q.cap,lv:= .slice (some ⟨gl,0,none⟩) n c,ys:=ys,k:=k+1}:=fun W5 d5=>by
  obtain⟨hlv,hk,hg,hcp,hys,hcap⟩:=HF.out;have k5:=HK4.out.below (d5.below W4.heap.size) HK4.out.lt;have r5:=own_below HR4.out (d5.below W4.heap.size);refine⟨?_,?_,?_,Hfit.out,hcap,?_⟩
  ·show Blk _ g _ #[.int .i64 q.cap,_, .int .i64 ((k+1:Nat):Int)]
   rw[hcp];exact k5
  ·show World.ownsRow _ _ _ _ _ ys.length _
   rw[Hn.out];exact r5
  ·show k+1≤ys.length
   rw[Hn.out];omega
  ·show ys.length*8≤_
   rw[Hn.out];exact hwide
 have Hdone:=Lh done;clear k4 r4 O4 done;by_cases hk32:(32:Int)<(k:Int)+1
 ·have e1:IntKind.i64.wrap (2*((k:Int)+1))=2*((k:Int)+1):=by rw[IntKind.wrap_i64];omega
  by_cases hk2:(n:Int)<2*((k:Int)+1)
  ·go_quiet (fail)
   generalize hW5:World.drewN W4 _=W5;have d5:Drawn W4 W5:=by rw[←hW5];exact(Drawn.refl _).drewN _
   have hz5:W5.heap.size=W4.heap.size:=d5.size
   have P0:Blk W5 g 189 #[.int .i64 cap, .slice (some ⟨gl,0,none⟩) n c, .int .i64 ((k+1:Nat):Int)]∧W5.ownsRow 0 3 1 (.slice (some ⟨gl,0,none⟩) n c) n (cellsI ys):=⟨HK4.out.below (d5.below W4.heap.size) HK4.out.lt,own_below HR4.out (d5.below W4.heap.size)⟩
   have O5:Only X w W5:=HO4.out.drawn d5
   have hgz:g<W5.heap.size:=P0.1.lt
   have hz0w:w.heap.size≤W5.heap.size:=by omega
   have hk1n:k+1≤n:=by omega
   have hkc:k+1≤c:=by omega
   have hmx:n*8≤140737488355328:=hwide
   obtain⟨oS,hcc,hRd⟩:∃oS,(((∀a b:Option Addr,(if c=k+1 then a else b)=a)∧oS=0)∨((∀a b:Option Addr,(if c=k+1 then a else b)=b)∧oS=k+1))∧∀w1:World,w1.ownsRow 0 3 1 (.slice (some ⟨gl,0,none⟩) n c) n (cellsI ys)→Rd w1 w1.heap.size (some ⟨gl,oS,none⟩) (cellsI (ys.drop (k+1))):=by
    by_cases hc:c=k+1
    ·refine⟨0, .inl ⟨fun a b=>if_pos hc,rfl⟩,fun w1 _=> .inl ?_⟩
     rw[zS (by rw[Hn.out];omega)];rfl
    ·exact⟨k+1, .inr ⟨fun a b=>if_neg hc,rfl⟩,fun w1 h=>zoB h⟩
   have Hcc:=Lh hcc;have HRd:=Lh hRd;clear hcc hRd;have HP0:=Lh P0;have HO5:=Lh O5;clear c1 c2 hW5 d5 hz5 P0 O5 Hdone HK4 HR4 HO4 e1
   go_wp2_with fail;have hI0:∀V,TkI w X W5.heap.size g gl n c (k+1) oS cap ys (fun _=>false) V W5.drew:=fun V=>by
    have b0:Below W5.heap.size W5 W5.drew:=Drawn.below _ ((Drawn.refl W5).drewN 1)
    constructor
    all_goals first
     |exact HO5.out.drawn ((Drawn.refl W5).drewN 1)
     |exact b0.size
     |exact fun _=>⟨HP0.out.1.below b0 HP0.out.1.lt,own_below HP0.out.2 b0⟩
     |(intro h;cases h)
   refine zN [45,46,47,48,49,50,51,52,53,54,55,56,57,58] (TkI w X W5.heap.size g gl n c (k+1) oS cap ys) (by kernel_rfl) (by kernel_rfl) ?_ ?_ ?_
   ·exact hI0 _
   ·intro i o ho L V w1 hi hL hno h K hK;rcases i with _|_|_|_|_|_|_|_|_|_|_|_|_|_|_|i
    ·obtain rfl:=sJ ho;simp only[putAll,zi,zj,zc,ze,zd];clear hL hno
     go_simp;exact hK (zg V 45 _) _ _ (by simp[putAll,zg]) {h with e0:=fun _=>rfl}
    ·obtain rfl:=sJ ho;have l11:=hno 11 (by kernel_rfl)
     have l14:=hno 14 (by kernel_rfl)
     clear hL hno;simp only[putAll,zi,zj,zc,ze,zd];have P:=h.p0 l11;have hb:=bA_ w1 (.cells #[] 3);have hnew:=zcO w1 _ rfl 3 1;have hz:=h.hz
     go_simp;refine hK (zg V 46 (.slice (some ⟨w1.heap.size,0,none⟩) 0 0)) _ _ (by simp[putAll,zg]) ?_
     exact{h with
      only:=h.only.trans (Only.of_below hb)
      hz:=zy h.hz hb.size
      p0:=fun _=>⟨P.1.below hb P.1.lt,own_below P.2 hb⟩
      b:=fun _ _=>⟨rfl,World.ownsRow.mono hnew hz⟩
      p1:=nX_ l11
      p2:=nX_ l14}
    ·obtain rfl:=sJ ho;simp only[putAll,zi,zj,zc,ze,zd];clear hL hno
     go_simp;exact hK (zg V 47 _) _ _ (by simp[putAll,zg]) {h with e2:=fun _=>rfl}
    ·obtain rfl:=sJ ho;simp only[putAll,zi,zj,zc,ze,zd];have e2:=h.e2 (hL ⟨2, .data⟩ (by simp) rfl)
     clear hL hno
     go_simp;exact hK (zg V 48 _) _ _ (by simp[putAll,zg,e2]) {h with e3:=fun _=>rfl}
    ·obtain rfl:=sJ ho;simp only[putAll,zi,zj,zc,ze,zd];have e3:=h.e3 (hL ⟨3, .data⟩ (by simp) rfl)
     clear hL hno
     go_simp;exact hK (zg V 49 _) _ _ (by simp[putAll,zg,e3]) {h with e4:=fun _=>rfl}
    ·obtain rfl:=sJ ho;simp only[putAll,zi,zj,zc,ze,zd];have e4:=h.e4 (hL ⟨4, .data⟩ (by simp) rfl)
     have l11:=hno 11 (by kernel_rfl)
     have ct:=(h.p0 l11).1.cellL 1 rfl;clear hL hno
     go_simp;exact hK (zg V 50 _) _ _ (by simp[putAll,zg,e4]) {h with e5:=fun _=>rfl}
    ·obtain rfl:=sJ ho;simp only[putAll,zi,zj,zc,ze,zd];clear hL hno
     go_simp;exact hK (zg V 51 _) _ _ (by simp[putAll,zg]) {h with e6:=fun _=>rfl}
    ·obtain rfl:=sJ ho;simp only[putAll,zi,zj,zc,ze,zd];have e6:=h.e6 (hL ⟨6, .data⟩ (by simp) rfl)
     clear hL hno
     go_simp;exact hK (zg V 52 _) _ _ (by simp[putAll,zg,e6]) {h with e7:=fun _=>rfl}
    ·obtain rfl:=sJ ho;simp only[putAll,zi,zj,zc,ze,zd];have e7:=h.e7 (hL ⟨7, .data⟩ (by simp) rfl)
     clear hL hno
     go_simp;exact hK (zg V 53 _) _ _ (by simp[putAll,zg,e7]) {h with e8:=fun _=>rfl}
    ·obtain rfl:=sJ ho;simp only[putAll,zi,zj,zc,ze,zd];have e8:=h.e8 (hL ⟨8, .data⟩ (by simp) rfl)
     have l11:=hno 11 (by kernel_rfl)
     have ct:=(h.p0 l11).1.cellL 2 rfl;clear hL hno
     go_simp;exact hK (zg V 54 _) _ _ (by simp[putAll,zg,e8]) {h with e9:=fun _=>rfl}
    ·obtain rfl:=sJ ho;have e5:=h.e5 (hL ⟨5, .data⟩ (by simp) rfl)
     have e9:=h.e9 (hL ⟨9, .data⟩ (by simp) rfl)
     clear hL hno;simp only[putAll,zi,zj,zc,ze,zd];have q2:(0:Int)≤(k:Int)+1:=by omega
     have q3:(k:Int)+1≤(n:Int):=by omega
     rcases Hcc.out with⟨hif,ho⟩|⟨hif,ho⟩
     ·have Ho:=Lh ho;clear ho
      go_simp;refine hK (zg V 55 (.slice (some ⟨gl,0,none⟩) (n-(k+1)) (c-(k+1)))) _ _ (by simp[putAll,zg,e5,e9]) ?_
      exact{h with e10:=fun _=>by rw[Ho.out];rfl}
     ·have Ho:=Lh ho;clear ho
      go_simp;refine hK (zg V 55 (.slice (some ⟨gl,k+1,none⟩) (n-(k+1)) (c-(k+1)))) _ _ (by simp[putAll,zg,e5,e9]) ?_
      exact{h with e10:=fun _=>by rw[Ho.out];rfl}
    ·obtain rfl:=sJ ho;have e10:=h.e10 (hL ⟨10, .data⟩ (by simp) rfl)
     have hb:=h.b (hL ⟨1, .data⟩ (by simp) rfl) hi
     have e1:V 46=_:=hb.1
     have l14:=hno 14 (by kernel_rfl)
     clear hL hno;have P:=h.p0 hi;have hz:=h.hz;have hr:=HRd.out w1 P.2;refine zaQ rfl (.tmp 46) (.tmp 55) 36 rfl W5.heap.size 3 ii (.int .i64 0) 1 8 Tryz.underlying36 hii hz0 hz1 hz2 rfl (by decide) (V 46) 0 [] (by simp[putAll,Act.eval]) (by rw[hb.1];exact hb.2) w1.heap.size (some ⟨gl,oS,none⟩) (n-(k+1)) (c-(k+1)) (cellsI (ys.drop (k+1))) (by simp[putAll,Act.eval,e10]) (by rw[cellsI_length,zbd,Hn.out,zaY]) hr (zaA _) (by have:=hmx;unfold maxLen;omega) (by have:=hmx;omega) hz ?_
     intro v' w2 o2 g2 hv2;rw[List.nil_append,zaq]at o2;have ha:=zdg o2;have hnl:some g≠(V 46).ownBlock:=by rw[hb.1];intro hc;injection hc with hc;have:=own_ge hb.2 rfl;have:=hgz;omega
     have k2:=P.1.grown g2 hnl;have O2:=h.only.grown g2 (fun k hk he=>by rw[hb.1]at he;injection he with he;have:=own_ge hb.2 rfl;have:=hz0w;omega)
     refine hK (zg V 56 v') _ _ (by simp[putAll,Act.put,zg]) ?_
     exact{h with
      only:=O2
      hz:=zy h.hz g2.size
      p0:=nT_
      b:=fun _ hn=>(by cases hn)
      p1:=fun _ _=>⟨k2,ha,o2⟩
      p2:=nX_ l14}
    ·obtain rfl:=sJ ho;simp only[putAll,zi,zj,zc,ze,zd];have e0:=h.e0 (hL ⟨0, .data⟩ (by simp) rfl)
     clear hL hno
     go_simp;exact hK (zg V 57 _) _ _ (by simp[putAll,zg,e0]) {h with e12:=fun _=>rfl}
    ·obtain rfl:=sJ ho;simp only[putAll,zi,zj,zc,ze,zd];have e12:=h.e12 (hL ⟨12, .data⟩ (by simp) rfl)
     clear hL hno
     go_simp;exact hK (zg V 58 _) _ _ (by simp[putAll,zg,e12]) {h with e13:=fun _=>rfl}
    ·obtain rfl:=sJ ho;have e13:=h.e13 (hL ⟨13, .data⟩ (by simp) rfl)
     have l11:L 11=true:=hL ⟨11, .data⟩ (by simp) rfl
     have P:=h.p1 l11 hi;clear hL hno;simp only[putAll,zi,zj,zc,ze,zd];have ct:=P.1.cellL 1 rfl;have fr:=P.1.frozen 1;generalize sAddr (V 56)=A9 at P;generalize sCap (V 56)=c9 at P;have e11:V 56=_:=P.2.1;have k3:=P.1.set 1 (.slice A9 (n-(k+1)) c9);simp only[zc,ze,zd]at k3;have o3:=zap P.2.2 P.1 (by decide) 1 (.slice A9 (n-(k+1)) c9)
     have O3:=h.only.setCell ⟨g,1,none⟩ (.slice A9 (n-(k+1)) c9) (fun _=>hog)
     have hz:=h.hz
     go_simp;refine hK V _ _ (by simp[putAll,e13,e11]) ?_
     exact{h with
      only:=O3
      hz:=zy h.hz (by simp)
      p0:=fun hn=>(by cases (hn.symm.trans l11))
      b:=fun _ hn=>(by cases (hn.symm.trans l11))
      p1:=fun _ hn=>(by cases hn)
      p2:=fun _=>⟨A9,c9,e11,k3,by rw[e11]at o3;exact o3⟩}
    ·simp at ho
   ·clear hI0;intro L V w6 hL h;obtain⟨A9,c9,e11,kk,oo⟩:=h.p2 (hL 14 (by simp))
    have O6:=h.only;clear h hL;have c2:=kk.cellL 2 rfl;have f2:=kk.frozen 2;have k7:=kk.set 2 (.int .i64 0);simp only[zc,ze,zd]at k7;have o7:=zap oo kk (by decide) 2 (.int .i64 0)
    have O7:=O6.setCell ⟨g,2,none⟩ (.int .i64 0) fun _=>hog
    have HK7:=Lh k7;have HR7:=Lh o7;have HO7:=Lh O7;clear kk oo O6 k7 o7 O7 HP0 HO5;simp only[putAll,zi,zj,zc,ze,zd]
    go_wp2_with fail
    go_ret2;obtain⟨hlv,hk,hg,hcp,hys,hcap⟩:=HF.out
    refine⟨x,rfl,HX.out, .slice A9 (n-(k+1)) c9,ys.drop (k+1),0,⟨?_,?_,?_,?_,hcap,?_⟩,by simp,by rw[zbd];omega,HO7.out,?_⟩
    ·show Blk _ _ _ #[.int .i64 q.cap,_, .int .i64 ((0:Nat):Int)]
     rw[hcp];exact HK7.out
    ·show World.ownsRow _ _ _ _ _ (ys.drop (k+1)).length _
     rw[zbd,Hn.out];exact World.ownsRow.mono HR7.out (zJ _)
    ·exact zJ _
    ·exact fun y hy=>Hfit.out y (List.mem_of_mem_drop hy)
    ·show(ys.drop (k+1)).length*8≤_
     rw[zbd,Hn.out];omega
    ·exact fun b hb=> .inr (zy hz0w (own_ge HR7.out hb))
  ·have hd:decide ((n:Int)<2*((k:Int)+1))=false:=decide_eq_false hk2
   go_quiet (fail)
   go_wp2_with fail
   go_ret2;exact⟨x,rfl,HX.out, .slice (some ⟨gl,0,none⟩) n c,ys,k+1,Hdone.out _ ((Drawn.refl _).drewN _),rfl,zF _,HO4.out.drawn ((Drawn.refl _).drewN _),fun b hb=> .inl (by rw[HF.out.1];exact hb)⟩
 ·have hd:decide ((32:Int)<(k:Int)+1)=false:=decide_eq_false hk32
  go_quiet (fail)
  go_wp2_with fail
  go_ret2;exact⟨x,rfl,HX.out, .slice (some ⟨gl,0,none⟩) n c,ys,k+1,Hdone.out _ ((Drawn.refl _).drewN _),rfl,zF _,HO4.out.drawn ((Drawn.refl _).drewN _),fun b hb=> .inl (by rw[HF.out.1];exact hb)⟩
theorem ziy(cap:Int)(xs:List Int)(A:Option Addr)(l c:Nat)(w:World)(hc:0≤cap∧cap≤9223372036854775807)(hl:xs.length=l)(hx:AllFit xs)(hr:Rd w w.heap.size A (cellsI xs))(hw:l*8≤140737488355328):
  Calls Tryz.prog 63 #[.int .i64 cap, .slice A l c] w fun e w'=>∃q:QV,e= .returned (.tuple #[.pointer (some ⟨q.g,0,none⟩), .int .i64 0])∧QuM w' q∧q.cap=cap∧q.ys=xs∧q.k=0∧Below w.heap.size w w'∧∀b,q.own b→w.heap.size≤b:=by
 obtain⟨i,hi,hz0,hz1,hz2⟩:=info_parts zas;have b1:=bA_ w (.cells #[] 3);have o1:=zcO w _ rfl 3 1;have r1:=hr.below b1 lR_;have hd:decide (cap<0)=false:=decide_eq_false (by omega)
 go_enter Tryz.func63, Tryz.ntmps63
 go_wp2_with (at_builtin;refine zR _ rfl _ _ 36 rfl w.heap.size 3 i (.int .i64 0) 1 8 Tryz.underlying36 hi hz0 hz1 hz2 rfl (by decide) _ 0 [] rfl o1 w.heap.size A l c (cellsI xs) rfl (by rw[cellsI_length,hl,zaY]) r1 (zaA _) (by unfold maxLen;omega) (by omega) (by simp) ?_)
 intro v' w2 o2 g2 h2;obtain⟨A',c',rfl,hc'⟩:=zH o2;have hb:Below w.heap.size w w2:=b1.grown g2 b1.size (fun k hk=>by simp only[Value.ownBlock]at hk;injection hk with hk;omega)
 have ba:=bA_ w2 (.cells #[.int .i64 cap, .slice A' l c', .int .i64 0] 189);have kq:=bN_ ba;have o3:=own_below o2 ba;have b3:=hb.trans (ba.mono hb.size);have hs:=hb.size;have Hs:=Lh hs;clear b1 o1 r1 hr g2 h2 hb ba hs
 go_wp2_with fail
 go_ret2;refine⟨⟨w2.heap.size,cap, .slice A' l c',xs,0⟩,rfl,⟨kq,?_,zJ _,hx,hc,?_⟩,rfl,rfl,rfl,b3,fun b hb=>?_⟩
 ·show World.ownsRow _ _ _ _ _ xs.length _
  rw[hl];exact World.ownsRow.mono o3 (zJ _)
 ·show xs.length*8≤_
  rw[hl];exact hw
 ·rcases hb with rfl|hb
  ·exact Hs.out
  ·exact own_ge o3 hb
theorem chWaits_any(q:QV)(w:World)(h:QuM w q):Calls Tryz.prog 124 #[.agg #[.pointer (some ⟨q.g,0,none⟩)]] w fun e w'=>e= .returned (.bool (decide (q.len=0)))∧Below w.heap.size w w':=by
 have ba:=bA_ w (.cells #[.pointer (some ⟨q.g,0,none⟩)] 155);have kc:=bN_ ba;have c0:=kc.cellL 0 rfl;have HL:=Lh (zgN q _ (h.below ba));have hb:Hid (∀w',Drawn (w.alloc (.cells #[.pointer (some ⟨q.g,0,none⟩)] 155)) w'→Below w.heap.size w w'):=fun w' d=>ba.trans (d.below _)
 have hd:((q.len:Int)==0)=decide (q.len=0):=by
  by_cases e:q.len=0
  ·rw[e];rfl
  ·rw[decide_eq_false e];simp;omega
 clear h kc ba
 go_enter Tryz.func124, Tryz.ntmps124
 go_wp2_with fail;refine HL.out.mono ?_
 rintro e w2 ⟨rfl,d2⟩
 go_wp2_with fail
 go_ret;exact⟨by first|rfl|rw[hd],hb.out _ d2⟩
theorem chFull_any(q:QV)(w:World)(h:QuM w q):Calls Tryz.prog 122 #[.agg #[.pointer (some ⟨q.g,0,none⟩)]] w fun e w'=>e= .returned (.bool (decide (q.free=0)))∧Below w.heap.size w w':=by
 have ba:=bA_ w (.cells #[.pointer (some ⟨q.g,0,none⟩)] 155);have kc:=bN_ ba;have c0:=kc.cellL 0 rfl;have HL:=Lh (zhO q _ (h.below ba));have hb:Hid (∀w',Drawn (w.alloc (.cells #[.pointer (some ⟨q.g,0,none⟩)] 155)) w'→Below w.heap.size w w'):=fun w' d=>ba.trans (d.below _)
 have hd:(q.free==0)=decide (q.free=0):=rfl
 have HD:=Lh hd;clear h kc ba hd
 go_enter Tryz.func122, Tryz.ntmps122
 go_wp2_with fail;refine HL.out.mono ?_
 rintro e w2 ⟨rfl,d2⟩
 go_wp2_with fail
 go_ret;exact⟨by first|rfl|rw[HD.out],hb.out _ d2⟩
theorem chTake_any(q:QV)(w:World)(h:QuM w q)(hl:0<q.len):Calls Tryz.prog 123 #[.agg #[.pointer (some ⟨q.g,0,none⟩)]] w fun e w'=>∃x,e= .returned (.int .i64 x)∧q.ys[q.k]?=some x∧∃lv ys k,QuM w' {q with lv:=lv,ys:=ys,k:=k}∧ys.drop k=q.ys.drop (q.k+1)∧ys.length≤q.ys.length∧Only q.own w w'∧∀b,lv.ownBlock=some b→q.lv.ownBlock=some b∨w.heap.size≤b:=by
 have ba:=bA_ w (.cells #[.pointer (some ⟨q.g,0,none⟩)] 155);have kc:=bN_ ba;have c0:=kc.cellL 0 rfl;have HL:=Lh (zlE q _ (h.below ba) hl);have HB:=Lh ba;clear h kc ba
 go_enter Tryz.func123, Tryz.ntmps123
 go_wp2_with fail;refine HL.out.mono ?_
 rintro e w2 ⟨x,rfl,hx,lv,ys,k,hq,hd,hle,hO,hown⟩;have HX:=Lh hx;have HQ:=Lh hq;have HD:=Lh hd;clear hx hq hd
 go_wp2_with fail
 go_ret;exact⟨x,rfl,HX.out,lv,ys,k,HQ.out,HD.out,hle,(Only.of_below HB.out).trans hO,fun b hb=>(hown b hb).imp id fun h=>zy HB.out.size h⟩
theorem zgY(q:QV)(x:Int)(w:World)(h:QuM w q)(hx:fits x)(hr:0<q.free)(hw:(q.ys.length+1)*8≤140737488355328):
  Calls Tryz.prog 64 #[.agg #[.pointer (some ⟨q.g,0,none⟩)], .int .i64 x] w fun e w'=>e= .returned (.tuple #[])∧∃lv,QuM w' {q with lv:=lv,ys:=q.ys++[x]}∧Only q.own w w'∧∀b,lv.ownBlock=some b→q.lv.ownBlock=some b∨w.heap.size≤b:=by
 have ba:=bA_ w (.cells #[.pointer (some ⟨q.g,0,none⟩)] 155);have kc:=bN_ ba;have c0:=kc.cellL 0 rfl;have HL:=Lh (zm8 q x _ (h.below ba) hx hr hw);have HB:=Lh ba;clear h kc ba
 go_enter Tryz.func64, Tryz.ntmps64
 go_wp2_with fail;refine HL.out.mono ?_
 rintro e w2 ⟨lv,rfl,hq,hO,hown⟩;have HQ:=Lh hq;clear hq
 go_wp2_with fail
 go_end0
 exact⟨rfl,lv,HQ.out,(Only.of_below HB.out).trans hO,fun b hb=>(hown b hb).imp id fun h=>zy HB.out.size h⟩
structure TpV where
 g:Nat
 lv:Value
 ys:List Int
def TpV.own(t:TpV)(b:Nat):Prop:=b=t.g∨t.lv.ownBlock=some b
structure TpM(w:World)(t:TpV):Prop where
 kb:Blk w t.g 162 #[t.lv]
 row:w.ownsRow 0 3 1 t.lv t.ys.length (cellsI t.ys)
 wide:t.ys.length*8≤140737488355328
theorem TpM.only{X:Nat→Prop}{w w':World}{t:TpV}(h:TpM w t)(ho:Only X w w')(hX:∀b,t.own b→¬X b):TpM w' t:=
 {h with kb:=h.kb.only ho (hX _ (.inl rfl)),row:=zae h.row ho fun b hb=>hX b (.inr hb)}
theorem TpM.below{w w':World}{t:TpV}(h:TpM w t)(hb:Below w.heap.size w w'):TpM w' t:=
 {h with kb:=h.kb.below hb h.kb.lt,row:=own_below h.row hb}
theorem zkx(g:Nat)(w:World):Calls Tryz.prog 126 #[.pointer (some ⟨g,0,none⟩)] w fun e w'=>e= .returned (.bool false)∧w'=w:=by
 go_enter Tryz.func126, Tryz.ntmps126
 go_wp2_with fail
 go_ret;exact⟨rfl,rfl⟩
theorem zky(t:TpV)(x:Int)(w:World)(h:TpM w t)(hw:(t.ys.length+1)*8≤140737488355328):
  Calls Tryz.prog 127 #[.pointer (some ⟨t.g,0,none⟩), .int .i64 x] w fun e w'=>e= .returned (.tuple #[])∧∃lv,TpM w' {t with lv:=lv,ys:=t.ys++[x]}∧Only t.own w w'∧∀b,lv.ownBlock=some b→t.lv.ownBlock=some b∨w.heap.size≤b:=by
 obtain⟨i,hi,hz0,hz1,hz2⟩:=info_parts zas;obtain⟨A,c,hlv,_⟩:=zH h.row;obtain⟨n,hn⟩:∃n,t.ys.length=n:=⟨_,rfl⟩;obtain⟨g,hg⟩:∃g,t.g=g:=⟨_,rfl⟩;have hgb:=h.kb.lt;have ba:=bA_ w (.cells #[.int .i64 x] 3);have k2:=h.kb;have kb:=(h.below ba).kb;have ro:=(h.below ba).row;have hlv2:t.lv= .slice A n c:=by rw[hlv,hn]
 rw[hlv2,hn]at ro;rw[hg,hlv2]at kb k2;rw[hg]at hgb⊢;rw[hn]at hw;have r3:=zal w _ rfl 3 [Value.int .i64 x];have c0:=k2.cellL 0 rfl;clear hlv k2 h
 go_enter Tryz.func127, Tryz.ntmps127
 go_wp2_with (at_builtin;refine zR _ rfl _ _ 36 rfl 0 3 i (.int .i64 0) 1 8 Tryz.underlying36 hi hz0 hz1 hz2 rfl (by decide) _ n (cellsI t.ys) rfl ro _ (some ⟨w.heap.size,0,none⟩) 1 1 (cellsI [x]) rfl rfl r3 (zaA _) (by unfold maxLen;omega) (by omega) (by simp) ?_)
 intro v' w4 o4 g4 h4;obtain⟨A',c',rfl,_⟩:=zH o4;have k4:=kb.grown g4 (own_ne ro kb (by decide))
 have f4:=k4.frozen 0;have s4:=k4.cellL 0 rfl;have k5:=k4.set 0 (.slice A' (n+1) c');simp only[zc,ze]at k5;have o5:=zap o4 k4 (by decide) 0 (.slice A' (n+1) c')
 have hO:Only t.own w (w4.setCell ⟨g,0,none⟩ (.slice A' (n+1) c')):=by
  refine((Only.grown (Only.of_below ba) g4 fun k hk he=>?_).setCell ⟨g,0,none⟩ (.slice A' (n+1) c') fun _=> .inl hg.symm)
  exact .inr (hlv2▸he)
 have HBA:=Lh ba;clear c0 r3 ba
 go_wp2_with fail
 go_end0
 refine⟨rfl, .slice A' (n+1) c',⟨?_,?_,?_⟩,hO,?_⟩
 ·exact k5
 ·have e:(t.ys++[x]).length=n+1:=by rw[zx,hn];rfl
  have e2:cellsI (t.ys++[x])=cellsI t.ys++cellsI [x]:=by simp[cellsI]
  show World.ownsRow _ _ _ _ _ (t.ys++[x]).length (cellsI (t.ys++[x]))
  rw[e,e2];exact o5
 ·show(t.ys++[x]).length*8≤_
  rw[zx,hn];exact hw
 ·have hbs:=HBA.out.size;intro b hb;rcases h4 with h4|h4
  ·exact .inl (by rw[hlv2,←h4];exact hb)
  ·have hb':=h4.symm.trans hb;injection hb' with hb';exact .inr (by omega)
theorem Rd.onlyN{X:Nat→Prop}{w w':World}{A:Option Addr}{xs:List Int}(hr:Rd w w.heap.size A (cellsI xs))(ho:Only X w w')(hX:∀b,xs≠[]→blkOf A=some b→¬X b):Rd w' w'.heap.size A (cellsI xs):=by
 cases xs with
 |nil=>exact .inl rfl
 |cons x xs=>exact(Rd.only hr ho lR_ fun q hq=>hX q (by simp) hq).more ho.size
theorem Rd.ltN{w:World}{B:Nat}{A:Option Addr}{xs:List Int}(hr:Rd w B A (cellsI xs))(hx:xs≠[]){q:Nat}(hq:blkOf A=some q):q<B:=by
 rcases hr with hr|⟨b,off,rfl,hb,-⟩
 ·cases xs with
  |nil=>exact absurd rfl hx
  |cons x xs=>cases hr
 ·simp only[blkOf]at hq;injection hq with hq;omega
theorem own_lt'{w:World}{base:Nat}{e:TypeId}{size n:Nat}{v:Value}{xs:List Value}(h:w.ownsRow base e size v n xs){q:Nat}(hq:v.ownBlock=some q):q<w.heap.size:=by
 rcases h.2 with⟨rfl,-⟩|⟨g,cap,cur,rfl,-,hc,-⟩
 ·cases hq
 ·simp only[Value.ownBlock]at hq;injection hq with hq;subst hq;exact(zQ.1 hc).1
structure RowV where
 A:Option Addr
 c:Nat
 xs:List Int
def RowV.val(r:RowV):Value:= .slice r.A r.xs.length r.c
structure RowV.ok(w:World)(B:Nat)(r:RowV):Prop where
 rd:Rd w B r.A (cellsI r.xs)
 fit:AllFit r.xs
 few:r.xs.length≤64
 cap:r.xs.length≤r.c
structure InM(w:World)(B:Nat)(H:Option Addr)(rows:List RowV):Prop where
 row:Rd w B H (rows.map RowV.val)
 ok:∀r∈rows,r.ok w B
 few:rows.length≤16
structure zbu(w:World)(z:Nat)(gv:Value)(rows:List RowV):Prop where
 row:w.ownsRow z 36 1 gv rows.length (rows.map RowV.val)
 ok:∀r∈rows,r.ok w w.heap.size
 far:∀r∈rows,∀b,blkOf r.A=some b→z≤b
 ap:∀r∈rows,∀b,blkOf r.A=some b→gv.ownBlock≠some b
theorem RowV.ok.below{w w':World}{B B':Nat}{r:RowV}(h:r.ok w B)(hb:Below B' w w')(hB:B≤B'):r.ok w' B:={h with rd:=h.rd.below hb hB}
theorem RowV.ok.more{w:World}{B B':Nat}{r:RowV}(h:r.ok w B)(hB:B≤B'):r.ok w B':={h with rd:=h.rd.more hB}
theorem InM.below{w w':World}{B B':Nat}{H:Option Addr}{rows:List RowV}(h:InM w B H rows)(hb:Below B' w w')(hB:B≤B'):InM w' B H rows:=
 ⟨h.row.below hb hB,fun r hr=>(h.ok r hr).below hb hB,h.few⟩
theorem InM.more{w:World}{B B':Nat}{H:Option Addr}{rows:List RowV}(h:InM w B H rows)(hB:B≤B'):InM w B' H rows:=
 ⟨h.row.more hB,fun r hr=>(h.ok r hr).more hB,h.few⟩
theorem InM.at_{w:World}{B:Nat}{H:Option Addr}{rows:List RowV}(h:InM w B H rows){i:Nat}(hi:i<rows.length):
  ∃b o r,H=some ⟨b,o,none⟩∧b<B∧rows[i]?=some r∧w.cell? ⟨b,o+i,none⟩=some (.slice r.A r.xs.length r.c)∧r.ok w B:=by
 have hri:rows[i]?=some rows[i]:=zk hi
 rcases h.row with hr|⟨b,o,rfl,hb,hc⟩
 ·have:=congrArg List.length hr
  rw[zA,zaD]at this;omega
 ·exact⟨b,o,rows[i],rfl,hb,hri,hc i _ (by rw[zp,hri];rfl),h.ok _ (zaF hi)⟩
theorem RowV.ok.at_{w:World}{B:Nat}{r:RowV}(h:r.ok w B){j:Nat}(hj:j<r.xs.length):
  ∃b o x,r.A=some ⟨b,o,none⟩∧b<B∧r.xs[j]?=some x∧fits x∧w.cell? ⟨b,o+j,none⟩=some (.int .i64 x):=by
 have hx:r.xs[j]?=some r.xs[j]:=zk hj
 rcases h.rd with hr|⟨b,o,hA,hb,hc⟩
 ·have:=congrArg List.length hr
  rw[cellsI_length,zaD]at this;omega
 ·exact⟨b,o,r.xs[j],hA,hb,hx,h.fit _ (zaF hj),hc j _ (by simp[cellsI,hx])⟩
theorem zf6(xs:List Int)(A:Option Addr)(l c:Nat)(w:World)(hl:xs.length=l)(hr:Rd w w.heap.size A (cellsI xs))(hw:l≤1000):
  Calls Tryz.prog 95 #[.slice A l c] w fun e w'=>∃A' c',e= .returned (.slice A' l c')∧w'.ownsRow w.heap.size 3 1 (.slice A' l c') l (cellsI xs)∧Below w.heap.size w w':=by
 obtain⟨i,hi,hz0,hz1,hz2⟩:=info_parts zas;have b1:=bA_ w (.cells #[] 3);have o1:=zcO w _ rfl 3 1;have r1:=hr.below b1 lR_
 go_enter Tryz.func95, Tryz.ntmps95
 go_wp2_with (at_builtin;refine zR _ rfl _ _ 36 rfl w.heap.size 3 i (.int .i64 0) 1 8 Tryz.underlying36 hi hz0 hz1 hz2 rfl (by decide) _ 0 [] rfl o1 w.heap.size A l c (cellsI xs) rfl (by rw[cellsI_length,hl,zaY]) r1 (zaA _) (by unfold maxLen;omega) (by omega) (by simp) ?_)
 intro v' w2 o2 g2 h2;obtain⟨A',c',rfl,hc'⟩:=zH o2;have hb:Below w.heap.size w w2:=b1.grown g2 b1.size (fun k hk=>by simp only[Value.ownBlock]at hk;injection hk with hk;omega)
 clear b1 o1 r1 hr g2 h2
 go_wp2_with fail
 go_ret;exact⟨A',c',rfl,o2,hb⟩
theorem zcv(w:World)(x:Int)(hx:fits x):
  zbu ((w.alloc (.cells #[.int .i64 x] 3)).alloc (.cells #[.slice (some ⟨w.heap.size,0,none⟩) 1 1] 36)) w.heap.size (.slice (some ⟨w.heap.size+1,0,none⟩) 1 1) [⟨some ⟨w.heap.size,0,none⟩,1,[x]⟩]∧
  Below w.heap.size w ((w.alloc (.cells #[.int .i64 x] 3)).alloc (.cells #[.slice (some ⟨w.heap.size,0,none⟩) 1 1] 36)):=by
 have b1:=bA_ w (.cells #[.int .i64 x] 3);have z1:(w.alloc (.cells #[.int .i64 x] 3)).heap.size=w.heap.size+1:=by simp
 have r1:=zal w _ rfl 3 [Value.int .i64 x];generalize w.alloc (.cells #[.int .i64 x] 3)=w1 at*;have b2:=bA_ w1 (.cells #[.slice (some ⟨w.heap.size,0,none⟩) 1 1] 36);have o2:=zbL w1 _ rfl 36 [Value.slice (some ⟨w.heap.size,0,none⟩) 1 1] 1 rfl (by unfold maxLen;omega)
 have z2:(w1.alloc (.cells #[.slice (some ⟨w.heap.size,0,none⟩) 1 1] 36)).heap.size=w1.heap.size+1:=by simp
 have b12:=b1.trans (b2.mono (by omega))
 have r2:=r1.below b2 (by omega)
 rw[z1]at o2;refine⟨⟨World.ownsRow.mono o2 (by omega),fun r hr=>?_,fun r hr b hb=>?_,fun r hr b hb hq=>?_⟩,b12⟩
 ·simp only[zW]at hr;subst hr;exact⟨r2.more (by omega),fun y hy=>by simp only[zW]at hy;subst hy;exact hx,by simp,by simp⟩
 ·simp only[zW]at hr;subst hr;simp only[blkOf]at hb;injection hb with hb;omega
 ·simp only[zW]at hr;subst hr;simp only[blkOf]at hb;simp only[Value.ownBlock]at hq;injection hb with hb;injection hq with hq;omega
theorem zm9(b:Nat)(w:World)(H:Option Addr)(rows:List RowV)(k ch:Nat)(hI:InM w w.heap.size H rows)(hk:rows.length=k)(r:RowV)(h0:rows[0]?=some r)(x:Int)(hx:r.xs[0]?=some x):
  Calls Tryz.prog 137 #[.pointer (some ⟨b,0,none⟩), .slice H k ch] w fun e w'=>∃gv,e= .returned (.tuple #[gv, .bool true])∧∃outs:List RowV,zbu w' w.heap.size gv outs∧outs.map (fun r=>(r.xs.length:Int))=[1]∧Below w.heap.size w w':=by
 obtain⟨b1,o1,r',rfl,_,hr',c0,hok⟩:=hI.at_ (i:=0) (zu.1 h0).1;obtain rfl:r=r':=zq (h0.symm.trans hr');obtain⟨b2,o2,x',hA,_,hx',hxf,c1⟩:=hok.at_ (j:=0) (zu.1 hx).1;obtain rfl:x=x':=zq (hx.symm.trans hx');have hk0:(0:Int)<(k:Int):=by have:=(zu.1 h0).1;omega
 have hl0:(0:Int)<(r.xs.length:Int):=by have:=(zu.1 hx).1;omega
 rw[hA]at c0;rw[zab]at c0 c1;have HG:=Lh (zcv w x hxf);generalize r.xs.length=l at*;clear hI h0 hr' hok hx hx' hA
 go_enter Tryz.func137, Tryz.ntmps137
 go_wp2_with fail
 go_ret2;exact⟨_,rfl,_,HG.out.1,rfl,HG.out.2⟩
theorem zna(b:Nat)(w:World)(H:Option Addr)(k ch:Nat):
  Calls Tryz.prog 148 #[.pointer (some ⟨b,0,none⟩), .slice H k ch] w fun e w'=>e= .returned (.tuple #[.slice none 0 0, .bool true])∧w'=w:=by
 go_enter Tryz.func148, Tryz.ntmps148
 go_wp2_with fail
 go_ret2;exact⟨rfl,rfl⟩
end Go.Proofs.YtpmlljbebdidgaaGreatDoor
namespace Go.Proofs.YtpmlljbebdidgaaGreatDoor
open Go.RowKit Go.ChangeShapes
theorem zlF(n:Int):fits (IntKind.i64.wrap n):=bounds_i64 (wf_wrap .i64 n)
theorem zbu.mono{w:World}{z z':Nat}{gv:Value}{rows:List RowV}(h:zbu w z gv rows)(hz:z'≤z):zbu w z' gv rows:=⟨World.ownsRow.mono h.row hz,h.ok,fun r hr b hb=>zy hz (h.far r hr b hb),h.ap⟩
theorem InM.first{w:World}{B:Nat}{H:Option Addr}{rows:List RowV}(h:InM w B H rows){i:Nat}{r:RowV}(hr:rows[i]?=some r)(hl:0<r.xs.length):
  ∃b1 o1 b2 o2 x,H=some ⟨b1,o1,none⟩∧b1<B∧b2<B∧r.xs[0]?=some x∧fits x∧w.cell? ⟨b1,o1+i,none⟩=some (.slice (some ⟨b2,o2,none⟩) r.xs.length r.c)∧w.cell? ⟨b2,o2,none⟩=some (.int .i64 x)∧r.A=some ⟨b2,o2,none⟩:=by
 obtain⟨b1,o1,r',hH,hb1,hr',c0,hok⟩:=h.at_ (i:=i) (zu.1 hr).1;obtain rfl:r=r':=zq (hr.symm.trans hr');obtain⟨b2,o2,x,hA,hb2,hx,hxf,c1⟩:=hok.at_ (j:=0) hl;rw[hA]at c0;rw[zab]at c1;exact⟨b1,o1,b2,o2,x,hH,hb1,hb2,hx,hxf,c0,c1,hA⟩
theorem znb(b:Nat)(w:World)(H:Option Addr)(rows:List RowV)(k ch:Nat)(hI:InM w w.heap.size H rows)(hk:rows.length=k)(r r':RowV)(h0:rows[0]?=some r)(h1:rows[1]?=some r')(hl:0<r.xs.length)(hl':0<r'.xs.length):
  Calls Tryz.prog 142 #[.pointer (some ⟨b,0,none⟩), .slice H k ch] w fun e w'=>∃gv ok,e= .returned (.tuple #[gv, .bool ok])∧(ok=true→∃outs:List RowV,zbu w' w.heap.size gv outs∧outs.map (fun r=>(r.xs.length:Int))=[1])∧Below w.heap.size w w':=by
 obtain⟨b1,o1,b2,o2,x,rfl,hb1,hb2,-,hxf,c0,c1,-⟩:=hI.first h0 hl;obtain⟨b1',o1',b3,o3,y,hH,-,hb3,-,hyf,d0,d1,-⟩:=hI.first h1 hl';injection hH with hH;injection hH with e1 e2 _;rw[←e1,←e2]at d0;have hk0:(0:Int)<(k:Int):=by have:=(zu.1 h0).1;omega
 have hk1:(1:Int)<(k:Int):=by have:=(zu.1 h1).1;omega
 have hl0:(0:Int)<(r.xs.length:Int):=by omega
 have hl1:(0:Int)<(r'.xs.length:Int):=by omega
 generalize r.xs.length=l at*;generalize r'.xs.length=l' at*;rw[zab]at c0;clear hI h0 h1 e1 e2
 go_enter Tryz.func142, Tryz.ntmps142
 go_wp2_with fail
 go_quiet (fail)
 generalize hW2:World.drewN w _=w2;have d2:Drawn w w2:=by rw[←hW2];exact(Drawn.refl _).drewN _
 have hb:=d2.below w.heap.size;have hz:=d2.size;have Hb:=Lh hb;have Hz:=Lh hz;clear hW2 d2 hb hz c0 c1 d0 d1 hb1 hb2 hb3;by_cases hy:y=0
 ·subst hy
  go_wp2_with fail
  go_ret2;exact⟨_,false,rfl,fun h=>(by cases h),Hb.out⟩
 ·have q0:(y==0)=false:=by simpa using hy
  by_cases hm:y= -1
  ·subst hm
   go_wp2_with fail;refine(zoP 0 x w2 (by unfold fits;omega) hxf).mono ?_
   rintro e w3 ⟨rfl,rfl⟩;obtain⟨z,hz⟩:∃z,okOf (0-x)=z:=⟨_,rfl⟩;obtain⟨o,ho⟩:∃z,okB (0-x)=z:=⟨_,rfl⟩;have hzf:fits z:=hz▸zgh _;rw[hz,ho];have HG:=Lh (zcv w2 z hzf);clear hz ho
   go_wp2_with fail
   go_ret2;exact⟨_,o,rfl,fun _=>⟨_,HG.out.1.mono (by have:=Hz.out;omega),rfl⟩,Hb.out.trans (HG.out.2.mono (by have:=Hz.out;omega))⟩
  ·have q1:(y== -1)=false:=by simpa using hm
   obtain⟨z,hz⟩:∃z,IntKind.i64.wrap (x.tdiv y)=z:=⟨_,rfl⟩;have hzf:fits z:=hz▸zlF _;have HG:=Lh (zcv w2 z hzf)
   go_wp2_with fail
   go_ret2;exact⟨_,true,rfl,fun _=>⟨_,HG.out.1.mono (by have:=Hz.out;omega),rfl⟩,Hb.out.trans (HG.out.2.mono (by have:=Hz.out;omega))⟩
end Go.Proofs.YtpmlljbebdidgaaGreatDoor
