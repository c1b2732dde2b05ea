/- Lemmas and walks for the claim: Jf, Jg. -/
import Derived.Test.YtpmlljbebdidgaaGreatDoorA0
import Derived.Test.YtpmlljbebdidgaaGreatDoorA44
import Derived.Test.YtpmlljbebdidgaaGreatDoorA3
import Derived.Test.YtpmlljbebdidgaaGreatDoorA25
set_option linter.unusedSimpArgs false
set_option maxRecDepth 100000
set_option maxHeartbeats 4000000
namespace Go.Proofs.YtpmlljbebdidgaaGreatDoor
open Go.RowKit Go.ChangeShapes
def zd3(B:Nat)(v:Value)(xs:List Int)(w:World):Prop:=∃A c,v= .slice A xs.length c∧w.ownsRow B 3 1 (.slice A xs.length c) xs.length (cellsI xs)
theorem zd3.below{B:Nat}{v:Value}{xs:List Int}{w w':World}(h:zd3 B v xs w)(hb:Below w.heap.size w w'):zd3 B v xs w':=by
 obtain⟨A,c,e,o⟩:=h;exact⟨A,c,e,own_below o hb⟩
structure OfUp(w0:World)(b off c:Nat)(n:Int)(L:Nat→Bool)(V:Nat→Value)(w:World):Prop where
 b0:Below w0.heap.size w0 w
 ra:L 0=true→zd3 w0.heap.size (V 20) (List.replicate 1 1) w
 rb:L 4=true→zd3 w0.heap.size (V 24) (List.replicate 1 n) w
 e1:L 1=true→V 21= .slice (some ⟨b,off,none⟩) 1 c
 e2:L 2=true→V 22= .pointer (some ⟨b,off,none⟩)
 e3:L 3=true→V 23= .int .i64 n
 e5:L 5=true→V 4=V 20
 e6:L 6=true→V 5=V 24
 e7:L 7=true→V 6= .int .i64 0
structure OfCopies(w0:World)(b off c a:Nat)(L:Nat→Bool)(V:Nat→Value)(w:World):Prop where
 b0:Below w0.heap.size w0 w
 ra:L 0=true→zd3 w0.heap.size (V 79) (List.replicate 1 1) w
 rb:L 4=true→zd3 w0.heap.size (V 83) (List.replicate a 1) w
 e1:L 1=true→V 80= .slice (some ⟨b,off,none⟩) 1 c
 e2:L 2=true→V 81= .pointer (some ⟨b,off,none⟩)
 e3:L 3=true→V 82= .int .i64 (a:Nat)
 e5:L 5=true→V 4=V 79
 e6:L 6=true→V 5=V 83
 e7:L 7=true→V 6= .int .i64 0
structure OfWeave(w0:World)(b off c a:Nat)(m:Int)(L:Nat→Bool)(V:Nat→Value)(w:World):Prop where
 b0:Below w0.heap.size w0 w
 ra:L 6=true→zd3 w0.heap.size (V 40) (List.replicate a m) w
 rb:L 14=true→zd3 w0.heap.size (V 48) (List.replicate 1 ((a:Int)*m)) w
 e0:L 0=true→V 34= .slice (some ⟨b,off,none⟩) 2 c
 e1:L 1=true→V 35= .pointer (some ⟨b,off,none⟩)
 e2:L 2=true→V 36= .int .i64 (a:Nat)
 e3:L 3=true→V 37= .slice (some ⟨b,off,none⟩) 2 c
 e4:L 4=true→V 38= .pointer (some ⟨b,off+1,none⟩)
 e5:L 5=true→V 39= .int .i64 m
 e7:L 7=true→V 41= .slice (some ⟨b,off,none⟩) 2 c
 e8:L 8=true→V 42= .pointer (some ⟨b,off,none⟩)
 e9:L 9=true→V 43= .int .i64 (a:Nat)
 e10:L 10=true→V 44= .slice (some ⟨b,off,none⟩) 2 c
 e11:L 11=true→V 45= .pointer (some ⟨b,off+1,none⟩)
 e12:L 12=true→V 46= .int .i64 m
 e13:L 13=true→V 47= .int .i64 ((a:Int)*m)
 e15:L 15=true→V 4=V 40
 e16:L 16=true→V 5=V 48
 e17:L 17=true→V 6= .int .i64 0
structure OfUnweave(w0:World)(b off c a:Nat)(m:Int)(L:Nat→Bool)(V:Nat→Value)(w:World):Prop where
 b0:Below w0.heap.size w0 w
 ra:L 7=true→zd3 w0.heap.size (V 58) (List.replicate 1 ((a:Int)*m)) w
 rb:L 14=true→zd3 w0.heap.size (V 65) (List.replicate a m) w
 e0:L 0=true→V 51= .slice (some ⟨b,off,none⟩) 2 c
 e1:L 1=true→V 52= .pointer (some ⟨b,off,none⟩)
 e2:L 2=true→V 53= .int .i64 (a:Nat)
 e3:L 3=true→V 54= .slice (some ⟨b,off,none⟩) 2 c
 e4:L 4=true→V 55= .pointer (some ⟨b,off+1,none⟩)
 e5:L 5=true→V 56= .int .i64 m
 e6:L 6=true→V 57= .int .i64 ((a:Int)*m)
 e8:L 8=true→V 59= .slice (some ⟨b,off,none⟩) 2 c
 e9:L 9=true→V 60= .pointer (some ⟨b,off,none⟩)
 e10:L 10=true→V 61= .int .i64 (a:Nat)
 e11:L 11=true→V 62= .slice (some ⟨b,off,none⟩) 2 c
 e12:L 12=true→V 63= .pointer (some ⟨b,off+1,none⟩)
 e13:L 13=true→V 64= .int .i64 m
 e15:L 15=true→V 4=V 58
 e16:L 16=true→V 5=V 65
 e17:L 17=true→V 6= .int .i64 0
theorem zfC{I O:List Int}{w W0 w1 W1 w2:World}{A A':Option Addr}{c c':Nat}(h0:Below w.heap.size w W0)(o1:w1.ownsRow W0.heap.size 3 1 (.slice A I.length c) I.length (cellsI I))(b1:Below W0.heap.size W0 w1)(h1:Below w1.heap.size w1 W1)
  (o2:w2.ownsRow W1.heap.size 3 1 (.slice A' O.length c') O.length (cellsI O)) (b2:Below W1.heap.size W1 w2):ShapeOut I O 0 w (.returned (.tuple #[.slice A I.length c, .slice A' O.length c', .int .i64 0])) w2:=by
 have e0:=h0.size;have e1:=b1.size;have e2:=h1.size;exact⟨A,c,A',c',rfl,(own_below (own_below o1 h1) b2).mono e0,o2.mono (by omega),((h0.trans (b1.mono e0)).trans (h1.mono (by omega))).trans (b2.mono (by omega))⟩
theorem zoV(tag:Int)(ps I O:List Int)(P:Option Addr)(l c:Nat)(w:World)(h:zb9 tag ps I O)(hl:ps.length=l)(hr:Rd w w.heap.size P (cellsI ps)):Calls Tryz.prog 39 #[.int .u8 tag, .slice P l c] w (ShapeOut I O 0 w):=by
 have HG:=Lh (fun(c:Nat)=>rgood_yes tag ps I O P l c w h hl hr)
 cases h with
 |fil _ h=>
  clear h hl hr
  go_enter Tryz.func39, Tryz.ntmps39
  go_wp2_with fail;refine(HG.out c).mono ?_
  rintro e w2 ⟨rfl,hb2⟩;have HB2:=Lh hb2;clear hb2
  go_wp2_with fail;refine(zaB 1 1 _ (by omega)).mono ?_
  rintro e w3 ⟨A0,c0,rfl,o0,b0⟩;have HO0:=Lh o0;have HC0:=Lh b0;clear o0 b0
  go_wp2_with fail;refine(zaB 1 1 _ (by omega)).mono ?_
  rintro e w4 ⟨A1,c1,rfl,o1,b1⟩;have HO1:=Lh o1;have HC1:=Lh b1;clear o1 b1
  go_wp2_with fail
  go_ret3
  exact zfC HB2.out HO0.out HC0.out (zm _ _) HO1.out HC1.out
 |up n h=>
  subst hl;obtain⟨b,off,rfl,hbb,hc0⟩:=zdE hr;clear hr
  go_enter Tryz.func39, Tryz.ntmps39
  go_wp2_with fail;refine(HG.out c).mono ?_
  rintro e w2 ⟨rfl,hb2⟩;have HB2:=Lh hb2;have Hc0:=Lh ((hb2.cell (p:=⟨b,off,none⟩) hbb).trans hc0)
  replace hbb:b<w2.heap.size:=by have:=hb2.size;omega
  clear hb2 hc0
  go_wp2_with fail;have hI0:∀V,OfUp w2 b off c n (fun _=>false) V w2.drew:=fun V=>by
   have b0:=Below.drewN (zm w2.heap.size w2) 1;constructor
   all_goals first
    |exact b0
    |(intro h;cases h)
  refine zN [20,21,22,23,24,4,5,6] (OfUp w2 b off c n) (by kernel_rfl) (by kernel_rfl) ?_ ?_ ?_
  ·exact hI0 _
  ·intro i o ho L V w1 hi hL hno h K hK;simp only[putAll,zi,zj,zc,ze,zd];rcases i with _|_|_|_|_|_|_|_|i
   ·obtain rfl:=sJ ho;have l5:=hno 5 (by kernel_rfl)
    have l4:=hno 4 (by kernel_rfl)
    clear hL hno;have hz:=h.b0.size
    go_simp;refine(zaB 1 1 w1 (by omega)).mono ?_
    rintro e w3 ⟨A9,c9,rfl,r9,hb9⟩;refine hK (zg V 20 (.slice A9 (List.replicate 1 (1:Int)).length c9)) _ _ (by simp[putAll,zg]) ?_
    exact{h with
     b0:=h.b0.trans (hb9.mono hz)
     e5:=nX_ l5
     ra:=fun _=>⟨A9,c9,rfl,r9.mono hz⟩
     rb:=nX_ l4}
   ·obtain rfl:=sJ ho;clear hL hno
    go_simp;exact hK (zg V 21 _) _ _ (by simp[putAll,zg]) {h with e1:=fun _=>rfl}
   ·obtain rfl:=sJ ho;have e1:=h.e1 (hL ⟨1, .data⟩ (by simp) rfl)
    clear hL hno
    go_simp;exact hK (zg V 22 _) _ _ (by simp[putAll,zg,e1]) {h with e2:=fun _=>rfl}
   ·obtain rfl:=sJ ho;have e2:=h.e2 (hL ⟨2, .data⟩ (by simp) rfl)
    have ct:=(h.b0.cell (p:=⟨b,off,none⟩) hbb).trans Hc0.out;clear hL hno
    go_simp;exact hK (zg V 23 _) _ _ (by simp[putAll,zg,e2]) {h with e3:=fun _=>rfl}
   ·obtain rfl:=sJ ho;have e3:=h.e3 (hL ⟨3, .data⟩ (by simp) rfl)
    have l6:=hno 6 (by kernel_rfl)
    clear hL hno;have hz:=h.b0.size
    go_simp;refine(zaB 1 n w1 (by omega)).mono ?_
    rintro e w3 ⟨A9,c9,rfl,r9,hb9⟩;refine hK (zg V 24 (.slice A9 (List.replicate 1 (n:Int)).length c9)) _ _ (by simp[putAll,zg,e3]) ?_
    exact{h with
     b0:=h.b0.trans (hb9.mono hz)
     e6:=nX_ l6
     ra:=fun hn=>(h.ra hn).below hb9
     rb:=fun _=>⟨A9,c9,rfl,r9.mono hz⟩}
   ·obtain rfl:=sJ ho;clear hL hno
    go_simp;refine hK (zg V 4 (V 20)) _ _ (by simp[putAll,zg]) ?_
    exact{h with e5:=fun _=>rfl}
   ·obtain rfl:=sJ ho;clear hL hno
    go_simp;refine hK (zg V 5 (V 24)) _ _ (by simp[putAll,zg]) ?_
    exact{h with e6:=fun _=>rfl}
   ·obtain rfl:=sJ ho;clear hL hno
    go_simp;exact hK (zg V 6 _) _ _ (by simp[putAll,zg]) {h with e7:=fun _=>rfl}
   ·simp at ho
  ·clear hI0;intro L V w5 hL h;obtain⟨A0,c0,e0,o0⟩:=h.ra (hL 0 (by simp))
   obtain⟨A1,c1,e1,o1⟩:=h.rb (hL 4 (by simp))
   have x4:=(h.e5 (hL 5 (by simp))).trans e0
   have x5:=(h.e6 (hL 6 (by simp))).trans e1
   have x6:=h.e7 (hL 7 (by simp))
   have hb5:=HB2.out.trans (h.b0.mono HB2.out.size);have HO0:=Lh (o0.mono HB2.out.size);have HO1:=Lh (o1.mono HB2.out.size);have HB5:=Lh hb5;clear h hL e0 e1 o0 o1 hb5;simp only[putAll,zi,zj,zc,ze,zd,x4,x5,x6];clear x4 x5 x6
   go_wp2_with fail
   go_ret3
   exact⟨A0,c0,A1,c1,rfl,HO0.out,HO1.out,HB5.out⟩
 |down n h=>
  subst hl;obtain⟨b,off,rfl,hbb,hc0⟩:=zdE hr;clear hr
  go_enter Tryz.func39, Tryz.ntmps39
  go_wp2_with fail;refine(HG.out c).mono ?_
  rintro e w2 ⟨rfl,hb2⟩;have HB2:=Lh hb2;have f0:=(hb2.cell (p:=⟨b,off,none⟩) hbb).trans hc0;clear hb2 hc0 hbb
  go_wp2_with fail;refine(zaB 1 n _ (by omega)).mono ?_
  rintro e w3 ⟨A0,c0,rfl,o0,b0⟩;have HO0:=Lh o0;have HC0:=Lh b0;clear o0 b0 f0
  go_wp2_with fail;refine(zaB 1 1 _ (by omega)).mono ?_
  rintro e w4 ⟨A1,c1,rfl,o1,b1⟩;have HO1:=Lh o1;have HC1:=Lh b1;clear o1 b1
  go_wp2_with fail
  go_ret3
  exact zfC HB2.out HO0.out HC0.out (zm _ _) HO1.out HC1.out
 |weave a m h hm hp=>
  subst hl;obtain⟨b,off,rfl,hbb,hc0,hc1⟩:=rd_two hr;clear hr;have hw:IntKind.i64.wrap ((a:Int)*m)=a*m:=IntWalk.i64_in _ (by have:=zak (show(0:Int)≤a by omega) (show 0≤m by omega);omega)
  have Hw:=Lh hw
  go_enter Tryz.func39, Tryz.ntmps39
  go_wp2_with fail;refine(HG.out c).mono ?_
  rintro e w2 ⟨rfl,hb2⟩;have HB2:=Lh hb2;have Hc0:=Lh ((hb2.cell (p:=⟨b,off,none⟩) hbb).trans hc0);have Hc1:=Lh ((hb2.cell (p:=⟨b,off+1,none⟩) hbb).trans hc1)
  replace hbb:b<w2.heap.size:=by have:=hb2.size;omega
  clear hb2 hc0 hc1 hw
  go_wp2_with fail;have hI0:∀V,OfWeave w2 b off c a m (fun _=>false) V w2.drew:=fun V=>by
   have b0:=Below.drewN (zm w2.heap.size w2) 1;constructor
   all_goals first
    |exact b0
    |(intro h;cases h)
  refine zN [34,35,36,37,38,39,40,41,42,43,44,45,46,47,48,4,5,6] (OfWeave w2 b off c a m) (by kernel_rfl) (by kernel_rfl) ?_ ?_ ?_
  ·exact hI0 _
  ·intro i o ho L V w1 hi hL hno h K hK;simp only[putAll,zi,zj,zc,ze,zd];rcases i with _|_|_|_|_|_|_|_|_|_|_|_|_|_|_|_|_|_|i
   ·obtain rfl:=sJ ho;clear hL hno
    go_simp;exact hK (zg V 34 _) _ _ (by simp[putAll,zg]) {h with e0:=fun _=>rfl}
   ·obtain rfl:=sJ ho;have e0:=h.e0 (hL ⟨0, .data⟩ (by simp) rfl)
    clear hL hno
    go_simp;exact hK (zg V 35 _) _ _ (by simp[putAll,zg,e0]) {h with e1:=fun _=>rfl}
   ·obtain rfl:=sJ ho;have e1:=h.e1 (hL ⟨1, .data⟩ (by simp) rfl)
    have ct:=(h.b0.cell (p:=⟨b,off,none⟩) hbb).trans Hc0.out;clear hL hno
    go_simp;exact hK (zg V 36 _) _ _ (by simp[putAll,zg,e1]) {h with e2:=fun _=>rfl}
   ·obtain rfl:=sJ ho;clear hL hno
    go_simp;exact hK (zg V 37 _) _ _ (by simp[putAll,zg]) {h with e3:=fun _=>rfl}
   ·obtain rfl:=sJ ho;have e3:=h.e3 (hL ⟨3, .data⟩ (by simp) rfl)
    clear hL hno
    go_simp;exact hK (zg V 38 _) _ _ (by simp[putAll,zg,e3]) {h with e4:=fun _=>rfl}
   ·obtain rfl:=sJ ho;have e4:=h.e4 (hL ⟨4, .data⟩ (by simp) rfl)
    have ct:=(h.b0.cell (p:=⟨b,off+1,none⟩) hbb).trans Hc1.out;clear hL hno
    go_simp;exact hK (zg V 39 _) _ _ (by simp[putAll,zg,e4]) {h with e5:=fun _=>rfl}
   ·obtain rfl:=sJ ho;have e2:=h.e2 (hL ⟨2, .data⟩ (by simp) rfl)
    have e5:=h.e5 (hL ⟨5, .data⟩ (by simp) rfl)
    have l15:=hno 15 (by kernel_rfl)
    have l14:=hno 14 (by kernel_rfl)
    clear hL hno;have hz:=h.b0.size
    go_simp;refine(zaB a m w1 (by omega)).mono ?_
    rintro e w3 ⟨A9,c9,rfl,r9,hb9⟩;refine hK (zg V 40 (.slice A9 (List.replicate a (m:Int)).length c9)) _ _ (by simp[putAll,zg,e2,e5]) ?_
    exact{h with
     b0:=h.b0.trans (hb9.mono hz)
     e15:=nX_ l15
     ra:=fun _=>⟨A9,c9,rfl,r9.mono hz⟩
     rb:=nX_ l14}
   ·obtain rfl:=sJ ho;clear hL hno
    go_simp;exact hK (zg V 41 _) _ _ (by simp[putAll,zg]) {h with e7:=fun _=>rfl}
   ·obtain rfl:=sJ ho;have e7:=h.e7 (hL ⟨7, .data⟩ (by simp) rfl)
    clear hL hno
    go_simp;exact hK (zg V 42 _) _ _ (by simp[putAll,zg,e7]) {h with e8:=fun _=>rfl}
   ·obtain rfl:=sJ ho;have e8:=h.e8 (hL ⟨8, .data⟩ (by simp) rfl)
    have ct:=(h.b0.cell (p:=⟨b,off,none⟩) hbb).trans Hc0.out;clear hL hno
    go_simp;exact hK (zg V 43 _) _ _ (by simp[putAll,zg,e8]) {h with e9:=fun _=>rfl}
   ·obtain rfl:=sJ ho;clear hL hno
    go_simp;exact hK (zg V 44 _) _ _ (by simp[putAll,zg]) {h with e10:=fun _=>rfl}
   ·obtain rfl:=sJ ho;have e10:=h.e10 (hL ⟨10, .data⟩ (by simp) rfl)
    clear hL hno
    go_simp;exact hK (zg V 45 _) _ _ (by simp[putAll,zg,e10]) {h with e11:=fun _=>rfl}
   ·obtain rfl:=sJ ho;have e11:=h.e11 (hL ⟨11, .data⟩ (by simp) rfl)
    have ct:=(h.b0.cell (p:=⟨b,off+1,none⟩) hbb).trans Hc1.out;clear hL hno
    go_simp;exact hK (zg V 46 _) _ _ (by simp[putAll,zg,e11]) {h with e12:=fun _=>rfl}
   ·obtain rfl:=sJ ho;have e9:=h.e9 (hL ⟨9, .data⟩ (by simp) rfl)
    have e12:=h.e12 (hL ⟨12, .data⟩ (by simp) rfl)
    have hw:=Hw.out;clear hL hno
    go_simp;exact hK (zg V 47 _) _ _ (by simp[putAll,zg,e9,e12]) {h with e13:=fun _=>rfl}
   ·obtain rfl:=sJ ho;have e13:=h.e13 (hL ⟨13, .data⟩ (by simp) rfl)
    have l16:=hno 16 (by kernel_rfl)
    clear hL hno;have hz:=h.b0.size
    go_simp;refine(zaB 1 ((a:Int)*m) w1 (by omega)).mono ?_
    rintro e w3 ⟨A9,c9,rfl,r9,hb9⟩;refine hK (zg V 48 (.slice A9 (List.replicate 1 (((a:Int)*m):Int)).length c9)) _ _ (by simp[putAll,zg,e13]) ?_
    exact{h with
     b0:=h.b0.trans (hb9.mono hz)
     e16:=nX_ l16
     ra:=fun hn=>(h.ra hn).below hb9
     rb:=fun _=>⟨A9,c9,rfl,r9.mono hz⟩}
   ·obtain rfl:=sJ ho;clear hL hno
    go_simp;refine hK (zg V 4 (V 40)) _ _ (by simp[putAll,zg]) ?_
    exact{h with e15:=fun _=>rfl}
   ·obtain rfl:=sJ ho;clear hL hno
    go_simp;refine hK (zg V 5 (V 48)) _ _ (by simp[putAll,zg]) ?_
    exact{h with e16:=fun _=>rfl}
   ·obtain rfl:=sJ ho;clear hL hno
    go_simp;exact hK (zg V 6 _) _ _ (by simp[putAll,zg]) {h with e17:=fun _=>rfl}
   ·simp at ho
  ·clear hI0;intro L V w5 hL h;obtain⟨A0,c0,e0,o0⟩:=h.ra (hL 6 (by simp))
   obtain⟨A1,c1,e1,o1⟩:=h.rb (hL 14 (by simp))
   have x4:=(h.e15 (hL 15 (by simp))).trans e0
   have x5:=(h.e16 (hL 16 (by simp))).trans e1
   have x6:=h.e17 (hL 17 (by simp))
   have hb5:=HB2.out.trans (h.b0.mono HB2.out.size);have HO0:=Lh (o0.mono HB2.out.size);have HO1:=Lh (o1.mono HB2.out.size);have HB5:=Lh hb5;clear h hL e0 e1 o0 o1 hb5;simp only[putAll,zi,zj,zc,ze,zd,x4,x5,x6];clear x4 x5 x6
   go_wp2_with fail
   go_ret3
   exact⟨A0,c0,A1,c1,rfl,HO0.out,HO1.out,HB5.out⟩
 |unweave a m h hm hp=>
  subst hl;obtain⟨b,off,rfl,hbb,hc0,hc1⟩:=rd_two hr;clear hr;have hw:IntKind.i64.wrap ((a:Int)*m)=a*m:=IntWalk.i64_in _ (by have:=zak (show(0:Int)≤a by omega) (show 0≤m by omega);omega)
  have Hw:=Lh hw
  go_enter Tryz.func39, Tryz.ntmps39
  go_wp2_with fail;refine(HG.out c).mono ?_
  rintro e w2 ⟨rfl,hb2⟩;have HB2:=Lh hb2;have Hc0:=Lh ((hb2.cell (p:=⟨b,off,none⟩) hbb).trans hc0);have Hc1:=Lh ((hb2.cell (p:=⟨b,off+1,none⟩) hbb).trans hc1)
  replace hbb:b<w2.heap.size:=by have:=hb2.size;omega
  clear hb2 hc0 hc1 hw
  go_wp2_with fail;have hI0:∀V,OfUnweave w2 b off c a m (fun _=>false) V w2.drew:=fun V=>by
   have b0:=Below.drewN (zm w2.heap.size w2) 1;constructor
   all_goals first
    |exact b0
    |(intro h;cases h)
  refine zN [51,52,53,54,55,56,57,58,59,60,61,62,63,64,65,4,5,6] (OfUnweave w2 b off c a m) (by kernel_rfl) (by kernel_rfl) ?_ ?_ ?_
  ·exact hI0 _
  ·intro i o ho L V w1 hi hL hno h K hK;simp only[putAll,zi,zj,zc,ze,zd];rcases i with _|_|_|_|_|_|_|_|_|_|_|_|_|_|_|_|_|_|i
   ·obtain rfl:=sJ ho;clear hL hno
    go_simp;exact hK (zg V 51 _) _ _ (by simp[putAll,zg]) {h with e0:=fun _=>rfl}
   ·obtain rfl:=sJ ho;have e0:=h.e0 (hL ⟨0, .data⟩ (by simp) rfl)
    clear hL hno
    go_simp;exact hK (zg V 52 _) _ _ (by simp[putAll,zg,e0]) {h with e1:=fun _=>rfl}
   ·obtain rfl:=sJ ho;have e1:=h.e1 (hL ⟨1, .data⟩ (by simp) rfl)
    have ct:=(h.b0.cell (p:=⟨b,off,none⟩) hbb).trans Hc0.out;clear hL hno
    go_simp;exact hK (zg V 53 _) _ _ (by simp[putAll,zg,e1]) {h with e2:=fun _=>rfl}
   ·obtain rfl:=sJ ho;clear hL hno
    go_simp;exact hK (zg V 54 _) _ _ (by simp[putAll,zg]) {h with e3:=fun _=>rfl}
   ·obtain rfl:=sJ ho;have e3:=h.e3 (hL ⟨3, .data⟩ (by simp) rfl)
    clear hL hno
    go_simp;exact hK (zg V 55 _) _ _ (by simp[putAll,zg,e3]) {h with e4:=fun _=>rfl}
   ·obtain rfl:=sJ ho;have e4:=h.e4 (hL ⟨4, .data⟩ (by simp) rfl)
    have ct:=(h.b0.cell (p:=⟨b,off+1,none⟩) hbb).trans Hc1.out;clear hL hno
    go_simp;exact hK (zg V 56 _) _ _ (by simp[putAll,zg,e4]) {h with e5:=fun _=>rfl}
   ·obtain rfl:=sJ ho;have e2:=h.e2 (hL ⟨2, .data⟩ (by simp) rfl)
    have e5:=h.e5 (hL ⟨5, .data⟩ (by simp) rfl)
    have hw:=Hw.out;clear hL hno
    go_simp;exact hK (zg V 57 _) _ _ (by simp[putAll,zg,e2,e5]) {h with e6:=fun _=>rfl}
   ·obtain rfl:=sJ ho;have e6:=h.e6 (hL ⟨6, .data⟩ (by simp) rfl)
    have l15:=hno 15 (by kernel_rfl)
    have l14:=hno 14 (by kernel_rfl)
    clear hL hno;have hz:=h.b0.size
    go_simp;refine(zaB 1 ((a:Int)*m) w1 (by omega)).mono ?_
    rintro e w3 ⟨A9,c9,rfl,r9,hb9⟩;refine hK (zg V 58 (.slice A9 (List.replicate 1 (((a:Int)*m):Int)).length c9)) _ _ (by simp[putAll,zg,e6]) ?_
    exact{h with
     b0:=h.b0.trans (hb9.mono hz)
     e15:=nX_ l15
     ra:=fun _=>⟨A9,c9,rfl,r9.mono hz⟩
     rb:=nX_ l14}
   ·obtain rfl:=sJ ho;clear hL hno
    go_simp;exact hK (zg V 59 _) _ _ (by simp[putAll,zg]) {h with e8:=fun _=>rfl}
   ·obtain rfl:=sJ ho;have e8:=h.e8 (hL ⟨8, .data⟩ (by simp) rfl)
    clear hL hno
    go_simp;exact hK (zg V 60 _) _ _ (by simp[putAll,zg,e8]) {h with e9:=fun _=>rfl}
   ·obtain rfl:=sJ ho;have e9:=h.e9 (hL ⟨9, .data⟩ (by simp) rfl)
    have ct:=(h.b0.cell (p:=⟨b,off,none⟩) hbb).trans Hc0.out;clear hL hno
    go_simp;exact hK (zg V 61 _) _ _ (by simp[putAll,zg,e9]) {h with e10:=fun _=>rfl}
   ·obtain rfl:=sJ ho;clear hL hno
    go_simp;exact hK (zg V 62 _) _ _ (by simp[putAll,zg]) {h with e11:=fun _=>rfl}
   ·obtain rfl:=sJ ho;have e11:=h.e11 (hL ⟨11, .data⟩ (by simp) rfl)
    clear hL hno
    go_simp;exact hK (zg V 63 _) _ _ (by simp[putAll,zg,e11]) {h with e12:=fun _=>rfl}
   ·obtain rfl:=sJ ho;have e12:=h.e12 (hL ⟨12, .data⟩ (by simp) rfl)
    have ct:=(h.b0.cell (p:=⟨b,off+1,none⟩) hbb).trans Hc1.out;clear hL hno
    go_simp;exact hK (zg V 64 _) _ _ (by simp[putAll,zg,e12]) {h with e13:=fun _=>rfl}
   ·obtain rfl:=sJ ho;have e10:=h.e10 (hL ⟨10, .data⟩ (by simp) rfl)
    have e13:=h.e13 (hL ⟨13, .data⟩ (by simp) rfl)
    have l16:=hno 16 (by kernel_rfl)
    clear hL hno;have hz:=h.b0.size
    go_simp;refine(zaB a m w1 (by omega)).mono ?_
    rintro e w3 ⟨A9,c9,rfl,r9,hb9⟩;refine hK (zg V 65 (.slice A9 (List.replicate a (m:Int)).length c9)) _ _ (by simp[putAll,zg,e10,e13]) ?_
    exact{h with
     b0:=h.b0.trans (hb9.mono hz)
     e16:=nX_ l16
     ra:=fun hn=>(h.ra hn).below hb9
     rb:=fun _=>⟨A9,c9,rfl,r9.mono hz⟩}
   ·obtain rfl:=sJ ho;clear hL hno
    go_simp;refine hK (zg V 4 (V 58)) _ _ (by simp[putAll,zg]) ?_
    exact{h with e15:=fun _=>rfl}
   ·obtain rfl:=sJ ho;clear hL hno
    go_simp;refine hK (zg V 5 (V 65)) _ _ (by simp[putAll,zg]) ?_
    exact{h with e16:=fun _=>rfl}
   ·obtain rfl:=sJ ho;clear hL hno
    go_simp;exact hK (zg V 6 _) _ _ (by simp[putAll,zg]) {h with e17:=fun _=>rfl}
   ·simp at ho
  ·clear hI0;intro L V w5 hL h;obtain⟨A0,c0,e0,o0⟩:=h.ra (hL 7 (by simp))
   obtain⟨A1,c1,e1,o1⟩:=h.rb (hL 14 (by simp))
   have x4:=(h.e15 (hL 15 (by simp))).trans e0
   have x5:=(h.e16 (hL 16 (by simp))).trans e1
   have x6:=h.e17 (hL 17 (by simp))
   have hb5:=HB2.out.trans (h.b0.mono HB2.out.size);have HO0:=Lh (o0.mono HB2.out.size);have HO1:=Lh (o1.mono HB2.out.size);have HB5:=Lh hb5;clear h hL e0 e1 o0 o1 hb5;simp only[putAll,zi,zj,zc,ze,zd,x4,x5,x6];clear x4 x5 x6
   go_wp2_with fail
   go_ret3
   exact⟨A0,c0,A1,c1,rfl,HO0.out,HO1.out,HB5.out⟩
 |add a h=>
  subst hl;obtain⟨b,off,rfl,hbb,hc0⟩:=zdE hr;clear hr
  go_enter Tryz.func39, Tryz.ntmps39
  go_wp2_with fail;refine(HG.out c).mono ?_
  rintro e w2 ⟨rfl,hb2⟩;have HB2:=Lh hb2;have f0:=(hb2.cell (p:=⟨b,off,none⟩) hbb).trans hc0;clear hb2 hc0 hbb
  go_wp2_with fail;refine(zaB a 1 _ (by omega)).mono ?_
  rintro e w3 ⟨A0,c0,rfl,o0,b0⟩;have HO0:=Lh o0;have HC0:=Lh b0;clear o0 b0 f0
  go_wp2_with fail;refine(zaB 1 1 _ (by omega)).mono ?_
  rintro e w4 ⟨A1,c1,rfl,o1,b1⟩;have HO1:=Lh o1;have HC1:=Lh b1;clear o1 b1
  go_wp2_with fail
  go_ret3
  have hx:=zfC HB2.out HO0.out HC0.out (zm _ _) HO1.out HC1.out;simp only[zK]at hx;exact hx
 |quot=>
  subst hl;clear hr
  go_enter Tryz.func39, Tryz.ntmps39
  go_wp2_with fail;refine(HG.out c).mono ?_
  rintro e w2 ⟨rfl,hb2⟩;have HB2:=Lh hb2;clear hb2
  go_wp2_with fail;refine(zaB 2 1 _ (by omega)).mono ?_
  rintro e w3 ⟨A0,c0,rfl,o0,b0⟩;have HO0:=Lh o0;have HC0:=Lh b0;clear o0 b0
  go_wp2_with fail;refine(zaB 1 1 _ (by omega)).mono ?_
  rintro e w4 ⟨A1,c1,rfl,o1,b1⟩;have HO1:=Lh o1;have HC1:=Lh b1;clear o1 b1
  go_wp2_with fail
  go_ret3
  exact zfC HB2.out HO0.out HC0.out (zm _ _) HO1.out HC1.out
 |sum=>
  subst hl;clear hr
  go_enter Tryz.func39, Tryz.ntmps39
  go_wp2_with fail;refine(HG.out c).mono ?_
  rintro e w2 ⟨rfl,hb2⟩;have HB2:=Lh hb2;clear hb2
  go_wp2_with fail;refine(zaB 1 1 _ (by omega)).mono ?_
  rintro e w3 ⟨A0,c0,rfl,o0,b0⟩;have HO0:=Lh o0;have HC0:=Lh b0;clear o0 b0
  go_wp2_with fail;refine(zaB 1 1 _ (by omega)).mono ?_
  rintro e w4 ⟨A1,c1,rfl,o1,b1⟩;have HO1:=Lh o1;have HC1:=Lh b1;clear o1 b1
  go_wp2_with fail
  go_ret3
  exact zfC HB2.out HO0.out HC0.out (zm _ _) HO1.out HC1.out
 |copies a h=>
  subst hl;obtain⟨b,off,rfl,hbb,hc0⟩:=zdE hr;clear hr
  go_enter Tryz.func39, Tryz.ntmps39
  go_wp2_with fail;refine(HG.out c).mono ?_
  rintro e w2 ⟨rfl,hb2⟩;have HB2:=Lh hb2;have Hc0:=Lh ((hb2.cell (p:=⟨b,off,none⟩) hbb).trans hc0)
  replace hbb:b<w2.heap.size:=by have:=hb2.size;omega
  clear hb2 hc0
  go_wp2_with fail;have hI0:∀V,OfCopies w2 b off c a (fun _=>false) V w2.drew:=fun V=>by
   have b0:=Below.drewN (zm w2.heap.size w2) 1;constructor
   all_goals first
    |exact b0
    |(intro h;cases h)
  refine zN [79,80,81,82,83,4,5,6] (OfCopies w2 b off c a) (by kernel_rfl) (by kernel_rfl) ?_ ?_ ?_
  ·exact hI0 _
  ·intro i o ho L V w1 hi hL hno h K hK;simp only[putAll,zi,zj,zc,ze,zd];rcases i with _|_|_|_|_|_|_|_|i
   ·obtain rfl:=sJ ho;have l5:=hno 5 (by kernel_rfl)
    have l4:=hno 4 (by kernel_rfl)
    clear hL hno;have hz:=h.b0.size
    go_simp;refine(zaB 1 1 w1 (by omega)).mono ?_
    rintro e w3 ⟨A9,c9,rfl,r9,hb9⟩;refine hK (zg V 79 (.slice A9 (List.replicate 1 (1:Int)).length c9)) _ _ (by simp[putAll,zg]) ?_
    exact{h with
     b0:=h.b0.trans (hb9.mono hz)
     e5:=nX_ l5
     ra:=fun _=>⟨A9,c9,rfl,r9.mono hz⟩
     rb:=nX_ l4}
   ·obtain rfl:=sJ ho;clear hL hno
    go_simp;exact hK (zg V 80 _) _ _ (by simp[putAll,zg]) {h with e1:=fun _=>rfl}
   ·obtain rfl:=sJ ho;have e1:=h.e1 (hL ⟨1, .data⟩ (by simp) rfl)
    clear hL hno
    go_simp;exact hK (zg V 81 _) _ _ (by simp[putAll,zg,e1]) {h with e2:=fun _=>rfl}
   ·obtain rfl:=sJ ho;have e2:=h.e2 (hL ⟨2, .data⟩ (by simp) rfl)
    have ct:=(h.b0.cell (p:=⟨b,off,none⟩) hbb).trans Hc0.out;clear hL hno
    go_simp;exact hK (zg V 82 _) _ _ (by simp[putAll,zg,e2]) {h with e3:=fun _=>rfl}
   ·obtain rfl:=sJ ho;have e3:=h.e3 (hL ⟨3, .data⟩ (by simp) rfl)
    have l6:=hno 6 (by kernel_rfl)
    clear hL hno;have hz:=h.b0.size
    go_simp;refine(zaB a 1 w1 (by omega)).mono ?_
    rintro e w3 ⟨A9,c9,rfl,r9,hb9⟩;refine hK (zg V 83 (.slice A9 (List.replicate a (1:Int)).length c9)) _ _ (by simp[putAll,zg,e3]) ?_
    exact{h with
     b0:=h.b0.trans (hb9.mono hz)
     e6:=nX_ l6
     ra:=fun hn=>(h.ra hn).below hb9
     rb:=fun _=>⟨A9,c9,rfl,r9.mono hz⟩}
   ·obtain rfl:=sJ ho;clear hL hno
    go_simp;refine hK (zg V 4 (V 79)) _ _ (by simp[putAll,zg]) ?_
    exact{h with e5:=fun _=>rfl}
   ·obtain rfl:=sJ ho;clear hL hno
    go_simp;refine hK (zg V 5 (V 83)) _ _ (by simp[putAll,zg]) ?_
    exact{h with e6:=fun _=>rfl}
   ·obtain rfl:=sJ ho;clear hL hno
    go_simp;exact hK (zg V 6 _) _ _ (by simp[putAll,zg]) {h with e7:=fun _=>rfl}
   ·simp at ho
  ·clear hI0;intro L V w5 hL h;obtain⟨A0,c0,e0,o0⟩:=h.ra (hL 0 (by simp))
   obtain⟨A1,c1,e1,o1⟩:=h.rb (hL 4 (by simp))
   have x4:=(h.e5 (hL 5 (by simp))).trans e0
   have x5:=(h.e6 (hL 6 (by simp))).trans e1
   have x6:=h.e7 (hL 7 (by simp))
   have hb5:=HB2.out.trans (h.b0.mono HB2.out.size);have HO0:=Lh (o0.mono HB2.out.size);have HO1:=Lh (o1.mono HB2.out.size);have HB5:=Lh hb5;clear h hL e0 e1 o0 o1 hb5;simp only[putAll,zi,zj,zc,ze,zd,x4,x5,x6];clear x4 x5 x6
   go_wp2_with fail
   go_ret3
   exact⟨A0,c0,A1,c1,rfl,HO0.out,HO1.out,HB5.out⟩
 |tick x y=>
  subst hl;clear hr
  go_enter Tryz.func39, Tryz.ntmps39
  go_wp2_with fail;refine(HG.out c).mono ?_
  rintro e w2 ⟨rfl,hb2⟩;have HB2:=Lh hb2;clear hb2
  go_wp2_with fail;refine(zaB 1 1 _ (by omega)).mono ?_
  rintro e w3 ⟨A0,c0,rfl,o0,b0⟩;have HO0:=Lh o0;have HC0:=Lh b0;clear o0 b0
  go_wp2_with fail
  go_ret3
  exact⟨none,0,A0,c0,rfl,zr _ _ _ _,HO0.out.mono HB2.out.size,HB2.out.trans (HC0.out.mono HB2.out.size)⟩
 |drop n h=>
  subst hl;obtain⟨b,off,rfl,hbb,hc0⟩:=zdE hr;clear hr
  go_enter Tryz.func39, Tryz.ntmps39
  go_wp2_with fail;refine(HG.out c).mono ?_
  rintro e w2 ⟨rfl,hb2⟩;have HB2:=Lh hb2;have f0:=(hb2.cell (p:=⟨b,off,none⟩) hbb).trans hc0;clear hb2 hc0 hbb
  go_wp2_with fail;refine(zaB 1 n _ (by omega)).mono ?_
  rintro e w3 ⟨A0,c0,rfl,o0,b0⟩;have HO0:=Lh o0;have HC0:=Lh b0;clear o0 b0 f0
  go_wp2_with fail
  go_ret3
  exact⟨A0,c0,none,0,rfl,HO0.out.mono HB2.out.size,zr _ _ _ _,HB2.out.trans (HC0.out.mono HB2.out.size)⟩
end Go.Proofs.YtpmlljbebdidgaaGreatDoor
namespace Go.Proofs.YtpmlljbebdidgaaGreatDoor
open Go.RowKit
theorem zdF{w:World}{B:Nat}{A:Option Addr}{cs:List Value}(h:Rd w B A cs)(hl:0<cs.length):∃b o,A=some ⟨b,o,none⟩∧b<B∧∀(i:Nat) (u:Value),cs[i]?=some u→w.cell? ⟨b,o+i,none⟩=some u:=by
 rcases h with h|⟨b,off,hA,hb,hcell⟩
 ·rw[h]at hl;exact absurd hl (zc1 _)
 ·exact⟨b,off,hA,hb,hcell⟩
theorem zcs{l:List Int}{i:Nat}{x:Int}(h:l[i]?=some x):(cellsI l)[i]?=some (.int .i64 x):=by unfold cellsI;simp[h]
def znO(fs:List Nat)(rs:List Int)(w:World)(e:Ending)(w':World):Prop:=∃y,e= .returned (.bool y)∧(y=true↔∀(k f:Nat) (r:Int),fs[k]?=some f→rs[k]?=some r→r≤(f:Nat))∧Below w.heap.size w w'
theorem zh8(fs:List Nat)(rs:List Int)(A B:Option Addr)(l c d:Nat)(w:World)(hl:fs.length=l)(hm:rs.length=l)(hA:Rd w w.heap.size A (cellsN fs))(hB:Rd w w.heap.size B (cellsI rs))(hl2:0<l∧l≤32):
  Calls Tryz.prog 17 #[.slice A l c, .slice B l d] w (znO fs rs w):=by
 obtain⟨a,oa,rfl,ca⟩:=zdF hA (by rw[zip];omega)
 obtain⟨b,ob,rfl,cb⟩:=zdF hB (by rw[cellsI_length];omega)
 have HA:=Lh ca;have HB:=Lh cb;have Hl:=Lh hl;have Hm:=Lh hm;clear ca cb hA hB hl hm
 go_enter Tryz.func17, Tryz.ntmps17
 go_wp2_with fail
 go_loopw [5] (fun i wr=>∃k:Nat,k≤l∧i= .int .i64 k∧Below w.heap.size w wr∧Hid (∀(j f:Nat) (r:Int),j<k→fs[j]?=some f→rs[j]?=some r→r≤(f:Nat))) (fun i _=>l-(intOf i).toNat)
 case atStart=>exact⟨0,zJ _,rfl,zm _ _,Lh fun j f r hj=>absurd hj (zau _)⟩
 case round=>
  obtain⟨k,hk,rfl,hb,HK⟩:=hrel;by_cases hkl:k<l
  ·have h1:(k:Int)<(l:Int):=by omega
   have h0:(0:Int)≤(k:Int):=by omega
   obtain⟨f',hf'⟩:=zG (l:=fs) (i:=k) (by rw[Hl.out];omega)
   obtain⟨r',hr'⟩:=zG (l:=rs) (i:=k) (by rw[Hm.out];omega)
   have c1:=(hb.cell (p:=⟨a,oa+k,none⟩) HA.out.1).trans (HA.out.2 k _ (zkH hf'));have c2:=(hb.cell (p:=⟨b,ob+k,none⟩) HB.out.1).trans (HB.out.2 k _ (zcs hr'));have Hf':=Lh hf';have Hr':=Lh hr';have HBw:=Lh hb;clear hf' hr' hb;by_cases hq:(f':Int)<r'
   ·go_wp2_with fail
    go_quiet (fail)
    generalize hW:World.drewN wr _=w2;have d2:Drawn wr w2:=by rw[←hW];exact(Drawn.refl _).drewN _
    have HB2:=Lh (HBw.out.trans ((d2.below wr.heap.size).mono HBw.out.size));clear hW d2
    go_wp2_with fail
    go_ret;exact⟨false,rfl,⟨fun h=>(by cases h),fun h=>absurd (h k f' r' Hf'.out Hr'.out) (by omega)⟩,HB2.out⟩
   ·go_wp2_with fail
    go_quiet (fail)
    generalize hW:World.drewN wr _=w2;have d2:Drawn wr w2:=by rw[←hW];exact(Drawn.refl _).drewN _
    have HB2:=Lh (HBw.out.trans ((d2.below wr.heap.size).mono HBw.out.size));have HK2:Hid (∀(j f:Nat) (r:Int),j<k+1→fs[j]?=some f→rs[j]?=some r→r≤(f:Nat)):=Lh fun j f r hj hf hr=>by
     by_cases hjk:j=k
     ·subst hjk;obtain rfl:=zq (Hf'.out.symm.trans hf);obtain rfl:=zq (Hr'.out.symm.trans hr);omega
     ·exact HK.out j f r (by omega) hf hr
    clear hW d2
    go_wp2_with fail
    go_roundw
    case rel=>exact⟨k+1,by omega,by go_num,HB2.out,HK2⟩
    case measure=>simp[intOf];omega
  ·obtain rfl:k=l:=by omega
   have HBw:=Lh hb;have h1:¬((k:Int)<(k:Int)):=by omega
   clear hb
   go_wp2_with fail
   go_ret;exact⟨true,rfl,⟨fun _ j f r hf hr=>HK.out j f r (by have:=zao hf;rw[Hl.out]at this;exact this) hf hr,fun _=>rfl⟩,HBw.out⟩
theorem zk9(xs:List Int)(A:Option Addr)(l c n:Nat)(w:World)(hl:xs.length=l)(hf:AllFit xs)(hr:Rd w w.heap.size A (cellsI xs))(hz:l*8≤140737488351232)(hn:n≤1048576):
  Calls Tryz.prog 13 #[.slice A l c, .int .i64 n] w fun e w'=>∃A' c' ys,e= .returned (.slice A' n c')∧ys.length=n∧AllFit ys∧Rd w' w'.heap.size A' (cellsI ys)∧Below w.heap.size w w'∧∀q,blkOf A'=some q→w.heap.size≤q∧q<w'.heap.size:=by
 obtain⟨ii,hii,hz0,hz1,hz2⟩:=info_parts zas;have HI:=Lh (znN xs A l c w.heap.size w hl hr hz);have Hf:=Lh hf;have Hl:=Lh hl;clear hl hf hr
 go_enter Tryz.func13, Tryz.ntmps13
 go_wp2_with fail;refine HI.out.mono ?_
 rintro e w2 ⟨A2,c2,rfl,hc2,r2,o2,b2⟩;have HR2:=Lh r2;have HB2:=Lh b2;have HO2:=Lh o2;clear HI r2 b2 o2;by_cases hnl:n<l
 ·have h1:(n:Int)<(l:Int):=by omega
  have h2:(0:Int)≤(n:Int):=by omega
  have h3:(n:Int)≤(c2:Int):=by omega
  have h4:¬((n:Int)<(n:Int)):=by omega
  obtain⟨b,o,rfl,hbb,hcell⟩:=zdF HR2.out (by rw[cellsI_length,Hl.out];omega)
  have HC:=Lh hcell;have hlo:=HO2.out.lt b rfl;clear hcell
  go_wp2_with fail
  go_loopw [5,6] (fun v i wr=>v= .slice (some ⟨b,o,none⟩) n c2∧i= .int .i64 0∧wr=w2) (fun _ _ _=>0)
  case atStart=>exact⟨rfl,rfl,rfl⟩
  case round=>
   obtain⟨rfl,rfl,rfl⟩:=hrel
   go_wp2_with fail
   go_ret;refine⟨_,_,xs.take n,rfl,by rw[zaH,Hl.out];omega,fun x hx=>Hf.out x (zcU hx), .inr ⟨b,o,rfl,hbb,fun j u hu=>HC.out j u ?_⟩,HB2.out,fun q hq=>(by injection hq:b=q)▸hlo⟩
   unfold cellsI at hu⊢;rw[zp]at hu⊢;rw[List.getElem?_take]at hu;split at hu
   ·exact hu
   ·cases hu
 ·have h1:¬((n:Int)<(l:Int)):=by omega
  go_wp2_with fail
  go_loopw [5,6] (fun v i wr=>∃(k:Nat) (A:Option Addr) (c:Nat) (ys:List Int),k≤n∧l≤k∧i= .int .i64 ((k:Int)-l)∧v= .slice A k c∧Below w.heap.size w wr∧ys.length=k∧AllFit ys∧wr.ownsRow w.heap.size 3 1 (.slice A k c) k (cellsI ys)) (fun _ i _=>n-l-(intOf i).toNat)
  case atStart=>exact⟨l,A2,c2,xs,by omega,zF _,by rw[Int.sub_self],rfl,HB2.out,Hl.out,Hf.out,HO2.out⟩
  case round=>
   obtain⟨k,A,c,ys,hk,hlk,rfl,rfl,hb,hy,hyf,ho⟩:=hrel;have hsz:=hb.size;by_cases hlt:k<n
   ·have h2:(k:Int)<(n:Int):=by omega
    obtain⟨x,hx⟩:∃x,((k:Int)-l).tmod 7=x:=⟨_,rfl⟩;have hx0:0≤x:=by rw[←hx];exact Int.tmod_nonneg _ (by omega)
    have hx1:x<7:=by rw[←hx];exact Int.tmod_lt_of_pos _ (by omega)
    have ba:=bA_ wr (.cells #[.int .i64 x] 3);have o2':=own_below ho ba;have r2:=zal wr _ rfl 3 [Value.int .i64 x];have HB3:=Lh (hb.trans (ba.mono hsz));have Hy:=Lh hy;have Hyf:=Lh hyf;have ew:IntKind.i64.wrap ((k:Int)-l+1)=((k+1:Nat):Int)-l:=by rw[IntKind.wrap_i64];omega
    clear ho ba hb hy hyf
    go_wp2_with (at_builtin;refine zR _ rfl _ _ 36 rfl w.heap.size 3 ii (.int .i64 0) 1 8 Tryz.underlying36 hii hz0 hz1 hz2 rfl (by decide) _ k (cellsI ys) rfl o2' _ (some ⟨wr.heap.size,0,none⟩) 1 1 (cellsI [x]) rfl rfl r2 (zaA _) (by unfold maxLen;omega) (by omega) (by simp;omega) ?_)
    intro v' w4 o4 g4 h4;obtain⟨A',c',rfl,_⟩:=zH o4;have b4:=HB3.out.grown g4 HB3.out.size (fun q hq=>own_ge o2' hq)
    have HO4:=Lh o4;have HB4:=Lh b4;clear o4 g4 h4 b4 o2' r2
    go_wp2_with fail
    go_roundw
    case rel=>exact⟨k+1,A',c',ys++[x],by omega,by omega,by go_num,rfl,HB4.out,by rw[zx,Hy.out];rfl,fun y hy=>by
     rcases zaZ.1 hy with h|h
     ·exact Hyf.out y h
     ·rw[zW]at h;subst h;unfold fits;omega,by rw[show cellsI (ys++[x])=cellsI ys++cellsI [x]from by simp[cellsI]];exact HO4.out⟩
    case measure=>simp[intOf];omega
   ·obtain rfl:k=n:=by omega
    have HO:=Lh ho;have HB:=Lh hb;have Hy:=Lh hy;have Hyf:=Lh hyf;clear ho hb hy hyf
    go_wp2_with fail
    go_ret;exact⟨A,c,ys,rfl,Hy.out,Hyf.out,rd_of_own HO.out,HB.out,fun q hq=>(HO.out.lt q (by cases A with|none=>cases hq|some a=>exact hq))⟩
end Go.Proofs.YtpmlljbebdidgaaGreatDoor
