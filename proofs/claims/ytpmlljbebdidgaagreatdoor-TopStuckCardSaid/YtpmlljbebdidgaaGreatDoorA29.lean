/- Lemmas and walks for the claim: Gj. -/
import Derived.Test.YtpmlljbebdidgaaGreatDoorA0
import Derived.Test.YtpmlljbebdidgaaGreatDoorA28
set_option maxRecDepth 100000
set_option maxHeartbeats 4000000
namespace Go.Proofs.YtpmlljbebdidgaaGreatDoor
open Go.RowKit Go.Maps
def M0of(g:GraV):Bool→List (List Bool):=sideM g.acts
def M1of(g:GraV):Bool→List (List Bool):=edgesM g.edges (M0of g)
def M2of(g:GraV):Bool→List (List Bool):=updB (M1of g) false (portsM g.ins (M1of g false))
def M3of(g:GraV):Bool→List (List Bool):=updB (M2of g) true (portsM g.outs (M2of g true))
def checkG(g:GraV):Int:=
 if headE g=0 then(if actorsE g.acts []=0 then(if edgesE g.edges (M0of g)=0 then(if portsE g.ins (namesA g.acts) (M1of g false)=0 then(if portsE g.outs (namesA g.acts++namesP g.ins) (M2of g true)=0 then openE g.acts.length (M3of g)else portsE g.outs (namesA g.acts++namesP g.ins) (M2of g true))else portsE g.ins (namesA g.acts) (M1of g false))else edgesE g.edges (M0of g))else actorsE g.acts [])else headE g
theorem head_ok{g:GraV}(h:headE g=0):nameB g.nm=true∧0<g.acts.length∧g.acts.length≤32∧g.edges.length≤96∧g.ins.length≤16∧g.outs.length≤16:=by
 unfold headE at h;split at h
 ·split at h
  ·cases h
  split at h
  ·cases h
  split at h
  ·cases h
  split at h
  ·cases h
  split at h
  ·cases h
  ·exact⟨by assumption,by omega,by omega,by omega,by omega,by omega⟩
 ·cases h
theorem row_len_take{M:List (List Bool)}(a p:Int)(j:Nat):((takeM M a p).getD j []).length=(M.getD j []).length:=by
 unfold takeM;split
 ·rename_i h
  obtain⟨h1,h2,-⟩:=take_ok h;by_cases hj:a.toNat=j
  ·subst hj;rw[getD_set_self (by omega),List.length_set]
  ·rw[getD_set_other hj]
 ·rfl
theorem row_len_edges(xs:List GEdg):∀(M:Bool→List (List Bool)) (s:Bool) (j:Nat),((edgesM xs M s).getD j []).length=((M s).getD j []).length:=by
 induction xs with
 |nil=>intro M s j;rfl
 |cons x xs ih=>
  intro M s j;show((edgesM xs (edgeM M x) s).getD j []).length=_
  rw[ih];unfold edgeM;cases s<;>exact row_len_take _ _ _
theorem row_len_ports(xs:List PrtV):∀(M:List (List Bool)) (j:Nat),((portsM xs M).getD j []).length=(M.getD j []).length:=by
 induction xs with
 |nil=>intro M j;rfl
 |cons x xs ih=>
  intro M j;show((portsM xs (takeM M x.a x.p)).getD j []).length=_
  rw[ih,row_len_take]
theorem row_len_side(acts:List ActV)(s:Bool)(j:Nat):((sideM acts s).getD j []).length≤16:=by
 unfold sideM;rw[List.getD_eq_getElem?_getD,List.getElem?_map];cases acts[j]? with
 |none=>simp
 |some x=>
  obtain⟨h1,h2⟩:=shape_small x.tag x.ps;simp only[Option.map_some,Option.getD_some,List.length_replicate];unfold portsN;split<;>omega
theorem row_len_M3(g:GraV)(s:Bool)(j:Nat):((M3of g s).getD j []).length≤16:=by
 have h1:∀s j,((M1of g s).getD j []).length≤16:=fun s j=>by unfold M1of;rw[row_len_edges];exact row_len_side _ _ _
 have h2:∀s j,((M2of g s).getD j []).length≤16:=fun s j=>by
  unfold M2of;by_cases hs:s=false
  ·subst hs;rw[updB_self,row_len_ports];exact h1 _ _
  ·rw[updB_other hs];exact h1 _ _
 unfold M3of;by_cases hs:s=true
 ·subst hs;rw[updB_self,row_len_ports];exact h2 _ _
 ·rw[updB_other hs];exact h2 _ _
theorem side_len(g:GraV)(s:Bool):(M0of g s).length=g.acts.length∧(M1of g s).length=g.acts.length∧(M2of g s).length=g.acts.length∧(M3of g s).length=g.acts.length:=by
 have h0:∀s,(M0of g s).length=g.acts.length:=fun s=>by unfold M0of sideM;rw[List.length_map]
 have h1:∀s,(M1of g s).length=g.acts.length:=fun s=>by unfold M1of;rw[edgesM_length,h0]
 have h2:∀s,(M2of g s).length=g.acts.length:=fun s=>by
  unfold M2of;by_cases hs:s=false
  ·subst hs;rw[updB_self,portsM_length,h1]
  ·rw[updB_other hs,h1]
 refine⟨h0 s,h1 s,h2 s,?_⟩;unfold M3of;by_cases hs:s=true
 ·subst hs;rw[updB_self,portsM_length,h2]
 ·rw[updB_other hs,h2]
theorem gfind_any(g:GraV)(w:World)(hg:g.good w w.heap.size):
  Calls Tryz.prog 45 #[.agg #[.string g.nm, .slice g.aA g.acts.length g.cA, .slice g.aE g.edges.length g.cE, .slice g.aI g.ins.length g.cI, .slice g.aO g.outs.length g.cO]] w fun e w'=>∃a b c:Int,e= .returned (.tuple #[.int .i64 (checkG g), .agg #[.int .u8 a, .int .i64 b, .int .i64 c]])∧Below w.heap.size w w':=by
 obtain⟨B0,hB0⟩:∃b,w.heap.size=b:=⟨_,rfl⟩;rw[hB0]at hg⊢;obtain⟨E,hE⟩:∃E,checkG g=E:=⟨_,rfl⟩;rw[hE];have hmm:= @run_makeMap Tryz.prog;have b1:=(Below.refl B0 w).alloc (by omega) (.cells #[.string g.nm, .slice g.aA g.acts.length g.cA, .slice g.aE g.edges.length g.cE, .slice g.aI g.ins.length g.cI, .slice g.aO g.outs.length g.cO] 26)
 have k1:=Blk.new w B0 hB0.symm 26 #[.string g.nm, .slice g.aA g.acts.length g.cA, .slice g.aE g.edges.length g.cE, .slice g.aI g.ins.length g.cI, .slice g.aO g.outs.length g.cO];have z1:(w.alloc (.cells #[.string g.nm, .slice g.aA g.acts.length g.cA, .slice g.aE g.edges.length g.cE, .slice g.aI g.ins.length g.cI, .slice g.aO g.outs.length g.cO] 26)).heap.size=B0+1:=by simp;omega
 obtain⟨Wa,hWa⟩:∃W,w.alloc (.cells #[.string g.nm, .slice g.aA g.acts.length g.cA, .slice g.aE g.edges.length g.cE, .slice g.aI g.ins.length g.cI, .slice g.aO g.outs.length g.cO] 26)=W:=⟨_,rfl⟩;rw[hWa]at b1 k1 z1;obtain⟨gR,hgR0⟩:∃b,B0+1=b:=⟨_,rfl⟩;rw[hgR0]at z1;have hgR:B0≤gR:=by omega
 have b2:=b1.alloc (by omega) (.cells #[.int .u8 0, .int .i64 0, .int .i64 0] 128)
 have kG:=k1.alloc (.cells #[.int .u8 0, .int .i64 0, .int .i64 0] 128);have kR:=Blk.new Wa gR z1.symm 128 #[.int .u8 0, .int .i64 0, .int .i64 0];have z2:(Wa.alloc (.cells #[.int .u8 0, .int .i64 0, .int .i64 0] 128)).heap.size=gR+1:=by simp;omega
 obtain⟨W1,hW1⟩:∃W,Wa.alloc (.cells #[.int .u8 0, .int .i64 0, .int .i64 0] 128)=W:=⟨_,rfl⟩;rw[hW1]at b2 kG kR z2;obtain⟨m,hm⟩:∃b,gR+1=b:=⟨_,rfl⟩;rw[hm]at z2;have hg1:g.good W1 m:=(hg.below b2 lR_).more (by omega)
 have z3:(W1.alloc (.map #[] 0)).heap.size=m+1:=by simp;omega
 have o3:=World.ownsMap_made W1 Tryz.prog 9 (plainElem (H:=Unit) Tryz.prog 3);rw[z2]at o3;have b3:=(Below.refl m W1).alloc (by omega) (.map #[] 0)
 obtain⟨W2,hW2⟩:∃W,W1.alloc (.map #[] 0)=W:=⟨_,rfl⟩;rw[hW2]at z3 o3 b3;obtain⟨gc,hgc⟩:∃b,m+1=b:=⟨_,rfl⟩;rw[hgc]at z3;have b4:=b3.alloc (by omega) (.cells #[.string g.nm, .slice g.aA g.acts.length g.cA, .slice g.aE g.edges.length g.cE, .slice g.aI g.ins.length g.cI, .slice g.aO g.outs.length g.cO, .map (some m), .slice none 0 0, .slice none 0 0] 168)
 have k4:=Blk.new W2 gc z3.symm 168 #[.string g.nm, .slice g.aA g.acts.length g.cA, .slice g.aE g.edges.length g.cE, .slice g.aI g.ins.length g.cI, .slice g.aO g.outs.length g.cO, .map (some m), .slice none 0 0, .slice none 0 0];have o4:=o3.alloc (.cells #[.string g.nm, .slice g.aA g.acts.length g.cA, .slice g.aE g.edges.length g.cE, .slice g.aI g.ins.length g.cI, .slice g.aO g.outs.length g.cO, .map (some m), .slice none 0 0, .slice none 0 0] 168);obtain⟨W3,hW3⟩:∃W,W2.alloc (.cells #[.string g.nm, .slice g.aA g.acts.length g.cA, .slice g.aE g.edges.length g.cE, .slice g.aI g.ins.length g.cI, .slice g.aO g.outs.length g.cO, .map (some m), .slice none 0 0, .slice none 0 0] 168)=W:=⟨_,rfl⟩;rw[hW3]at b4 k4 o4;have C3:CkS W1 W3 m gc m g [] 0 (fun _=> .slice none 0 0) (fun _=> .slice none 0 0) (fun _ _=>0) (sideM []):=
  ⟨b4,by omega,Nat.le_refl _,k4,o4,fun s=>World.ownsRow_nil _ _ _ _,fun s j hj=>absurd hj (Nat.not_lt_zero _),fun s j s' j' hj=>absurd hj (Nat.not_lt_zero _),fun b hb=>by cases hb⟩
 have g0:=kG.cellL 0 rfl;have g1:=kG.cellL 1 rfl;have g2:=kG.cellL 2 rfl;have g3:=kG.cellL 3 rfl;have g4:=kG.cellL 4 rfl;have HG:=Lh hg1;have HKG:=Lh kG;have HKR:=Lh kR;have HB2:=Lh b2;have HC3:=Lh C3;have HE:=Lh hE;have hgRm:gR<m:=by omega
 have hgGm:B0<m:=by omega
 clear hE hg b1 k1 b2 kG kR hg1 o3 b3 b4 k4 o4 C3
 go_enter Tryz.func45, Tryz.ntmps45
 go_wp2_with fail;refine(head_any g gc (.map (some m)) (.slice none 0 0) (.slice none 0 0) W3 HC3.out.blk HG.out.nm).mono ?_
 rintro e w4 ⟨a,b,c,rfl,hb4⟩;have C4:=HC3.out.below hb4;obtain⟨E1,hE1⟩:∃e,headE g=e:=⟨_,rfl⟩;rw[hE1];have H1:=Lh hE1;have ba:=bA_ w4 (.cells #[.int .u8 a, .int .i64 b, .int .i64 c] 128);have kt:=bN_ ba;have C5:=C4.below ba;obtain⟨W5,hW5⟩:=wN_ ba;obtain⟨gt,hgt⟩:∃b,w4.heap.size=b:=⟨_,rfl⟩;rw[hW5]at kt C5;rw[hgt]at kt;have kR:=HKR.out.below C5.bel hgRm;have HB:=Lh (HB2.out.trans (C5.bel.mono (by omega)))
 have HC5:=Lh C5;clear ba C4 hb4 hE1 C5 HC3;by_cases h0:E1=0
 ·subst h0;obtain⟨hnm,hpos,hl1,hl2,hl3,hl4⟩:=head_ok H1.out;clear kt kR HB g0 g1 g2
  go_wp2_with fail
  try rw[hW5]
  try rw[hgt]
  clear hW5 hgt;refine(actors_any W1 m gc m 0 g [] (fun _=> .slice none 0 0) (fun _ _=>0) W5 HG.out hl1 (by omega) HC5.out).mono ?_
  rintro e w6 ⟨a,b,c,rfl,hb6,hC6⟩;obtain⟨E2,hE2⟩:∃e,actorsE g.acts []=e:=⟨_,rfl⟩;rw[hE2]at hC6⊢;have H2:=Lh hE2;have hz6:m≤w6.heap.size:=by have:=hb6.size;omega
  have b7:=hb6.alloc hz6 (.cells #[.int .u8 a, .int .i64 b, .int .i64 c] 128);have ba:=bA_ w6 (.cells #[.int .u8 a, .int .i64 b, .int .i64 c] 128);have kt:=bN_ ba;have hC7:E2=0→∃V' R',CkS W1 (w6.alloc (.cells #[.int .u8 a, .int .i64 b, .int .i64 c] 128)) m gc m g ([]++namesA g.acts) (0+g.acts.length) V' V' R' (sideM g.acts):=fun h=>by
   obtain⟨V',R',hc⟩:=hC6 h;exact⟨V',R',hc.below ba⟩
  obtain⟨W7,hW7⟩:=wN_ ba;obtain⟨gt,hgt⟩:∃b,w6.heap.size=b:=⟨_,rfl⟩;rw[hW7]at kt hC7 b7;rw[hgt]at kt;have kR:=HKR.out.below b7 hgRm;have HB:=Lh (HB2.out.trans (b7.mono (by omega)))
  have HC7:=Lh hC7;clear ba hb6 hC6 hE2 hC7 HC5 b7 hz6;by_cases h0:E2=0
  ·subst h0;obtain⟨V,R,C7⟩:=HC7.out rfl;rw[List.nil_append,Nat.zero_add]at C7;have HC7b:=Lh C7;clear kt kR HB C7 HC7
   go_wp2_with fail
   try rw[hW7]
   try rw[hgt]
   clear hW7 hgt;refine(edges_any W1 m gc m g.acts.length g (namesA g.acts) V R (M0of g) W7 HG.out hl2 (fun s=>by rw[(side_len g s).1];exact hpos) HC7b.out).mono ?_
   rintro e w8 ⟨a,b,c,rfl,hb8,hC8⟩;obtain⟨E3,hE3⟩:∃e,edgesE g.edges (M0of g)=e:=⟨_,rfl⟩;rw[hE3]at hC8⊢;have H3:=Lh hE3;have hz8:m≤w8.heap.size:=by have:=hb8.size;omega
   have b9:=hb8.alloc hz8 (.cells #[.int .u8 a, .int .i64 b, .int .i64 c] 128);have ba:=bA_ w8 (.cells #[.int .u8 a, .int .i64 b, .int .i64 c] 128);have kt:=bN_ ba;have hC9:E3=0→CkS W1 (w8.alloc (.cells #[.int .u8 a, .int .i64 b, .int .i64 c] 128)) m gc m g (namesA g.acts) g.acts.length V V R (M1of g):=fun h=>(hC8 h).below ba
   obtain⟨W9,hW9⟩:=wN_ ba;obtain⟨gt,hgt⟩:∃b,w8.heap.size=b:=⟨_,rfl⟩;rw[hW9]at kt hC9 b9;rw[hgt]at kt;have kR:=HKR.out.below b9 hgRm;have HB:=Lh (HB2.out.trans (b9.mono (by omega)))
   have HC9:=Lh hC9;clear ba hb8 hC8 hE3 hC9 HC7b b9 hz8;by_cases h0:E3=0
   ·subst h0;have C9:=HC9.out rfl;have HC9b:=Lh C9;have G9:=HKG.out.below C9.bel hgGm;have x3:=G9.cellL 3 rfl;have y6:=C9.blk.cellL 6 rfl;have hltc:=C9.blk.lt;have hB9:=C9.bel.size;obtain⟨E4,hE4⟩:∃e,portsE g.ins (namesA g.acts) (M1of g false)=e:=⟨_,rfl⟩;have H4:=Lh hE4;have hM:0<(M1of g false).length:=by rw[(side_len g false).2.1];exact hpos
    clear kt kR HB C9 G9 HC9 hE4
    go_upto_region 11 with fail
    try rw[hW9]
    try rw[hgt]
    clear hW9 hgt
    go_cut [11,12] (fun sE sP wx=>∃(bS:Nat) (a b c:Int),sP= .pointer (some ⟨bS,0,none⟩)∧sE= .int .i64 E4∧Blk wx bS 128 #[.int .u8 a, .int .i64 b, .int .i64 c]∧Below m W1 wx∧Hid (E4=0→CkS W1 wx m gc m g (namesA g.acts++namesP g.ins) (g.acts.length+g.ins.length) V V R (M2of g)))
    case first=>
     have hne1:B0≠W9.heap.size:=by omega
     have hne2:gc≠W9.heap.size:=by omega
     have hne3:W9.heap.size≠B0:=by omega
     have hne4:W9.heap.size≠gc:=by omega
     go_region_held3 (fun w'=>w'.cell? ⟨B0,3,none⟩=some (.slice g.aI g.ins.length g.cI)∧w'.cell? ⟨gc,6,none⟩=some (V false))
      (go_keep)
      (first
       |(go_at_call 70;refine(ports_walk W1 m gc m (g.acts.length) g (namesA g.acts) V R (M1of g) false g.ins g.aI g.ins.length g.cI 3 2 _ HG.out.rI HG.out.gI rfl hl3 (by omega) hM ?_).mono ?_;exact HC9b.out.below (Below.drewN (Below.refl _ _) 1);rw[H4.out];rintro e w4 ⟨a,b,c,rfl,⟨hk4,ns4,nn4,M4,hx4⟩,hC4⟩;have q0:w4.cell? ⟨B0,3,none⟩=some (.slice g.aI g.ins.length g.cI):=(by have q:=(HKG.out.below hx4.bel hgGm).cell 3;simpa using q);have q1:w4.cell? ⟨gc,6,none⟩=some (V false):=(by have q:=hx4.blk.cell 6;simpa using q);have hgc4:=hx4.blk.lt;have hn4:B0≠w4.heap.size:=(by omega);have hn5:gc≠w4.heap.size:=(by omega);have hn6:w4.heap.size≠B0:=(by omega);have hn7:w4.heap.size≠gc:=(by omega))
       |(go_at_call 70;refine(ports_walk W1 m gc m (g.acts.length) g (namesA g.acts) V R (M1of g) false g.ins g.aI g.ins.length g.cI 3 2 _ HG.out.rI HG.out.gI rfl hl3 (by omega) hM ?_).mono ?_;exact HC9b.out.below (Below.drewN ((Below.refl _ _).alloc lR_ _) 1);rw[H4.out];rintro e w4 ⟨a,b,c,rfl,⟨hk4,ns4,nn4,M4,hx4⟩,hC4⟩;have q0:w4.cell? ⟨B0,3,none⟩=some (.slice g.aI g.ins.length g.cI):=(by have q:=(HKG.out.below hx4.bel hgGm).cell 3;simpa using q);have q1:w4.cell? ⟨gc,6,none⟩=some (V false):=(by have q:=hx4.blk.cell 6;simpa using q);have hgc4:=hx4.blk.lt;have hn4:B0≠w4.heap.size:=(by omega);have hn5:gc≠w4.heap.size:=(by omega);have hn6:w4.heap.size≠B0:=(by omega);have hn7:w4.heap.size≠gc:=(by omega);have k4:Blk w4 W9.heap.size 128 #[.int .u8 0, .int .i64 0, .int .i64 0]:=hk4 _ _ (Blk.new W9 _ rfl _ _);have z0:=k4.cell 0;have z1:=k4.cell 1;have z2:=k4.cell 2;have f0:=k4.frozen 0;have f1:=k4.frozen 1;have f2:=k4.frozen 2;simp only[List.getElem?_toArray,List.getElem?_cons_zero,List.getElem?_cons_succ]at z0 z1 z2;have hW4:W9.heap.size≠w4.heap.size:=(by have:=k4.lt;omega)))
     ·go_wp2
      go_meet;have ba:=bA_ w4 (.cells #[.int .u8 a, .int .i64 b, .int .i64 c] 128)
      exact⟨w4.heap.size,a,b,c,rfl,rfl,Blk.new w4 _ rfl _ _,hx4.bel.alloc (by omega) _,fun h=>(hC4 h).below ba⟩
     ·go_wp2
      go_meet;have q4:=((k4.set 0 (.int .u8 a)).set 1 (.int .i64 b)).set 2 (.int .i64 c)
      simp only[List.setIfInBounds_toArray,List.set_cons_zero,List.set_cons_succ]at q4;have hO:=onlySet3 w4 W9.heap.size (.int .u8 a) (.int .i64 b) (.int .i64 c);exact⟨W9.heap.size,a,b,c,rfl,rfl,q4,(hx4.aside k4 (by omega) (by decide) (by decide) (by decide) hO).bel,fun h=>(hC4 h).aside k4 (by omega) (by decide) (by decide) (by decide) hO⟩
    case rest=>
     clear HC9b hltc hB9 x3 y6 hM;obtain⟨bS,a,b,c,rfl,rfl,kt,hbw,hCw⟩:=hcut;have kR:=HKR.out.below hbw hgRm;have HB:=Lh (HB2.out.trans (hbw.mono (by omega)))
     clear hbw;by_cases h0:E4=0
     ·subst h0;obtain⟨Wc,hWc⟩:∃W,wc=W:=⟨_,rfl⟩;rw[hWc]at hCw;have Cc:=hCw.out rfl;have HCc:=Lh Cc;have Gc:=HKG.out.below Cc.bel hgGm;have x4:=Gc.cellL 4 rfl;have y7:=Cc.blk.cellL 7 rfl;have hltc:=Cc.blk.lt;have hBc:=Cc.bel.size;obtain⟨E5,hE5⟩:∃e,portsE g.outs (namesA g.acts++namesP g.ins) (M2of g true)=e:=⟨_,rfl⟩;have H5:=Lh hE5;have hM:0<(M2of g true).length:=by rw[(side_len g true).2.2.1];exact hpos
      clear kt kR HB Cc Gc hCw hE5;rw[hWc];clear hWc
      go_upto_region 14 with fail
      go_cut [13,14] (fun sE sP wx=>∃(bS:Nat) (a b c:Int),sP= .pointer (some ⟨bS,0,none⟩)∧sE= .int .i64 E5∧Blk wx bS 128 #[.int .u8 a, .int .i64 b, .int .i64 c]∧Below m W1 wx∧Hid (E5=0→CkS W1 wx m gc m g (namesA g.acts++namesP g.ins++namesP g.outs) (g.acts.length+g.ins.length+g.outs.length) V V R (M3of g)))
      case first=>
       have hne1:B0≠Wc.heap.size:=by omega
       have hne2:gc≠Wc.heap.size:=by omega
       have hne3:Wc.heap.size≠B0:=by omega
       have hne4:Wc.heap.size≠gc:=by omega
       go_region_held3 (fun w'=>w'.cell? ⟨B0,4,none⟩=some (.slice g.aO g.outs.length g.cO)∧w'.cell? ⟨gc,7,none⟩=some (V true))
        (go_keep)
        (first
         |(go_at_call 70;refine(ports_walk W1 m gc m (g.acts.length+g.ins.length) g (namesA g.acts++namesP g.ins) V R (M2of g) true g.outs g.aO g.outs.length g.cO 4 1 _ HG.out.rO HG.out.gO rfl hl4 (by omega) hM ?_).mono ?_;exact HCc.out.below (Below.drewN (Below.refl _ _) 1);rw[H5.out];rintro e w4 ⟨a,b,c,rfl,⟨hk4,ns4,nn4,M4,hx4⟩,hC4⟩;have q0:w4.cell? ⟨B0,4,none⟩=some (.slice g.aO g.outs.length g.cO):=(by have q:=(HKG.out.below hx4.bel hgGm).cell 4;simpa using q);have q1:w4.cell? ⟨gc,7,none⟩=some (V true):=(by have q:=hx4.blk.cell 7;simpa using q);have hgc4:=hx4.blk.lt;have hn4:B0≠w4.heap.size:=(by omega);have hn5:gc≠w4.heap.size:=(by omega);have hn6:w4.heap.size≠B0:=(by omega);have hn7:w4.heap.size≠gc:=(by omega))
         |(go_at_call 70;refine(ports_walk W1 m gc m (g.acts.length+g.ins.length) g (namesA g.acts++namesP g.ins) V R (M2of g) true g.outs g.aO g.outs.length g.cO 4 1 _ HG.out.rO HG.out.gO rfl hl4 (by omega) hM ?_).mono ?_;exact HCc.out.below (Below.drewN ((Below.refl _ _).alloc lR_ _) 1);rw[H5.out];rintro e w4 ⟨a,b,c,rfl,⟨hk4,ns4,nn4,M4,hx4⟩,hC4⟩;have q0:w4.cell? ⟨B0,4,none⟩=some (.slice g.aO g.outs.length g.cO):=(by have q:=(HKG.out.below hx4.bel hgGm).cell 4;simpa using q);have q1:w4.cell? ⟨gc,7,none⟩=some (V true):=(by have q:=hx4.blk.cell 7;simpa using q);have hgc4:=hx4.blk.lt;have hn4:B0≠w4.heap.size:=(by omega);have hn5:gc≠w4.heap.size:=(by omega);have hn6:w4.heap.size≠B0:=(by omega);have hn7:w4.heap.size≠gc:=(by omega);have k4:Blk w4 Wc.heap.size 128 #[.int .u8 0, .int .i64 0, .int .i64 0]:=hk4 _ _ (Blk.new Wc _ rfl _ _);have z0:=k4.cell 0;have z1:=k4.cell 1;have z2:=k4.cell 2;have f0:=k4.frozen 0;have f1:=k4.frozen 1;have f2:=k4.frozen 2;simp only[List.getElem?_toArray,List.getElem?_cons_zero,List.getElem?_cons_succ]at z0 z1 z2;have hW4:Wc.heap.size≠w4.heap.size:=(by have:=k4.lt;omega)))
       ·go_wp2
        go_meet;have ba:=bA_ w4 (.cells #[.int .u8 a, .int .i64 b, .int .i64 c] 128)
        exact⟨w4.heap.size,a,b,c,rfl,rfl,Blk.new w4 _ rfl _ _,hx4.bel.alloc (by omega) _,fun h=>(hC4 h).below ba⟩
       ·go_wp2
        go_meet;have q4:=((k4.set 0 (.int .u8 a)).set 1 (.int .i64 b)).set 2 (.int .i64 c)
        simp only[List.setIfInBounds_toArray,List.set_cons_zero,List.set_cons_succ]at q4;have hO:=onlySet3 w4 Wc.heap.size (.int .u8 a) (.int .i64 b) (.int .i64 c);exact⟨Wc.heap.size,a,b,c,rfl,rfl,q4,(hx4.aside k4 (by omega) (by decide) (by decide) (by decide) hO).bel,fun h=>(hC4 h).aside k4 (by omega) (by decide) (by decide) (by decide) hO⟩
      case rest=>
       clear HCc hltc hBc x4 y7 hM;obtain⟨bS5,a,b,c,rfl,rfl,kt,hbw,hCw⟩:=hcut;have kR:=HKR.out.below hbw hgRm;have HB:=Lh (HB2.out.trans (hbw.mono (by omega)))
       clear hbw;by_cases h0:E5=0
       ·subst h0;have HCd:=Lh (hCw.out rfl);clear hCw kt kR HB
        go_wp2_with fail;refine(open_any W1 m gc m (g.acts.length+g.ins.length+g.outs.length) g (namesA g.acts++namesP g.ins++namesP g.outs) V R (M3of g) _ hl1 (fun s=>(side_len g s).2.2.2) hpos (fun s j=>by have:=row_len_M3 g s j;omega) HCd.out).mono ?_
        have hEf:openE g.acts.length (M3of g)=E:=by rw[←HE.out];unfold checkG;rw[H1.out,if_pos rfl,H2.out,if_pos rfl,H3.out,if_pos rfl,H4.out,if_pos rfl,H5.out,if_pos rfl]
        rw[hEf];rintro e w8 ⟨a,b,c,rfl,hb8⟩;clear hEf;have kR:=HKR.out.below hb8 hgRm;have HB:=Lh (HB2.out.trans (hb8.mono (by omega)))
        have kt:=kR;have p0:=kt.cellL 0 rfl;have p1:=kt.cellL 1 rfl;have p2:=kt.cellL 2 rfl;have f0:=kR.frozen 0;have f1:=kR.frozen 1;have f2:=kR.frozen 2;have z0:=kR.cellL 0 rfl;have z1:=kR.cellL 1 rfl;have z2:=kR.cellL 2 rfl;have q4:=((kR.set 0 (.int .u8 a)).set 1 (.int .i64 b)).set 2 (.int .i64 c);simp only[List.setIfInBounds_toArray,List.set_cons_zero,List.set_cons_succ]at q4;have s0:=q4.cellL 0 rfl;have s1:=q4.cellL 1 rfl;have s2:=q4.cellL 2 rfl;have bz:=((HB.out.setCell (p:=⟨gR,0,none⟩) hgR (.int .u8 a)).setCell (p:=⟨gR,1,none⟩) hgR (.int .i64 b)).setCell (p:=⟨gR,2,none⟩) hgR (.int .i64 c);clear q4 kR kt HB
        go_wp2_with fail;refine bodyPost_ret (v:= .tuple #[.int .i64 E, .agg #[.int .u8 a, .int .i64 b, .int .i64 c]]) (by simp[results, Tryz.results45,go_sem,s0,s1,s2]) rfl ?_
        exact⟨a,b,c,rfl,bz⟩
       ·have hne:(E5 !=0)=true:=by simpa using h0
        obtain rfl:E=E5:=by rw[←HE.out];unfold checkG;rw[H1.out,if_pos rfl,H2.out,if_pos rfl,H3.out,if_pos rfl,H4.out,if_pos rfl,H5.out,if_neg h0]
        have p0:=kt.cellL 0 rfl;have p1:=kt.cellL 1 rfl;have p2:=kt.cellL 2 rfl;have f0:=kR.frozen 0;have f1:=kR.frozen 1;have f2:=kR.frozen 2;have z0:=kR.cellL 0 rfl;have z1:=kR.cellL 1 rfl;have z2:=kR.cellL 2 rfl;have q4:=((kR.set 0 (.int .u8 a)).set 1 (.int .i64 b)).set 2 (.int .i64 c);simp only[List.setIfInBounds_toArray,List.set_cons_zero,List.set_cons_succ]at q4;have s0:=q4.cellL 0 rfl;have s1:=q4.cellL 1 rfl;have s2:=q4.cellL 2 rfl;have bz:=((HB.out.setCell (p:=⟨gR,0,none⟩) hgR (.int .u8 a)).setCell (p:=⟨gR,1,none⟩) hgR (.int .i64 b)).setCell (p:=⟨gR,2,none⟩) hgR (.int .i64 c);clear q4 kR kt HB
        go_wp2_with fail
        go_region
        go_wp2
        refine bodyPost_ret (v:= .tuple #[.int .i64 E, .agg #[.int .u8 a, .int .i64 b, .int .i64 c]]) (by simp[results, Tryz.results45,go_sem,s0,s1,s2]) rfl ?_
        exact⟨a,b,c,rfl,Below.drewN bz 1⟩
     ·have hne:(E4 !=0)=true:=by simpa using h0
      obtain rfl:E=E4:=by rw[←HE.out];unfold checkG;rw[H1.out,if_pos rfl,H2.out,if_pos rfl,H3.out,if_pos rfl,H4.out,if_neg h0]
      have p0:=kt.cellL 0 rfl;have p1:=kt.cellL 1 rfl;have p2:=kt.cellL 2 rfl;have f0:=kR.frozen 0;have f1:=kR.frozen 1;have f2:=kR.frozen 2;have z0:=kR.cellL 0 rfl;have z1:=kR.cellL 1 rfl;have z2:=kR.cellL 2 rfl;have q4:=((kR.set 0 (.int .u8 a)).set 1 (.int .i64 b)).set 2 (.int .i64 c);simp only[List.setIfInBounds_toArray,List.set_cons_zero,List.set_cons_succ]at q4;have s0:=q4.cellL 0 rfl;have s1:=q4.cellL 1 rfl;have s2:=q4.cellL 2 rfl;have bz:=((HB.out.setCell (p:=⟨gR,0,none⟩) hgR (.int .u8 a)).setCell (p:=⟨gR,1,none⟩) hgR (.int .i64 b)).setCell (p:=⟨gR,2,none⟩) hgR (.int .i64 c);clear q4 kR kt HB
      go_wp2_with fail
      go_region
      go_wp2
      refine bodyPost_ret (v:= .tuple #[.int .i64 E, .agg #[.int .u8 a, .int .i64 b, .int .i64 c]]) (by simp[results, Tryz.results45,go_sem,s0,s1,s2]) rfl ?_
      exact⟨a,b,c,rfl,Below.drewN bz 1⟩
   ·have hne:(E3 !=0)=true:=by simpa using h0
    obtain rfl:E=E3:=by rw[←HE.out];unfold checkG;rw[H1.out,if_pos rfl,H2.out,if_pos rfl,H3.out,if_neg h0]
    have p0:=kt.cellL 0 rfl;have p1:=kt.cellL 1 rfl;have p2:=kt.cellL 2 rfl;have f0:=kR.frozen 0;have f1:=kR.frozen 1;have f2:=kR.frozen 2;have z0:=kR.cellL 0 rfl;have z1:=kR.cellL 1 rfl;have z2:=kR.cellL 2 rfl;have q4:=((kR.set 0 (.int .u8 a)).set 1 (.int .i64 b)).set 2 (.int .i64 c);simp only[List.setIfInBounds_toArray,List.set_cons_zero,List.set_cons_succ]at q4;have s0:=q4.cellL 0 rfl;have s1:=q4.cellL 1 rfl;have s2:=q4.cellL 2 rfl;have bz:=((HB.out.setCell (p:=⟨gR,0,none⟩) hgR (.int .u8 a)).setCell (p:=⟨gR,1,none⟩) hgR (.int .i64 b)).setCell (p:=⟨gR,2,none⟩) hgR (.int .i64 c);clear q4 kR kt HB
    go_wp2_with fail
    go_region
    go_wp2
    refine bodyPost_ret (v:= .tuple #[.int .i64 E, .agg #[.int .u8 a, .int .i64 b, .int .i64 c]]) (by simp[results, Tryz.results45,go_sem,s0,s1,s2]) rfl ?_
    exact⟨a,b,c,rfl,Below.drewN bz 1⟩
  ·have hne:(E2 !=0)=true:=by simpa using h0
   obtain rfl:E=E2:=by rw[←HE.out];unfold checkG;rw[H1.out,if_pos rfl,H2.out,if_neg h0]
   have p0:=kt.cellL 0 rfl;have p1:=kt.cellL 1 rfl;have p2:=kt.cellL 2 rfl;have f0:=kR.frozen 0;have f1:=kR.frozen 1;have f2:=kR.frozen 2;have z0:=kR.cellL 0 rfl;have z1:=kR.cellL 1 rfl;have z2:=kR.cellL 2 rfl;have q4:=((kR.set 0 (.int .u8 a)).set 1 (.int .i64 b)).set 2 (.int .i64 c);simp only[List.setIfInBounds_toArray,List.set_cons_zero,List.set_cons_succ]at q4;have s0:=q4.cellL 0 rfl;have s1:=q4.cellL 1 rfl;have s2:=q4.cellL 2 rfl;have bz:=((HB.out.setCell (p:=⟨gR,0,none⟩) hgR (.int .u8 a)).setCell (p:=⟨gR,1,none⟩) hgR (.int .i64 b)).setCell (p:=⟨gR,2,none⟩) hgR (.int .i64 c);clear q4 kR kt HB
   go_wp2_with fail
   go_region
   go_wp2
   refine bodyPost_ret (v:= .tuple #[.int .i64 E, .agg #[.int .u8 a, .int .i64 b, .int .i64 c]]) (by simp[results, Tryz.results45,go_sem,s0,s1,s2]) rfl ?_
   exact⟨a,b,c,rfl,Below.drewN bz 1⟩
 ·have hne:(E1 !=0)=true:=by simpa using h0
  obtain rfl:E=E1:=by rw[←HE.out];unfold checkG;rw[H1.out,if_neg h0]
  have p0:=kt.cellL 0 rfl;have p1:=kt.cellL 1 rfl;have p2:=kt.cellL 2 rfl;have f0:=kR.frozen 0;have f1:=kR.frozen 1;have f2:=kR.frozen 2;have z0:=kR.cellL 0 rfl;have z1:=kR.cellL 1 rfl;have z2:=kR.cellL 2 rfl;have q4:=((kR.set 0 (.int .u8 a)).set 1 (.int .i64 b)).set 2 (.int .i64 c);simp only[List.setIfInBounds_toArray,List.set_cons_zero,List.set_cons_succ]at q4;have s0:=q4.cellL 0 rfl;have s1:=q4.cellL 1 rfl;have s2:=q4.cellL 2 rfl;have bz:=((HB.out.setCell (p:=⟨gR,0,none⟩) hgR (.int .u8 a)).setCell (p:=⟨gR,1,none⟩) hgR (.int .i64 b)).setCell (p:=⟨gR,2,none⟩) hgR (.int .i64 c);clear q4 kR kt HB
  go_wp2_with fail
  go_region
  go_wp2
  refine bodyPost_ret (v:= .tuple #[.int .i64 E, .agg #[.int .u8 a, .int .i64 b, .int .i64 c]]) (by simp[results, Tryz.results45,go_sem,s0,s1,s2]) rfl ?_
  exact⟨a,b,c,rfl,Below.drewN bz 1⟩
end Go.Proofs.YtpmlljbebdidgaaGreatDoor
