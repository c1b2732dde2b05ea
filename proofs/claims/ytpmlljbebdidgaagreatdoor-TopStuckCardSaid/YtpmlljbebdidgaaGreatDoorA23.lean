/- Lemmas and walks for the claim: Dz, Ea, Eb. -/
import Derived.Test.YtpmlljbebdidgaaGreatDoorA0
import Derived.Test.YtpmlljbebdidgaaGreatDoorA22
set_option maxRecDepth 100000
set_option maxHeartbeats 4000000
namespace Go.Proofs.YtpmlljbebdidgaaGreatDoor
open Go.RowKit Go.ChangeShapes
def gvOf:Value→Value
 | .tuple a=>a[0]?.getD (.bool false)
 |_=> .bool false
def ecOf:Value→Int
 | .tuple a=>intOf (a[1]?.getD (.bool false))
 |_=>0
structure RckA(R:Value→Int→World→Prop)(w0:World)(bb bh li bt:Nat)(L:Nat→Bool)(V:Nat→Value)(w:World):Prop where
 bel:L 8=false→Below w0.heap.size w0 w
 f8:L 8=true→V 14= .tuple #[gvOf (V 14), .int .i64 (ecOf (V 14))]∧R (gvOf (V 14)) (ecOf (V 14)) w
 e9:L 9=true→V 5= .tuple #[gvOf (V 14), .int .i64 (ecOf (V 14))]
 e0:L 0=true→V 6= .pointer (some ⟨bt,0,none⟩)
 e1:L 1=true→V 7= .pointer (some ⟨bt,0,none⟩)
 e2:L 2=true→V 8= .pointer (some ⟨bt,0,none⟩)
 e3:L 3=true→V 9= .pointer (some ⟨bb,0,none⟩)
 e4:L 4=true→V 10= .pointer (some ⟨bt,0,none⟩)
 e5:L 5=true→V 11= .pointer (some ⟨bt,0,none⟩)
 e6:L 6=true→V 12= .pointer (some ⟨bt,5,none⟩)
 e7:L 7=true→V 13= .slice (some ⟨bh,0,none⟩) li li
 e10:L 10=true→V 15=gvOf (V 14)
 e11:L 11=true→V 16= .int .i64 (ecOf (V 14))
 e12:L 12=true→V 3=gvOf (V 14)
 e13:L 13=true→V 4= .int .i64 (ecOf (V 14))
abbrev rckC(bb:Nat)(c1 c2:Value)(I:Option Addr)(li cI:Nat)(O:Option Addr)(lo cO bh:Nat)(c6:Value)(wh:Int):Array Value:=
 #[.pointer (some ⟨bb,0,none⟩),c1,c2, .slice I li cI, .slice O lo cO, .slice (some ⟨bh,0,none⟩) li li,c6, .int .i64 li, .bool false, .int .i64 wh]
def RckEnd(bt bb:Nat)(c1 c2:Value)(I:Option Addr)(li cI:Nat)(O:Option Addr)(lo cO bh:Nat)(wh:Int)(gv:Value)(ec:Int)(wf:World)(r:Bool)(w':World):Prop:=
 (ec≠0∧r=false∧Drawn wf w')∨
 (ec=0∧r=true∧0<lo∧Only (fun q=>q=bt) wf w'∧Blk w' bt 125 #[.pointer (some ⟨bb,0,none⟩),c1,c2, .slice I li cI, .slice O lo cO, .slice (some ⟨bh,0,none⟩) li li,gv, .int .i64 (0:Nat), .bool true, .int .i64 wh])∨
 (ec=0∧r=true∧lo=0∧Only (fun q=>q=bt) wf w'∧∃g,Blk w' bt 125 #[.pointer (some ⟨bb,0,none⟩),c1,c2, .slice I li cI, .slice O lo cO, .slice (some ⟨g,0,none⟩) li li, .slice none 0 0, .int .i64 (0:Nat), .bool false, .int .i64 (wh+1)]∧
  Blk w' g 36 (List.replicate li (Value.slice none 0 0)).toArray∧wf.heap.size≤g)
theorem tkReckon_any(bt bb:Nat)(c1 c2:Value)(I:Option Addr)(li cI:Nat)(O:Option Addr)(lo cO bh:Nat)(c6:Value)(wh:Int)(R:Value→Int→World→Prop)(w:World)
  (kb:Blk w bt 125 (rckC bb c1 c2 I li cI O lo cO bh c6 wh)) (hli:li≤16) (hwh:0≤wh∧wh≤4611686018427387904)
  (hf:∀w':World,Below w.heap.size w w'→Calls Tryz.prog 86 #[.pointer (some ⟨bb,0,none⟩), .slice (some ⟨bh,0,none⟩) li li] w' fun e w''=>∃gv ec,e= .returned (.tuple #[gv, .int .i64 ec])∧R gv ec w'')
  (hR:∀(gv:Value) (ec:Int) (w':World),R gv ec w'→Blk w' bt 125 (rckC bb c1 c2 I li cI O lo cO bh c6 wh)∧((ec=0∧∃A n c,gv= .slice A n c)∨ec=70)):
  Calls Tryz.prog 66 #[.pointer (some ⟨bt,0,none⟩)] w fun e w'=>∃r,e= .returned (.bool r)∧∃gv ec wf,R gv ec wf∧RckEnd bt bb c1 c2 I li cI O lo cO bh wh gv ec wf r w':=by
 have k8:=kb.cellL 8 rfl;have k7:=kb.cellL 7 rfl;have k3:=kb.cellL 3 rfl;have HKB:=Lh kb;have HF:=Lh hf;have HR:=Lh hR;clear kb hf hR
 go_enter Tryz.func66, Tryz.ntmps66
 go_wp2_with fail
 go_quiet (fail)
 generalize hW1:World.drewN w _=wa;have d1:Drawn w wa:=by rw[←hW1];exact(Drawn.refl _).drewN _
 clear k8 k7 k3;have HD1:=Lh d1;clear hW1 d1
 go_wp2_with fail;have hI0:∀V,RckA R w bb bh li bt (fun _=>false) V wa.drew:=fun V=>by
  have b0:=(HD1.out.drewN 1).below w.heap.size;constructor
  all_goals first
   |exact fun _=>b0
   |(intro h;cases h)
 refine wp_region_put3 [6,7,8,9,10,11,12,13,14,5,15,16,3,4] (RckA R w bb bh li bt) (by kernel_rfl) (by kernel_rfl) ?_ ?_ ?_
 ·exact hI0 _
 ·intro i o ho L V w1 hi hL hno h K hK;simp only[putAll,List.foldl_cons,List.foldl_nil,List.setIfInBounds_toArray,List.set_cons_zero,List.set_cons_succ];rcases i with _|_|_|_|_|_|_|_|_|_|_|_|_|_|i
  ·obtain rfl:=sJ ho;clear hL hno
   go_simp;exact hK (updV V 6 _) _ _ (by simp[putAll,updV]) {h with e0:=fun _=>rfl}
  ·obtain rfl:=sJ ho;have e0:=h.e0 (hL ⟨0, .data⟩ (by simp) rfl)
   clear hL hno
   go_simp;exact hK (updV V 7 _) _ _ (by simp[putAll,updV,e0]) {h with e1:=fun _=>rfl}
  ·obtain rfl:=sJ ho;have e1:=h.e1 (hL ⟨1, .data⟩ (by simp) rfl)
   clear hL hno
   go_simp;exact hK (updV V 8 _) _ _ (by simp[putAll,updV,e1]) {h with e2:=fun _=>rfl}
  ·obtain rfl:=sJ ho;have e2:=h.e2 (hL ⟨2, .data⟩ (by simp) rfl)
   have ct:=(HKB.out.below (h.bel (hno 8 (by kernel_rfl))) HKB.out.lt).cellL 0 rfl
   clear hL hno
   go_simp;exact hK (updV V 9 _) _ _ (by simp[putAll,updV,e2]) {h with e3:=fun _=>rfl}
  ·obtain rfl:=sJ ho;clear hL hno
   go_simp;exact hK (updV V 10 _) _ _ (by simp[putAll,updV]) {h with e4:=fun _=>rfl}
  ·obtain rfl:=sJ ho;have e4:=h.e4 (hL ⟨4, .data⟩ (by simp) rfl)
   clear hL hno
   go_simp;exact hK (updV V 11 _) _ _ (by simp[putAll,updV,e4]) {h with e5:=fun _=>rfl}
  ·obtain rfl:=sJ ho;have e5:=h.e5 (hL ⟨5, .data⟩ (by simp) rfl)
   clear hL hno
   go_simp;exact hK (updV V 12 _) _ _ (by simp[putAll,updV,e5]) {h with e6:=fun _=>rfl}
  ·obtain rfl:=sJ ho;have e6:=h.e6 (hL ⟨6, .data⟩ (by simp) rfl)
   have ct:=(HKB.out.below (h.bel (hno 8 (by kernel_rfl))) HKB.out.lt).cellL 5 rfl
   clear hL hno
   go_simp;exact hK (updV V 13 _) _ _ (by simp[putAll,updV,e6]) {h with e7:=fun _=>rfl}
  ·obtain rfl:=sJ ho;have e3:=h.e3 (hL ⟨3, .data⟩ (by simp) rfl)
   have e7:=h.e7 (hL ⟨7, .data⟩ (by simp) rfl)
   have l9:=hno 9 (by kernel_rfl)
   have l10:=hno 10 (by kernel_rfl)
   have l11:=hno 11 (by kernel_rfl)
   have l12:=hno 12 (by kernel_rfl)
   have l13:=hno 13 (by kernel_rfl)
   clear hL hno;have hb:=h.bel hi;have HFc:=Lh (HF.out w1 hb)
   go_simp;refine HFc.out.mono ?_
   rintro e w3 ⟨gv,ec,rfl,hR⟩;refine hK (updV V 14 (.tuple #[gv, .int .i64 ec])) _ _ (by simp[putAll,updV,e3,e7]) ?_
   exact{h with
    bel:=nT_
    f8:=fun _=>⟨rfl,hR⟩
    e9:=nX_ l9
    e10:=nX_ l10
    e11:=nX_ l11
    e12:=nX_ l12
    e13:=nX_ l13}
  ·obtain rfl:=sJ ho;have h8:=h.f8 (hL ⟨8, .data⟩ (by simp) rfl)
   have e8:V 14=_:=h8.1
   obtain⟨gv,hgv⟩:∃g,gvOf (V 14)=g:=⟨_,rfl⟩;obtain⟨ec,hec⟩:∃g,ecOf (V 14)=g:=⟨_,rfl⟩;rw[hgv,hec]at e8;have Hgv:=Lh hgv;have Hec:=Lh hec;clear hL hno h8 hgv hec
   go_simp;refine hK (updV V 5 (.tuple #[gv, .int .i64 ec])) _ _ (by simp[putAll,updV,e8]) ?_
   exact{h with e9:=fun _=>by show Value.tuple _=Value.tuple #[gvOf (V 14), .int .i64 (ecOf (V 14))];rw[Hgv.out,Hec.out]}
  ·obtain rfl:=sJ ho;have e9:=h.e9 (hL ⟨9, .data⟩ (by simp) rfl)
   clear hL hno
   go_simp;refine hK (updV V 15 (gvOf (V 14))) _ _ (by simp[putAll,updV,e9]) ?_
   exact{h with e10:=fun _=>rfl}
  ·obtain rfl:=sJ ho;have e9:=h.e9 (hL ⟨9, .data⟩ (by simp) rfl)
   clear hL hno
   go_simp;refine hK (updV V 16 (.int .i64 (ecOf (V 14)))) _ _ (by simp[putAll,updV,e9]) ?_
   exact{h with e11:=fun _=>rfl}
  ·obtain rfl:=sJ ho;have e10:=h.e10 (hL ⟨10, .data⟩ (by simp) rfl)
   clear hL hno
   go_simp;refine hK (updV V 3 (gvOf (V 14))) _ _ (by simp[putAll,updV,e10]) ?_
   exact{h with e12:=fun _=>rfl}
  ·obtain rfl:=sJ ho;have e11:=h.e11 (hL ⟨11, .data⟩ (by simp) rfl)
   clear hL hno
   go_simp;refine hK (updV V 4 (.int .i64 (ecOf (V 14)))) _ _ (by simp[putAll,updV,e11]) ?_
   exact{h with e13:=fun _=>rfl}
  ·simp at ho
 ·clear hI0;intro L V w3 hL h;have h8:=h.f8 (hL 8 (by simp))
  have e4:=h.e12 (hL 12 (by simp))
  have e5:=h.e13 (hL 13 (by simp))
  clear h hL;simp only[putAll,List.foldl_cons,List.foldl_nil,List.setIfInBounds_toArray,List.set_cons_zero,List.set_cons_succ];generalize gvOf (V 14)=gv at h8 e4;generalize ecOf (V 14)=ec at h8 e5;obtain⟨-,hRw⟩:=h8;obtain⟨kt,hec⟩:=HR.out gv ec w3 hRw;have HRw:=Lh hRw;have HKT:=Lh kt;clear hRw kt;rcases hec with⟨rfl,gA,gn,gc,rfl⟩|rfl
  ·have kt:=HKT.out;have f6:=kt.frozen 6;have k6:=kt.set 6 (.slice gA gn gc);simp only[List.setIfInBounds_toArray,List.set_cons_zero,List.set_cons_succ]at k6;have O6:Only (fun q=>q=bt) w3 (w3.setCell ⟨bt,6,none⟩ (.slice gA gn gc)):=(Only.refl _ _).setCell _ _ fun _=>rfl
   have d6:=kt.cellL 6 rfl;have f8:=k6.frozen 8;have d8:=k6.cellL 8 rfl;have k8:=k6.set 8 (.bool true);simp only[List.setIfInBounds_toArray,List.set_cons_zero,List.set_cons_succ]at k8;have O8:=O6.setCell ⟨bt,8,none⟩ (.bool true) fun _=>rfl
   have f7:=k8.frozen 7;have d7:=k8.cellL 7 rfl;have k9:=k8.set 7 (.int .i64 (0:Nat));simp only[List.setIfInBounds_toArray,List.set_cons_zero,List.set_cons_succ]at k9;have O9:=O8.setCell ⟨bt,7,none⟩ (.int .i64 (0:Nat)) fun _=>rfl
   have HK9:=Lh k9;have HO9:=Lh O9;clear kt k6 k8 k9 O6 O8 O9;by_cases hlo:lo=0
   ·subst hlo;have HFN:=Lh (finish_yes bt _ _ _ _ _ _ I li cI O 0 cO wh _ HK9.out hli hwh)
    go_wp2_with fail;refine HFN.out.mono ?_
    rintro e w6 ⟨rfl,g,k8',r8,hg,O8⟩;have HK8:=Lh k8';have HR8:=Lh r8;have HO8:Hid (Only (fun q=>q=bt) w3 w6):=HO9.out.trans O8
    have Hg:Hid (w3.heap.size≤g):=Nat.le_trans HO9.out.size hg
    clear k8' r8 O8 hg
    go_wp2_with fail
    go_ret;exact⟨true,rfl, .slice gA gn gc,0,w3,HRw.out, .inr (.inr ⟨rfl,rfl,rfl,HO8.out,g,HK8.out,HR8.out,Hg.out⟩)⟩
   ·have HFN:=Lh (finish_no bt _ _ _ _ _ _ _ _ O lo cO 0 _ HK9.out (by omega))
    go_wp2_with fail;refine HFN.out.mono ?_
    rintro e w6 ⟨rfl,d6⟩;have HK8:=Lh (HK9.out.below (d6.below _) HK9.out.lt);have HO8:=Lh (HO9.out.drawn d6);clear d6
    go_wp2_with fail
    go_ret;exact⟨true,rfl, .slice gA gn gc,0,w3,HRw.out, .inr (.inl ⟨rfl,rfl,by omega,HO8.out,HK8.out⟩)⟩
  ·go_wp2_with fail
   go_ret;exact⟨false,rfl,gv,70,w3,HRw.out, .inl ⟨by decide,rfl,Drawn.refl _⟩⟩
end Go.Proofs.YtpmlljbebdidgaaGreatDoor
namespace Go.Proofs.YtpmlljbebdidgaaGreatDoor
open Go.RowKit
inductive Tg
 |fix|task (v r:Nat)|que (e:Nat)|tape (o:Nat)|rig (r:Nat)
inductive Lnk
 |no|que (e g:Nat)|tape (o g:Nat)
def Lnk.val:Lnk→Value
 | .no=> .nilIface
 | .que _ g=> .iface 155 (.agg #[.pointer (some ⟨g,0,none⟩)])
 | .tape _ g=> .iface 160 (.pointer (some ⟨g,0,none⟩))
structure TkV where
 bt:Nat
 bb:Nat
 bk:Nat
 bf:Nat
 bo:Nat
 bh:Nat
 κ:KdV
 rin:List Int
 rout:List Int
 Ai:Option Addr
 ci:Nat
 Ao:Option Addr
 co:Nat
 n:Int
 I:Option Addr
 cI:Nat
 O:Option Addr
 cO:Nat
 src:List Lnk
 dst:List Lnk
 hand:List RowV
 gv:Value
 gg:Nat
 cg:Nat
 gift:List RowV
 port:Nat
 wh:Nat
 gives:Bool
def TkV.gval(t:TkV):Value:=if t.gives=true then .slice (some ⟨t.gg,0,none⟩) t.rout.length t.cg else t.gv
def TkV.cells(t:TkV):Array Value:=
 #[.pointer (some ⟨t.bb,0,none⟩), .slice (some ⟨t.bf,0,none⟩) t.rin.length t.rin.length, .slice (some ⟨t.bo,0,none⟩) t.rout.length t.rout.length, .slice t.I t.rin.length t.cI, .slice t.O t.rout.length t.cO, .slice (some ⟨t.bh,0,none⟩) t.rin.length t.rin.length,t.gval, .int .i64 t.port, .bool t.gives, .int .i64 t.wh]
structure TkV.sh(t:TkV):Prop where
 p0:t.gives=false→t.port≤t.rin.length
 p1:t.gives=true→t.port<t.rout.length
 h1:t.gives=false→∀(i:Nat) (r:RowV) (m:Int),t.hand[i]?=some r→t.rin[i]?=some m→(i<t.port→(r.xs.length:Int)=m)∧(i=t.port→(r.xs.length:Int)<m)∧(t.port<i→r.xs.length=0)
 g1:t.gives=true→∀(i:Nat) (r:RowV) (m:Int),t.gift[i]?=some r→t.rout[i]?=some m→(i<t.port→r.xs.length=0)∧(i=t.port→0<r.xs.length∧(r.xs.length:Int)≤m)∧(t.port<i→(r.xs.length:Int)=m)
structure TkS(w:World)(ρ:Nat→Tg)(v:Nat)(t:TkV):Prop where
 bb:Blk w t.bb 187 #[.iface t.κ.pt (.pointer (some ⟨t.bk,0,none⟩))]
 rbb:ρ t.bb= .fix
 ins:Rd w w.heap.size t.I (cellsI t.rin)
 rI:∀q,blkOf t.I=some q→q<w.heap.size∧ρ q= .fix
 outs:Rd w w.heap.size t.O (cellsI t.rout)
 rO:∀q,blkOf t.O=some q→q<w.heap.size∧ρ q= .fix
 bf:Blk w t.bf 159 (t.src.map Lnk.val).toArray
 rbf:ρ t.bf= .task v 5
 lf:t.src.length=t.rin.length
 bo:Blk w t.bo 157 (t.dst.map Lnk.val).toArray
 rbo:ρ t.bo= .task v 6
 lo:t.dst.length=t.rout.length
structure TkK(w:World)(ρ:Nat→Tg)(v:Nat)(t:TkV):Prop where
 kd:KdM w t.bk t.κ t.rin t.rout t.Ai t.ci t.Ao t.co t.n
 rbk:ρ t.bk= .task v 1
 rfx:∀q,t.κ.fx t.Ai t.Ao q→q<w.heap.size∧ρ q= .fix
structure TkH(w:World)(ρ:Nat→Tg)(v:Nat)(t:TkV):Prop where
 bh:Blk w t.bh 36 (t.hand.map RowV.val).toArray
 rbh:ρ t.bh= .task v 2
 lh:t.hand.length=t.rin.length
 own:∀(i:Nat) (r:RowV),t.hand[i]?=some r→w.ownsRow 0 3 1 r.val r.xs.length (cellsI r.xs)∧AllFit r.xs∧∀q,blkOf r.A=some q→ρ q= .task v (7+i)
structure TkG(w:World)(ρ:Nat→Tg)(v:Nat)(t:TkV):Prop where
 rgg:ρ t.gg= .task v 3
 lg:t.gift.length=t.rout.length
 row:∃cur:Array Value,Blk w t.gg 36 cur∧∀(i:Nat) (r:RowV),t.gift[i]?=some r→cur[i]?=some r.val
 ok:∀(i:Nat) (r:RowV),t.gift[i]?=some r→r.ok w w.heap.size∧∀q,blkOf r.A=some q→q<w.heap.size∧ρ q= .fix
structure TkM(w:World)(ρ:Nat→Tg)(v:Nat)(t:TkV):Prop where
 bt:Blk w t.bt 125 t.cells
 rbt:ρ t.bt= .task v 0
 s:TkS w ρ v t
 k:TkK w ρ v t
 h:TkH w ρ v t
 g:t.gives=true→TkG w ρ v t
 sh:t.sh
theorem Blk.onlyT{X:Nat→Prop}{w w':World}{g:Nat}{t:TypeId}{cs:Array Value}(h:Blk w g t cs)(ho:Only X w w')(hX:g<w.heap.size→¬X g):Blk w' g t cs:=h.only ho (hX h.lt)
theorem Rd.onlyT{X:Nat→Prop}{w w':World}{A:Option Addr}{cs:List Value}(hr:Rd w w.heap.size A cs)(ho:Only X w w')(hX:∀q,blkOf A=some q→¬X q):Rd w' w'.heap.size A cs:=(Rd.only hr ho lR_ hX).more ho.size
theorem own_onlyT{X:Nat→Prop}{w w':World}{base:Nat}{e:TypeId}{size n:Nat}{v:Value}{xs:List Value}(h:w.ownsRow base e size v n xs)(ho:Only X w w')(hX:∀q,q<w.heap.size→v.ownBlock=some q→¬X q):w'.ownsRow base e size v n xs:=own_only h ho fun q hq=>hX q (own_lt' h hq) hq
theorem TkS.only{X:Nat→Prop}{w w':World}{ρ ρ':Nat→Tg}{v:Nat}{t:TkV}(h:TkS w ρ v t)(ho:Only X w w')(hρ:∀q,q<w.heap.size→ρ' q=ρ q)(hX:∀q,q<w.heap.size→X q→ρ q≠ .fix∧ρ q≠ .task v 5∧ρ q≠ .task v 6):TkS w' ρ' v t:=
 {h with
  bb:=h.bb.onlyT ho fun hl hx=>(hX _ hl hx).1 h.rbb
  rbb:=(hρ _ h.bb.lt).trans h.rbb
  ins:=Rd.onlyT h.ins ho fun q hq hx=>(hX q (h.rI q hq).1 hx).1 (h.rI q hq).2
  rI:=fun q hq=>⟨Nat.lt_of_lt_of_le (h.rI q hq).1 ho.size,(hρ q (h.rI q hq).1).trans (h.rI q hq).2⟩
  outs:=Rd.onlyT h.outs ho fun q hq hx=>(hX q (h.rO q hq).1 hx).1 (h.rO q hq).2
  rO:=fun q hq=>⟨Nat.lt_of_lt_of_le (h.rO q hq).1 ho.size,(hρ q (h.rO q hq).1).trans (h.rO q hq).2⟩
  bf:=h.bf.onlyT ho fun hl hx=>(hX _ hl hx).2.1 h.rbf
  rbf:=(hρ _ h.bf.lt).trans h.rbf
  bo:=h.bo.onlyT ho fun hl hx=>(hX _ hl hx).2.2 h.rbo
  rbo:=(hρ _ h.bo.lt).trans h.rbo}
theorem TkK.only{X:Nat→Prop}{w w':World}{ρ ρ':Nat→Tg}{v:Nat}{t:TkV}(h:TkK w ρ v t)(ho:Only X w w')(hρ:∀q,q<w.heap.size→ρ' q=ρ q)(hX:∀q,q<w.heap.size→X q→ρ q≠ .fix∧ρ q≠ .task v 1):TkK w' ρ' v t:=
 ⟨h.kd.only ho (fun hx=>(hX _ h.kd.blk.lt hx).2 h.rbk) fun q hq hx=>(hX q (h.rfx q hq).1 hx).1 (h.rfx q hq).2,(hρ _ h.kd.blk.lt).trans h.rbk,
  fun q hq=>⟨Nat.lt_of_lt_of_le (h.rfx q hq).1 ho.size,(hρ q (h.rfx q hq).1).trans (h.rfx q hq).2⟩⟩
theorem TkH.only{X:Nat→Prop}{w w':World}{ρ ρ':Nat→Tg}{v:Nat}{t:TkV}(h:TkH w ρ v t)(ho:Only X w w')(hρ:∀q,q<w.heap.size→ρ' q=ρ q)(hX:∀q,q<w.heap.size→X q→ρ q≠ .task v 2∧∀i,ρ q≠ .task v (7+i)):TkH w' ρ' v t:=
 {h with
  bh:=h.bh.onlyT ho fun hl hx=>(hX _ hl hx).1 h.rbh
  rbh:=(hρ _ h.bh.lt).trans h.rbh
  own:=fun i r hr=>by
   obtain⟨h1,h2,h3⟩:=h.own i r hr;refine⟨own_onlyT h1 ho fun q hl hq hx=>?_,h2,fun q hq=>?_⟩
   ·rw[RowV.own_val]at hq;exact(hX q hl hx).2 i (h3 q hq)
   ·exact(hρ q (own_lt' h1 (by rw[RowV.own_val];exact hq))).trans (h3 q hq)}
theorem TkG.only{X:Nat→Prop}{w w':World}{ρ ρ':Nat→Tg}{v:Nat}{t:TkV}(h:TkG w ρ v t)(ho:Only X w w')(hρ:∀q,q<w.heap.size→ρ' q=ρ q)(hX:∀q,q<w.heap.size→X q→ρ q≠ .fix∧ρ q≠ .task v 3):TkG w' ρ' v t:=by
 obtain⟨cur,hb,hc⟩:=h.row;refine⟨(hρ _ hb.lt).trans h.rgg,h.lg,⟨cur,hb.onlyT ho fun hl hx=>(hX _ hl hx).2 h.rgg,hc⟩,fun i r hr=>?_⟩
 obtain⟨h1,h2⟩:=h.ok i r hr;exact⟨{h1 with rd:=Rd.onlyT h1.rd ho fun q hq hx=>(hX q (h2 q hq).1 hx).1 (h2 q hq).2},fun q hq=>⟨Nat.lt_of_lt_of_le (h2 q hq).1 ho.size,(hρ q (h2 q hq).1).trans (h2 q hq).2⟩⟩
theorem TkM.only{X:Nat→Prop}{w w':World}{ρ ρ':Nat→Tg}{v:Nat}{t:TkV}(h:TkM w ρ v t)(ho:Only X w w')(hρ:∀q,q<w.heap.size→ρ' q=ρ q)(hX:∀q,q<w.heap.size→X q→ρ q≠ .fix∧∀r,ρ q≠ .task v r):TkM w' ρ' v t:=
 ⟨h.bt.onlyT ho fun hl hx=>(hX _ hl hx).2 0 h.rbt,(hρ _ h.bt.lt).trans h.rbt,h.s.only ho hρ fun q hl hx=>⟨(hX q hl hx).1,(hX q hl hx).2 5,(hX q hl hx).2 6⟩,h.k.only ho hρ fun q hl hx=>⟨(hX q hl hx).1,(hX q hl hx).2 1⟩,
  h.h.only ho hρ fun q hl hx=>⟨(hX q hl hx).2 2,fun i=>(hX q hl hx).2 (7+i)⟩,fun hg=>(h.g hg).only ho hρ fun q hl hx=>⟨(hX q hl hx).1,(hX q hl hx).2 3⟩,h.sh⟩
structure QuT(w:World)(ρ:Nat→Tg)(e:Nat)(q:QV):Prop where
 m:QuM w q
 r:∀b,q.own b→ρ b= .que e
theorem QuM.own_lt{w:World}{q:QV}(h:QuM w q){b:Nat}(hb:q.own b):b<w.heap.size:=by
 rcases hb with rfl|hb
 ·exact h.kb.lt
 ·exact own_lt' h.row hb
theorem QuT.only{X:Nat→Prop}{w w':World}{ρ ρ':Nat→Tg}{e:Nat}{q:QV}(h:QuT w ρ e q)(ho:Only X w w')(hρ:∀q,q<w.heap.size→ρ' q=ρ q)(hX:∀b,b<w.heap.size→X b→ρ b≠ .que e):QuT w' ρ' e q:=
 ⟨h.m.only ho fun b hb hx=>hX b (h.m.own_lt hb) hx (h.r b hb),fun b hb=>(hρ b (h.m.own_lt hb)).trans (h.r b hb)⟩
structure TpT(w:World)(ρ:Nat→Tg)(o:Nat)(t:TpV):Prop where
 m:TpM w t
 r:∀b,t.own b→ρ b= .tape o
theorem TpM.own_lt{w:World}{t:TpV}(h:TpM w t){b:Nat}(hb:t.own b):b<w.heap.size:=by
 rcases hb with rfl|hb
 ·exact h.kb.lt
 ·exact own_lt' h.row hb
theorem TpT.only{X:Nat→Prop}{w w':World}{ρ ρ':Nat→Tg}{o:Nat}{t:TpV}(h:TpT w ρ o t)(ho:Only X w w')(hρ:∀q,q<w.heap.size→ρ' q=ρ q)(hX:∀b,b<w.heap.size→X b→ρ b≠ .tape o):TpT w' ρ' o t:=
 ⟨h.m.only ho fun b hb hx=>hX b (h.m.own_lt hb) hx (h.r b hb),fun b hb=>(hρ b (h.m.own_lt hb)).trans (h.r b hb)⟩
structure RowT(w:World)(ρ:Nat→Tg)(r:Nat)(e:TypeId)(v:Value)(gs:List Nat):Prop where
 m:w.ownsRow 0 e 1 v gs.length (gs.map fun g=>Value.pointer (some ⟨g,0,none⟩))
 r:∀b,v.ownBlock=some b→ρ b= .rig r
theorem RowT.only{X:Nat→Prop}{w w':World}{ρ ρ':Nat→Tg}{r:Nat}{e:TypeId}{v:Value}{gs:List Nat}(h:RowT w ρ r e v gs)(ho:Only X w w')(hρ:∀q,q<w.heap.size→ρ' q=ρ q)(hX:∀b,b<w.heap.size→X b→ρ b≠ .rig r):RowT w' ρ' r e v gs:=
 ⟨own_onlyT h.m ho fun q hl hq hx=>hX q hl hx (h.r q hq),fun b hb=>(hρ b (own_lt' h.m hb)).trans (h.r b hb)⟩
structure RigV where
 rg:Nat
 tl:Value
 el:Value
 il:Value
 pl:Value
 failed:Int
 tasks:List TkV
 qs:List QV
 nE:Nat
 tps:List TpV
def RigV.cells(V:RigV):Array Value:=#[V.tl,V.el,V.il,V.pl, .int .i64 V.failed]
structure RigM(w:World)(ρ:Nat→Tg)(V:RigV):Prop where
 rg:Blk w V.rg 119 V.cells
 rrg:ρ V.rg= .rig 0
 tl:RowT w ρ 1 120 V.tl (V.tasks.map (·.bt))
 el:RowT w ρ 2 155 V.el ((V.qs.take V.nE).map (·.g))
 il:RowT w ρ 3 155 V.il ((V.qs.drop V.nE).map (·.g))
 pl:RowT w ρ 4 160 V.pl (V.tps.map (·.g))
 tk:∀(v:Nat) (t:TkV),V.tasks[v]?=some t→TkM w ρ v t
 qu:∀(e:Nat) (q:QV),V.qs[e]?=some q→QuT w ρ e q
 tp:∀(o:Nat) (t:TpV),V.tps[o]?=some t→TpT w ρ o t
 lq:∀(v:Nat) (t:TkV),V.tasks[v]?=some t→∀(e g:Nat), .que e g∈t.src∨ .que e g∈t.dst→∃q,V.qs[e]?=some q∧q.g=g
 lt:∀(v:Nat) (t:TkV),V.tasks[v]?=some t→∀(o g:Nat), .tape o g∈t.dst→∃p,V.tps[o]?=some p∧p.g=g
def RigV.full(V:RigV):Prop:=∀(v:Nat) (t:TkV),V.tasks[v]?=some t→(∀l∈t.src,∃e g,l= .que e g)∧(∀l∈t.dst,l≠ .no)
theorem RigM.below{w w':World}{ρ:Nat→Tg}{V:RigV}(h:RigM w ρ V)(hb:Below w.heap.size w w'):RigM w' ρ V:=by
 have ho:Only (fun _=>False) w w':=Only.of_below hb
 exact{h with
  rg:=h.rg.onlyT ho fun _ hx=>hx
  tl:=h.tl.only ho (fun _ _=>rfl) fun _ _ hx=>hx.elim
  el:=h.el.only ho (fun _ _=>rfl) fun _ _ hx=>hx.elim
  il:=h.il.only ho (fun _ _=>rfl) fun _ _ hx=>hx.elim
  pl:=h.pl.only ho (fun _ _=>rfl) fun _ _ hx=>hx.elim
  tk:=fun v t ht=>(h.tk v t ht).only ho (fun _ _=>rfl) fun _ _ hx=>hx.elim
  qu:=fun e q hq=>(h.qu e q hq).only ho (fun _ _=>rfl) fun _ _ hx=>hx.elim
  tp:=fun o t ht=>(h.tp o t ht).only ho (fun _ _=>rfl) fun _ _ hx=>hx.elim}
theorem chn_full(g:Nat)(w:World):(method 357 155 (.agg #[.pointer (some ⟨g,0,none⟩)]) "pianola/dyn.full").run Tryz.prog w= .ok (122, .agg #[.pointer (some ⟨g,0,none⟩)]) w:=by kernel_rfl
theorem chn_waits(g:Nat)(w:World):(method 357 155 (.agg #[.pointer (some ⟨g,0,none⟩)]) "pianola/dyn.waits").run Tryz.prog w= .ok (124, .agg #[.pointer (some ⟨g,0,none⟩)]) w:=by kernel_rfl
theorem chn_give(g:Nat)(w:World):(method 357 155 (.agg #[.pointer (some ⟨g,0,none⟩)]) "pianola/dyn.give").run Tryz.prog w= .ok (64, .agg #[.pointer (some ⟨g,0,none⟩)]) w:=by kernel_rfl
theorem chn_take(g:Nat)(w:World):(method 357 155 (.agg #[.pointer (some ⟨g,0,none⟩)]) "pianola/dyn.take").run Tryz.prog w= .ok (123, .agg #[.pointer (some ⟨g,0,none⟩)]) w:=by kernel_rfl
theorem tap_full(g:Nat)(w:World):(method 357 160 (.pointer (some ⟨g,0,none⟩)) "pianola/dyn.full").run Tryz.prog w= .ok (126, .pointer (some ⟨g,0,none⟩)) w:=by kernel_rfl
theorem tap_give(g:Nat)(w:World):(method 357 160 (.pointer (some ⟨g,0,none⟩)) "pianola/dyn.give").run Tryz.prog w= .ok (127, .pointer (some ⟨g,0,none⟩)) w:=by kernel_rfl
theorem chn_full_call(args:Array Value)(w:World):(callFunc 122 args).run Tryz.prog w= .ok (.enter 122 args) w:=by kernel_rfl
theorem chn_waits_call(args:Array Value)(w:World):(callFunc 124 args).run Tryz.prog w= .ok (.enter 124 args) w:=by kernel_rfl
theorem chn_give_call(args:Array Value)(w:World):(callFunc 64 args).run Tryz.prog w= .ok (.enter 64 args) w:=by kernel_rfl
theorem chn_take_call(args:Array Value)(w:World):(callFunc 123 args).run Tryz.prog w= .ok (.enter 123 args) w:=by kernel_rfl
theorem tap_full_call(args:Array Value)(w:World):(callFunc 126 args).run Tryz.prog w= .ok (.enter 126 args) w:=by kernel_rfl
theorem tap_give_call(args:Array Value)(w:World):(callFunc 127 args).run Tryz.prog w= .ok (.enter 127 args) w:=by kernel_rfl
def RigV.φ(V:RigV)(v:Nat):Nat:=match V.tasks[v]? with|some t=>t.wh+(if t.gives=true then 1 else 0)|none=>0
def TkV.hd(t:TkV)(i:Nat):Nat:=if t.gives=true then 0 else match t.hand[i]? with|some r=>r.xs.length|none=>0
def TkV.rm(t:TkV)(i:Nat):Nat:=if t.gives=true then(match t.gift[i]? with|some r=>r.xs.length|none=>0)else 0
def RigV.hd(V:RigV)(v i:Nat):Nat:=match V.tasks[v]? with|some t=>t.hd i|none=>0
def RigV.rm(V:RigV)(v i:Nat):Nat:=match V.tasks[v]? with|some t=>t.rm i|none=>0
def RigV.ql(V:RigV)(e:Nat):Nat:=match V.qs[e]? with|some q=>q.len|none=>0
def RigV.qf(V:RigV)(e:Nat):Int:=match V.qs[e]? with|some q=>q.free|none=>0
def RigV.yl(V:RigV)(e:Nat):Nat:=match V.qs[e]? with|some q=>q.ys.length|none=>0
def RigV.zl(V:RigV)(o:Nat):Nat:=match V.tps[o]? with|some p=>p.ys.length|none=>0
def RigV.rdy(V:RigV)(t:TkV):Bool:=
 if t.gives=true then(match t.dst[t.port]? with|some (.que e _)=>decide (0<V.qf e)|_=>true)
 else if t.port=t.rin.length then true else(match t.src[t.port]? with|some (.que e _)=>decide (0<V.ql e)|_=>false)
theorem get_mem{α:Type}{l:List α}{i:Nat}{x:α}(h:l[i]?=some x):x∈l:=List.mem_of_getElem? h
theorem map_get{α β:Type}{l:List α}{i:Nat}{x:α}(f:α→β)(h:l[i]?=some x):(l.map f)[i]?=some (f x):=by rw[List.getElem?_map,h];rfl
theorem get_lt{α:Type}{l:List α}{i:Nat}{x:α}(h:l[i]?=some x):i<l.length:=(List.getElem?_eq_some_iff.1 h).1
theorem get_of_lt{α:Type}{l:List α}{i:Nat}(h:i<l.length):∃x,l[i]?=some x:=⟨l[i],List.getElem?_eq_getElem h⟩
theorem ready_task(V:RigV)(ρ:Nat→Tg)(v:Nat)(t:TkV)(w:World)(h:RigM w ρ V)(hf:V.full)(hv:V.tasks[v]?=some t):
  Calls Tryz.prog 65 #[.pointer (some ⟨t.bt,0,none⟩)] w fun e w'=>e= .returned (.bool (V.rdy t))∧Below w.heap.size w w':=by
 have M:=h.tk v t hv;have kb:=M.bt;unfold TkV.cells at kb;unfold RigV.rdy;cases hg:t.gives with
 |true=>
  rw[hg]at kb;have hp:=M.sh.p1 hg;obtain⟨l,hl⟩:=get_of_lt (l:=t.dst) (i:=t.port) (by rw[M.s.lo];exact hp)
  rw[hl];cases l with
  |no=>exact absurd rfl ((hf v t hv).2 _ (get_mem hl))
  |que e g=>
   obtain⟨q,hq,rfl⟩:=h.lq v t hv e g (.inr (get_mem hl));refine(ready_gives t.bt t.bo t.rout.length t.port _ _ _ _ _ _ _ (t.dst.map Lnk.val) _ _ _ (decide (q.free=0)) w kb M.s.bo hp (map_get Lnk.val hl) (chn_full q.g) chn_full_call fun w' hb=>chFull_any q w' ((h.qu e q hq).m.below hb)).mono ?_
   rintro e' w' ⟨rfl,hb⟩;refine⟨?_,hb⟩;have h0:0≤q.free:=by unfold QV.free;omega
   simp only[RigV.qf,hq,if_pos]
   congr 1
   congr 1
   by_cases hz:q.free=0
   ·simp[hz]
   ·simp[hz];omega
  |tape o g=>
   refine(ready_gives t.bt t.bo t.rout.length t.port _ _ _ _ _ _ _ (t.dst.map Lnk.val) _ _ _ false w kb M.s.bo hp (map_get Lnk.val hl) (tap_full g) tap_full_call fun w' hb=>(tpFull_any g w').mono ?_).mono ?_
   ·rintro e' w'' ⟨rfl,rfl⟩;exact⟨rfl,Below.refl _ _⟩
   ·rintro e' w' ⟨rfl,hb⟩;exact⟨rfl,hb⟩
 |false=>
  rw[hg]at kb;have hp:=M.sh.p0 hg;by_cases hpe:t.port=t.rin.length
  ·refine(ready_reckon t.bt t.rin.length t.port _ _ _ _ _ _ _ _ _ w kb hpe).mono ?_;rintro e' w' ⟨rfl,hb⟩;exact⟨by simp[hpe],hb⟩
  ·have hp':t.port<t.rin.length:=by omega
   obtain⟨l,hl⟩:=get_of_lt (l:=t.src) (i:=t.port) (by rw[M.s.lf];exact hp')
   obtain⟨e,g,rfl⟩:=(hf v t hv).1 l (get_mem hl);obtain⟨q,hq,rfl⟩:=h.lq v t hv e g (.inl (get_mem hl));refine(ready_takes t.bt t.bf t.rin.length t.port _ _ _ _ _ _ _ _ (t.src.map Lnk.val) _ _ _ (decide (q.len=0)) w kb M.s.bf hp' (map_get Lnk.val hl) (chn_waits q.g) chn_waits_call fun w' hb=>chWaits_any q w' ((h.qu e q hq).m.below hb)).mono ?_
   rintro e' w' ⟨rfl,hb⟩;refine⟨?_,hb⟩;simp only[hl,RigV.ql,hq,hpe,if_false]
   congr 1
   congr 1
   by_cases hz:q.len=0
   ·simp[hz]
   ·simp[hz];omega
theorem RigM.step{C:Tg→Prop}{X:Nat→Prop}{w w':World}{ρ ρ':Nat→Tg}{V:RigV}{v:Nat}{t t':TkV}{qs':List QV}{tps':List TpV}(h:RigM w ρ V)(ho:Only X w w')(hρ:∀q,q<w.heap.size→ρ' q=ρ q)(hX:∀b,b<w.heap.size→X b→C (ρ b))
  (c0:¬C .fix) (c1:∀r,¬C (.rig r)) (c2:∀u r,C (.task u r)→u=v) (hv:V.tasks[v]?=some t) (ht':TkM w' ρ' v t') (e1:t'.bt=t.bt) (e2:t'.src=t.src) (e3:t'.dst=t.dst)
  (hq:∀e:Nat,(qs'[e]?=V.qs[e]?∧¬C (.que e))∨∃q q',V.qs[e]?=some q∧qs'[e]?=some q'∧q'.g=q.g∧QuT w' ρ' e q')
  (hp:∀o:Nat,(tps'[o]?=V.tps[o]?∧¬C (.tape o))∨∃p p',V.tps[o]?=some p∧tps'[o]?=some p'∧p'.g=p.g∧TpT w' ρ' o p'):
  RigM w' ρ' {V with tasks:=V.tasks.set v t',qs:=qs',tps:=tps'}:=by
 have hqg:qs'.map (·.g)=V.qs.map (·.g):=by
  refine List.ext_getElem? fun e=>?_
  rw[List.getElem?_map,List.getElem?_map];rcases hq e with⟨h1,-⟩|⟨q,q',h1,h2,h3,-⟩
  ·rw[h1]
  ·rw[h1,h2];simp[h3]
 have hpg:tps'.map (·.g)=V.tps.map (·.g):=by
  refine List.ext_getElem? fun e=>?_
  rw[List.getElem?_map,List.getElem?_map];rcases hp e with⟨h1,-⟩|⟨q,q',h1,h2,h3,-⟩
  ·rw[h1]
  ·rw[h1,h2];simp[h3]
 have htg:(V.tasks.set v t').map (·.bt)=V.tasks.map (·.bt):=by
  refine List.ext_getElem? fun e=>?_
  rw[List.getElem?_map,List.getElem?_map,List.getElem?_set];by_cases hve:v=e
  ·subst hve;rw[if_pos rfl,if_pos (get_lt hv),hv];simp[e1]
  ·rw[if_neg hve]
 have hset:∀(u:Nat) (s:TkV),(V.tasks.set v t')[u]?=some s→(u=v∧s=t')∨(u≠v∧V.tasks[u]?=some s):=fun u s hs=>by
  rw[List.getElem?_set]at hs;by_cases hvu:v=u
  ·subst hvu;rw[if_pos rfl,if_pos (get_lt hv)]at hs;exact .inl ⟨rfl,(Option.some.inj hs).symm⟩
  ·rw[if_neg hvu]at hs;exact .inr ⟨fun hc=>hvu hc.symm,hs⟩
 have hql:∀(e:Nat) (q:QV),V.qs[e]?=some q→∃q',qs'[e]?=some q'∧q'.g=q.g:=fun e q hq1=>by
  rcases hq e with⟨h1,-⟩|⟨q2,q',h1,h2,h3,-⟩
  ·exact⟨q,h1.trans hq1,rfl⟩
  ·rw[hq1]at h1;injection h1 with h1;subst h1;exact⟨q',h2,h3⟩
 have hpl:∀(e:Nat) (q:TpV),V.tps[e]?=some q→∃q',tps'[e]?=some q'∧q'.g=q.g:=fun e q hq1=>by
  rcases hp e with⟨h1,-⟩|⟨q2,q',h1,h2,h3,-⟩
  ·exact⟨q,h1.trans hq1,rfl⟩
  ·rw[hq1]at h1;injection h1 with h1;subst h1;exact⟨q',h2,h3⟩
 refine⟨h.rg.onlyT ho fun hl hx=>c1 0 (h.rrg▸hX _ hl hx),(hρ _ h.rg.lt).trans h.rrg,?_,?_,?_,?_,?_,?_,?_,?_,?_⟩
 ·show RowT w' ρ' 1 _ _ ((V.tasks.set v t').map (·.bt))
  rw[htg];exact h.tl.only ho hρ fun b hb hx he=>c1 1 (he▸hX b hb hx)
 ·show RowT w' ρ' 2 _ _ ((qs'.take V.nE).map (·.g))
  rw[List.map_take,hqg,←List.map_take];exact h.el.only ho hρ fun b hb hx he=>c1 2 (he▸hX b hb hx)
 ·show RowT w' ρ' 3 _ _ ((qs'.drop V.nE).map (·.g))
  rw[List.map_drop,hqg,←List.map_drop];exact h.il.only ho hρ fun b hb hx he=>c1 3 (he▸hX b hb hx)
 ·show RowT w' ρ' 4 _ _ (tps'.map (·.g))
  rw[hpg];exact h.pl.only ho hρ fun b hb hx he=>c1 4 (he▸hX b hb hx)
 ·intro u s hs;rcases hset u s hs with⟨rfl,rfl⟩|⟨hne,hs⟩
  ·exact ht'
  ·exact(h.tk u s hs).only ho hρ fun b hb hx=>⟨fun he=>c0 (he▸hX b hb hx),fun r he=>hne (c2 u r (he▸hX b hb hx))⟩
 ·intro e q hqe;rcases hq e with⟨h1,h2⟩|⟨q2,q',h1,h2,h3,h4⟩
  ·exact(h.qu e q (h1.symm.trans hqe)).only ho hρ fun b hb hx he=>h2 (he▸hX b hb hx)
  ·have he:q'=q:=Option.some.inj (h2.symm.trans hqe)
   subst he;exact h4
 ·intro e q hqe;rcases hp e with⟨h1,h2⟩|⟨q2,q',h1,h2,h3,h4⟩
  ·exact(h.tp e q (h1.symm.trans hqe)).only ho hρ fun b hb hx he=>h2 (he▸hX b hb hx)
  ·have he:q'=q:=Option.some.inj (h2.symm.trans hqe)
   subst he;exact h4
 ·intro u s hs e g hm;have:∃q,V.qs[e]?=some q∧q.g=g:=by
   rcases hset u s hs with⟨rfl,rfl⟩|⟨hne,hs⟩
   ·rw[e2,e3]at hm;exact h.lq _ t hv e g hm
   ·exact h.lq u s hs e g hm
  obtain⟨q,hq1,hq2⟩:=this;obtain⟨q',hq3,hq4⟩:=hql e q hq1;exact⟨q',hq3,hq4.trans hq2⟩
 ·intro u s hs o g hm;have:∃q,V.tps[o]?=some q∧q.g=g:=by
   rcases hset u s hs with⟨rfl,rfl⟩|⟨hne,hs⟩
   ·rw[e3]at hm;exact h.lt _ t hv o g hm
   ·exact h.lt u s hs o g hm
  obtain⟨q,hq1,hq2⟩:=this;obtain⟨q',hq3,hq4⟩:=hpl o q hq1;exact⟨q',hq3,hq4.trans hq2⟩
end Go.Proofs.YtpmlljbebdidgaaGreatDoor
