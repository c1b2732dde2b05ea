/- Lemmas and walks for the claim: Dw, Dx. -/
import Derived.Test.YtpmlljbebdidgaaGreatDoorA0
import Derived.Test.YtpmlljbebdidgaaGreatDoorA19
set_option linter.unusedSimpArgs false
set_option maxRecDepth 100000
set_option maxHeartbeats 4000000
namespace Go.Proofs.YtpmlljbebdidgaaGreatDoor
open Go.RowKit Go.ChangeShapes
structure RdyA(w0:World)(bt bo lo port:Nat)(T:TypeId)(val:Value)(bb:Bool)(L:Nat→Bool)(V:Nat→Value)(w:World):Prop where
 bel:Below w0.heap.size w0 w
 e10:L 10=true→V 17= .bool bb
 e0:L 0=true→V 7= .pointer (some ⟨bt,0,none⟩)
 e1:L 1=true→V 8= .pointer (some ⟨bt,0,none⟩)
 e2:L 2=true→V 9= .pointer (some ⟨bt,2,none⟩)
 e3:L 3=true→V 10= .slice (some ⟨bo,0,none⟩) lo lo
 e4:L 4=true→V 11= .pointer (some ⟨bt,0,none⟩)
 e5:L 5=true→V 12= .pointer (some ⟨bt,0,none⟩)
 e6:L 6=true→V 13= .pointer (some ⟨bt,7,none⟩)
 e7:L 7=true→V 14= .int .i64 (port:Nat)
 e8:L 8=true→V 15= .pointer (some ⟨bo,port,none⟩)
 e9:L 9=true→V 16= .iface T val
 e11:L 11=true→V 18= .bool (!bb)
 e12:L 12=true→V 2= .bool (!bb)
structure RdyB(w0:World)(bt bf li port:Nat)(I:Option Addr)(cI:Nat)(T:TypeId)(val:Value)(bb:Bool)(L:Nat→Bool)(V:Nat→Value)(w:World):Prop where
 bel:Below w0.heap.size w0 w
 e21:L 21=true→V 40= .bool bb
 e0:L 0=true→V 19= .pointer (some ⟨bt,0,none⟩)
 e1:L 1=true→V 20= .pointer (some ⟨bt,0,none⟩)
 e2:L 2=true→V 21= .pointer (some ⟨bt,7,none⟩)
 e3:L 3=true→V 22= .int .i64 (port:Nat)
 e4:L 4=true→V 23= .pointer (some ⟨bt,0,none⟩)
 e5:L 5=true→V 24= .pointer (some ⟨bt,0,none⟩)
 e6:L 6=true→V 25= .pointer (some ⟨bt,3,none⟩)
 e7:L 7=true→V 26= .slice I li cI
 e8:L 8=true→V 27= .int .i64 (li:Nat)
 e9:L 9=true→V 28= .bool false
 e10:L 10=true→V 29= .bool false
 e11:L 11=true→V 30= .pointer (some ⟨bt,0,none⟩)
 e12:L 12=true→V 31= .pointer (some ⟨bt,0,none⟩)
 e13:L 13=true→V 32= .pointer (some ⟨bt,1,none⟩)
 e14:L 14=true→V 33= .slice (some ⟨bf,0,none⟩) li li
 e15:L 15=true→V 34= .pointer (some ⟨bt,0,none⟩)
 e16:L 16=true→V 35= .pointer (some ⟨bt,0,none⟩)
 e17:L 17=true→V 36= .pointer (some ⟨bt,7,none⟩)
 e18:L 18=true→V 37= .int .i64 (port:Nat)
 e19:L 19=true→V 38= .pointer (some ⟨bf,port,none⟩)
 e20:L 20=true→V 39= .iface T val
 e22:L 22=true→V 41= .bool (!bb)
 e23:L 23=true→V 42= .bool (!bb)
 e24:L 24=true→V 2= .bool (!bb)
theorem zgC(bt bo lo port:Nat)(c0 c1 c3 c4 c5 c6 c9:Value)(dst:List Value)(T:TypeId)(val:Value)(fn:FuncId)(bb:Bool)(w:World)(kb:Blk w bt 125 #[c0,c1, .slice (some ⟨bo,0,none⟩) lo lo,c3,c4,c5,c6, .int .i64 port, .bool true,c9])(kt:Blk w bo 157 dst.toArray)(hp:port<lo)(hd:dst[port]?=some (.iface T val))
  (hm:∀w':World,(method 357 T val "pianola/dyn.full").run Tryz.prog w'= .ok (fn,val) w') (hc:∀(args:Array Value) (w':World),(callFunc fn args).run Tryz.prog w'= .ok (.enter fn args) w')
  (hf:∀w':World,Below w.heap.size w w'→Calls Tryz.prog fn #[val] w' fun e w''=>e= .returned (.bool bb)∧Below w'.heap.size w' w''):
  Calls Tryz.prog 65 #[.pointer (some ⟨bt,0,none⟩)] w fun e w'=>e= .returned (.bool (!bb))∧Below w.heap.size w w':=by
 have k8:=kb.cellL 8 rfl;have hp0:(0:Int)≤(port:Int):=by omega
 have hp1:(port:Int)<(lo:Int):=by omega
 have HKB:=Lh kb;have HTO:=Lh kt;have HDs:=Lh hd;have Hm:=Lh hm;have Hc:=Lh hc;have HF:=Lh hf;clear kb kt hd hm hc hf
 go_enter Tryz.func65, Tryz.ntmps65
 go_wp2_with fail;have hI0:∀V,RdyA w bt bo lo port T val bb (fun _=>false) V w.drew:=fun V=>by
  constructor
  all_goals first
   |exact Drawn.below _ ((Drawn.refl w).drewN 1)
   |(intro h;cases h)
 refine zN [7,8,9,10,11,12,13,14,15,16,17,18,2] (RdyA w bt bo lo port T val bb) (by kernel_rfl) (by kernel_rfl) ?_ ?_ ?_
 ·exact hI0 _
 ·intro i o ho L V w1 hi hL hno h K hK;simp only[putAll,zi,zj,zc,ze,zd];rcases i with _|_|_|_|_|_|_|_|_|_|_|_|_|i
  ·obtain rfl:=sJ ho;clear hL hno
   go_simp;exact hK (zg V 7 _) _ _ (by simp[putAll,zg]) {h with e0:=fun _=>rfl}
  ·obtain rfl:=sJ ho;have e0:=h.e0 (hL ⟨0, .data⟩ (by simp) rfl)
   clear hL hno
   go_simp;exact hK (zg V 8 _) _ _ (by simp[putAll,zg,e0]) {h with e1:=fun _=>rfl}
  ·obtain rfl:=sJ ho;have e1:=h.e1 (hL ⟨1, .data⟩ (by simp) rfl)
   clear hL hno
   go_simp;exact hK (zg V 9 _) _ _ (by simp[putAll,zg,e1]) {h with e2:=fun _=>rfl}
  ·obtain rfl:=sJ ho;have e2:=h.e2 (hL ⟨2, .data⟩ (by simp) rfl)
   have ct:=(HKB.out.below h.bel HKB.out.lt).cellL 2 rfl;clear hL hno
   go_simp;exact hK (zg V 10 _) _ _ (by simp[putAll,zg,e2]) {h with e3:=fun _=>rfl}
  ·obtain rfl:=sJ ho;clear hL hno
   go_simp;exact hK (zg V 11 _) _ _ (by simp[putAll,zg]) {h with e4:=fun _=>rfl}
  ·obtain rfl:=sJ ho;have e4:=h.e4 (hL ⟨4, .data⟩ (by simp) rfl)
   clear hL hno
   go_simp;exact hK (zg V 12 _) _ _ (by simp[putAll,zg,e4]) {h with e5:=fun _=>rfl}
  ·obtain rfl:=sJ ho;have e5:=h.e5 (hL ⟨5, .data⟩ (by simp) rfl)
   clear hL hno
   go_simp;exact hK (zg V 13 _) _ _ (by simp[putAll,zg,e5]) {h with e6:=fun _=>rfl}
  ·obtain rfl:=sJ ho;have e6:=h.e6 (hL ⟨6, .data⟩ (by simp) rfl)
   have ct:=(HKB.out.below h.bel HKB.out.lt).cellL 7 rfl;clear hL hno
   go_simp;exact hK (zg V 14 _) _ _ (by simp[putAll,zg,e6]) {h with e7:=fun _=>rfl}
  ·obtain rfl:=sJ ho;have e3:=h.e3 (hL ⟨3, .data⟩ (by simp) rfl)
   have e7:=h.e7 (hL ⟨7, .data⟩ (by simp) rfl)
   have q1:=hp0;have q2:=hp1;clear hL hno
   go_simp;exact hK (zg V 15 _) _ _ (by simp[putAll,zg,e3,e7]) {h with e8:=fun _=>rfl}
  ·obtain rfl:=sJ ho;have e8:=h.e8 (hL ⟨8, .data⟩ (by simp) rfl)
   have ct:=(HTO.out.below h.bel HTO.out.lt).cell port;rw[zC,HDs.out]at ct;clear hL hno
   go_simp;exact hK (zg V 16 _) _ _ (by simp[putAll,zg,e8]) {h with e9:=fun _=>rfl}
  ·obtain rfl:=sJ ho;have e9:=h.e9 (hL ⟨9, .data⟩ (by simp) rfl)
   clear hL hno;have hz:=h.bel.size;have hm:=Hm.out w1;have hc:=Hc.out
   go_simp;refine(HF.out w1 h.bel).mono ?_
   rintro e w3 ⟨rfl,b3⟩;refine hK (zg V 17 (.bool bb)) _ _ (by simp[putAll,zg,e9]) ?_
   exact{h with
    bel:=h.bel.trans (b3.mono hz)
    e10:=fun _=>rfl}
  ·obtain rfl:=sJ ho;have e10:=h.e10 (hL ⟨10, .data⟩ (by simp) rfl)
   clear hL hno
   go_simp;exact hK (zg V 18 _) _ _ (by simp[putAll,zg,e10]) {h with e11:=fun _=>rfl}
  ·obtain rfl:=sJ ho;have e11:=h.e11 (hL ⟨11, .data⟩ (by simp) rfl)
   clear hL hno
   go_simp;exact hK (zg V 2 _) _ _ (by simp[putAll,zg,e11]) {h with e12:=fun _=>rfl}
  ·simp at ho
 ·clear hI0;intro L V w2 hL h;have e12:=h.e12 (hL 12 (by simp))
  have HB:=Lh h.bel;clear h hL;simp only[putAll,zi,zj,zc,ze,zd,e12];clear e12
  go_wp2_with fail
  go_ret;exact⟨rfl,HB.out⟩
theorem ziH(bt li port:Nat)(c0 c1 c2 c4 c5 c6 c9:Value)(I:Option Addr)(cI:Nat)(w:World)(kb:Blk w bt 125 #[c0,c1,c2, .slice I li cI,c4,c5,c6, .int .i64 port, .bool false,c9])(hp:port=li):
  Calls Tryz.prog 65 #[.pointer (some ⟨bt,0,none⟩)] w fun e w'=>e= .returned (.bool true)∧Below w.heap.size w w':=by
 subst hp;have k8:=kb.cellL 8 rfl;have k7:=kb.cellL 7 rfl;have k3:=kb.cellL 3 rfl;have hq:((port:Int)==(port:Int))=true:=by simp
 clear kb
 go_enter Tryz.func65, Tryz.ntmps65
 go_wp2_with fail
 go_quiet (fail)
 go_wp2_with fail
 go_ret;exact⟨rfl,Drawn.below _ ((Drawn.refl w).drewN _)⟩
theorem zjK(bt bf li port:Nat)(c0 c2 c4 c5 c6 c9:Value)(I:Option Addr)(cI:Nat)(src:List Value)(T:TypeId)(val:Value)(fn:FuncId)(bb:Bool)(w:World)(kb:Blk w bt 125 #[c0, .slice (some ⟨bf,0,none⟩) li li,c2, .slice I li cI,c4,c5,c6, .int .i64 port, .bool false,c9])(kt:Blk w bf 159 src.toArray)(hp:port<li)(hd:src[port]?=some (.iface T val))
  (hm:∀w':World,(method 357 T val "pianola/dyn.waits").run Tryz.prog w'= .ok (fn,val) w') (hc:∀(args:Array Value) (w':World),(callFunc fn args).run Tryz.prog w'= .ok (.enter fn args) w')
  (hf:∀w':World,Below w.heap.size w w'→Calls Tryz.prog fn #[val] w' fun e w''=>e= .returned (.bool bb)∧Below w'.heap.size w' w''):
  Calls Tryz.prog 65 #[.pointer (some ⟨bt,0,none⟩)] w fun e w'=>e= .returned (.bool (!bb))∧Below w.heap.size w w':=by
 have k8:=kb.cellL 8 rfl;have hp0:(0:Int)≤(port:Int):=by omega
 have hp1:(port:Int)<(li:Int):=by omega
 have hne:((port:Int)==(li:Int))=false:=by simp;omega
 have HKB:=Lh kb;have HFR:=Lh kt;have HDs:=Lh hd;have Hm:=Lh hm;have Hc:=Lh hc;have HF:=Lh hf;clear kb kt hd hm hc hf
 go_enter Tryz.func65, Tryz.ntmps65
 go_wp2_with fail;have hI0:∀V,RdyB w bt bf li port I cI T val bb (fun _=>false) V w.drew:=fun V=>by
  constructor
  all_goals first
   |exact Drawn.below _ ((Drawn.refl w).drewN 1)
   |(intro h;cases h)
 refine zN [19,20,21,22,23,24,25,26,27,28,29,30,31,32,33,34,35,36,37,38,39,40,41,42,2] (RdyB w bt bf li port I cI T val bb) (by kernel_rfl) (by kernel_rfl) ?_ ?_ ?_
 ·exact hI0 _
 ·intro i o ho L V w1 hi hL hno h K hK;simp only[putAll,zi,zj,zc,ze,zd];rcases i with _|_|_|_|_|_|_|_|_|_|_|_|_|_|_|_|_|_|_|_|_|_|_|_|_|i
  ·obtain rfl:=sJ ho;clear hL hno
   go_simp;exact hK (zg V 19 _) _ _ (by simp[putAll,zg]) {h with e0:=fun _=>rfl}
  ·obtain rfl:=sJ ho;have e0:=h.e0 (hL ⟨0, .data⟩ (by simp) rfl)
   clear hL hno
   go_simp;exact hK (zg V 20 _) _ _ (by simp[putAll,zg,e0]) {h with e1:=fun _=>rfl}
  ·obtain rfl:=sJ ho;have e1:=h.e1 (hL ⟨1, .data⟩ (by simp) rfl)
   clear hL hno
   go_simp;exact hK (zg V 21 _) _ _ (by simp[putAll,zg,e1]) {h with e2:=fun _=>rfl}
  ·obtain rfl:=sJ ho;have e2:=h.e2 (hL ⟨2, .data⟩ (by simp) rfl)
   have ct:=(HKB.out.below h.bel HKB.out.lt).cellL 7 rfl;clear hL hno
   go_simp;exact hK (zg V 22 _) _ _ (by simp[putAll,zg,e2]) {h with e3:=fun _=>rfl}
  ·obtain rfl:=sJ ho;clear hL hno
   go_simp;exact hK (zg V 23 _) _ _ (by simp[putAll,zg]) {h with e4:=fun _=>rfl}
  ·obtain rfl:=sJ ho;have e4:=h.e4 (hL ⟨4, .data⟩ (by simp) rfl)
   clear hL hno
   go_simp;exact hK (zg V 24 _) _ _ (by simp[putAll,zg,e4]) {h with e5:=fun _=>rfl}
  ·obtain rfl:=sJ ho;have e5:=h.e5 (hL ⟨5, .data⟩ (by simp) rfl)
   clear hL hno
   go_simp;exact hK (zg V 25 _) _ _ (by simp[putAll,zg,e5]) {h with e6:=fun _=>rfl}
  ·obtain rfl:=sJ ho;have e6:=h.e6 (hL ⟨6, .data⟩ (by simp) rfl)
   have ct:=(HKB.out.below h.bel HKB.out.lt).cellL 3 rfl;clear hL hno
   go_simp;exact hK (zg V 26 _) _ _ (by simp[putAll,zg,e6]) {h with e7:=fun _=>rfl}
  ·obtain rfl:=sJ ho;have e7:=h.e7 (hL ⟨7, .data⟩ (by simp) rfl)
   clear hL hno
   go_simp;exact hK (zg V 27 _) _ _ (by simp[putAll,zg,e7]) {h with e8:=fun _=>rfl}
  ·obtain rfl:=sJ ho;have e3:=h.e3 (hL ⟨3, .data⟩ (by simp) rfl)
   have e8:=h.e8 (hL ⟨8, .data⟩ (by simp) rfl)
   have q0:=hne;clear hL hno
   go_simp;exact hK (zg V 28 _) _ _ (by simp[putAll,zg,e3,e8]) {h with e9:=fun _=>rfl}
  ·obtain rfl:=sJ ho;have e9:=h.e9 (hL ⟨9, .data⟩ (by simp) rfl)
   clear hL hno
   go_simp;exact hK (zg V 29 _) _ _ (by simp[putAll,zg,e9]) {h with e10:=fun _=>rfl}
  ·obtain rfl:=sJ ho;have e10:=h.e10 (hL ⟨10, .guard⟩ (by simp) rfl)
   clear hL hno
   go_simp;exact hK (zg V 30 _) _ _ (by simp[putAll,zg,e10]) {h with e11:=fun _=>rfl}
  ·obtain rfl:=sJ ho;have e10:=h.e10 (hL ⟨10, .guard⟩ (by simp) rfl)
   have e11:=h.e11 (hL ⟨11, .data⟩ (by simp) rfl)
   clear hL hno
   go_simp;exact hK (zg V 31 _) _ _ (by simp[putAll,zg,e10,e11]) {h with e12:=fun _=>rfl}
  ·obtain rfl:=sJ ho;have e10:=h.e10 (hL ⟨10, .guard⟩ (by simp) rfl)
   have e12:=h.e12 (hL ⟨12, .data⟩ (by simp) rfl)
   clear hL hno
   go_simp;exact hK (zg V 32 _) _ _ (by simp[putAll,zg,e10,e12]) {h with e13:=fun _=>rfl}
  ·obtain rfl:=sJ ho;have e10:=h.e10 (hL ⟨10, .guard⟩ (by simp) rfl)
   have e13:=h.e13 (hL ⟨13, .data⟩ (by simp) rfl)
   have ct:=(HKB.out.below h.bel HKB.out.lt).cellL 1 rfl;clear hL hno
   go_simp;exact hK (zg V 33 _) _ _ (by simp[putAll,zg,e10,e13]) {h with e14:=fun _=>rfl}
  ·obtain rfl:=sJ ho;have e10:=h.e10 (hL ⟨10, .guard⟩ (by simp) rfl)
   clear hL hno
   go_simp;exact hK (zg V 34 _) _ _ (by simp[putAll,zg,e10]) {h with e15:=fun _=>rfl}
  ·obtain rfl:=sJ ho;have e10:=h.e10 (hL ⟨10, .guard⟩ (by simp) rfl)
   have e15:=h.e15 (hL ⟨15, .data⟩ (by simp) rfl)
   clear hL hno
   go_simp;exact hK (zg V 35 _) _ _ (by simp[putAll,zg,e10,e15]) {h with e16:=fun _=>rfl}
  ·obtain rfl:=sJ ho;have e10:=h.e10 (hL ⟨10, .guard⟩ (by simp) rfl)
   have e16:=h.e16 (hL ⟨16, .data⟩ (by simp) rfl)
   clear hL hno
   go_simp;exact hK (zg V 36 _) _ _ (by simp[putAll,zg,e10,e16]) {h with e17:=fun _=>rfl}
  ·obtain rfl:=sJ ho;have e10:=h.e10 (hL ⟨10, .guard⟩ (by simp) rfl)
   have e17:=h.e17 (hL ⟨17, .data⟩ (by simp) rfl)
   have ct:=(HKB.out.below h.bel HKB.out.lt).cellL 7 rfl;clear hL hno
   go_simp;exact hK (zg V 37 _) _ _ (by simp[putAll,zg,e10,e17]) {h with e18:=fun _=>rfl}
  ·obtain rfl:=sJ ho;have e10:=h.e10 (hL ⟨10, .guard⟩ (by simp) rfl)
   have e14:=h.e14 (hL ⟨14, .data⟩ (by simp) rfl)
   have e18:=h.e18 (hL ⟨18, .data⟩ (by simp) rfl)
   have q1:=hp0;have q2:=hp1;clear hL hno
   go_simp;exact hK (zg V 38 _) _ _ (by simp[putAll,zg,e10,e14,e18]) {h with e19:=fun _=>rfl}
  ·obtain rfl:=sJ ho;have e10:=h.e10 (hL ⟨10, .guard⟩ (by simp) rfl)
   have e19:=h.e19 (hL ⟨19, .data⟩ (by simp) rfl)
   have ct:=(HFR.out.below h.bel HFR.out.lt).cell port;rw[zC,HDs.out]at ct;clear hL hno
   go_simp;exact hK (zg V 39 _) _ _ (by simp[putAll,zg,e10,e19]) {h with e20:=fun _=>rfl}
  ·obtain rfl:=sJ ho;have e10:=h.e10 (hL ⟨10, .guard⟩ (by simp) rfl)
   have e20:=h.e20 (hL ⟨20, .data⟩ (by simp) rfl)
   clear hL hno;have hz:=h.bel.size;have hm:=Hm.out w1;have hc:=Hc.out
   go_simp;refine(HF.out w1 h.bel).mono ?_
   rintro e w3 ⟨rfl,b3⟩;refine hK (zg V 40 (.bool bb)) _ _ (by simp[putAll,zg,e10,e20]) ?_
   exact{h with
    bel:=h.bel.trans (b3.mono hz)
    e21:=fun _=>rfl}
  ·obtain rfl:=sJ ho;have e10:=h.e10 (hL ⟨10, .guard⟩ (by simp) rfl)
   have e21:=h.e21 (hL ⟨21, .data⟩ (by simp) rfl)
   clear hL hno
   go_simp;exact hK (zg V 41 _) _ _ (by simp[putAll,zg,e10,e21]) {h with e22:=fun _=>rfl}
  ·obtain rfl:=sJ ho;have e10:=h.e10 (hL ⟨10, .data⟩ (by simp) rfl)
   have e22:=h.e22 (hL ⟨22, .data⟩ (by simp) rfl)
   clear hL hno
   go_simp;exact hK (zg V 42 _) _ _ (by simp[putAll,zg,e10,e22]) {h with e23:=fun _=>rfl}
  ·obtain rfl:=sJ ho;have e23:=h.e23 (hL ⟨23, .data⟩ (by simp) rfl)
   clear hL hno
   go_simp;exact hK (zg V 2 _) _ _ (by simp[putAll,zg,e23]) {h with e24:=fun _=>rfl}
  ·simp at ho
 ·clear hI0;intro L V w2 hL h;have e24:=h.e24 (hL 24 (by simp))
  have HB:=Lh h.bel;clear h hL;simp only[putAll,zi,zj,zc,ze,zd,e24];clear e24
  go_wp2_with fail
  go_ret;exact⟨rfl,HB.out⟩
structure GivA(R:World→Prop)(w0:World)(bt bo lo port gg cg b o m d:Nat)(x:Int)(T:TypeId)(val:Value)(L:Nat→Bool)(V:Nat→Value)(w:World):Prop where
 bel:L 24=false→Below w0.heap.size w0 w
 fin:L 24=true→R w
 e0:L 0=true→V 36= .pointer (some ⟨bt,0,none⟩)
 e1:L 1=true→V 37= .pointer (some ⟨bt,0,none⟩)
 e2:L 2=true→V 38= .pointer (some ⟨bt,2,none⟩)
 e3:L 3=true→V 39= .slice (some ⟨bo,0,none⟩) lo lo
 e4:L 4=true→V 40= .pointer (some ⟨bt,0,none⟩)
 e5:L 5=true→V 41= .pointer (some ⟨bt,0,none⟩)
 e6:L 6=true→V 42= .pointer (some ⟨bt,7,none⟩)
 e7:L 7=true→V 43= .int .i64 (port:Nat)
 e8:L 8=true→V 44= .pointer (some ⟨bo,port,none⟩)
 e9:L 9=true→V 45= .iface T val
 e10:L 10=true→V 46= .pointer (some ⟨bt,0,none⟩)
 e11:L 11=true→V 47= .pointer (some ⟨bt,0,none⟩)
 e12:L 12=true→V 48= .pointer (some ⟨bt,6,none⟩)
 e13:L 13=true→V 49= .slice (some ⟨gg,0,none⟩) lo cg
 e14:L 14=true→V 50= .pointer (some ⟨bt,0,none⟩)
 e15:L 15=true→V 51= .pointer (some ⟨bt,0,none⟩)
 e16:L 16=true→V 52= .pointer (some ⟨bt,7,none⟩)
 e17:L 17=true→V 53= .int .i64 (port:Nat)
 e18:L 18=true→V 54= .pointer (some ⟨gg,port,none⟩)
 e19:L 19=true→V 55= .slice (some ⟨b,o,none⟩) (m+1) (d+1)
 e20:L 20=true→V 56= .pointer (some ⟨b,o,none⟩)
 e21:L 21=true→V 57= .int .i64 x
 e22:L 22=true→V 58= .iface T val
 e23:L 23=true→V 59= .iface T val
structure GivB(w0:World)(bt:Nat)(cs:Array Value)(gg:Nat)(cur:Array Value)(lo cg port b o o2 m d:Nat)(L:Nat→Bool)(V:Nat→Value)(w:World):Prop where
 bel:L 20=false→Below w0.heap.size w0 w
 fin:L 20=true→Blk w bt 125 cs∧Blk w gg 36 (cur.setIfInBounds port (.slice (some ⟨b,o2,none⟩) m d))∧Only (fun q=>q=gg) w0 w
 e18:L 18=true→V 79= .slice (some ⟨b,o2,none⟩) m d
 e0:L 0=true→V 61= .pointer (some ⟨bt,0,none⟩)
 e1:L 1=true→V 62= .pointer (some ⟨bt,0,none⟩)
 e2:L 2=true→V 63= .pointer (some ⟨bt,6,none⟩)
 e3:L 3=true→V 64= .slice (some ⟨gg,0,none⟩) lo cg
 e4:L 4=true→V 65= .pointer (some ⟨bt,0,none⟩)
 e5:L 5=true→V 66= .pointer (some ⟨bt,0,none⟩)
 e6:L 6=true→V 67= .pointer (some ⟨bt,7,none⟩)
 e7:L 7=true→V 68= .int .i64 (port:Nat)
 e8:L 8=true→V 69= .pointer (some ⟨bt,0,none⟩)
 e9:L 9=true→V 70= .pointer (some ⟨bt,0,none⟩)
 e10:L 10=true→V 71= .pointer (some ⟨bt,6,none⟩)
 e11:L 11=true→V 72= .slice (some ⟨gg,0,none⟩) lo cg
 e12:L 12=true→V 73= .pointer (some ⟨bt,0,none⟩)
 e13:L 13=true→V 74= .pointer (some ⟨bt,0,none⟩)
 e14:L 14=true→V 75= .pointer (some ⟨bt,7,none⟩)
 e15:L 15=true→V 76= .int .i64 (port:Nat)
 e16:L 16=true→V 77= .pointer (some ⟨gg,port,none⟩)
 e17:L 17=true→V 78= .slice (some ⟨b,o,none⟩) (m+1) (d+1)
 e19:L 19=true→V 80= .pointer (some ⟨gg,port,none⟩)
abbrev givC(c0 c1:Value)(bo lo:Nat)(I:Option Addr)(li cI:Nat)(O:Option Addr)(cO:Nat)(c5:Value)(gg cg port:Nat)(wh:Int):Array Value:=
 #[c0,c1, .slice (some ⟨bo,0,none⟩) lo lo, .slice I li cI, .slice O lo cO,c5, .slice (some ⟨gg,0,none⟩) lo cg, .int .i64 port, .bool true, .int .i64 wh]
def zkg(w1:World)(bt:Nat)(c0 c1:Value)(bo lo:Nat)(I:Option Addr)(li cI:Nat)(O:Option Addr)(cO:Nat)(c5:Value)(gg cg port:Nat)(wh:Int)(cur:Array Value)(b o2 m d:Nat)(w':World):Prop:=
 (0<m∧Blk w' bt 125 (givC c0 c1 bo lo I li cI O cO c5 gg cg port wh)∧Blk w' gg 36 (cur.setIfInBounds port (.slice (some ⟨b,o2,none⟩) m d)))∨
 (m=0∧port+1<lo∧Blk w' bt 125 (givC c0 c1 bo lo I li cI O cO c5 gg cg (port+1) wh)∧Blk w' gg 36 (cur.setIfInBounds port (.slice (some ⟨b,o2,none⟩) m d)))∨
 (m=0∧port+1=lo∧∃g,Blk w' bt 125 #[c0,c1, .slice (some ⟨bo,0,none⟩) lo lo, .slice I li cI, .slice O lo cO, .slice (some ⟨g,0,none⟩) li li, .slice none 0 0, .int .i64 0, .bool false, .int .i64 (wh+1)]∧
  Blk w' g 36 (List.replicate li (Value.slice none 0 0)).toArray∧w1.heap.size≤g)
theorem give_any(bt bo lo port:Nat)(c0 c1 c5:Value)(I:Option Addr)(li cI:Nat)(O:Option Addr)(cO gg cg:Nat)(wh:Int)(dst:List Value)(cur:Array Value)(T:TypeId)(val:Value)(fn:FuncId)(b o m d:Nat)(x:Int)(R:World→Prop)(w:World)
  (kb:Blk w bt 125 (givC c0 c1 bo lo I li cI O cO c5 gg cg port wh)) (kt:Blk w bo 157 dst.toArray) (kg:Blk w gg 36 cur) (hp:port<lo) (hl:lo≤16) (hli:li≤16) (hwh:0≤wh∧wh≤4611686018427387904) (hd:dst[port]?=some (.iface T val)) (hgp:cur[port]?=some (.slice (some ⟨b,o,none⟩) (m+1) (d+1))) (hmd:m≤d) (hm64:m≤64)
  (hbw:b<w.heap.size) (hx:w.cell? ⟨b,o,none⟩=some (.int .i64 x)) (hne:bt≠gg)
  (hm:∀w':World,(method 357 T val "pianola/dyn.give").run Tryz.prog w'= .ok (fn,val) w') (hc:∀(args:Array Value) (w':World),(callFunc fn args).run Tryz.prog w'= .ok (.enter fn args) w')
  (hf:∀w':World,Below w.heap.size w w'→Calls Tryz.prog fn #[val, .int .i64 x] w' fun e w''=>e= .returned (.tuple #[])∧R w'')
  (hR:∀w':World,R w'→Blk w' bt 125 (givC c0 c1 bo lo I li cI O cO c5 gg cg port wh)∧Blk w' gg 36 cur):
  Calls Tryz.prog 66 #[.pointer (some ⟨bt,0,none⟩)] w fun e w'=>e= .returned (.bool true)∧∃w1 o2,R w1∧((d=0∧o2=o)∨(d≠0∧o2=o+1))∧Only (fun q=>q=bt∨q=gg) w1 w'∧zkg w1 bt c0 c1 bo lo I li cI O cO c5 gg cg port wh cur b o2 m d w':=by
 have k8:=kb.cellL 8 rfl;have hp0:(0:Int)≤(port:Int):=by omega
 have hp1:(port:Int)<(lo:Int):=by omega
 have HKB:=Lh kb;have HTO:=Lh kt;have HGR:=Lh kg;have HDs:=Lh hd;have HGP:=Lh hgp;have HX:=Lh hx;have Hm:=Lh hm;have Hc:=Lh hc;have HF:=Lh hf;have HR:=Lh hR;have Hne:=Lh hne;clear kb kt kg hd hgp hx hm hc hf hR hne
 go_enter Tryz.func66, Tryz.ntmps66
 go_wp2_with fail;have hI0:∀V,GivA R w bt bo lo port gg cg b o m d x T val (fun _=>false) V w.drew:=fun V=>by
  constructor
  all_goals first
   |exact fun _=>Drawn.below _ ((Drawn.refl w).drewN 1)
   |(intro h;cases h)
 refine zN [36,37,38,39,40,41,42,43,44,45,46,47,48,49,50,51,52,53,54,55,56,57,58,59,60] (GivA R w bt bo lo port gg cg b o m d x T val) (by kernel_rfl) (by kernel_rfl) ?_ ?_ ?_
 ·exact hI0 _
 ·intro i o ho L V w1 hi hL hno h K hK;simp only[putAll,zi,zj,zc,ze,zd];rcases i with _|_|_|_|_|_|_|_|_|_|_|_|_|_|_|_|_|_|_|_|_|_|_|_|_|i
  ·obtain rfl:=sJ ho;clear hL hno
   go_simp;exact hK (zg V 36 _) _ _ (by simp[putAll,zg]) {h with e0:=fun _=>rfl}
  ·obtain rfl:=sJ ho;have e0:=h.e0 (hL ⟨0, .data⟩ (by simp) rfl)
   clear hL hno
   go_simp;exact hK (zg V 37 _) _ _ (by simp[putAll,zg,e0]) {h with e1:=fun _=>rfl}
  ·obtain rfl:=sJ ho;have e1:=h.e1 (hL ⟨1, .data⟩ (by simp) rfl)
   clear hL hno
   go_simp;exact hK (zg V 38 _) _ _ (by simp[putAll,zg,e1]) {h with e2:=fun _=>rfl}
  ·obtain rfl:=sJ ho;have e2:=h.e2 (hL ⟨2, .data⟩ (by simp) rfl)
   have ct:=(HKB.out.below (h.bel (hno 24 (by kernel_rfl))) HKB.out.lt).cellL 2 rfl
   clear hL hno
   go_simp;exact hK (zg V 39 _) _ _ (by simp[putAll,zg,e2]) {h with e3:=fun _=>rfl}
  ·obtain rfl:=sJ ho;clear hL hno
   go_simp;exact hK (zg V 40 _) _ _ (by simp[putAll,zg]) {h with e4:=fun _=>rfl}
  ·obtain rfl:=sJ ho;have e4:=h.e4 (hL ⟨4, .data⟩ (by simp) rfl)
   clear hL hno
   go_simp;exact hK (zg V 41 _) _ _ (by simp[putAll,zg,e4]) {h with e5:=fun _=>rfl}
  ·obtain rfl:=sJ ho;have e5:=h.e5 (hL ⟨5, .data⟩ (by simp) rfl)
   clear hL hno
   go_simp;exact hK (zg V 42 _) _ _ (by simp[putAll,zg,e5]) {h with e6:=fun _=>rfl}
  ·obtain rfl:=sJ ho;have e6:=h.e6 (hL ⟨6, .data⟩ (by simp) rfl)
   have ct:=(HKB.out.below (h.bel (hno 24 (by kernel_rfl))) HKB.out.lt).cellL 7 rfl
   clear hL hno
   go_simp;exact hK (zg V 43 _) _ _ (by simp[putAll,zg,e6]) {h with e7:=fun _=>rfl}
  ·obtain rfl:=sJ ho;have e3:=h.e3 (hL ⟨3, .data⟩ (by simp) rfl)
   have e7:=h.e7 (hL ⟨7, .data⟩ (by simp) rfl)
   have q1:=hp0;have q2:=hp1;clear hL hno
   go_simp;exact hK (zg V 44 _) _ _ (by simp[putAll,zg,e3,e7]) {h with e8:=fun _=>rfl}
  ·obtain rfl:=sJ ho;have e8:=h.e8 (hL ⟨8, .data⟩ (by simp) rfl)
   have ct:=(HTO.out.below (h.bel (hno 24 (by kernel_rfl))) HTO.out.lt).cell port
   rw[zC,HDs.out]at ct;clear hL hno
   go_simp;exact hK (zg V 45 _) _ _ (by simp[putAll,zg,e8]) {h with e9:=fun _=>rfl}
  ·obtain rfl:=sJ ho;clear hL hno
   go_simp;exact hK (zg V 46 _) _ _ (by simp[putAll,zg]) {h with e10:=fun _=>rfl}
  ·obtain rfl:=sJ ho;have e10:=h.e10 (hL ⟨10, .data⟩ (by simp) rfl)
   clear hL hno
   go_simp;exact hK (zg V 47 _) _ _ (by simp[putAll,zg,e10]) {h with e11:=fun _=>rfl}
  ·obtain rfl:=sJ ho;have e11:=h.e11 (hL ⟨11, .data⟩ (by simp) rfl)
   clear hL hno
   go_simp;exact hK (zg V 48 _) _ _ (by simp[putAll,zg,e11]) {h with e12:=fun _=>rfl}
  ·obtain rfl:=sJ ho;have e12:=h.e12 (hL ⟨12, .data⟩ (by simp) rfl)
   have ct:=(HKB.out.below (h.bel (hno 24 (by kernel_rfl))) HKB.out.lt).cellL 6 rfl
   clear hL hno
   go_simp;exact hK (zg V 49 _) _ _ (by simp[putAll,zg,e12]) {h with e13:=fun _=>rfl}
  ·obtain rfl:=sJ ho;clear hL hno
   go_simp;exact hK (zg V 50 _) _ _ (by simp[putAll,zg]) {h with e14:=fun _=>rfl}
  ·obtain rfl:=sJ ho;have e14:=h.e14 (hL ⟨14, .data⟩ (by simp) rfl)
   clear hL hno
   go_simp;exact hK (zg V 51 _) _ _ (by simp[putAll,zg,e14]) {h with e15:=fun _=>rfl}
  ·obtain rfl:=sJ ho;have e15:=h.e15 (hL ⟨15, .data⟩ (by simp) rfl)
   clear hL hno
   go_simp;exact hK (zg V 52 _) _ _ (by simp[putAll,zg,e15]) {h with e16:=fun _=>rfl}
  ·obtain rfl:=sJ ho;have e16:=h.e16 (hL ⟨16, .data⟩ (by simp) rfl)
   have ct:=(HKB.out.below (h.bel (hno 24 (by kernel_rfl))) HKB.out.lt).cellL 7 rfl
   clear hL hno
   go_simp;exact hK (zg V 53 _) _ _ (by simp[putAll,zg,e16]) {h with e17:=fun _=>rfl}
  ·obtain rfl:=sJ ho;have e13:=h.e13 (hL ⟨13, .data⟩ (by simp) rfl)
   have e17:=h.e17 (hL ⟨17, .data⟩ (by simp) rfl)
   have q1:=hp0;have q2:=hp1;clear hL hno
   go_simp;exact hK (zg V 54 _) _ _ (by simp[putAll,zg,e13,e17]) {h with e18:=fun _=>rfl}
  ·obtain rfl:=sJ ho;have e18:=h.e18 (hL ⟨18, .data⟩ (by simp) rfl)
   have ct:=(HGR.out.below (h.bel (hno 24 (by kernel_rfl))) HGR.out.lt).cell port
   rw[HGP.out]at ct;clear hL hno
   go_simp;exact hK (zg V 55 _) _ _ (by simp[putAll,zg,e18]) {h with e19:=fun _=>rfl}
  ·obtain rfl:=sJ ho;have e19:=h.e19 (hL ⟨19, .data⟩ (by simp) rfl)
   clear hL hno
   go_simp;exact hK (zg V 56 _) _ _ (by simp[putAll,zg,e19]) {h with e20:=fun _=>rfl}
  ·obtain rfl:=sJ ho;have e20:=h.e20 (hL ⟨20, .data⟩ (by simp) rfl)
   have ct:=((h.bel (hno 24 (by kernel_rfl))).cell (p:=⟨b,o,none⟩) hbw).trans HX.out
   clear hL hno
   go_simp;exact hK (zg V 57 _) _ _ (by simp[putAll,zg,e20]) {h with e21:=fun _=>rfl}
  ·obtain rfl:=sJ ho;have e9:=h.e9 (hL ⟨9, .data⟩ (by simp) rfl)
   clear hL hno
   go_simp;exact hK (zg V 58 _) _ _ (by simp[putAll,zg,e9]) {h with e22:=fun _=>rfl}
  ·obtain rfl:=sJ ho;have e9:=h.e9 (hL ⟨9, .data⟩ (by simp) rfl)
   clear hL hno
   go_simp;exact hK (zg V 59 _) _ _ (by simp[putAll,zg,e9]) {h with e23:=fun _=>rfl}
  ·obtain rfl:=sJ ho;have e21:=h.e21 (hL ⟨21, .data⟩ (by simp) rfl)
   have e23:=h.e23 (hL ⟨23, .data⟩ (by simp) rfl)
   clear hL hno;have hm:=Hm.out w1;have hc:=Hc.out;have hb:=h.bel hi
   go_simp;refine(HF.out w1 hb).mono ?_
   rintro e w3 ⟨rfl,hR⟩;refine hK (zg V 60 (.tuple #[])) _ _ (by simp[putAll,zg,e21,e23]) ?_
   exact{h with
    bel:=nT_
    fin:=fun _=>hR}
  ·simp at ho
 ·clear hI0;intro L V w0 hL h;have hr:=h.fin (hL 24 (by simp))
  have HRw:=Lh hr;obtain⟨kb2,kg2⟩:=HR.out w0 hr;clear h hL hr;have HKB:=Lh kb2;have HGR:=Lh kg2;clear kb2 kg2;simp only[putAll,zi,zj,zc,ze,zd]
  go_wp2_with fail;obtain⟨o2,hcc,ho2⟩:∃o2,(((∀a b:Option Addr,(if d=0 then a else b)=a)∧o2=o)∨((∀a b:Option Addr,(if d=0 then a else b)=b)∧o2=o+1))∧((d=0∧o2=o)∨(d≠0∧o2=o+1)):=by
   by_cases hd0:d=0
   ·exact⟨o, .inl ⟨fun a b=>if_pos hd0,rfl⟩, .inl ⟨hd0,rfl⟩⟩
   ·exact⟨o+1, .inr ⟨fun a b=>if_neg hd0,rfl⟩, .inr ⟨hd0,rfl⟩⟩
  have Hcc:=Lh hcc;have Ho2:=Lh ho2;clear hcc ho2;have hI0:∀V,GivB w0 bt (givC c0 c1 bo lo I li cI O cO c5 gg cg port wh) gg cur lo cg port b o o2 m d (fun _=>false) V w0.drew:=fun V=>by
   constructor
   all_goals first
    |exact fun _=>Drawn.below _ ((Drawn.refl w0).drewN 1)
    |(intro h;cases h)
  refine zN [61,62,63,64,65,66,67,68,69,70,71,72,73,74,75,76,77,78,79,80] (GivB w0 bt (givC c0 c1 bo lo I li cI O cO c5 gg cg port wh) gg cur lo cg port b o o2 m d) (by kernel_rfl) (by kernel_rfl) ?_ ?_ ?_
  ·exact hI0 _
  ·intro i o ho L V w1 hi hL hno h K hK;simp only[putAll,zi,zj,zc,ze,zd];rcases i with _|_|_|_|_|_|_|_|_|_|_|_|_|_|_|_|_|_|_|_|_|i
   ·obtain rfl:=sJ ho;clear hL hno
    go_simp;exact hK (zg V 61 _) _ _ (by simp[putAll,zg]) {h with e0:=fun _=>rfl}
   ·obtain rfl:=sJ ho;have e0:=h.e0 (hL ⟨0, .data⟩ (by simp) rfl)
    clear hL hno
    go_simp;exact hK (zg V 62 _) _ _ (by simp[putAll,zg,e0]) {h with e1:=fun _=>rfl}
   ·obtain rfl:=sJ ho;have e1:=h.e1 (hL ⟨1, .data⟩ (by simp) rfl)
    clear hL hno
    go_simp;exact hK (zg V 63 _) _ _ (by simp[putAll,zg,e1]) {h with e2:=fun _=>rfl}
   ·obtain rfl:=sJ ho;have e2:=h.e2 (hL ⟨2, .data⟩ (by simp) rfl)
    have ct:=(HKB.out.below (h.bel (hno 20 (by kernel_rfl))) HKB.out.lt).cellL 6 rfl
    clear hL hno
    go_simp;exact hK (zg V 64 _) _ _ (by simp[putAll,zg,e2]) {h with e3:=fun _=>rfl}
   ·obtain rfl:=sJ ho;clear hL hno
    go_simp;exact hK (zg V 65 _) _ _ (by simp[putAll,zg]) {h with e4:=fun _=>rfl}
   ·obtain rfl:=sJ ho;have e4:=h.e4 (hL ⟨4, .data⟩ (by simp) rfl)
    clear hL hno
    go_simp;exact hK (zg V 66 _) _ _ (by simp[putAll,zg,e4]) {h with e5:=fun _=>rfl}
   ·obtain rfl:=sJ ho;have e5:=h.e5 (hL ⟨5, .data⟩ (by simp) rfl)
    clear hL hno
    go_simp;exact hK (zg V 67 _) _ _ (by simp[putAll,zg,e5]) {h with e6:=fun _=>rfl}
   ·obtain rfl:=sJ ho;have e6:=h.e6 (hL ⟨6, .data⟩ (by simp) rfl)
    have ct:=(HKB.out.below (h.bel (hno 20 (by kernel_rfl))) HKB.out.lt).cellL 7 rfl
    clear hL hno
    go_simp;exact hK (zg V 68 _) _ _ (by simp[putAll,zg,e6]) {h with e7:=fun _=>rfl}
   ·obtain rfl:=sJ ho;clear hL hno
    go_simp;exact hK (zg V 69 _) _ _ (by simp[putAll,zg]) {h with e8:=fun _=>rfl}
   ·obtain rfl:=sJ ho;have e8:=h.e8 (hL ⟨8, .data⟩ (by simp) rfl)
    clear hL hno
    go_simp;exact hK (zg V 70 _) _ _ (by simp[putAll,zg,e8]) {h with e9:=fun _=>rfl}
   ·obtain rfl:=sJ ho;have e9:=h.e9 (hL ⟨9, .data⟩ (by simp) rfl)
    clear hL hno
    go_simp;exact hK (zg V 71 _) _ _ (by simp[putAll,zg,e9]) {h with e10:=fun _=>rfl}
   ·obtain rfl:=sJ ho;have e10:=h.e10 (hL ⟨10, .data⟩ (by simp) rfl)
    have ct:=(HKB.out.below (h.bel (hno 20 (by kernel_rfl))) HKB.out.lt).cellL 6 rfl
    clear hL hno
    go_simp;exact hK (zg V 72 _) _ _ (by simp[putAll,zg,e10]) {h with e11:=fun _=>rfl}
   ·obtain rfl:=sJ ho;clear hL hno
    go_simp;exact hK (zg V 73 _) _ _ (by simp[putAll,zg]) {h with e12:=fun _=>rfl}
   ·obtain rfl:=sJ ho;have e12:=h.e12 (hL ⟨12, .data⟩ (by simp) rfl)
    clear hL hno
    go_simp;exact hK (zg V 74 _) _ _ (by simp[putAll,zg,e12]) {h with e13:=fun _=>rfl}
   ·obtain rfl:=sJ ho;have e13:=h.e13 (hL ⟨13, .data⟩ (by simp) rfl)
    clear hL hno
    go_simp;exact hK (zg V 75 _) _ _ (by simp[putAll,zg,e13]) {h with e14:=fun _=>rfl}
   ·obtain rfl:=sJ ho;have e14:=h.e14 (hL ⟨14, .data⟩ (by simp) rfl)
    have ct:=(HKB.out.below (h.bel (hno 20 (by kernel_rfl))) HKB.out.lt).cellL 7 rfl
    clear hL hno
    go_simp;exact hK (zg V 76 _) _ _ (by simp[putAll,zg,e14]) {h with e15:=fun _=>rfl}
   ·obtain rfl:=sJ ho;have e11:=h.e11 (hL ⟨11, .data⟩ (by simp) rfl)
    have e15:=h.e15 (hL ⟨15, .data⟩ (by simp) rfl)
    have q1:=hp0;have q2:=hp1;clear hL hno
    go_simp;exact hK (zg V 77 _) _ _ (by simp[putAll,zg,e11,e15]) {h with e16:=fun _=>rfl}
   ·obtain rfl:=sJ ho;have e16:=h.e16 (hL ⟨16, .data⟩ (by simp) rfl)
    have ct:=(HGR.out.below (h.bel (hno 20 (by kernel_rfl))) HGR.out.lt).cell port
    rw[HGP.out]at ct;clear hL hno
    go_simp;exact hK (zg V 78 _) _ _ (by simp[putAll,zg,e16]) {h with e17:=fun _=>rfl}
   ·obtain rfl:=sJ ho;have e17:=h.e17 (hL ⟨17, .data⟩ (by simp) rfl)
    clear hL hno;have q2:(1:Int)≤(m:Int)+1:=by omega
    have q3:=hmd;rcases Hcc.out with⟨hif,ho⟩|⟨hif,ho⟩
    ·have Ho:=Lh ho;clear ho
     go_simp;refine hK (zg V 79 (.slice (some ⟨b,o,none⟩) m d)) _ _ (by simp[putAll,zg,e17]) ?_
     exact{h with e18:=fun _=>by rw[Ho.out];rfl}
    ·have Ho:=Lh ho;clear ho
     go_simp;refine hK (zg V 79 (.slice (some ⟨b,o+1,none⟩) m d)) _ _ (by simp[putAll,zg,e17]) ?_
     exact{h with e18:=fun _=>by rw[Ho.out];rfl}
   ·obtain rfl:=sJ ho;have e3:=h.e3 (hL ⟨3, .data⟩ (by simp) rfl)
    have e7:=h.e7 (hL ⟨7, .data⟩ (by simp) rfl)
    have q1:=hp0;have q2:=hp1;clear hL hno
    go_simp;exact hK (zg V 80 _) _ _ (by simp[putAll,zg,e3,e7]) {h with e19:=fun _=>rfl}
   ·obtain rfl:=sJ ho;have e18:=h.e18 (hL ⟨18, .data⟩ (by simp) rfl)
    have e19:=h.e19 (hL ⟨19, .data⟩ (by simp) rfl)
    clear hL hno;have hb:=h.bel hi;have kg:=HGR.out.below hb HGR.out.lt;have kt:=HKB.out.below hb HKB.out.lt;have ct:=kg.cell port;have fr:=kg.frozen port;rw[HGP.out]at ct;have k3:=kg.set port (.slice (some ⟨b,o2,none⟩) m d);have k4:=kt.far (p:=⟨gg,port,none⟩) Hne.out (.slice (some ⟨b,o2,none⟩) m d);have O3:Only (fun q=>q=gg) w0 (w1.setCell ⟨gg,port,none⟩ (.slice (some ⟨b,o2,none⟩) m d)):=(Only.of_below hb).setCell _ _ fun _=>rfl
    go_simp;refine hK V _ _ (by simp[putAll,e18,e19]) ?_
    exact{h with
     bel:=nT_
     fin:=fun _=>⟨k4,k3,O3⟩}
   ·simp at ho
  ·clear hI0;intro L V w3 hL h;obtain⟨kb3,kg3,O3⟩:=h.fin (hL 20 (by simp))
   clear h hL;simp only[putAll,zi,zj,zc,ze,zd];have k6:=kb3.cellL 6 rfl;have k7:=kb3.cellL 7 rfl;have kp:=kg3.cell port;have hsz:port<cur.size:=(zQ.1 HGP.out).1;rw[zbD hsz]at kp;have HK3:=Lh kb3;have HG3:=Lh kg3;have HO3:Hid (Only (fun q=>q=bt∨q=gg) w0 w3):=O3.mono fun q _ hq=> .inr hq
   have Hsz:=Lh hsz;clear kb3 kg3 O3 hsz;by_cases hm0:m=0
   ·subst hm0
    go_wp2_with fail
    go_quiet (fail)
    generalize hW4:World.drewN w3 _=w4;have d4:Drawn w3 w4:=by rw[←hW4];exact(Drawn.refl _).drewN _
    have kb4:=HK3.out.below (d4.below w3.heap.size) HK3.out.lt;have kg4:=HG3.out.below (d4.below w3.heap.size) HG3.out.lt;have k7:=kb4.cellL 7 rfl;have f7:=kb4.frozen 7;have kb5:=kb4.set 7 (.int .i64 ((port:Int)+1));have kg5:=kg4.far (p:=⟨bt,7,none⟩) (fun he=>Hne.out he.symm) (.int .i64 ((port:Int)+1))
    simp only[zc,ze,zd]at kb5;have O5:Only (fun q=>q=bt∨q=gg) w0 (w4.setCell ⟨bt,7,none⟩ (.int .i64 ((port:Int)+1))):=(HO3.out.drawn d4).setCell _ _ fun _=> .inl rfl
    have ep:IntKind.i64.wrap ((port:Int)+1)=(port:Int)+1:=by rw[IntKind.wrap_i64];omega
    have HKG:=Lh kg5;have HO5:=Lh O5;by_cases hpl:port+1=lo
    ·have el:(port:Int)+1=((lo:Nat):Int):=by omega
     have kb6:Blk (w4.setCell ⟨bt,7,none⟩ (.int .i64 ((port:Int)+1))) bt 125 #[c0,c1, .slice (some ⟨bo,0,none⟩) lo lo, .slice I li cI, .slice O lo cO,c5, .slice (some ⟨gg,0,none⟩) lo cg, .int .i64 ((lo:Nat):Int), .bool true, .int .i64 wh]:=by
      have:=kb5
      rw[el]at this⊢;exact this
     have HFN:=Lh (zg0 bt _ _ _ _ _ _ I li cI O lo cO wh _ kb6 hli hwh);have Hpl:=Lh hpl;clear hW4 d4 kb4 kg4 kb5 kg5 O5 k6 kp el kb6 hpl
     go_wp2_with fail;refine HFN.out.mono ?_
     rintro e w6 ⟨rfl,g,k8',r8,hg,O8⟩;have HK8:=Lh k8';have HR8:=Lh r8;have HO8:Hid (Only (fun q=>q=bt∨q=gg) w0 w6):=HO5.out.trans (O8.mono fun q _ hq=> .inl hq)
     have Hg:Hid (w0.heap.size≤g):=zy HO5.out.size hg
     clear k8' r8 O8 hg
     go_wp2_with fail
     go_ret;exact⟨rfl,w0,o2,HRw.out,Ho2.out,HO8.out, .inr (.inr ⟨rfl,Hpl.out,g,HK8.out,HR8.out,Hg.out⟩)⟩
    ·have HKB5:Hid (Blk (w4.setCell ⟨bt,7,none⟩ (.int .i64 ((port:Int)+1))) bt 125 (givC c0 c1 bo lo I li cI O cO c5 gg cg (port+1) wh)):=by
      have:=kb5
      rw[show((port:Int)+1)=((port+1:Nat):Int) by omega]at this⊢
      exact this
     have HFN:=Lh (zf9 bt _ _ _ _ _ _ _ _ O lo cO (port+1) _ HKB5.out hpl);have Hpl:=Lh hpl;clear hW4 d4 kb4 kg4 kb5 kg5 O5 k6 kp hpl
     go_wp2_with fail;refine HFN.out.mono ?_
     rintro e w6 ⟨rfl,d6⟩;have HK8:=Lh (HKB5.out.below (d6.below _) HKB5.out.lt);have HR8:=Lh (HKG.out.below (d6.below _) HKG.out.lt);have HO8:=Lh (HO5.out.drawn d6);clear d6
     go_wp2_with fail
     go_ret;exact⟨rfl,w0,o2,HRw.out,Ho2.out,HO8.out, .inr (.inl ⟨rfl,by have:=Hpl.out;omega,HK8.out,HR8.out⟩)⟩
   ·have hd0:((m:Int)==0)=false:=by simp;omega
    go_wp2_with fail
    go_quiet (fail)
    generalize hW4:World.drewN w3 _=w4;have d4:Drawn w3 w4:=by rw[←hW4];exact(Drawn.refl _).drewN _
    have kb4:=HK3.out.below (d4.below w3.heap.size) HK3.out.lt;have kg4:=HG3.out.below (d4.below w3.heap.size) HG3.out.lt;have HFN:=Lh (zf9 bt _ _ _ _ _ _ _ _ O lo cO port w4 kb4 (by omega))
    have HK4:=Lh kb4;have HG4:=Lh kg4;have HO4:=Lh (HO3.out.drawn d4);clear hW4 d4 kb4 kg4 k6 k7 kp
    go_wp2_with fail;refine HFN.out.mono ?_
    rintro e w6 ⟨rfl,d6⟩;have HK8:=Lh (HK4.out.below (d6.below _) HK4.out.lt);have HR8:=Lh (HG4.out.below (d6.below _) HG4.out.lt);have HO8:=Lh (HO4.out.drawn d6);clear d6
    go_wp2_with fail
    go_ret;exact⟨rfl,w0,o2,HRw.out,Ho2.out,HO8.out, .inl ⟨by omega,HK8.out,HR8.out⟩⟩
end Go.Proofs.YtpmlljbebdidgaaGreatDoor
