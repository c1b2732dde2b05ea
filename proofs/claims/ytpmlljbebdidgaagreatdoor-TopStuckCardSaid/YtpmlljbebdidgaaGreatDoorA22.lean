/- Lemmas and walks for the claim: Dy. -/
import Derived.Test.YtpmlljbebdidgaaGreatDoorA0
import Derived.Test.YtpmlljbebdidgaaGreatDoorA21
set_option maxRecDepth 100000
set_option maxHeartbeats 4000000
namespace Go.Proofs.YtpmlljbebdidgaaGreatDoor
open Go.RowKit Go.ChangeShapes
def RY(R:Int→World→Prop)(bt bh:Nat)(v:Value)(x:Int)(w:World):Prop:=∃w1,R x w1∧Only (fun q=>q=bt∨q=bh∨v.ownBlock=some q) w1 w
theorem RY.of{R:Int→World→Prop}{bt bh:Nat}{v:Value}{x:Int}{w:World}(h:R x w):RY R bt bh v x w:=⟨w,h,Only.refl _ _⟩
theorem RY.only{R:Int→World→Prop}{bt bh:Nat}{v:Value}{x:Int}{w w':World}(h:RY R bt bh v x w)(ho:Only (fun q=>q=bt∨q=bh∨v.ownBlock=some q) w w'):RY R bt bh v x w':=by
 obtain⟨w1,h1,h2⟩:=h;exact⟨w1,h1,h2.trans ho⟩
def RZ(R:Int→World→Prop)(bt bh:Nat)(v v':Value)(x:Int)(w:World):Prop:=∃w1,R x w1∧Only (fun q=>q=bt∨q=bh∨v.ownBlock=some q) w1 w∧∀q,v'.ownBlock=some q→v.ownBlock=some q∨w1.heap.size≤q
theorem RZ.only{R:Int→World→Prop}{bt bh:Nat}{v v':Value}{x:Int}{w w':World}(h:RZ R bt bh v v' x w)(ho:Only (fun q=>q=bt∨q=bh∨v.ownBlock=some q) w w'):RZ R bt bh v v' x w':=by
 obtain⟨w1,h1,h2,h3⟩:=h;exact⟨w1,h1,h2.trans ho,h3⟩
theorem RZ.y{R:Int→World→Prop}{bt bh:Nat}{v v':Value}{x:Int}{w:World}(h:RZ R bt bh v v' x w):RY R bt bh v x w:=by
 obtain⟨w1,h1,h2,-⟩:=h;exact⟨w1,h1,h2⟩
theorem RY.z{R:Int→World→Prop}{bt bh:Nat}{v v':Value}{x:Int}{w w':World}(h:RY R bt bh v x w)(ho:Only (fun q=>q=bt∨q=bh∨v.ownBlock=some q) w w')(hn:∀q,v'.ownBlock=some q→v.ownBlock=some q∨w.heap.size≤q):RZ R bt bh v v' x w':=by
 obtain⟨w1,h1,h2⟩:=h;exact⟨w1,h1,h2.trans ho,fun q hq=>(hn q hq).imp id fun h=>Nat.le_trans h2.size h⟩
structure TakA(Q:Int→World→Prop)(Z:Value→Int→World→Prop)(w0:World)(bt:Nat)(cs:Array Value)(bf:Nat)(src:List Value)(bh:Nat)(cur:Array Value)(li port:Nat)(A:Option Addr)(l c:Nat)(xs:List Int)(T:TypeId)(val:Value)(L:Nat→Bool)(V:Nat→Value)(w:World):Prop where
 kt:Blk w bt 125 cs
 kf:Blk w bf 159 src.toArray
 kh:L 32=false→Blk w bh 36 cur
 ow:L 30=false→w.ownsRow 0 3 1 (.slice A l c) l (cellsI xs)
 sz:w0.heap.size≤w.heap.size
 b0:L 28=false→Below w0.heap.size w0 w
 f28:L 28=true→V 141= .int .i64 (intOf (V 141))∧fits (intOf (V 141))
 q28:L 28=true→L 30=false→Q (intOf (V 141)) w
 f29:L 29=true→L 30=false→V 142= .slice (some ⟨gbOf (V 142),0,none⟩) 1 1∧Rd w w.heap.size (some ⟨gbOf (V 142),0,none⟩) (cellsI [intOf (V 141)])
 d29:L 29=true→L 28=true
 d30:L 30=true→L 29=true
 f30:L 30=true→V 143= .slice (sAddr (V 143)) (l+1) (sCap (V 143))∧w.ownsRow 0 3 1 (V 143) (l+1) (cellsI (xs++[intOf (V 141)]))∧Z (V 143) (intOf (V 141)) w
 fin:L 32=true→Blk w bh 36 (cur.setIfInBounds port (V 143))
 e0:L 0=true→V 113= .pointer (some ⟨bt,0,none⟩)
 e1:L 1=true→V 114= .pointer (some ⟨bt,0,none⟩)
 e2:L 2=true→V 115= .pointer (some ⟨bt,5,none⟩)
 e3:L 3=true→V 116= .slice (some ⟨bh,0,none⟩) li li
 e4:L 4=true→V 117= .pointer (some ⟨bt,0,none⟩)
 e5:L 5=true→V 118= .pointer (some ⟨bt,0,none⟩)
 e6:L 6=true→V 119= .pointer (some ⟨bt,7,none⟩)
 e7:L 7=true→V 120= .int .i64 (port:Nat)
 e8:L 8=true→V 121= .pointer (some ⟨bt,0,none⟩)
 e9:L 9=true→V 122= .pointer (some ⟨bt,0,none⟩)
 e10:L 10=true→V 123= .pointer (some ⟨bt,5,none⟩)
 e11:L 11=true→V 124= .slice (some ⟨bh,0,none⟩) li li
 e12:L 12=true→V 125= .pointer (some ⟨bt,0,none⟩)
 e13:L 13=true→V 126= .pointer (some ⟨bt,0,none⟩)
 e14:L 14=true→V 127= .pointer (some ⟨bt,7,none⟩)
 e15:L 15=true→V 128= .int .i64 (port:Nat)
 e16:L 16=true→V 129= .pointer (some ⟨bh,port,none⟩)
 e17:L 17=true→V 130= .slice A l c
 e18:L 18=true→V 131= .pointer (some ⟨bt,0,none⟩)
 e19:L 19=true→V 132= .pointer (some ⟨bt,0,none⟩)
 e20:L 20=true→V 133= .pointer (some ⟨bt,1,none⟩)
 e21:L 21=true→V 134= .slice (some ⟨bf,0,none⟩) li li
 e22:L 22=true→V 135= .pointer (some ⟨bt,0,none⟩)
 e23:L 23=true→V 136= .pointer (some ⟨bt,0,none⟩)
 e24:L 24=true→V 137= .pointer (some ⟨bt,7,none⟩)
 e25:L 25=true→V 138= .int .i64 (port:Nat)
 e26:L 26=true→V 139= .pointer (some ⟨bf,port,none⟩)
 e27:L 27=true→V 140= .iface T val
 e31:L 31=true→V 144= .pointer (some ⟨bh,port,none⟩)
abbrev tkC(c0:Value)(bf li:Nat)(c2:Value)(I:Option Addr)(cI:Nat)(c4:Value)(bh:Nat)(c6:Value)(port:Nat)(c9:Value):Array Value:=
 #[c0, .slice (some ⟨bf,0,none⟩) li li,c2, .slice I li cI,c4, .slice (some ⟨bh,0,none⟩) li li,c6, .int .i64 port, .bool false,c9]
theorem tkTake_any0(pt:Nat)(bt bf li port:Nat)(c0 c2 c4 c6 c9:Value)(I:Option Addr)(cI bh:Nat)(src:List Value)(cur:Array Value)(T:TypeId)(val:Value)(fn:FuncId)(A:Option Addr)(l c rt:Nat)(xs rin:List Int)(R:Int→World→Prop)(w0:World)
  (kb:Blk w0 bt 125 (tkC c0 bf li c2 I cI c4 bh c6 port c9)) (kf:Blk w0 bf 159 src.toArray) (kh:Blk w0 bh 36 cur) (hp:port<li) (hli:li≤16) (hd:src[port]?=some (.iface T val)) (hcp:cur[port]?=some (.slice A l c)) (ho:w0.ownsRow 0 3 1 (.slice A l c) l (cellsI xs)) (hl64:l<64)
  (hpt:pt=if l+1=rt then port+1 else port) (hrp:rin[port]?=some (rt:Int)) (hn1:bt≠bh) (hn2:bf≠bh)
  (hm:∀w':World,(method 357 T val "pianola/dyn.take").run Tryz.prog w'= .ok (fn,val) w') (hc:∀(args:Array Value) (w':World),(callFunc fn args).run Tryz.prog w'= .ok (.enter fn args) w')
  (hf:∀w':World,Below w0.heap.size w0 w'→Calls Tryz.prog fn #[val] w' fun e w''=>∃x,e= .returned (.int .i64 x)∧fits x∧R x w'')
  (hR:∀(x:Int) (w':World),R x w'→Blk w' bt 125 (tkC c0 bf li c2 I cI c4 bh c6 port c9)∧Blk w' bf 159 src.toArray∧Blk w' bh 36 cur∧w'.ownsRow 0 3 1 (.slice A l c) l (cellsI xs)∧w0.heap.size≤w'.heap.size)
  (hRI:∀(x:Int) (w':World),RY R bt bh (.slice A l c) x w'→Rd w' w'.heap.size I (cellsI rin)):
  Calls Tryz.prog 66 #[.pointer (some ⟨bt,0,none⟩)] w0 fun e w'=>e= .returned (.bool true)∧∃x A' c',fits x∧RZ R bt bh (.slice A l c) (.slice A' (l+1) c') x w'∧Blk w' bh 36 (cur.setIfInBounds port (.slice A' (l+1) c'))∧w'.ownsRow 0 3 1 (.slice A' (l+1) c') (l+1) (cellsI (xs++[x]))∧
   Blk w' bt 125 (tkC c0 bf li c2 I cI c4 bh c6 pt c9):=by
 obtain⟨ii,hii,hz0,hz1,hz2⟩:=info_parts info_int;have k8:=kb.cellL 8 rfl;have k7:=kb.cellL 7 rfl;have k3:=kb.cellL 3 rfl;have hp0:(0:Int)≤(port:Int):=by omega
 have hp1:(port:Int)<(li:Int):=by omega
 have HKB:=Lh kb;have HFR:=Lh kf;have HHD:=Lh kh;have HDs:=Lh hd;have HCP:=Lh hcp;have HOW:=Lh ho;have Hm:=Lh hm;have Hc:=Lh hc;have HF:=Lh hf;have HR:=Lh hR;have HRI:=Lh hRI;have HRP:=Lh hrp;have Hn1:=Lh hn1;have Hpt:=Lh hpt;have Hn2:=Lh hn2;clear kb kf kh hd hcp ho hm hc hf hR hRI hrp hn1 hn2 hpt
 go_enter Tryz.func66, Tryz.ntmps66
 go_wp2_with fail
 go_quiet (fail)
 generalize hW1:World.drewN w0 _=wa;have d1:Drawn w0 wa:=by rw[←hW1];exact(Drawn.refl _).drewN _
 clear k8 k7 k3;have HD1:=Lh d1;clear hW1 d1
 go_wp2_with fail;have hI0:∀V,TakA (RY R bt bh (.slice A l c)) (fun v=>RZ R bt bh (.slice A l c) v) w0 bt (tkC c0 bf li c2 I cI c4 bh c6 port c9) bf src bh cur li port A l c xs T val (fun _=>false) V wa.drew:=fun V=>by
  have b0:=(HD1.out.drewN 1).below w0.heap.size;constructor
  all_goals first
   |exact HKB.out.below b0 HKB.out.lt
   |exact HFR.out.below b0 HFR.out.lt
   |exact fun _=>HHD.out.below b0 HHD.out.lt
   |exact fun _=>own_below HOW.out b0
   |exact b0.size
   |exact fun _=>b0
   |(intro h;cases h)
 refine wp_region_put3 [113,114,115,116,117,118,119,120,121,122,123,124,125,126,127,128,129,130,131,132,133,134,135,136,137,138,139,140,141,142,143,144] (TakA (RY R bt bh (.slice A l c)) (fun v=>RZ R bt bh (.slice A l c) v) w0 bt (tkC c0 bf li c2 I cI c4 bh c6 port c9) bf src bh cur li port A l c xs T val) (by kernel_rfl) (by kernel_rfl) ?_ ?_ ?_
 ·exact hI0 _
 ·intro i o ho L V w1 hi hL hno h K hK;rcases i with _|_|_|_|_|_|_|_|_|_|_|_|_|_|_|_|_|_|_|_|_|_|_|_|_|_|_|_|_|_|_|_|_|i
  ·obtain rfl:=sJ ho;simp only[putAll,List.foldl_cons,List.foldl_nil,List.setIfInBounds_toArray,List.set_cons_zero,List.set_cons_succ];clear hL hno
   go_simp;exact hK (updV V 113 _) _ _ (by simp[putAll,updV]) {h with e0:=fun _=>rfl}
  ·obtain rfl:=sJ ho;simp only[putAll,List.foldl_cons,List.foldl_nil,List.setIfInBounds_toArray,List.set_cons_zero,List.set_cons_succ];have e0:=h.e0 (hL ⟨0, .data⟩ (by simp) rfl)
   clear hL hno
   go_simp;exact hK (updV V 114 _) _ _ (by simp[putAll,updV,e0]) {h with e1:=fun _=>rfl}
  ·obtain rfl:=sJ ho;simp only[putAll,List.foldl_cons,List.foldl_nil,List.setIfInBounds_toArray,List.set_cons_zero,List.set_cons_succ];have e1:=h.e1 (hL ⟨1, .data⟩ (by simp) rfl)
   clear hL hno
   go_simp;exact hK (updV V 115 _) _ _ (by simp[putAll,updV,e1]) {h with e2:=fun _=>rfl}
  ·obtain rfl:=sJ ho;simp only[putAll,List.foldl_cons,List.foldl_nil,List.setIfInBounds_toArray,List.set_cons_zero,List.set_cons_succ];have e2:=h.e2 (hL ⟨2, .data⟩ (by simp) rfl)
   have ct:=h.kt.cellL 5 rfl;clear hL hno
   go_simp;exact hK (updV V 116 _) _ _ (by simp[putAll,updV,e2]) {h with e3:=fun _=>rfl}
  ·obtain rfl:=sJ ho;simp only[putAll,List.foldl_cons,List.foldl_nil,List.setIfInBounds_toArray,List.set_cons_zero,List.set_cons_succ];clear hL hno
   go_simp;exact hK (updV V 117 _) _ _ (by simp[putAll,updV]) {h with e4:=fun _=>rfl}
  ·obtain rfl:=sJ ho;simp only[putAll,List.foldl_cons,List.foldl_nil,List.setIfInBounds_toArray,List.set_cons_zero,List.set_cons_succ];have e4:=h.e4 (hL ⟨4, .data⟩ (by simp) rfl)
   clear hL hno
   go_simp;exact hK (updV V 118 _) _ _ (by simp[putAll,updV,e4]) {h with e5:=fun _=>rfl}
  ·obtain rfl:=sJ ho;simp only[putAll,List.foldl_cons,List.foldl_nil,List.setIfInBounds_toArray,List.set_cons_zero,List.set_cons_succ];have e5:=h.e5 (hL ⟨5, .data⟩ (by simp) rfl)
   clear hL hno
   go_simp;exact hK (updV V 119 _) _ _ (by simp[putAll,updV,e5]) {h with e6:=fun _=>rfl}
  ·obtain rfl:=sJ ho;simp only[putAll,List.foldl_cons,List.foldl_nil,List.setIfInBounds_toArray,List.set_cons_zero,List.set_cons_succ];have e6:=h.e6 (hL ⟨6, .data⟩ (by simp) rfl)
   have ct:=h.kt.cellL 7 rfl;clear hL hno
   go_simp;exact hK (updV V 120 _) _ _ (by simp[putAll,updV,e6]) {h with e7:=fun _=>rfl}
  ·obtain rfl:=sJ ho;simp only[putAll,List.foldl_cons,List.foldl_nil,List.setIfInBounds_toArray,List.set_cons_zero,List.set_cons_succ];clear hL hno
   go_simp;exact hK (updV V 121 _) _ _ (by simp[putAll,updV]) {h with e8:=fun _=>rfl}
  ·obtain rfl:=sJ ho;simp only[putAll,List.foldl_cons,List.foldl_nil,List.setIfInBounds_toArray,List.set_cons_zero,List.set_cons_succ];have e8:=h.e8 (hL ⟨8, .data⟩ (by simp) rfl)
   clear hL hno
   go_simp;exact hK (updV V 122 _) _ _ (by simp[putAll,updV,e8]) {h with e9:=fun _=>rfl}
  ·obtain rfl:=sJ ho;simp only[putAll,List.foldl_cons,List.foldl_nil,List.setIfInBounds_toArray,List.set_cons_zero,List.set_cons_succ];have e9:=h.e9 (hL ⟨9, .data⟩ (by simp) rfl)
   clear hL hno
   go_simp;exact hK (updV V 123 _) _ _ (by simp[putAll,updV,e9]) {h with e10:=fun _=>rfl}
  ·obtain rfl:=sJ ho;simp only[putAll,List.foldl_cons,List.foldl_nil,List.setIfInBounds_toArray,List.set_cons_zero,List.set_cons_succ];have e10:=h.e10 (hL ⟨10, .data⟩ (by simp) rfl)
   have ct:=h.kt.cellL 5 rfl;clear hL hno
   go_simp;exact hK (updV V 124 _) _ _ (by simp[putAll,updV,e10]) {h with e11:=fun _=>rfl}
  ·obtain rfl:=sJ ho;simp only[putAll,List.foldl_cons,List.foldl_nil,List.setIfInBounds_toArray,List.set_cons_zero,List.set_cons_succ];clear hL hno
   go_simp;exact hK (updV V 125 _) _ _ (by simp[putAll,updV]) {h with e12:=fun _=>rfl}
  ·obtain rfl:=sJ ho;simp only[putAll,List.foldl_cons,List.foldl_nil,List.setIfInBounds_toArray,List.set_cons_zero,List.set_cons_succ];have e12:=h.e12 (hL ⟨12, .data⟩ (by simp) rfl)
   clear hL hno
   go_simp;exact hK (updV V 126 _) _ _ (by simp[putAll,updV,e12]) {h with e13:=fun _=>rfl}
  ·obtain rfl:=sJ ho;simp only[putAll,List.foldl_cons,List.foldl_nil,List.setIfInBounds_toArray,List.set_cons_zero,List.set_cons_succ];have e13:=h.e13 (hL ⟨13, .data⟩ (by simp) rfl)
   clear hL hno
   go_simp;exact hK (updV V 127 _) _ _ (by simp[putAll,updV,e13]) {h with e14:=fun _=>rfl}
  ·obtain rfl:=sJ ho;simp only[putAll,List.foldl_cons,List.foldl_nil,List.setIfInBounds_toArray,List.set_cons_zero,List.set_cons_succ];have e14:=h.e14 (hL ⟨14, .data⟩ (by simp) rfl)
   have ct:=h.kt.cellL 7 rfl;clear hL hno
   go_simp;exact hK (updV V 128 _) _ _ (by simp[putAll,updV,e14]) {h with e15:=fun _=>rfl}
  ·obtain rfl:=sJ ho;simp only[putAll,List.foldl_cons,List.foldl_nil,List.setIfInBounds_toArray,List.set_cons_zero,List.set_cons_succ];have e11:=h.e11 (hL ⟨11, .data⟩ (by simp) rfl)
   have e15:=h.e15 (hL ⟨15, .data⟩ (by simp) rfl)
   have q1:=hp0;have q2:=hp1;clear hL hno
   go_simp;exact hK (updV V 129 _) _ _ (by simp[putAll,updV,e11,e15]) {h with e16:=fun _=>rfl}
  ·obtain rfl:=sJ ho;simp only[putAll,List.foldl_cons,List.foldl_nil,List.setIfInBounds_toArray,List.set_cons_zero,List.set_cons_succ];have e16:=h.e16 (hL ⟨16, .data⟩ (by simp) rfl)
   have ct:=(h.kh (hno 32 (by kernel_rfl))).cell port
   rw[HCP.out]at ct;clear hL hno
   go_simp;exact hK (updV V 130 _) _ _ (by simp[putAll,updV,e16]) {h with e17:=fun _=>rfl}
  ·obtain rfl:=sJ ho;simp only[putAll,List.foldl_cons,List.foldl_nil,List.setIfInBounds_toArray,List.set_cons_zero,List.set_cons_succ];clear hL hno
   go_simp;exact hK (updV V 131 _) _ _ (by simp[putAll,updV]) {h with e18:=fun _=>rfl}
  ·obtain rfl:=sJ ho;simp only[putAll,List.foldl_cons,List.foldl_nil,List.setIfInBounds_toArray,List.set_cons_zero,List.set_cons_succ];have e18:=h.e18 (hL ⟨18, .data⟩ (by simp) rfl)
   clear hL hno
   go_simp;exact hK (updV V 132 _) _ _ (by simp[putAll,updV,e18]) {h with e19:=fun _=>rfl}
  ·obtain rfl:=sJ ho;simp only[putAll,List.foldl_cons,List.foldl_nil,List.setIfInBounds_toArray,List.set_cons_zero,List.set_cons_succ];have e19:=h.e19 (hL ⟨19, .data⟩ (by simp) rfl)
   clear hL hno
   go_simp;exact hK (updV V 133 _) _ _ (by simp[putAll,updV,e19]) {h with e20:=fun _=>rfl}
  ·obtain rfl:=sJ ho;simp only[putAll,List.foldl_cons,List.foldl_nil,List.setIfInBounds_toArray,List.set_cons_zero,List.set_cons_succ];have e20:=h.e20 (hL ⟨20, .data⟩ (by simp) rfl)
   have ct:=h.kt.cellL 1 rfl;clear hL hno
   go_simp;exact hK (updV V 134 _) _ _ (by simp[putAll,updV,e20]) {h with e21:=fun _=>rfl}
  ·obtain rfl:=sJ ho;simp only[putAll,List.foldl_cons,List.foldl_nil,List.setIfInBounds_toArray,List.set_cons_zero,List.set_cons_succ];clear hL hno
   go_simp;exact hK (updV V 135 _) _ _ (by simp[putAll,updV]) {h with e22:=fun _=>rfl}
  ·obtain rfl:=sJ ho;simp only[putAll,List.foldl_cons,List.foldl_nil,List.setIfInBounds_toArray,List.set_cons_zero,List.set_cons_succ];have e22:=h.e22 (hL ⟨22, .data⟩ (by simp) rfl)
   clear hL hno
   go_simp;exact hK (updV V 136 _) _ _ (by simp[putAll,updV,e22]) {h with e23:=fun _=>rfl}
  ·obtain rfl:=sJ ho;simp only[putAll,List.foldl_cons,List.foldl_nil,List.setIfInBounds_toArray,List.set_cons_zero,List.set_cons_succ];have e23:=h.e23 (hL ⟨23, .data⟩ (by simp) rfl)
   clear hL hno
   go_simp;exact hK (updV V 137 _) _ _ (by simp[putAll,updV,e23]) {h with e24:=fun _=>rfl}
  ·obtain rfl:=sJ ho;simp only[putAll,List.foldl_cons,List.foldl_nil,List.setIfInBounds_toArray,List.set_cons_zero,List.set_cons_succ];have e24:=h.e24 (hL ⟨24, .data⟩ (by simp) rfl)
   have ct:=h.kt.cellL 7 rfl;clear hL hno
   go_simp;exact hK (updV V 138 _) _ _ (by simp[putAll,updV,e24]) {h with e25:=fun _=>rfl}
  ·obtain rfl:=sJ ho;simp only[putAll,List.foldl_cons,List.foldl_nil,List.setIfInBounds_toArray,List.set_cons_zero,List.set_cons_succ];have e21:=h.e21 (hL ⟨21, .data⟩ (by simp) rfl)
   have e25:=h.e25 (hL ⟨25, .data⟩ (by simp) rfl)
   have q1:=hp0;have q2:=hp1;clear hL hno
   go_simp;exact hK (updV V 139 _) _ _ (by simp[putAll,updV,e21,e25]) {h with e26:=fun _=>rfl}
  ·obtain rfl:=sJ ho;simp only[putAll,List.foldl_cons,List.foldl_nil,List.setIfInBounds_toArray,List.set_cons_zero,List.set_cons_succ];have e26:=h.e26 (hL ⟨26, .data⟩ (by simp) rfl)
   have ct:=h.kf.cell port;rw[List.getElem?_toArray,HDs.out]at ct;clear hL hno
   go_simp;exact hK (updV V 140 _) _ _ (by simp[putAll,updV,e26]) {h with e27:=fun _=>rfl}
  ·obtain rfl:=sJ ho;have e27:=h.e27 (hL ⟨27, .data⟩ (by simp) rfl)
   have l29:=hno 29 (by kernel_rfl)
   have l30:=hno 30 (by kernel_rfl)
   have l32:=hno 32 (by kernel_rfl)
   clear hL hno;simp only[putAll,List.foldl_cons,List.foldl_nil,List.setIfInBounds_toArray,List.set_cons_zero,List.set_cons_succ];have hm:=Hm.out w1;have hc:=Hc.out;have hb:=h.b0 hi
   go_simp;refine(HF.out w1 hb).mono ?_
   rintro e w3 ⟨x,rfl,hxf,hRx⟩;have hs:=HR.out x w3 hRx;refine hK (updV V 141 (.int .i64 x)) _ _ (by simp[putAll,updV,e27]) ?_
   exact{h with
    kt:=hs.1
    kf:=hs.2.1
    kh:=fun _=>hs.2.2.1
    ow:=fun _=>hs.2.2.2.1
    sz:=hs.2.2.2.2
    b0:=nT_
    f28:=fun _=>⟨rfl,hxf⟩
    q28:=fun _ _=>RY.of hRx
    f29:=nX_ l29
    d29:=nX_ l29
    d30:=nX_ l30
    f30:=nX_ l30
    fin:=nX_ l32}
  ·obtain rfl:=sJ ho;have h28:=h.f28 (hL ⟨28, .data⟩ (by simp) rfl)
   have l28:L 28=true:=hL ⟨28, .data⟩ (by simp) rfl
   have l30:=hno 30 (by kernel_rfl)
   have l32:=hno 32 (by kernel_rfl)
   have H28:=Lh h28;have HQ:=Lh (h.q28 l28 l30);generalize intOf (V 141)=x at h28;have e28:V 141=_:=h28.1;clear hL hno h28;simp only[putAll,List.foldl_cons,List.foldl_nil,List.setIfInBounds_toArray,List.set_cons_zero,List.set_cons_succ];have hb:=bA_ w1 (.cells #[.int .i64 x] 3);have hnew:=rd_alloc w1 _ rfl 3 [Value.int .i64 x]
   go_simp;refine hK (updV V 142 (.slice (some ⟨w1.heap.size,0,none⟩) 1 1)) _ _ (by simp[putAll,updV,e28]) ?_
   exact{h with
    kt:=h.kt.below hb h.kt.lt
    kf:=h.kf.below hb h.kf.lt
    kh:=fun hl=>(h.kh hl).below hb (h.kh hl).lt
    ow:=fun hl=>own_below (h.ow hl) hb
    sz:=Nat.le_trans h.sz hb.size
    b0:=fun hn=>(by cases (hn.symm.trans l28))
    f28:=fun _=>H28.out
    q28:=fun _ _=>HQ.out.only (Only.of_below hb)
    d30:=nX_ l30
    f29:=fun _ _=>⟨rfl,by show Rd _ _ _ (cellsI [intOf (V 141)]);rw[e28];exact hnew.more (by simp)⟩
    d29:=fun _=>l28
    f30:=nX_ l30
    fin:=nX_ l32}
  ·obtain rfl:=sJ ho;have e17:=h.e17 (hL ⟨17, .data⟩ (by simp) rfl)
   have l29:L 29=true:=hL ⟨29, .data⟩ (by simp) rfl
   have h29:=h.f29 l29 hi;have h28:=h.f28 (h.d29 l29);have l28:L 28=true:=h.d29 l29;have hqy:=h.q28 l28 hi;have l32:=hno 32 (by kernel_rfl)
   clear hL hno;have ho:=h.ow hi;have kh:=h.kh l32;refine step_append_rd rfl (.tmp 130) (.tmp 142) 36 rfl 0 3 ii (.int .i64 0) 1 8 Tryz.underlying36 hii hz0 hz1 hz2 rfl (by decide) (V 130) l (cellsI xs) (by simp[putAll,Act.eval]) (by rw[e17];exact ho) w1.heap.size (some ⟨gbOf (V 142),0,none⟩) 1 1 (cellsI [intOf (V 141)]) (by simp[putAll,Act.eval];exact h29.1) rfl h29.2 (cellsI_one _) (by unfold maxLen;omega) (by omega) (Nat.zero_le _) ?_
   intro v' w2 o2 g2 hv2;have ha:=own_shape o2;rw[e17]at g2 hv2;have hnt:some bt≠(Value.slice A l c).ownBlock:=own_ne ho h.kt (by decide)
   have hnf:some bf≠(Value.slice A l c).ownBlock:=own_ne ho h.kf (by decide)
   have hnh:some bh≠(Value.slice A l c).ownBlock:=own_ne ho kh (by decide)
   have O2:Only (fun q=>q=bt∨q=bh∨(Value.slice A l c).ownBlock=some q) w1 w2:=(Only.refl _ _).grown g2 fun q _ hq=> .inr (.inr hq)
   have sz1:=h.sz;have hold:∀q,v'.ownBlock=some q→(Value.slice A l c).ownBlock=some q∨w1.heap.size≤q:=fun q hq=>by
    rcases hv2 with h2|h2
    ·exact .inl (h2▸hq)
    ·have h3:=h2.symm.trans hq;injection h3 with h3;exact .inr (by omega)
   refine hK (updV V 143 v') _ _ (by simp[putAll,Act.put,updV]) ?_
   exact{h with
    kt:=h.kt.grown g2 hnt
    kf:=h.kf.grown g2 hnf
    kh:=fun _=>kh.grown g2 hnh
    ow:=nT_
    sz:=Nat.le_trans h.sz g2.size
    b0:=fun hn=>(by cases (hn.symm.trans l28))
    f28:=fun _=>h28
    q28:=fun _ hn=>(by cases hn)
    f29:=fun _ hn=>(by cases hn)
    d30:=fun _=>l29
    f30:=fun _=>⟨ha,by show World.ownsRow _ _ _ _ v' _ (cellsI (xs++[intOf (V 141)]));rw[cellsI_snoc];exact o2,hqy.z O2 hold⟩
    fin:=nX_ l32}
  ·obtain rfl:=sJ ho;simp only[putAll,List.foldl_cons,List.foldl_nil,List.setIfInBounds_toArray,List.set_cons_zero,List.set_cons_succ];have e3:=h.e3 (hL ⟨3, .data⟩ (by simp) rfl)
   have e7:=h.e7 (hL ⟨7, .data⟩ (by simp) rfl)
   have q1:=hp0;have q2:=hp1;clear hL hno
   go_simp;exact hK (updV V 144 _) _ _ (by simp[putAll,updV,e3,e7]) {h with e31:=fun _=>rfl}
  ·obtain rfl:=sJ ho;have e31:=h.e31 (hL ⟨31, .data⟩ (by simp) rfl)
   have l30:L 30=true:=hL ⟨30, .data⟩ (by simp) rfl
   have h30:=h.f30 l30;have l29:L 29=true:=h.d30 l30;have h28:=h.f28 (h.d29 l29);have l28:L 28=true:=h.d29 l29;have kh:=h.kh hi;have kt:=h.kt;have kf:=h.kf;have H30:=Lh h30;have H28:=Lh h28;generalize sAddr (V 143)=A9 at h30;generalize sCap (V 143)=c9 at h30;have e30:V 143=_:=h30.1;clear hL hno h30 h28;simp only[putAll,List.foldl_cons,List.foldl_nil,List.setIfInBounds_toArray,List.set_cons_zero,List.set_cons_succ];have ct:=kh.cell port;have fr:=kh.frozen port;rw[HCP.out]at ct;have k3:=kh.set port (.slice A9 (l+1) c9);have k4:=kt.far (p:=⟨bh,port,none⟩) Hn1.out (.slice A9 (l+1) c9);have k5:=kf.far (p:=⟨bh,port,none⟩) Hn2.out (.slice A9 (l+1) c9);have o3:=own_set H30.out.2.1 kh (by decide) port (.slice A9 (l+1) c9)
   have O3:Only (fun q=>q=bt∨q=bh∨(Value.slice A l c).ownBlock=some q) w1 (w1.setCell ⟨bh,port,none⟩ (.slice A9 (l+1) c9)):=(Only.refl _ _).setCell _ _ fun _=> .inr (.inl rfl)
   have O4:=H30.out.2.2.only O3;have sz1:=h.sz
   go_simp;refine hK V _ _ (by simp[putAll,e31,e30]) ?_
   exact{h with
    kt:=k4
    kf:=k5
    kh:=nT_
    ow:=fun hn=>(by cases (hn.symm.trans l30))
    sz:=Nat.le_trans sz1 (by simp)
    b0:=fun hn=>(by cases (hn.symm.trans l28))
    f28:=fun _=>H28.out
    q28:=fun _ hn=>(by cases (hn.symm.trans l30))
    f29:=fun _ hn=>(by cases (hn.symm.trans l30))
    f30:=fun _=>⟨H30.out.1,o3,O4⟩
    fin:=fun _=>by rw[e30];exact k3}
  ·simp at ho
 ·clear hI0;intro L V w3 hL h;have h28:=h.f28 (hL 28 (by simp))
  have h30:=h.f30 (hL 30 (by simp))
  have kh:=h.fin (hL 32 (by simp))
  have kt:=h.kt;clear h hL;simp only[putAll,List.foldl_cons,List.foldl_nil,List.setIfInBounds_toArray,List.set_cons_zero,List.set_cons_succ];generalize intOf (V 141)=x at h28 h30;generalize sAddr (V 143)=A9 at h30;generalize sCap (V 143)=c9' at h30;obtain⟨-,hxf⟩:=h28;obtain⟨e30,o30,hRZ⟩:=h30;rw[e30]at kh o30 hRZ;have hRY:=hRZ.y;have k3:=kt.cellL 3 rfl;have k5:=kt.cellL 5 rfl;have k7:=kt.cellL 7 rfl;have kp:=kh.cell port;have hsz:port<cur.size:=(Array.getElem?_eq_some_iff.1 HCP.out).1;rw[Array.getElem?_setIfInBounds_self_of_lt hsz]at kp;obtain⟨bI,oI,hIe,cI2⟩:∃bI oI,I=some ⟨bI,oI,none⟩∧w3.cell? ⟨bI,oI+port,none⟩=some (.int .i64 (rt:Int)):=by
   rcases HRI.out x w3 hRY with hr|⟨b,off,hA,-,hcell⟩
   ·have h1:=congrArg List.length hr;rw[cellsI_length,List.length_nil]at h1;have h2:=(List.getElem?_eq_some_iff.1 HRP.out).1;omega
   ·exact⟨b,off,hA,hcell port _ (by simp[cellsI,HRP.out])⟩
  subst hIe;have HKT:=Lh kt;have HKH:=Lh kh;have HO:=Lh o30;have HRYw:=Lh hRZ;clear kt kh o30 hRZ hRY e30 hsz;by_cases hlr:l+1=rt
  ·have hq:(((l+1:Nat):Int)==(rt:Int))=true:=by simp;omega
   have hq2:(((l:Nat):Int)+1==(rt:Int))=true:=by simp;omega
   go_wp2_with fail
   go_quiet (fail)
   generalize hW4:World.drewN w3 _=w4;have d4:Drawn w3 w4:=by rw[←hW4];exact(Drawn.refl _).drewN _
   have kt4:=HKT.out.below (d4.below w3.heap.size) HKT.out.lt;have k7:=kt4.cellL 7 rfl;have f7:=kt4.frozen 7;have kt5:=kt4.set 7 (.int .i64 ((port:Int)+1));simp only[List.setIfInBounds_toArray,List.set_cons_zero,List.set_cons_succ]at kt5;have kh5:=(HKH.out.below (d4.below w3.heap.size) HKH.out.lt).far (p:=⟨bt,7,none⟩) (fun he=>Hn1.out he.symm) (.int .i64 ((port:Int)+1))
   have o5:=own_set (own_below HO.out (d4.below w3.heap.size)) kt4 (by decide) 7 (.int .i64 ((port:Int)+1))
   have R5:=(HRYw.out.only (Only.of_below (d4.below _))).only (w':=w4.setCell ⟨bt,7,none⟩ (.int .i64 ((port:Int)+1))) ((Only.refl _ _).setCell _ _ fun _=> .inl rfl)
   have ep:IntKind.i64.wrap ((port:Int)+1)=(port:Int)+1:=by rw[IntKind.wrap_i64];omega
   have HKT5:Hid (Blk (w4.setCell ⟨bt,7,none⟩ (.int .i64 ((port:Int)+1))) bt 125 (tkC c0 bf li c2 (some ⟨bI,oI,none⟩) cI c4 bh c6 pt c9)):=by
    rw[Hpt.out,if_pos hlr];exact kt5
   have HKH5:=Lh kh5;have HO5:=Lh o5;have HR5:=Lh R5;clear hW4 d4 kt4 kt5 kh5 o5 R5 k3 k5 kp cI2 hq hq2;clear hlr
   go_wp2_with fail
   go_ret;exact⟨rfl,x,A9,c9',hxf,HR5.out,HKH5.out,HO5.out,HKT5.out⟩
  ·have hq:(((l+1:Nat):Int)==(rt:Int))=false:=by simp;omega
   have hq2:(((l:Nat):Int)+1==(rt:Int))=false:=by simp;omega
   go_wp2_with fail
   go_quiet (fail)
   generalize hW4:World.drewN w3 _=w4;have d4:Drawn w3 w4:=by rw[←hW4];exact(Drawn.refl _).drewN _
   have HKT5:Hid (Blk w4 bt 125 (tkC c0 bf li c2 (some ⟨bI,oI,none⟩) cI c4 bh c6 pt c9)):=by
    rw[Hpt.out,if_neg hlr];exact HKT.out.below (d4.below w3.heap.size) HKT.out.lt
   have HKH5:=Lh (HKH.out.below (d4.below w3.heap.size) HKH.out.lt);have HO5:=Lh (own_below HO.out (d4.below w3.heap.size));have HR5:=Lh (HRYw.out.only (Only.of_below (d4.below _)));clear hW4 d4 k3 k5 k7 kp cI2 hq hq2;clear hlr
   go_wp2_with fail
   go_ret;exact⟨rfl,x,A9,c9',hxf,HR5.out,HKH5.out,HO5.out,HKT5.out⟩
end Go.Proofs.YtpmlljbebdidgaaGreatDoor
