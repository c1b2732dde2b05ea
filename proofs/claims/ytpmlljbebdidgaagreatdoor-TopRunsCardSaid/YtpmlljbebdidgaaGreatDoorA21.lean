/- Lemmas and walks for the claim: Dy, Dz. -/
import Derived.Test.YtpmlljbebdidgaaGreatDoorA0
import Derived.Test.YtpmlljbebdidgaaGreatDoorA20
set_option linter.unusedSimpArgs false
set_option maxRecDepth 100000
set_option maxHeartbeats 4000000
namespace Go.Proofs.YtpmlljbebdidgaaGreatDoor
open Go.RowKit Go.ChangeShapes
def RY(R:Int→World→Prop)(bt bh:Nat)(v:Value)(x:Int)(w:World):Prop:=∃w1,R x w1∧Only (fun q=>q=bt∨q=bh∨v.ownBlock=some q) w1 w
theorem RY.of{R:Int→World→Prop}{bt bh:Nat}{v:Value}{x:Int}{w:World}(h:R x w):RY R bt bh v x w:=⟨w,h,Only.refl _ _⟩
theorem RY.only{R:Int→World→Prop}{bt bh:Nat}{v:Value}{x:Int}{w w':World}(h:RY R bt bh v x w)(ho:Only (fun q=>q=bt∨q=bh∨v.ownBlock=some q) w w'):RY R bt bh v x w':=by
 obtain⟨w1,h1,h2⟩:=h;exact⟨w1,h1,h2.trans ho⟩
def RZ(R:Int→World→Prop)(bt bh:Nat)(v v':Value)(x:Int)(w:World):Prop:=∃w1,R x w1∧Only (fun q=>q=bt∨q=bh∨v.ownBlock=some q) w1 w∧∀q,v'.ownBlock=some q→v.ownBlock=some q∨w1.heap.size≤q
theorem RZ.only{R:Int→World→Prop}{bt bh:Nat}{v v':Value}{x:Int}{w w':World}(h:RZ R bt bh v v' x w)(ho:Only (fun q=>q=bt∨q=bh∨v.ownBlock=some q) w w'):RZ R bt bh v v' x w':=by
 obtain⟨w1,h1,h2,h3⟩:=h;exact⟨w1,h1,h2.trans ho,h3⟩
theorem RZ.y{R:Int→World→Prop}{bt bh:Nat}{v v':Value}{x:Int}{w:World}(h:RZ R bt bh v v' x w):RY R bt bh v x w:=by
 obtain⟨w1,h1,h2,-⟩:=h;exact⟨w1,h1,h2⟩
theorem RY.z{R:Int→World→Prop}{bt bh:Nat}{v v':Value}{x:Int}{w w':World}(h:RY R bt bh v x w)(ho:Only (fun q=>q=bt∨q=bh∨v.ownBlock=some q) w w')(hn:∀q,v'.ownBlock=some q→v.ownBlock=some q∨w.heap.size≤q):RZ R bt bh v v' x w':=by
 obtain⟨w1,h1,h2⟩:=h;exact⟨w1,h1,h2.trans ho,fun q hq=>(hn q hq).imp id fun h=>zy h2.size h⟩
structure TakA(Q:Int→World→Prop)(Z:Value→Int→World→Prop)(w0:World)(bt:Nat)(cs:Array Value)(bf:Nat)(src:List Value)(bh:Nat)(cur:Array Value)(li port:Nat)(A:Option Addr)(l c:Nat)(xs:List Int)(T:TypeId)(val:Value)(L:Nat→Bool)(V:Nat→Value)(w:World):Prop where
 kt:Blk w bt 125 cs
 kf:Blk w bf 159 src.toArray
 kh:L 32=false→Blk w bh 36 cur
 ow:L 30=false→w.ownsRow 0 3 1 (.slice A l c) l (cellsI xs)
 sz:w0.heap.size≤w.heap.size
 b0:L 28=false→Below w0.heap.size w0 w
 f28:L 28=true→V 141= .int .i64 (intOf (V 141))∧fits (intOf (V 141))
 q28:L 28=true→L 30=false→Q (intOf (V 141)) w
 f29:L 29=true→L 30=false→V 142= .slice (some ⟨gbOf (V 142),0,none⟩) 1 1∧Rd w w.heap.size (some ⟨gbOf (V 142),0,none⟩) (cellsI [intOf (V 141)])
 d29:L 29=true→L 28=true
 d30:L 30=true→L 29=true
 f30:L 30=true→V 143= .slice (sAddr (V 143)) (l+1) (sCap (V 143))∧w.ownsRow 0 3 1 (V 143) (l+1) (cellsI (xs++[intOf (V 141)]))∧Z (V 143) (intOf (V 141)) w
 fin:L 32=true→Blk w bh 36 (cur.setIfInBounds port (V 143))
 e0:L 0=true→V 113= .pointer (some ⟨bt,0,none⟩)
 e1:L 1=true→V 114= .pointer (some ⟨bt,0,none⟩)
 e2:L 2=true→V 115= .pointer (some ⟨bt,5,none⟩)
 e3:L 3=true→V 116= .slice (some ⟨bh,0,none⟩) li li
 e4:L 4=true→V 117= .pointer (some ⟨bt,0,none⟩)
 e5:L 5=true→V 118= .pointer (some ⟨bt,0,none⟩)
 e6:L 6=true→V 119= .pointer (some ⟨bt,7,none⟩)
 e7:L 7=true→V 120= .int .i64 (port:Nat)
 e8:L 8=true→V 121= .pointer (some ⟨bt,0,none⟩)
 e9:L 9=true→V 122= .pointer (some ⟨bt,0,none⟩)
 e10:L 10=true→V 123= .pointer (some ⟨bt,5,none⟩)
 e11:L 11=true→V 124= .slice (some ⟨bh,0,none⟩) li li
 e12:L 12=true→V 125= .pointer (some ⟨bt,0,none⟩)
 e13:L 13=true→V 126= .pointer (some ⟨bt,0,none⟩)
 e14:L 14=true→V 127= .pointer (some ⟨bt,7,none⟩)
 e15:L 15=true→V 128= .int .i64 (port:Nat)
 e16:L 16=true→V 129= .pointer (some ⟨bh,port,none⟩)
 e17:L 17=true→V 130= .slice A l c
 e18:L 18=true→V 131= .pointer (some ⟨bt,0,none⟩)
 e19:L 19=true→V 132= .pointer (some ⟨bt,0,none⟩)
 e20:L 20=true→V 133= .pointer (some ⟨bt,1,none⟩)
 e21:L 21=true→V 134= .slice (some ⟨bf,0,none⟩) li li
 e22:L 22=true→V 135= .pointer (some ⟨bt,0,none⟩)
 e23:L 23=true→V 136= .pointer (some ⟨bt,0,none⟩)
 e24:L 24=true→V 137= .pointer (some ⟨bt,7,none⟩)
 e25:L 25=true→V 138= .int .i64 (port:Nat)
 e26:L 26=true→V 139= .pointer (some ⟨bf,port,none⟩)
 e27:L 27=true→V 140= .iface T val
 e31:L 31=true→V 144= .pointer (some ⟨bh,port,none⟩)
abbrev tkC(c0:Value)(bf li:Nat)(c2:Value)(I:Option Addr)(cI:Nat)(c4:Value)(bh:Nat)(c6:Value)(port:Nat)(c9:Value):Array Value:=
 #[c0, .slice (some ⟨bf,0,none⟩) li li,c2, .slice I li cI,c4, .slice (some ⟨bh,0,none⟩) li li,c6, .int .i64 port, .bool false,c9]
theorem zjL(pt:Nat)(bt bf li port:Nat)(c0 c2 c4 c6 c9:Value)(I:Option Addr)(cI bh:Nat)(src:List Value)(cur:Array Value)(T:TypeId)(val:Value)(fn:FuncId)(A:Option Addr)(l c rt:Nat)(xs rin:List Int)(R:Int→World→Prop)(w0:World)
  (kb:Blk w0 bt 125 (tkC c0 bf li c2 I cI c4 bh c6 port c9)) (kf:Blk w0 bf 159 src.toArray) (kh:Blk w0 bh 36 cur) (hp:port<li) (hli:li≤16) (hd:src[port]?=some (.iface T val)) (hcp:cur[port]?=some (.slice A l c)) (ho:w0.ownsRow 0 3 1 (.slice A l c) l (cellsI xs)) (hl64:l<64)
  (hpt:pt=if l+1=rt then port+1 else port) (hrp:rin[port]?=some (rt:Int)) (hn1:bt≠bh) (hn2:bf≠bh)
  (hm:∀w':World,(method 357 T val "pianola/dyn.take").run Tryz.prog w'= .ok (fn,val) w') (hc:∀(args:Array Value) (w':World),(callFunc fn args).run Tryz.prog w'= .ok (.enter fn args) w')
  (hf:∀w':World,Below w0.heap.size w0 w'→Calls Tryz.prog fn #[val] w' fun e w''=>∃x,e= .returned (.int .i64 x)∧fits x∧R x w'')
  (hR:∀(x:Int) (w':World),R x w'→Blk w' bt 125 (tkC c0 bf li c2 I cI c4 bh c6 port c9)∧Blk w' bf 159 src.toArray∧Blk w' bh 36 cur∧w'.ownsRow 0 3 1 (.slice A l c) l (cellsI xs)∧w0.heap.size≤w'.heap.size)
  (hRI:∀(x:Int) (w':World),RY R bt bh (.slice A l c) x w'→Rd w' w'.heap.size I (cellsI rin)):
  Calls Tryz.prog 66 #[.pointer (some ⟨bt,0,none⟩)] w0 fun e w'=>e= .returned (.bool true)∧∃x A' c',fits x∧RZ R bt bh (.slice A l c) (.slice A' (l+1) c') x w'∧Blk w' bh 36 (cur.setIfInBounds port (.slice A' (l+1) c'))∧w'.ownsRow 0 3 1 (.slice A' (l+1) c') (l+1) (cellsI (xs++[x]))∧
   Blk w' bt 125 (tkC c0 bf li c2 I cI c4 bh c6 pt c9):=by
 obtain⟨ii,hii,hz0,hz1,hz2⟩:=info_parts zas;have k8:=kb.cellL 8 rfl;have k7:=kb.cellL 7 rfl;have k3:=kb.cellL 3 rfl;have hp0:(0:Int)≤(port:Int):=by omega
 have hp1:(port:Int)<(li:Int):=by omega
 have HKB:=Lh kb;have HFR:=Lh kf;have HHD:=Lh kh;have HDs:=Lh hd;have HCP:=Lh hcp;have HOW:=Lh ho;have Hm:=Lh hm;have Hc:=Lh hc;have HF:=Lh hf;have HR:=Lh hR;have HRI:=Lh hRI;have HRP:=Lh hrp;have Hn1:=Lh hn1;have Hpt:=Lh hpt;have Hn2:=Lh hn2;clear kb kf kh hd hcp ho hm hc hf hR hRI hrp hn1 hn2 hpt
 go_enter Tryz.func66, Tryz.ntmps66
 go_wp2_with fail
 go_quiet (fail)
 generalize hW1:World.drewN w0 _=wa;have d1:Drawn w0 wa:=by rw[←hW1];exact(Drawn.refl _).drewN _
 clear k8 k7 k3;have HD1:=Lh d1;clear hW1 d1
 go_wp2_with fail;have hI0:∀V,TakA (RY R bt bh (.slice A l c)) (fun v=>RZ R bt bh (.slice A l c) v) w0 bt (tkC c0 bf li c2 I cI c4 bh c6 port c9) bf src bh cur li port A l c xs T val (fun _=>false) V wa.drew:=fun V=>by
  have b0:=(HD1.out.drewN 1).below w0.heap.size;constructor
  all_goals first
   |exact HKB.out.below b0 HKB.out.lt
   |exact HFR.out.below b0 HFR.out.lt
   |exact fun _=>HHD.out.below b0 HHD.out.lt
   |exact fun _=>own_below HOW.out b0
   |exact b0.size
   |exact fun _=>b0
   |(intro h;cases h)
 refine zN [113,114,115,116,117,118,119,120,121,122,123,124,125,126,127,128,129,130,131,132,133,134,135,136,137,138,139,140,141,142,143,144] (TakA (RY R bt bh (.slice A l c)) (fun v=>RZ R bt bh (.slice A l c) v) w0 bt (tkC c0 bf li c2 I cI c4 bh c6 port c9) bf src bh cur li port A l c xs T val) (by kernel_rfl) (by kernel_rfl) ?_ ?_ ?_
 ·exact hI0 _
 ·intro i o ho L V w1 hi hL hno h K hK;rcases i with _|_|_|_|_|_|_|_|_|_|_|_|_|_|_|_|_|_|_|_|_|_|_|_|_|_|_|_|_|_|_|_|_|i
  ·obtain rfl:=sJ ho;simp only[putAll,zi,zj,zc,ze,zd];clear hL hno
   go_simp;exact hK (zg V 113 _) _ _ (by simp[putAll,zg]) {h with e0:=fun _=>rfl}
  ·obtain rfl:=sJ ho;simp only[putAll,zi,zj,zc,ze,zd];have e0:=h.e0 (hL ⟨0, .data⟩ (by simp) rfl)
   clear hL hno
   go_simp;exact hK (zg V 114 _) _ _ (by simp[putAll,zg,e0]) {h with e1:=fun _=>rfl}
  ·obtain rfl:=sJ ho;simp only[putAll,zi,zj,zc,ze,zd];have e1:=h.e1 (hL ⟨1, .data⟩ (by simp) rfl)
   clear hL hno
   go_simp;exact hK (zg V 115 _) _ _ (by simp[putAll,zg,e1]) {h with e2:=fun _=>rfl}
  ·obtain rfl:=sJ ho;simp only[putAll,zi,zj,zc,ze,zd];have e2:=h.e2 (hL ⟨2, .data⟩ (by simp) rfl)
   have ct:=h.kt.cellL 5 rfl;clear hL hno
   go_simp;exact hK (zg V 116 _) _ _ (by simp[putAll,zg,e2]) {h with e3:=fun _=>rfl}
  ·obtain rfl:=sJ ho;simp only[putAll,zi,zj,zc,ze,zd];clear hL hno
   go_simp;exact hK (zg V 117 _) _ _ (by simp[putAll,zg]) {h with e4:=fun _=>rfl}
  ·obtain rfl:=sJ ho;simp only[putAll,zi,zj,zc,ze,zd];have e4:=h.e4 (hL ⟨4, .data⟩ (by simp) rfl)
   clear hL hno
   go_simp;exact hK (zg V 118 _) _ _ (by simp[putAll,zg,e4]) {h with e5:=fun _=>rfl}
  ·obtain rfl:=sJ ho;simp only[putAll,zi,zj,zc,ze,zd];have e5:=h.e5 (hL ⟨5, .data⟩ (by simp) rfl)
   clear hL hno
   go_simp;exact hK (zg V 119 _) _ _ (by simp[putAll,zg,e5]) {h with e6:=fun _=>rfl}
  ·obtain rfl:=sJ ho;simp only[putAll,zi,zj,zc,ze,zd];have e6:=h.e6 (hL ⟨6, .data⟩ (by simp) rfl)
   have ct:=h.kt.cellL 7 rfl;clear hL hno
   go_simp;exact hK (zg V 120 _) _ _ (by simp[putAll,zg,e6]) {h with e7:=fun _=>rfl}
  ·obtain rfl:=sJ ho;simp only[putAll,zi,zj,zc,ze,zd];clear hL hno
   go_simp;exact hK (zg V 121 _) _ _ (by simp[putAll,zg]) {h with e8:=fun _=>rfl}
  ·obtain rfl:=sJ ho;simp only[putAll,zi,zj,zc,ze,zd];have e8:=h.e8 (hL ⟨8, .data⟩ (by simp) rfl)
   clear hL hno
   go_simp;exact hK (zg V 122 _) _ _ (by simp[putAll,zg,e8]) {h with e9:=fun _=>rfl}
  ·obtain rfl:=sJ ho;simp only[putAll,zi,zj,zc,ze,zd];have e9:=h.e9 (hL ⟨9, .data⟩ (by simp) rfl)
   clear hL hno
   go_simp;exact hK (zg V 123 _) _ _ (by simp[putAll,zg,e9]) {h with e10:=fun _=>rfl}
  ·obtain rfl:=sJ ho;simp only[putAll,zi,zj,zc,ze,zd];have e10:=h.e10 (hL ⟨10, .data⟩ (by simp) rfl)
   have ct:=h.kt.cellL 5 rfl;clear hL hno
   go_simp;exact hK (zg V 124 _) _ _ (by simp[putAll,zg,e10]) {h with e11:=fun _=>rfl}
  ·obtain rfl:=sJ ho;simp only[putAll,zi,zj,zc,ze,zd];clear hL hno
   go_simp;exact hK (zg V 125 _) _ _ (by simp[putAll,zg]) {h with e12:=fun _=>rfl}
  ·obtain rfl:=sJ ho;simp only[putAll,zi,zj,zc,ze,zd];have e12:=h.e12 (hL ⟨12, .data⟩ (by simp) rfl)
   clear hL hno
   go_simp;exact hK (zg V 126 _) _ _ (by simp[putAll,zg,e12]) {h with e13:=fun _=>rfl}
  ·obtain rfl:=sJ ho;simp only[putAll,zi,zj,zc,ze,zd];have e13:=h.e13 (hL ⟨13, .data⟩ (by simp) rfl)
   clear hL hno
   go_simp;exact hK (zg V 127 _) _ _ (by simp[putAll,zg,e13]) {h with e14:=fun _=>rfl}
  ·obtain rfl:=sJ ho;simp only[putAll,zi,zj,zc,ze,zd];have e14:=h.e14 (hL ⟨14, .data⟩ (by simp) rfl)
   have ct:=h.kt.cellL 7 rfl;clear hL hno
   go_simp;exact hK (zg V 128 _) _ _ (by simp[putAll,zg,e14]) {h with e15:=fun _=>rfl}
  ·obtain rfl:=sJ ho;simp only[putAll,zi,zj,zc,ze,zd];have e11:=h.e11 (hL ⟨11, .data⟩ (by simp) rfl)
   have e15:=h.e15 (hL ⟨15, .data⟩ (by simp) rfl)
   have q1:=hp0;have q2:=hp1;clear hL hno
   go_simp;exact hK (zg V 129 _) _ _ (by simp[putAll,zg,e11,e15]) {h with e16:=fun _=>rfl}
  ·obtain rfl:=sJ ho;simp only[putAll,zi,zj,zc,ze,zd];have e16:=h.e16 (hL ⟨16, .data⟩ (by simp) rfl)
   have ct:=(h.kh (hno 32 (by kernel_rfl))).cell port
   rw[HCP.out]at ct;clear hL hno
   go_simp;exact hK (zg V 130 _) _ _ (by simp[putAll,zg,e16]) {h with e17:=fun _=>rfl}
  ·obtain rfl:=sJ ho;simp only[putAll,zi,zj,zc,ze,zd];clear hL hno
   go_simp;exact hK (zg V 131 _) _ _ (by simp[putAll,zg]) {h with e18:=fun _=>rfl}
  ·obtain rfl:=sJ ho;simp only[putAll,zi,zj,zc,ze,zd];have e18:=h.e18 (hL ⟨18, .data⟩ (by simp) rfl)
   clear hL hno
   go_simp;exact hK (zg V 132 _) _ _ (by simp[putAll,zg,e18]) {h with e19:=fun _=>rfl}
  ·obtain rfl:=sJ ho;simp only[putAll,zi,zj,zc,ze,zd];have e19:=h.e19 (hL ⟨19, .data⟩ (by simp) rfl)
   clear hL hno
   go_simp;exact hK (zg V 133 _) _ _ (by simp[putAll,zg,e19]) {h with e20:=fun _=>rfl}
  ·obtain rfl:=sJ ho;simp only[putAll,zi,zj,zc,ze,zd];have e20:=h.e20 (hL ⟨20, .data⟩ (by simp) rfl)
   have ct:=h.kt.cellL 1 rfl;clear hL hno
   go_simp;exact hK (zg V 134 _) _ _ (by simp[putAll,zg,e20]) {h with e21:=fun _=>rfl}
  ·obtain rfl:=sJ ho;simp only[putAll,zi,zj,zc,ze,zd];clear hL hno
   go_simp;exact hK (zg V 135 _) _ _ (by simp[putAll,zg]) {h with e22:=fun _=>rfl}
  ·obtain rfl:=sJ ho;simp only[putAll,zi,zj,zc,ze,zd];have e22:=h.e22 (hL ⟨22, .data⟩ (by simp) rfl)
   clear hL hno
   go_simp;exact hK (zg V 136 _) _ _ (by simp[putAll,zg,e22]) {h with e23:=fun _=>rfl}
  ·obtain rfl:=sJ ho;simp only[putAll,zi,zj,zc,ze,zd];have e23:=h.e23 (hL ⟨23, .data⟩ (by simp) rfl)
   clear hL hno
   go_simp;exact hK (zg V 137 _) _ _ (by simp[putAll,zg,e23]) {h with e24:=fun _=>rfl}
  ·obtain rfl:=sJ ho;simp only[putAll,zi,zj,zc,ze,zd];have e24:=h.e24 (hL ⟨24, .data⟩ (by simp) rfl)
   have ct:=h.kt.cellL 7 rfl;clear hL hno
   go_simp;exact hK (zg V 138 _) _ _ (by simp[putAll,zg,e24]) {h with e25:=fun _=>rfl}
  ·obtain rfl:=sJ ho;simp only[putAll,zi,zj,zc,ze,zd];have e21:=h.e21 (hL ⟨21, .data⟩ (by simp) rfl)
   have e25:=h.e25 (hL ⟨25, .data⟩ (by simp) rfl)
   have q1:=hp0;have q2:=hp1;clear hL hno
   go_simp;exact hK (zg V 139 _) _ _ (by simp[putAll,zg,e21,e25]) {h with e26:=fun _=>rfl}
  ·obtain rfl:=sJ ho;simp only[putAll,zi,zj,zc,ze,zd];have e26:=h.e26 (hL ⟨26, .data⟩ (by simp) rfl)
   have ct:=h.kf.cell port;rw[zC,HDs.out]at ct;clear hL hno
   go_simp;exact hK (zg V 140 _) _ _ (by simp[putAll,zg,e26]) {h with e27:=fun _=>rfl}
  ·obtain rfl:=sJ ho;have e27:=h.e27 (hL ⟨27, .data⟩ (by simp) rfl)
   have l29:=hno 29 (by kernel_rfl)
   have l30:=hno 30 (by kernel_rfl)
   have l32:=hno 32 (by kernel_rfl)
   clear hL hno;simp only[putAll,zi,zj,zc,ze,zd];have hm:=Hm.out w1;have hc:=Hc.out;have hb:=h.b0 hi
   go_simp;refine(HF.out w1 hb).mono ?_
   rintro e w3 ⟨x,rfl,hxf,hRx⟩;have hs:=HR.out x w3 hRx;refine hK (zg V 141 (.int .i64 x)) _ _ (by simp[putAll,zg,e27]) ?_
   exact{h with
    kt:=hs.1
    kf:=hs.2.1
    kh:=fun _=>hs.2.2.1
    ow:=fun _=>hs.2.2.2.1
    sz:=hs.2.2.2.2
    b0:=nT_
    f28:=fun _=>⟨rfl,hxf⟩
    q28:=fun _ _=>RY.of hRx
    f29:=nX_ l29
    d29:=nX_ l29
    d30:=nX_ l30
    f30:=nX_ l30
    fin:=nX_ l32}
  ·obtain rfl:=sJ ho;have h28:=h.f28 (hL ⟨28, .data⟩ (by simp) rfl)
   have l28:L 28=true:=hL ⟨28, .data⟩ (by simp) rfl
   have l30:=hno 30 (by kernel_rfl)
   have l32:=hno 32 (by kernel_rfl)
   have H28:=Lh h28;have HQ:=Lh (h.q28 l28 l30);generalize intOf (V 141)=x at h28;have e28:V 141=_:=h28.1;clear hL hno h28;simp only[putAll,zi,zj,zc,ze,zd];have hb:=bA_ w1 (.cells #[.int .i64 x] 3);have hnew:=zal w1 _ rfl 3 [Value.int .i64 x]
   go_simp;refine hK (zg V 142 (.slice (some ⟨w1.heap.size,0,none⟩) 1 1)) _ _ (by simp[putAll,zg,e28]) ?_
   exact{h with
    kt:=h.kt.below hb h.kt.lt
    kf:=h.kf.below hb h.kf.lt
    kh:=fun hl=>(h.kh hl).below hb (h.kh hl).lt
    ow:=fun hl=>own_below (h.ow hl) hb
    sz:=zy h.sz hb.size
    b0:=fun hn=>(by cases (hn.symm.trans l28))
    f28:=fun _=>H28.out
    q28:=fun _ _=>HQ.out.only (Only.of_below hb)
    d30:=nX_ l30
    f29:=fun _ _=>⟨rfl,by show Rd _ _ _ (cellsI [intOf (V 141)]);rw[e28];exact hnew.more (by simp)⟩
    d29:=fun _=>l28
    f30:=nX_ l30
    fin:=nX_ l32}
  ·obtain rfl:=sJ ho;have e17:=h.e17 (hL ⟨17, .data⟩ (by simp) rfl)
   have l29:L 29=true:=hL ⟨29, .data⟩ (by simp) rfl
   have h29:=h.f29 l29 hi;have h28:=h.f28 (h.d29 l29);have l28:L 28=true:=h.d29 l29;have hqy:=h.q28 l28 hi;have l32:=hno 32 (by kernel_rfl)
   clear hL hno;have ho:=h.ow hi;have kh:=h.kh l32;refine zaQ rfl (.tmp 130) (.tmp 142) 36 rfl 0 3 ii (.int .i64 0) 1 8 Tryz.underlying36 hii hz0 hz1 hz2 rfl (by decide) (V 130) l (cellsI xs) (by simp[putAll,Act.eval]) (by rw[e17];exact ho) w1.heap.size (some ⟨gbOf (V 142),0,none⟩) 1 1 (cellsI [intOf (V 141)]) (by simp[putAll,Act.eval];exact h29.1) rfl h29.2 (zaA _) (by unfold maxLen;omega) (by omega) (zJ _) ?_
   intro v' w2 o2 g2 hv2;have ha:=zdg o2;rw[e17]at g2 hv2;have hnt:some bt≠(Value.slice A l c).ownBlock:=own_ne ho h.kt (by decide)
   have hnf:some bf≠(Value.slice A l c).ownBlock:=own_ne ho h.kf (by decide)
   have hnh:some bh≠(Value.slice A l c).ownBlock:=own_ne ho kh (by decide)
   have O2:Only (fun q=>q=bt∨q=bh∨(Value.slice A l c).ownBlock=some q) w1 w2:=(Only.refl _ _).grown g2 fun q _ hq=> .inr (.inr hq)
   have sz1:=h.sz;have hold:∀q,v'.ownBlock=some q→(Value.slice A l c).ownBlock=some q∨w1.heap.size≤q:=fun q hq=>by
    rcases hv2 with h2|h2
    ·exact .inl (h2▸hq)
    ·have h3:=h2.symm.trans hq;injection h3 with h3;exact .inr (by omega)
   refine hK (zg V 143 v') _ _ (by simp[putAll,Act.put,zg]) ?_
   exact{h with
    kt:=h.kt.grown g2 hnt
    kf:=h.kf.grown g2 hnf
    kh:=fun _=>kh.grown g2 hnh
    ow:=nT_
    sz:=zy h.sz g2.size
    b0:=fun hn=>(by cases (hn.symm.trans l28))
    f28:=fun _=>h28
    q28:=fun _ hn=>(by cases hn)
    f29:=fun _ hn=>(by cases hn)
    d30:=fun _=>l29
    f30:=fun _=>⟨ha,by show World.ownsRow _ _ _ _ v' _ (cellsI (xs++[intOf (V 141)]));rw[zen];exact o2,hqy.z O2 hold⟩
    fin:=nX_ l32}
  ·obtain rfl:=sJ ho;simp only[putAll,zi,zj,zc,ze,zd];have e3:=h.e3 (hL ⟨3, .data⟩ (by simp) rfl)
   have e7:=h.e7 (hL ⟨7, .data⟩ (by simp) rfl)
   have q1:=hp0;have q2:=hp1;clear hL hno
   go_simp;exact hK (zg V 144 _) _ _ (by simp[putAll,zg,e3,e7]) {h with e31:=fun _=>rfl}
  ·obtain rfl:=sJ ho;have e31:=h.e31 (hL ⟨31, .data⟩ (by simp) rfl)
   have l30:L 30=true:=hL ⟨30, .data⟩ (by simp) rfl
   have h30:=h.f30 l30;have l29:L 29=true:=h.d30 l30;have h28:=h.f28 (h.d29 l29);have l28:L 28=true:=h.d29 l29;have kh:=h.kh hi;have kt:=h.kt;have kf:=h.kf;have H30:=Lh h30;have H28:=Lh h28;generalize sAddr (V 143)=A9 at h30;generalize sCap (V 143)=c9 at h30;have e30:V 143=_:=h30.1;clear hL hno h30 h28;simp only[putAll,zi,zj,zc,ze,zd];have ct:=kh.cell port;have fr:=kh.frozen port;rw[HCP.out]at ct;have k3:=kh.set port (.slice A9 (l+1) c9);have k4:=kt.far (p:=⟨bh,port,none⟩) Hn1.out (.slice A9 (l+1) c9);have k5:=kf.far (p:=⟨bh,port,none⟩) Hn2.out (.slice A9 (l+1) c9);have o3:=zap H30.out.2.1 kh (by decide) port (.slice A9 (l+1) c9)
   have O3:Only (fun q=>q=bt∨q=bh∨(Value.slice A l c).ownBlock=some q) w1 (w1.setCell ⟨bh,port,none⟩ (.slice A9 (l+1) c9)):=(Only.refl _ _).setCell _ _ fun _=> .inr (.inl rfl)
   have O4:=H30.out.2.2.only O3;have sz1:=h.sz
   go_simp;refine hK V _ _ (by simp[putAll,e31,e30]) ?_
   exact{h with
    kt:=k4
    kf:=k5
    kh:=nT_
    ow:=fun hn=>(by cases (hn.symm.trans l30))
    sz:=zy sz1 (by simp)
    b0:=fun hn=>(by cases (hn.symm.trans l28))
    f28:=fun _=>H28.out
    q28:=fun _ hn=>(by cases (hn.symm.trans l30))
    f29:=fun _ hn=>(by cases (hn.symm.trans l30))
    f30:=fun _=>⟨H30.out.1,o3,O4⟩
    fin:=fun _=>by rw[e30];exact k3}
  ·simp at ho
 ·clear hI0;intro L V w3 hL h;have h28:=h.f28 (hL 28 (by simp))
  have h30:=h.f30 (hL 30 (by simp))
  have kh:=h.fin (hL 32 (by simp))
  have kt:=h.kt;clear h hL;simp only[putAll,zi,zj,zc,ze,zd];generalize intOf (V 141)=x at h28 h30;generalize sAddr (V 143)=A9 at h30;generalize sCap (V 143)=c9' at h30;obtain⟨-,hxf⟩:=h28;obtain⟨e30,o30,hRZ⟩:=h30;rw[e30]at kh o30 hRZ;have hRY:=hRZ.y;have k3:=kt.cellL 3 rfl;have k5:=kt.cellL 5 rfl;have k7:=kt.cellL 7 rfl;have kp:=kh.cell port;have hsz:port<cur.size:=(zQ.1 HCP.out).1;rw[zbD hsz]at kp;obtain⟨bI,oI,hIe,cI2⟩:∃bI oI,I=some ⟨bI,oI,none⟩∧w3.cell? ⟨bI,oI+port,none⟩=some (.int .i64 (rt:Int)):=by
   rcases HRI.out x w3 hRY with hr|⟨b,off,hA,-,hcell⟩
   ·have h1:=congrArg List.length hr;rw[cellsI_length,zaD]at h1;have h2:=(zu.1 HRP.out).1;omega
   ·exact⟨b,off,hA,hcell port _ (by simp[cellsI,HRP.out])⟩
  subst hIe;have HKT:=Lh kt;have HKH:=Lh kh;have HO:=Lh o30;have HRYw:=Lh hRZ;clear kt kh o30 hRZ hRY e30 hsz;by_cases hlr:l+1=rt
  ·have hq:(((l+1:Nat):Int)==(rt:Int))=true:=by simp;omega
   have hq2:(((l:Nat):Int)+1==(rt:Int))=true:=by simp;omega
   go_wp2_with fail
   go_quiet (fail)
   generalize hW4:World.drewN w3 _=w4;have d4:Drawn w3 w4:=by rw[←hW4];exact(Drawn.refl _).drewN _
   have kt4:=HKT.out.below (d4.below w3.heap.size) HKT.out.lt;have k7:=kt4.cellL 7 rfl;have f7:=kt4.frozen 7;have kt5:=kt4.set 7 (.int .i64 ((port:Int)+1));simp only[zc,ze,zd]at kt5;have kh5:=(HKH.out.below (d4.below w3.heap.size) HKH.out.lt).far (p:=⟨bt,7,none⟩) (fun he=>Hn1.out he.symm) (.int .i64 ((port:Int)+1))
   have o5:=zap (own_below HO.out (d4.below w3.heap.size)) kt4 (by decide) 7 (.int .i64 ((port:Int)+1))
   have R5:=(HRYw.out.only (Only.of_below (d4.below _))).only (w':=w4.setCell ⟨bt,7,none⟩ (.int .i64 ((port:Int)+1))) ((Only.refl _ _).setCell _ _ fun _=> .inl rfl)
   have ep:IntKind.i64.wrap ((port:Int)+1)=(port:Int)+1:=by rw[IntKind.wrap_i64];omega
   have HKT5:Hid (Blk (w4.setCell ⟨bt,7,none⟩ (.int .i64 ((port:Int)+1))) bt 125 (tkC c0 bf li c2 (some ⟨bI,oI,none⟩) cI c4 bh c6 pt c9)):=by
    rw[Hpt.out,if_pos hlr];exact kt5
   have HKH5:=Lh kh5;have HO5:=Lh o5;have HR5:=Lh R5;clear hW4 d4 kt4 kt5 kh5 o5 R5 k3 k5 kp cI2 hq hq2;clear hlr
   go_wp2_with fail
   go_ret;exact⟨rfl,x,A9,c9',hxf,HR5.out,HKH5.out,HO5.out,HKT5.out⟩
  ·have hq:(((l+1:Nat):Int)==(rt:Int))=false:=by simp;omega
   have hq2:(((l:Nat):Int)+1==(rt:Int))=false:=by simp;omega
   go_wp2_with fail
   go_quiet (fail)
   generalize hW4:World.drewN w3 _=w4;have d4:Drawn w3 w4:=by rw[←hW4];exact(Drawn.refl _).drewN _
   have HKT5:Hid (Blk w4 bt 125 (tkC c0 bf li c2 (some ⟨bI,oI,none⟩) cI c4 bh c6 pt c9)):=by
    rw[Hpt.out,if_neg hlr];exact HKT.out.below (d4.below w3.heap.size) HKT.out.lt
   have HKH5:=Lh (HKH.out.below (d4.below w3.heap.size) HKH.out.lt);have HO5:=Lh (own_below HO.out (d4.below w3.heap.size));have HR5:=Lh (HRYw.out.only (Only.of_below (d4.below _)));clear hW4 d4 k3 k5 k7 kp cI2 hq hq2;clear hlr
   go_wp2_with fail
   go_ret;exact⟨rfl,x,A9,c9',hxf,HR5.out,HKH5.out,HO5.out,HKT5.out⟩
def gvOf:Value→Value
 | .tuple a=>a[0]?.getD (.bool false)
 |_=> .bool false
def ecOf:Value→Int
 | .tuple a=>intOf (a[1]?.getD (.bool false))
 |_=>0
structure RckA(R:Value→Int→World→Prop)(w0:World)(bb bh li bt:Nat)(L:Nat→Bool)(V:Nat→Value)(w:World):Prop where
 bel:L 8=false→Below w0.heap.size w0 w
 f8:L 8=true→V 14= .tuple #[gvOf (V 14), .int .i64 (ecOf (V 14))]∧R (gvOf (V 14)) (ecOf (V 14)) w
 e9:L 9=true→V 5= .tuple #[gvOf (V 14), .int .i64 (ecOf (V 14))]
 e0:L 0=true→V 6= .pointer (some ⟨bt,0,none⟩)
 e1:L 1=true→V 7= .pointer (some ⟨bt,0,none⟩)
 e2:L 2=true→V 8= .pointer (some ⟨bt,0,none⟩)
 e3:L 3=true→V 9= .pointer (some ⟨bb,0,none⟩)
 e4:L 4=true→V 10= .pointer (some ⟨bt,0,none⟩)
 e5:L 5=true→V 11= .pointer (some ⟨bt,0,none⟩)
 e6:L 6=true→V 12= .pointer (some ⟨bt,5,none⟩)
 e7:L 7=true→V 13= .slice (some ⟨bh,0,none⟩) li li
 e10:L 10=true→V 15=gvOf (V 14)
 e11:L 11=true→V 16= .int .i64 (ecOf (V 14))
 e12:L 12=true→V 3=gvOf (V 14)
 e13:L 13=true→V 4= .int .i64 (ecOf (V 14))
abbrev znk(bb:Nat)(c1 c2:Value)(I:Option Addr)(li cI:Nat)(O:Option Addr)(lo cO bh:Nat)(c6:Value)(wh:Int):Array Value:=
 #[.pointer (some ⟨bb,0,none⟩),c1,c2, .slice I li cI, .slice O lo cO, .slice (some ⟨bh,0,none⟩) li li,c6, .int .i64 li, .bool false, .int .i64 wh]
def RckEnd(bt bb:Nat)(c1 c2:Value)(I:Option Addr)(li cI:Nat)(O:Option Addr)(lo cO bh:Nat)(wh:Int)(gv:Value)(ec:Int)(wf:World)(r:Bool)(w':World):Prop:=
 (ec≠0∧r=false∧Drawn wf w')∨
 (ec=0∧r=true∧0<lo∧Only (fun q=>q=bt) wf w'∧Blk w' bt 125 #[.pointer (some ⟨bb,0,none⟩),c1,c2, .slice I li cI, .slice O lo cO, .slice (some ⟨bh,0,none⟩) li li,gv, .int .i64 (0:Nat), .bool true, .int .i64 wh])∨
 (ec=0∧r=true∧lo=0∧Only (fun q=>q=bt) wf w'∧∃g,Blk w' bt 125 #[.pointer (some ⟨bb,0,none⟩),c1,c2, .slice I li cI, .slice O lo cO, .slice (some ⟨g,0,none⟩) li li, .slice none 0 0, .int .i64 (0:Nat), .bool false, .int .i64 (wh+1)]∧
  Blk w' g 36 (List.replicate li (Value.slice none 0 0)).toArray∧wf.heap.size≤g)
theorem ziI(bt bb:Nat)(c1 c2:Value)(I:Option Addr)(li cI:Nat)(O:Option Addr)(lo cO bh:Nat)(c6:Value)(wh:Int)(R:Value→Int→World→Prop)(w:World)
  (kb:Blk w bt 125 (znk bb c1 c2 I li cI O lo cO bh c6 wh)) (hli:li≤16) (hwh:0≤wh∧wh≤4611686018427387904)
  (hf:∀w':World,Below w.heap.size w w'→Calls Tryz.prog 86 #[.pointer (some ⟨bb,0,none⟩), .slice (some ⟨bh,0,none⟩) li li] w' fun e w''=>∃gv ec,e= .returned (.tuple #[gv, .int .i64 ec])∧R gv ec w'')
  (hR:∀(gv:Value) (ec:Int) (w':World),R gv ec w'→Blk w' bt 125 (znk bb c1 c2 I li cI O lo cO bh c6 wh)∧((ec=0∧∃A n c,gv= .slice A n c)∨ec=70)):
  Calls Tryz.prog 66 #[.pointer (some ⟨bt,0,none⟩)] w fun e w'=>∃r,e= .returned (.bool r)∧∃gv ec wf,R gv ec wf∧RckEnd bt bb c1 c2 I li cI O lo cO bh wh gv ec wf r w':=by
 have k8:=kb.cellL 8 rfl;have k7:=kb.cellL 7 rfl;have k3:=kb.cellL 3 rfl;have HKB:=Lh kb;have HF:=Lh hf;have HR:=Lh hR;clear kb hf hR
 go_enter Tryz.func66, Tryz.ntmps66
 go_wp2_with fail
 go_quiet (fail)
 generalize hW1:World.drewN w _=wa;have d1:Drawn w wa:=by rw[←hW1];exact(Drawn.refl _).drewN _
 clear k8 k7 k3;have HD1:=Lh d1;clear hW1 d1
 go_wp2_with fail;have hI0:∀V,RckA R w bb bh li bt (fun _=>false) V wa.drew:=fun V=>by
  have b0:=(HD1.out.drewN 1).below w.heap.size;constructor
  all_goals first
   |exact fun _=>b0
   |(intro h;cases h)
 refine zN [6,7,8,9,10,11,12,13,14,5,15,16,3,4] (RckA R w bb bh li bt) (by kernel_rfl) (by kernel_rfl) ?_ ?_ ?_
 ·exact hI0 _
 ·intro i o ho L V w1 hi hL hno h K hK;simp only[putAll,zi,zj,zc,ze,zd];rcases i with _|_|_|_|_|_|_|_|_|_|_|_|_|_|i
  ·obtain rfl:=sJ ho;clear hL hno
   go_simp;exact hK (zg V 6 _) _ _ (by simp[putAll,zg]) {h with e0:=fun _=>rfl}
  ·obtain rfl:=sJ ho;have e0:=h.e0 (hL ⟨0, .data⟩ (by simp) rfl)
   clear hL hno
   go_simp;exact hK (zg V 7 _) _ _ (by simp[putAll,zg,e0]) {h with e1:=fun _=>rfl}
  ·obtain rfl:=sJ ho;have e1:=h.e1 (hL ⟨1, .data⟩ (by simp) rfl)
   clear hL hno
   go_simp;exact hK (zg V 8 _) _ _ (by simp[putAll,zg,e1]) {h with e2:=fun _=>rfl}
  ·obtain rfl:=sJ ho;have e2:=h.e2 (hL ⟨2, .data⟩ (by simp) rfl)
   have ct:=(HKB.out.below (h.bel (hno 8 (by kernel_rfl))) HKB.out.lt).cellL 0 rfl
   clear hL hno
   go_simp;exact hK (zg V 9 _) _ _ (by simp[putAll,zg,e2]) {h with e3:=fun _=>rfl}
  ·obtain rfl:=sJ ho;clear hL hno
   go_simp;exact hK (zg V 10 _) _ _ (by simp[putAll,zg]) {h with e4:=fun _=>rfl}
  ·obtain rfl:=sJ ho;have e4:=h.e4 (hL ⟨4, .data⟩ (by simp) rfl)
   clear hL hno
   go_simp;exact hK (zg V 11 _) _ _ (by simp[putAll,zg,e4]) {h with e5:=fun _=>rfl}
  ·obtain rfl:=sJ ho;have e5:=h.e5 (hL ⟨5, .data⟩ (by simp) rfl)
   clear hL hno
   go_simp;exact hK (zg V 12 _) _ _ (by simp[putAll,zg,e5]) {h with e6:=fun _=>rfl}
  ·obtain rfl:=sJ ho;have e6:=h.e6 (hL ⟨6, .data⟩ (by simp) rfl)
   have ct:=(HKB.out.below (h.bel (hno 8 (by kernel_rfl))) HKB.out.lt).cellL 5 rfl
   clear hL hno
   go_simp;exact hK (zg V 13 _) _ _ (by simp[putAll,zg,e6]) {h with e7:=fun _=>rfl}
  ·obtain rfl:=sJ ho;have e3:=h.e3 (hL ⟨3, .data⟩ (by simp) rfl)
   have e7:=h.e7 (hL ⟨7, .data⟩ (by simp) rfl)
   have l9:=hno 9 (by kernel_rfl)
   have l10:=hno 10 (by kernel_rfl)
   have l11:=hno 11 (by kernel_rfl)
   have l12:=hno 12 (by kernel_rfl)
   have l13:=hno 13 (by kernel_rfl)
   clear hL hno;have hb:=h.bel hi;have HFc:=Lh (HF.out w1 hb)
   go_simp;refine HFc.out.mono ?_
   rintro e w3 ⟨gv,ec,rfl,hR⟩;refine hK (zg V 14 (.tuple #[gv, .int .i64 ec])) _ _ (by simp[putAll,zg,e3,e7]) ?_
   exact{h with
    bel:=nT_
    f8:=fun _=>⟨rfl,hR⟩
    e9:=nX_ l9
    e10:=nX_ l10
    e11:=nX_ l11
    e12:=nX_ l12
    e13:=nX_ l13}
  ·obtain rfl:=sJ ho;have h8:=h.f8 (hL ⟨8, .data⟩ (by simp) rfl)
   have e8:V 14=_:=h8.1
   obtain⟨gv,hgv⟩:∃g,gvOf (V 14)=g:=⟨_,rfl⟩;obtain⟨ec,hec⟩:∃g,ecOf (V 14)=g:=⟨_,rfl⟩;rw[hgv,hec]at e8;have Hgv:=Lh hgv;have Hec:=Lh hec;clear hL hno h8 hgv hec
   go_simp;refine hK (zg V 5 (.tuple #[gv, .int .i64 ec])) _ _ (by simp[putAll,zg,e8]) ?_
   exact{h with e9:=fun _=>by show Value.tuple _=Value.tuple #[gvOf (V 14), .int .i64 (ecOf (V 14))];rw[Hgv.out,Hec.out]}
  ·obtain rfl:=sJ ho;have e9:=h.e9 (hL ⟨9, .data⟩ (by simp) rfl)
   clear hL hno
   go_simp;refine hK (zg V 15 (gvOf (V 14))) _ _ (by simp[putAll,zg,e9]) ?_
   exact{h with e10:=fun _=>rfl}
  ·obtain rfl:=sJ ho;have e9:=h.e9 (hL ⟨9, .data⟩ (by simp) rfl)
   clear hL hno
   go_simp;refine hK (zg V 16 (.int .i64 (ecOf (V 14)))) _ _ (by simp[putAll,zg,e9]) ?_
   exact{h with e11:=fun _=>rfl}
  ·obtain rfl:=sJ ho;have e10:=h.e10 (hL ⟨10, .data⟩ (by simp) rfl)
   clear hL hno
   go_simp;refine hK (zg V 3 (gvOf (V 14))) _ _ (by simp[putAll,zg,e10]) ?_
   exact{h with e12:=fun _=>rfl}
  ·obtain rfl:=sJ ho;have e11:=h.e11 (hL ⟨11, .data⟩ (by simp) rfl)
   clear hL hno
   go_simp;refine hK (zg V 4 (.int .i64 (ecOf (V 14)))) _ _ (by simp[putAll,zg,e11]) ?_
   exact{h with e13:=fun _=>rfl}
  ·simp at ho
 ·clear hI0;intro L V w3 hL h;have h8:=h.f8 (hL 8 (by simp))
  have e4:=h.e12 (hL 12 (by simp))
  have e5:=h.e13 (hL 13 (by simp))
  clear h hL;simp only[putAll,zi,zj,zc,ze,zd];generalize gvOf (V 14)=gv at h8 e4;generalize ecOf (V 14)=ec at h8 e5;obtain⟨-,hRw⟩:=h8;obtain⟨kt,hec⟩:=HR.out gv ec w3 hRw;have HRw:=Lh hRw;have HKT:=Lh kt;clear hRw kt;rcases hec with⟨rfl,gA,gn,gc,rfl⟩|rfl
  ·have kt:=HKT.out;have f6:=kt.frozen 6;have k6:=kt.set 6 (.slice gA gn gc);simp only[zc,ze,zd]at k6;have O6:Only (fun q=>q=bt) w3 (w3.setCell ⟨bt,6,none⟩ (.slice gA gn gc)):=(Only.refl _ _).setCell _ _ fun _=>rfl
   have d6:=kt.cellL 6 rfl;have f8:=k6.frozen 8;have d8:=k6.cellL 8 rfl;have k8:=k6.set 8 (.bool true);simp only[zc,ze,zd]at k8;have O8:=O6.setCell ⟨bt,8,none⟩ (.bool true) fun _=>rfl
   have f7:=k8.frozen 7;have d7:=k8.cellL 7 rfl;have k9:=k8.set 7 (.int .i64 (0:Nat));simp only[zc,ze,zd]at k9;have O9:=O8.setCell ⟨bt,7,none⟩ (.int .i64 (0:Nat)) fun _=>rfl
   have HK9:=Lh k9;have HO9:=Lh O9;clear kt k6 k8 k9 O6 O8 O9;by_cases hlo:lo=0
   ·subst hlo;have HFN:=Lh (zg0 bt _ _ _ _ _ _ I li cI O 0 cO wh _ HK9.out hli hwh)
    go_wp2_with fail;refine HFN.out.mono ?_
    rintro e w6 ⟨rfl,g,k8',r8,hg,O8⟩;have HK8:=Lh k8';have HR8:=Lh r8;have HO8:Hid (Only (fun q=>q=bt) w3 w6):=HO9.out.trans O8
    have Hg:Hid (w3.heap.size≤g):=zy HO9.out.size hg
    clear k8' r8 O8 hg
    go_wp2_with fail
    go_ret;exact⟨true,rfl, .slice gA gn gc,0,w3,HRw.out, .inr (.inr ⟨rfl,rfl,rfl,HO8.out,g,HK8.out,HR8.out,Hg.out⟩)⟩
   ·have HFN:=Lh (zf9 bt _ _ _ _ _ _ _ _ O lo cO 0 _ HK9.out (by omega))
    go_wp2_with fail;refine HFN.out.mono ?_
    rintro e w6 ⟨rfl,d6⟩;have HK8:=Lh (HK9.out.below (d6.below _) HK9.out.lt);have HO8:=Lh (HO9.out.drawn d6);clear d6
    go_wp2_with fail
    go_ret;exact⟨true,rfl, .slice gA gn gc,0,w3,HRw.out, .inr (.inl ⟨rfl,rfl,by omega,HO8.out,HK8.out⟩)⟩
  ·go_wp2_with fail
   go_ret;exact⟨false,rfl,gv,70,w3,HRw.out, .inl ⟨by decide,rfl,Drawn.refl _⟩⟩
end Go.Proofs.YtpmlljbebdidgaaGreatDoor
