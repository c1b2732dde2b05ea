/- Lemmas and walks for the claim: Oa. -/
import Derived.Test.YtpmlljbebdidgaaGreatDoorA0
import Derived.Test.YtpmlljbebdidgaaGreatDoorA28
set_option linter.unusedSimpArgs false
set_option maxRecDepth 100000
set_option maxHeartbeats 40000000
namespace Go.Proofs.YtpmlljbebdidgaaGreatDoor
open Go.RowKit
def sel:Bool→Value→Value
 |true,v=>v
 |false,_=> .slice none 0 0
theorem zeq(n:Nat):madeCells #[Value.nilIface] n=(List.replicate n Value.nilIface).toArray:=by
 apply Array.ext'
 apply zbb
 ·simp[madeCells]
 ·intro j h1 h2;simp[madeCells,zc4]
theorem zle:(Tryz.prog.info? 120).map (fun i=>(i.zero,i.size,i.bytes))=some (some (.pointer none),1,8):=by kernel_rfl
theorem zib:(Tryz.prog.info? 155).map (fun i=>(i.zero,i.size,i.bytes))=some (some (.agg #[.pointer none]),1,8):=by kernel_rfl
theorem zlf:(Tryz.prog.info? 160).map (fun i=>(i.zero,i.size,i.bytes))=some (some (.pointer none),1,8):=by kernel_rfl
theorem zj5:(Tryz.prog.info? 159).map (fun i=>(i.zero,i.size,i.bytes))=some (some .nilIface,1,16):=by kernel_rfl
theorem zmC:(Tryz.prog.info? 157).map (fun i=>(i.zero,i.size,i.bytes))=some (some .nilIface,1,16):=by kernel_rfl
theorem zgz(g:Nat):∀u∈[Value.pointer (some ⟨g,0,none⟩)],u.oneCell'=true:=by intro u hu;simp at hu;subst hu;rfl
def zpB:Value→Nat
 | .pointer (some ad)=>ad.block
 |_=>0
def pgOf:Value→Nat
 | .tuple a=>zpB (a[0]?.getD (.bool false))
 |_=>0
def zbW(n:Nat):Code→Option Code
 | .region id ops d=>bif id==n then some (.region id ops d)else none
 | .seq a b=>match zbW n a with
   |some c=>some c
   |none=>zbW n b
 | .cond _ a b=>match zbW n a with
   |some c=>some c
   |none=>zbW n b
 | .block _ b=>zbW n b
 | .loop b=>zbW n b
 | .scope b=>zbW n b
 |_=>none
structure NewA(w0:World)(bt bb:Nat)(I:Option Addr)(li cI:Nat)(O:Option Addr)(lo cO:Nat)(L:Nat→Bool)(V:Nat→Value)(w:World):Prop where
 on:Only (fun q=>q=bt) w0 w
 kt:Blk w bt 125 #[.pointer (some ⟨bb,0,none⟩),sel (L 16) (V 77),sel (L 19) (V 83), .slice I li cI, .slice O lo cO, .slice none 0 0, .slice none 0 0, .int .i64 0, .bool false, .int .i64 0]
 f7:L 7=true→V 77= .slice (some ⟨gbOf (V 77),0,none⟩) li li∧Blk w (gbOf (V 77)) 159 (List.replicate li Value.nilIface).toArray∧w0.heap.size≤gbOf (V 77)
 f13:L 13=true→V 83= .slice (some ⟨gbOf (V 83),0,none⟩) lo lo∧Blk w (gbOf (V 83)) 157 (List.replicate lo Value.nilIface).toArray∧w0.heap.size≤gbOf (V 83)
 e0:L 0=true→V 70= .pointer (some ⟨bt,0,none⟩)
 e1:L 1=true→V 71= .pointer (some ⟨bt,0,none⟩)
 e2:L 2=true→V 72= .pointer (some ⟨bt,0,none⟩)
 e3:L 3=true→V 73= .pointer (some ⟨bt,0,none⟩)
 e4:L 4=true→V 74= .pointer (some ⟨bt,3,none⟩)
 e5:L 5=true→V 75= .slice I li cI
 e6:L 6=true→V 76= .int .i64 (li:Nat)
 e8:L 8=true→V 78= .pointer (some ⟨bt,0,none⟩)
 e9:L 9=true→V 79= .pointer (some ⟨bt,0,none⟩)
 e10:L 10=true→V 80= .pointer (some ⟨bt,4,none⟩)
 e11:L 11=true→V 81= .slice O lo cO
 e12:L 12=true→V 82= .int .i64 (lo:Nat)
 e14:L 14=true→V 84= .pointer (some ⟨bt,0,none⟩)
 e15:L 15=true→V 85= .pointer (some ⟨bt,1,none⟩)
 e17:L 17=true→V 86= .pointer (some ⟨bt,0,none⟩)
 e18:L 18=true→V 87= .pointer (some ⟨bt,2,none⟩)
theorem zoZ{u0 u1 u2 u3 u4 u5 u6 u7 u8 u9 u10 u11 u13 u14 u15 u16 u17 u18 u19 u20 u21 u22 u23 u24 u25 u26 u27 u28 u29 u30 u31 u32 u33 u34 u35 u36 u37 u38 u39 u40 u41 u42 u43 u44 u45 u46 u47 u48 u49 u50 u51 u52 u53 u54 u55 u56 u57 u58 u59 u60 u61 u62 u63 u64 u65 u66 u67 u68 u69 u70 u71 u72 u73 u74 u75 u76 u77 u78 u79 u80 u81 u82 u83 u84 u85 u86 u87 u88 u89 u90 u91 u92 u93 u94 u95 u96 u97 u98 u99 u100 u101 u102 u103 u104 u105 u106 u107 u108 u109 u110 u111 u112 u113 u114 u115 u116 u117 u118 u119 u120 u121 u122 u123 u124 u125 u126 u127 u128 u129 u130 u131 u132 u133 u134 u135 u136 u137 u138 u139 u140 u141 u142 u143 u144 u145 u146 u147 u148 u149 u150 u151 u152 u153 u154 u155 u156 u157 u158 u159 u160 u161 u162 u163 u164 u165 u166 u167 u168 u169 u170 u171 u172 u173 u174 u175 u176 u177 u178 u179 u180 u181 u182 u183 u184 u185 u186 u187 u188 u189 u190 u191 u192 u193 u194 u195 u196 u197 u198 u199 u200 u201 u202 u203 u204 u205 u206 u207 u208 u209 u210 u211 u212 u213 u214 u215 u216 u217 u218 u219 u220 u221 u222 u223 u224 u225 u226 u227 u228 u229 u230 u231 u232 u233 u234 u235 u236 u237 u238 u239 u240 u241 u242:Value}{c:Code}{Q:Exit→Act→World→Prop}{W5:World}{bt bb:Nat}{I:Option Addr}{li cI:Nat}{O:Option Addr}{lo cO:Nat}(hc: Tryz.f41.body.bind (zbW 15)=some c)(hI0:∀V,NewA W5 bt bb I li cI O lo cO (fun _=>false) V W5.drew)
  (hli16:li≤16) (hlo16:lo≤16)
  (hend:∀(L:Nat→Bool) (V:Nat→Value) (w':World),(∀i,i<20→L i=true)→NewA W5 bt bb I li cI O lo cO L V w'→Q .normal (putAll ⟨#[u0,u1,u2,u3,u4,u5,u6,u7,u8,u9,u10,u11, .pointer (some ⟨bt,0,none⟩),u13,u14,u15,u16,u17,u18,u19,u20,u21,u22,u23,u24,u25,u26,u27,u28,u29,u30,u31,u32,u33,u34,u35,u36,u37,u38,u39,u40,u41,u42,u43,u44,u45,u46,u47,u48,u49,u50,u51,u52,u53,u54,u55,u56,u57,u58,u59,u60,u61,u62,u63,u64,u65,u66,u67,u68,u69,u70,u71,u72,u73,u74,u75,u76,u77,u78,u79,u80,u81,u82,u83,u84,u85,u86,u87,u88,u89,u90,u91,u92,u93,u94,u95,u96,u97,u98,u99,u100,u101,u102,u103,u104,u105,u106,u107,u108,u109,u110,u111,u112,u113,u114,u115,u116,u117,u118,u119,u120,u121,u122,u123,u124,u125,u126,u127,u128,u129,u130,u131,u132,u133,u134,u135,u136,u137,u138,u139,u140,u141,u142,u143,u144,u145,u146,u147,u148,u149,u150,u151,u152,u153,u154,u155,u156,u157,u158,u159,u160,u161,u162,u163,u164,u165,u166,u167,u168,u169,u170,u171,u172,u173,u174,u175,u176,u177,u178,u179,u180,u181,u182,u183,u184,u185,u186,u187,u188,u189,u190,u191,u192,u193,u194,u195,u196,u197,u198,u199,u200,u201,u202,u203,u204,u205,u206,u207,u208,u209,u210,u211,u212,u213,u214,u215,u216,u217,u218,u219,u220,u221,u222,u223,u224,u225,u226,u227,u228,u229,u230,u231,u232,u233,u234,u235,u236,u237,u238,u239,u240,u241,u242],[]⟩ [70,71,72,73,74,75,76,77,78,79,80,81,82,83,84,85,86,87] V) w'):c.wp Tryz.prog Q ⟨#[u0,u1,u2,u3,u4,u5,u6,u7,u8,u9,u10,u11, .pointer (some ⟨bt,0,none⟩),u13,u14,u15,u16,u17,u18,u19,u20,u21,u22,u23,u24,u25,u26,u27,u28,u29,u30,u31,u32,u33,u34,u35,u36,u37,u38,u39,u40,u41,u42,u43,u44,u45,u46,u47,u48,u49,u50,u51,u52,u53,u54,u55,u56,u57,u58,u59,u60,u61,u62,u63,u64,u65,u66,u67,u68,u69,u70,u71,u72,u73,u74,u75,u76,u77,u78,u79,u80,u81,u82,u83,u84,u85,u86,u87,u88,u89,u90,u91,u92,u93,u94,u95,u96,u97,u98,u99,u100,u101,u102,u103,u104,u105,u106,u107,u108,u109,u110,u111,u112,u113,u114,u115,u116,u117,u118,u119,u120,u121,u122,u123,u124,u125,u126,u127,u128,u129,u130,u131,u132,u133,u134,u135,u136,u137,u138,u139,u140,u141,u142,u143,u144,u145,u146,u147,u148,u149,u150,u151,u152,u153,u154,u155,u156,u157,u158,u159,u160,u161,u162,u163,u164,u165,u166,u167,u168,u169,u170,u171,u172,u173,u174,u175,u176,u177,u178,u179,u180,u181,u182,u183,u184,u185,u186,u187,u188,u189,u190,u191,u192,u193,u194,u195,u196,u197,u198,u199,u200,u201,u202,u203,u204,u205,u206,u207,u208,u209,u210,u211,u212,u213,u214,u215,u216,u217,u218,u219,u220,u221,u222,u223,u224,u225,u226,u227,u228,u229,u230,u231,u232,u233,u234,u235,u236,u237,u238,u239,u240,u241,u242],[]⟩ W5:=by
 simp only[Tryz.f41,zbW,zcg,Nat.reduceBEq,cond_true,cond_false,zX]at hc;subst hc;have hmF:=run_make_row' (P:= Tryz.prog) 122 159 .nilIface 16 Tryz.underlying122 zj5 rfl .i64 .i64 li (by omega) (by omega)
 have hmT:=run_make_row' (P:= Tryz.prog) 123 157 .nilIface 16 Tryz.underlying123 zmC rfl .i64 .i64 lo (by omega) (by omega)
 refine zN [70,71,72,73,74,75,76,77,78,79,80,81,82,83,84,85,86,87] (NewA W5 bt bb I li cI O lo cO) (by kernel_rfl) (by kernel_rfl) ?_ ?_ ?_
 ·exact hI0 _
 ·intro i o ho L V w1 hi hL hno h K hK;simp only[putAll,zi,zj,zc,ze,zd];rcases i with _|_|_|_|_|_|_|_|_|_|_|_|_|_|_|_|_|_|_|_|i
  ·obtain rfl:=sJ ho;clear hL hno
   go_simp;exact hK (zg V 70 _) _ _ (by simp[putAll,zg]) {h with e0:=fun _=>rfl}
  ·obtain rfl:=sJ ho;clear hL hno
   go_simp;exact hK (zg V 71 _) _ _ (by simp[putAll,zg]) {h with e1:=fun _=>rfl}
  ·obtain rfl:=sJ ho;clear hL hno
   go_simp;exact hK (zg V 72 _) _ _ (by simp[putAll,zg]) {h with e2:=fun _=>rfl}
  ·obtain rfl:=sJ ho;have e2:=h.e2 (hL ⟨2, .data⟩ (by simp) rfl)
   clear hL hno
   go_simp;exact hK (zg V 73 _) _ _ (by simp[putAll,zg,e2]) {h with e3:=fun _=>rfl}
  ·obtain rfl:=sJ ho;have e3:=h.e3 (hL ⟨3, .data⟩ (by simp) rfl)
   clear hL hno
   go_simp;exact hK (zg V 74 _) _ _ (by simp[putAll,zg,e3]) {h with e4:=fun _=>rfl}
  ·obtain rfl:=sJ ho;have e4:=h.e4 (hL ⟨4, .data⟩ (by simp) rfl)
   have ct:=h.kt.cellL 3 rfl;clear hL hno
   go_simp;exact hK (zg V 75 _) _ _ (by simp[putAll,zg,e4]) {h with e5:=fun _=>rfl}
  ·obtain rfl:=sJ ho;have e5:=h.e5 (hL ⟨5, .data⟩ (by simp) rfl)
   clear hL hno
   go_simp;exact hK (zg V 76 _) _ _ (by simp[putAll,zg,e5]) {h with e6:=fun _=>rfl}
  ·obtain rfl:=sJ ho;have e6:=h.e6 (hL ⟨6, .data⟩ (by simp) rfl)
   have l16:=hno 16 (by kernel_rfl)
   clear hL hno;have hb:=bA_ w1 (.cells (madeCells #[.nilIface] li) 159);have kn:=Blk.new w1 _ rfl 159 (madeCells #[.nilIface] li);rw[zeq]at kn;have hz:=h.on.size;have kt:=h.kt.below hb h.kt.lt
   go_simp;refine hK (zg V 77 (.slice (some ⟨w1.heap.size,0,none⟩) li li)) _ _ (by simp[putAll,zg,e6]) ?_
   exact{h with
    on:=h.on.trans (Only.of_below hb)
    kt:=by rw[l16]at kt;show Blk _ _ _ #[.pointer (some ⟨bb,0,none⟩),sel (L 16) _,sel (L 19) _, .slice I li cI, .slice O lo cO, .slice none 0 0, .slice none 0 0, .int .i64 0, .bool false, .int .i64 0];rw[l16];exact kt
    f7:=fun _=>⟨rfl,by rw[zeq];exact kn,hz⟩
    f13:=fun hn=>⟨(h.f13 hn).1,(h.f13 hn).2.1.below hb (h.f13 hn).2.1.lt,(h.f13 hn).2.2⟩}
  ·obtain rfl:=sJ ho;clear hL hno
   go_simp;exact hK (zg V 78 _) _ _ (by simp[putAll,zg]) {h with e8:=fun _=>rfl}
  ·obtain rfl:=sJ ho;have e8:=h.e8 (hL ⟨8, .data⟩ (by simp) rfl)
   clear hL hno
   go_simp;exact hK (zg V 79 _) _ _ (by simp[putAll,zg,e8]) {h with e9:=fun _=>rfl}
  ·obtain rfl:=sJ ho;have e9:=h.e9 (hL ⟨9, .data⟩ (by simp) rfl)
   clear hL hno
   go_simp;exact hK (zg V 80 _) _ _ (by simp[putAll,zg,e9]) {h with e10:=fun _=>rfl}
  ·obtain rfl:=sJ ho;have e10:=h.e10 (hL ⟨10, .data⟩ (by simp) rfl)
   have ct:=h.kt.cellL 4 rfl;clear hL hno
   go_simp;exact hK (zg V 81 _) _ _ (by simp[putAll,zg,e10]) {h with e11:=fun _=>rfl}
  ·obtain rfl:=sJ ho;have e11:=h.e11 (hL ⟨11, .data⟩ (by simp) rfl)
   clear hL hno
   go_simp;exact hK (zg V 82 _) _ _ (by simp[putAll,zg,e11]) {h with e12:=fun _=>rfl}
  ·obtain rfl:=sJ ho;have e12:=h.e12 (hL ⟨12, .data⟩ (by simp) rfl)
   have l19:=hno 19 (by kernel_rfl)
   clear hL hno;have hb:=bA_ w1 (.cells (madeCells #[.nilIface] lo) 157);have kn:=Blk.new w1 _ rfl 157 (madeCells #[.nilIface] lo);rw[zeq]at kn;have hz:=h.on.size;have kt:=h.kt.below hb h.kt.lt
   go_simp;refine hK (zg V 83 (.slice (some ⟨w1.heap.size,0,none⟩) lo lo)) _ _ (by simp[putAll,zg,e12]) ?_
   exact{h with
    on:=h.on.trans (Only.of_below hb)
    kt:=by rw[l19]at kt;show Blk _ _ _ #[.pointer (some ⟨bb,0,none⟩),sel (L 16) _,sel (L 19) _, .slice I li cI, .slice O lo cO, .slice none 0 0, .slice none 0 0, .int .i64 0, .bool false, .int .i64 0];rw[l19];exact kt
    f13:=fun _=>⟨rfl,by rw[zeq];exact kn,hz⟩
    f7:=fun hn=>⟨(h.f7 hn).1,(h.f7 hn).2.1.below hb (h.f7 hn).2.1.lt,(h.f7 hn).2.2⟩}
  ·obtain rfl:=sJ ho;have e0:=h.e0 (hL ⟨0, .data⟩ (by simp) rfl)
   clear hL hno
   go_simp;exact hK (zg V 84 _) _ _ (by simp[putAll,zg,e0]) {h with e14:=fun _=>rfl}
  ·obtain rfl:=sJ ho;have e14:=h.e14 (hL ⟨14, .data⟩ (by simp) rfl)
   clear hL hno
   go_simp;exact hK (zg V 85 _) _ _ (by simp[putAll,zg,e14]) {h with e15:=fun _=>rfl}
  ·obtain rfl:=sJ ho;have e15:=h.e15 (hL ⟨15, .data⟩ (by simp) rfl)
   have hq:=h.f7 (hL ⟨7, .data⟩ (by simp) rfl)
   have l7:L 7=true:=hL ⟨7, .data⟩ (by simp) rfl
   have kt:=h.kt;rw[hi]at kt;clear hL hno;have ct:=kt.cellL 1 rfl;have fr:=kt.frozen 1;have k2:=kt.set 1 (V 77);simp only[zc,ze,zd]at k2;have ho:=h.on.setCell ⟨bt,1,none⟩ (V 77) fun _=>rfl
   have hf:∀{g:Nat} {T:TypeId} {cs:Array Value}, 125 ≠T→Blk w1 g T cs→Blk (w1.setCell ⟨bt,1,none⟩ (V 77)) g T cs:=fun hn hb=>hb.setOther kt (Ne.symm hn) 1 (V 77)
   have e1:=hq.1;generalize gbOf (V 77)=b9 at e1;have hv:w1.setCell ⟨bt,1,none⟩ (V 77)=w1.setCell ⟨bt,1,none⟩ (.slice (some ⟨b9,0,none⟩) li li):=by rw[e1]
   rw[hv]at k2 ho hf;clear hv kt hq
   go_simp;refine hK V _ _ (by simp[putAll,e15,e1]) ?_
   exact{h with
    on:=ho
    kt:=k2
    f7:=fun hn=>⟨(h.f7 hn).1,hf (by decide) (h.f7 hn).2.1,(h.f7 hn).2.2⟩
    f13:=fun hn=>⟨(h.f13 hn).1,hf (by decide) (h.f13 hn).2.1,(h.f13 hn).2.2⟩}
  ·obtain rfl:=sJ ho;have e1:=h.e1 (hL ⟨1, .data⟩ (by simp) rfl)
   clear hL hno
   go_simp;exact hK (zg V 86 _) _ _ (by simp[putAll,zg,e1]) {h with e17:=fun _=>rfl}
  ·obtain rfl:=sJ ho;have e17:=h.e17 (hL ⟨17, .data⟩ (by simp) rfl)
   clear hL hno
   go_simp;exact hK (zg V 87 _) _ _ (by simp[putAll,zg,e17]) {h with e18:=fun _=>rfl}
  ·obtain rfl:=sJ ho;have e18:=h.e18 (hL ⟨18, .data⟩ (by simp) rfl)
   have hq:=h.f13 (hL ⟨13, .data⟩ (by simp) rfl)
   have l13:L 13=true:=hL ⟨13, .data⟩ (by simp) rfl
   have kt:=h.kt;rw[hi]at kt;clear hL hno;have ct:=kt.cellL 2 rfl;have fr:=kt.frozen 2;have k2:=kt.set 2 (V 83);simp only[zc,ze,zd]at k2;have ho:=h.on.setCell ⟨bt,2,none⟩ (V 83) fun _=>rfl
   have hf:∀{g:Nat} {T:TypeId} {cs:Array Value}, 125 ≠T→Blk w1 g T cs→Blk (w1.setCell ⟨bt,2,none⟩ (V 83)) g T cs:=fun hn hb=>hb.setOther kt (Ne.symm hn) 2 (V 83)
   have e1:=hq.1;generalize gbOf (V 83)=b9 at e1;have hv:w1.setCell ⟨bt,2,none⟩ (V 83)=w1.setCell ⟨bt,2,none⟩ (.slice (some ⟨b9,0,none⟩) lo lo):=by rw[e1]
   rw[hv]at k2 ho hf;clear hv kt hq
   go_simp;refine hK V _ _ (by simp[putAll,e18,e1]) ?_
   exact{h with
    on:=ho
    kt:=k2
    f7:=fun hn=>⟨(h.f7 hn).1,hf (by decide) (h.f7 hn).2.1,(h.f7 hn).2.2⟩
    f13:=fun hn=>⟨(h.f13 hn).1,hf (by decide) (h.f13 hn).2.1,(h.f13 hn).2.2⟩}
  ·simp at ho
 ·intro L V w' hL h;exact hend L V w' hL h
structure QueA(R:Nat→World→Prop)(w0:World)(cb co lC cC k:Nat)(cap:Int)(ga:Nat)(S:Option Addr)(lS cS:Nat)(L:Nat→Bool)(V:Nat→Value)(w:World):Prop where
 bel:L 6=false→Below w0.heap.size w0 w
 f6:L 6=true→V 116= .tuple #[.pointer (some ⟨pgOf (V 116),0,none⟩), .int .i64 0]∧R (pgOf (V 116)) w
 e7:L 7=true→V 109= .tuple #[.pointer (some ⟨pgOf (V 116),0,none⟩), .int .i64 0]
 e0:L 0=true→V 110= .slice (some ⟨cb,co,none⟩) lC cC
 e1:L 1=true→V 111= .int .i64 (k:Nat)
 e2:L 2=true→V 112= .pointer (some ⟨cb,co+k,none⟩)
 e3:L 3=true→V 113= .int .i64 cap
 e4:L 4=true→V 114= .pointer (some ⟨ga,4,none⟩)
 e5:L 5=true→V 115= .slice S lS cS
 e8:L 8=true→V 117= .pointer (some ⟨pgOf (V 116),0,none⟩)
 e9:L 9=true→V 118= .int .i64 0
 e10:L 10=true→V 15= .pointer (some ⟨pgOf (V 116),0,none⟩)
 e11:L 11=true→V 16= .int .i64 0
theorem zo0{u0 u2 u3 u4 u5 u6 u7 u8 u9 u10 u11 u12 u15 u16 u17 u18 u19 u20 u21 u22 u23 u24 u25 u26 u27 u28 u29 u30 u31 u32 u33 u34 u35 u36 u37 u38 u39 u40 u41 u42 u43 u44 u45 u46 u47 u48 u49 u50 u51 u52 u53 u54 u55 u56 u57 u58 u59 u60 u61 u62 u63 u64 u65 u66 u67 u68 u69 u70 u71 u72 u73 u74 u75 u76 u77 u78 u79 u80 u81 u82 u83 u84 u85 u86 u87 u88 u89 u90 u91 u92 u93 u94 u95 u96 u97 u98 u99 u100 u101 u102 u103 u104 u105 u106 u107 u108 u109 u110 u111 u112 u113 u114 u115 u116 u117 u118 u119 u120 u121 u122 u123 u124 u125 u126 u127 u128 u129 u130 u131 u132 u133 u134 u135 u136 u137 u138 u139 u140 u141 u142 u143 u144 u145 u146 u147 u148 u149 u150 u151 u152 u153 u154 u155 u156 u157 u158 u159 u160 u161 u162 u163 u164 u165 u166 u167 u168 u169 u170 u171 u172 u173 u174 u175 u176 u177 u178 u179 u180 u181 u182 u183 u184 u185 u186 u187 u188 u189 u190 u191 u192 u193 u194 u195 u196 u197 u198 u199 u200 u201 u202 u203 u204 u205 u206 u207 u208 u209 u210 u211 u212 u213 u214 u215 u216 u217 u218 u219 u220 u221 u222 u223 u224 u225 u226 u227 u228 u229 u230 u231 u232 u233 u234 u235 u236 u237 u238 u239 u240 u241 u242:Value}{c:Code}{Q:Exit→Act→World→Prop}{W2:World}{R:Nat→World→Prop}{cb co lC cC k:Nat}{cap:Int}{ga:Nat}{S:Option Addr}{lS cS f fp t tp:Nat}(hc: Tryz.f41.body.bind (zbW 22)=some c)(hI0:∀V,QueA R W2 cb co lC cC k cap ga S lS cS (fun _=>false) V W2.drew)
  (h3:(0:Int)≤(k:Int)) (h4:(k:Int)<(lC:Int)) (hcb:cb<W2.heap.size) (HCc:Hid (W2.cell? ⟨cb,co+k,none⟩=some (.int .i64 cap))) (HKX:Hid (Blk W2 ga 69 #[.int .i64 f, .int .i64 fp, .int .i64 t, .int .i64 tp, .slice S lS cS])) (HF:Hid (∀w',Below W2.heap.size W2 w'→Calls Tryz.prog 63 #[.int .i64 cap, .slice S lS cS] w' fun e w''=>∃g9,e= .returned (.tuple #[.pointer (some ⟨g9,0,none⟩), .int .i64 0])∧R g9 w''))
  (hend:∀(L:Nat→Bool) (V:Nat→Value) (w':World),(∀i,i<12→L i=true)→QueA R W2 cb co lC cC k cap ga S lS cS L V w'→Q .normal (putAll ⟨#[u0, .slice (some ⟨cb,co,none⟩) lC cC,u2,u3,u4,u5,u6,u7,u8,u9,u10,u11,u12, .int .i64 (k:Nat), .pointer (some ⟨ga,0,none⟩),u15,u16,u17,u18,u19,u20,u21,u22,u23,u24,u25,u26,u27,u28,u29,u30,u31,u32,u33,u34,u35,u36,u37,u38,u39,u40,u41,u42,u43,u44,u45,u46,u47,u48,u49,u50,u51,u52,u53,u54,u55,u56,u57,u58,u59,u60,u61,u62,u63,u64,u65,u66,u67,u68,u69,u70,u71,u72,u73,u74,u75,u76,u77,u78,u79,u80,u81,u82,u83,u84,u85,u86,u87,u88,u89,u90,u91,u92,u93,u94,u95,u96,u97,u98,u99,u100,u101,u102,u103,u104,u105,u106,u107,u108,u109,u110,u111,u112,u113,u114,u115,u116,u117,u118,u119,u120,u121,u122,u123,u124,u125,u126,u127,u128,u129,u130,u131,u132,u133,u134,u135,u136,u137,u138,u139,u140,u141,u142,u143,u144,u145,u146,u147,u148,u149,u150,u151,u152,u153,u154,u155,u156,u157,u158,u159,u160,u161,u162,u163,u164,u165,u166,u167,u168,u169,u170,u171,u172,u173,u174,u175,u176,u177,u178,u179,u180,u181,u182,u183,u184,u185,u186,u187,u188,u189,u190,u191,u192,u193,u194,u195,u196,u197,u198,u199,u200,u201,u202,u203,u204,u205,u206,u207,u208,u209,u210,u211,u212,u213,u214,u215,u216,u217,u218,u219,u220,u221,u222,u223,u224,u225,u226,u227,u228,u229,u230,u231,u232,u233,u234,u235,u236,u237,u238,u239,u240,u241,u242],[]⟩ [110,111,112,113,114,115,116,109,117,118,15,16] V) w'):c.wp Tryz.prog Q ⟨#[u0, .slice (some ⟨cb,co,none⟩) lC cC,u2,u3,u4,u5,u6,u7,u8,u9,u10,u11,u12, .int .i64 (k:Nat), .pointer (some ⟨ga,0,none⟩),u15,u16,u17,u18,u19,u20,u21,u22,u23,u24,u25,u26,u27,u28,u29,u30,u31,u32,u33,u34,u35,u36,u37,u38,u39,u40,u41,u42,u43,u44,u45,u46,u47,u48,u49,u50,u51,u52,u53,u54,u55,u56,u57,u58,u59,u60,u61,u62,u63,u64,u65,u66,u67,u68,u69,u70,u71,u72,u73,u74,u75,u76,u77,u78,u79,u80,u81,u82,u83,u84,u85,u86,u87,u88,u89,u90,u91,u92,u93,u94,u95,u96,u97,u98,u99,u100,u101,u102,u103,u104,u105,u106,u107,u108,u109,u110,u111,u112,u113,u114,u115,u116,u117,u118,u119,u120,u121,u122,u123,u124,u125,u126,u127,u128,u129,u130,u131,u132,u133,u134,u135,u136,u137,u138,u139,u140,u141,u142,u143,u144,u145,u146,u147,u148,u149,u150,u151,u152,u153,u154,u155,u156,u157,u158,u159,u160,u161,u162,u163,u164,u165,u166,u167,u168,u169,u170,u171,u172,u173,u174,u175,u176,u177,u178,u179,u180,u181,u182,u183,u184,u185,u186,u187,u188,u189,u190,u191,u192,u193,u194,u195,u196,u197,u198,u199,u200,u201,u202,u203,u204,u205,u206,u207,u208,u209,u210,u211,u212,u213,u214,u215,u216,u217,u218,u219,u220,u221,u222,u223,u224,u225,u226,u227,u228,u229,u230,u231,u232,u233,u234,u235,u236,u237,u238,u239,u240,u241,u242],[]⟩ W2:=by
 simp only[Tryz.f41,zbW,zcg,Nat.reduceBEq,cond_true,cond_false,zX]at hc;subst hc;refine zN [110,111,112,113,114,115,116,109,117,118,15,16] (QueA R W2 cb co lC cC k cap ga S lS cS) (by kernel_rfl) (by kernel_rfl) ?_ ?_ ?_
 ·exact hI0 _
 ·intro i o ho L V w1 hi hL hno h K hK;simp only[putAll,zi,zj,zc,ze,zd];rcases i with _|_|_|_|_|_|_|_|_|_|_|_|i
  ·obtain rfl:=sJ ho;clear hL hno
   go_simp;exact hK (zg V 110 _) _ _ (by simp[putAll,zg]) {h with e0:=fun _=>rfl}
  ·obtain rfl:=sJ ho;clear hL hno
   go_simp;exact hK (zg V 111 _) _ _ (by simp[putAll,zg]) {h with e1:=fun _=>rfl}
  ·obtain rfl:=sJ ho;have e0:=h.e0 (hL ⟨0, .data⟩ (by simp) rfl)
   have e1:=h.e1 (hL ⟨1, .data⟩ (by simp) rfl)
   have q1:=h3;have q2:=h4;clear hL hno
   go_simp;exact hK (zg V 112 _) _ _ (by simp[putAll,zg,e0,e1]) {h with e2:=fun _=>rfl}
  ·obtain rfl:=sJ ho;have e2:=h.e2 (hL ⟨2, .data⟩ (by simp) rfl)
   have ct:=((h.bel (hno 6 (by kernel_rfl))).cell (p:=⟨cb,co+k,none⟩) hcb).trans HCc.out
   clear hL hno
   go_simp;exact hK (zg V 113 _) _ _ (by simp[putAll,zg,e2]) {h with e3:=fun _=>rfl}
  ·obtain rfl:=sJ ho;clear hL hno
   go_simp;exact hK (zg V 114 _) _ _ (by simp[putAll,zg]) {h with e4:=fun _=>rfl}
  ·obtain rfl:=sJ ho;have e4:=h.e4 (hL ⟨4, .data⟩ (by simp) rfl)
   have ct:=(HKX.out.below (h.bel (hno 6 (by kernel_rfl))) HKX.out.lt).cellL 4 rfl
   clear hL hno
   go_simp;exact hK (zg V 115 _) _ _ (by simp[putAll,zg,e4]) {h with e5:=fun _=>rfl}
  ·obtain rfl:=sJ ho;have e3:=h.e3 (hL ⟨3, .data⟩ (by simp) rfl)
   have e5:=h.e5 (hL ⟨5, .data⟩ (by simp) rfl)
   have l7:=hno 7 (by kernel_rfl)
   have l8:=hno 8 (by kernel_rfl)
   have l9:=hno 9 (by kernel_rfl)
   have l10:=hno 10 (by kernel_rfl)
   have l11:=hno 11 (by kernel_rfl)
   clear hL hno;have HFc:=Lh (HF.out w1 (h.bel hi))
   go_simp;refine HFc.out.mono ?_
   rintro e w3 ⟨g9,rfl,hR⟩;refine hK (zg V 116 (.tuple #[.pointer (some ⟨g9,0,none⟩), .int .i64 0])) _ _ (by simp[putAll,zg,e3,e5]) ?_
   exact{h with
    bel:=nT_
    f6:=fun _=>⟨rfl,hR⟩
    e7:=nX_ l7
    e8:=nX_ l8
    e10:=nX_ l10}
  ·obtain rfl:=sJ ho;have h6:=h.f6 (hL ⟨6, .data⟩ (by simp) rfl)
   have e6:V 116=_:=h6.1
   obtain⟨g9,hg9⟩:∃g,pgOf (V 116)=g:=⟨_,rfl⟩;rw[hg9]at e6;have Hg9:=Lh hg9;clear hL hno h6 hg9
   go_simp;refine hK (zg V 109 (.tuple #[.pointer (some ⟨g9,0,none⟩), .int .i64 0])) _ _ (by simp[putAll,zg,e6]) ?_
   exact{h with e7:=fun _=>by show Value.tuple _=Value.tuple #[.pointer (some ⟨pgOf (V 116),0,none⟩), .int .i64 0];rw[Hg9.out]}
  ·obtain rfl:=sJ ho;have e7:=h.e7 (hL ⟨7, .data⟩ (by simp) rfl)
   clear hL hno
   go_simp;refine hK (zg V 117 (.pointer (some ⟨pgOf (V 116),0,none⟩))) _ _ (by simp[putAll,zg,e7]) ?_
   exact{h with e8:=fun _=>rfl}
  ·obtain rfl:=sJ ho;have e7:=h.e7 (hL ⟨7, .data⟩ (by simp) rfl)
   clear hL hno
   go_simp;exact hK (zg V 118 _) _ _ (by simp[putAll,zg,e7]) {h with e9:=fun _=>rfl}
  ·obtain rfl:=sJ ho;have e8:=h.e8 (hL ⟨8, .data⟩ (by simp) rfl)
   clear hL hno
   go_simp;refine hK (zg V 15 (.pointer (some ⟨pgOf (V 116),0,none⟩))) _ _ (by simp[putAll,zg,e8]) ?_
   exact{h with e10:=fun _=>rfl}
  ·obtain rfl:=sJ ho;have e9:=h.e9 (hL ⟨9, .data⟩ (by simp) rfl)
   clear hL hno
   go_simp;exact hK (zg V 16 _) _ _ (by simp[putAll,zg,e9]) {h with e11:=fun _=>rfl}
  ·simp at ho
 ·intro L V w' hL h;exact hend L V w' hL h
structure EdgA(w0:World)(rg:Nat)(tl:Value)(Ae:Option Addr)(k ce:Nat)(il pl:Value)(gc qg:Nat)(gs:List Value)(L:Nat→Bool)(V:Nat→Value)(w:World):Prop where
 on:Only (fun q=>q=rg∨(Value.slice Ae k ce).ownBlock=some q) w0 w
 kr:L 10=false→Blk w rg 119 #[tl, .slice Ae k ce,il,pl, .int .i64 (-1)]
 kr2:L 10=true→Blk w rg 119 #[tl,V 130,il,pl, .int .i64 (-1)]
 kc:Blk w gc 155 #[.pointer (some ⟨qg,0,none⟩)]
 o0:L 7=false→w.ownsRow 0 155 1 (.slice Ae k ce) k gs
 f6:L 6=true→L 7=false→V 129= .slice (some ⟨gbOf (V 129),0,none⟩) 1 1∧Rd w w.heap.size (some ⟨gbOf (V 129),0,none⟩) [Value.pointer (some ⟨qg,0,none⟩)]
 f7:L 7=true→V 130= .slice (sAddr (V 130)) (k+1) (sCap (V 130))∧w.ownsRow 0 155 1 (V 130) (k+1) (gs++[Value.pointer (some ⟨qg,0,none⟩)])∧∀b,(V 130).ownBlock=some b→(Value.slice Ae k ce).ownBlock=some b∨w0.heap.size≤b
 e0:L 0=true→V 123= .pointer (some ⟨rg,0,none⟩)
 e1:L 1=true→V 124= .pointer (some ⟨rg,0,none⟩)
 e2:L 2=true→V 125= .pointer (some ⟨rg,0,none⟩)
 e3:L 3=true→V 126= .pointer (some ⟨rg,1,none⟩)
 e4:L 4=true→V 127= .slice Ae k ce
 e5:L 5=true→V 128= .agg #[.pointer (some ⟨qg,0,none⟩)]
 e8:L 8=true→V 131= .pointer (some ⟨rg,0,none⟩)
 e9:L 9=true→V 132= .pointer (some ⟨rg,1,none⟩)
theorem zo1{u0 u1 u2 u3 u4 u5 u6 u8 u9 u10 u11 u12 u13 u14 u15 u16 u18 u19 u20 u21 u22 u23 u24 u25 u26 u27 u28 u29 u30 u31 u32 u33 u34 u35 u36 u37 u38 u39 u40 u41 u42 u43 u44 u45 u46 u47 u48 u49 u50 u51 u52 u53 u54 u55 u56 u57 u58 u59 u60 u61 u62 u63 u64 u65 u66 u67 u68 u69 u70 u71 u72 u73 u74 u75 u76 u77 u78 u79 u80 u81 u82 u83 u84 u85 u86 u87 u88 u89 u90 u91 u92 u93 u94 u95 u96 u97 u98 u99 u100 u101 u102 u103 u104 u105 u106 u107 u108 u109 u110 u111 u112 u113 u114 u115 u116 u117 u118 u119 u120 u121 u122 u123 u124 u125 u126 u127 u128 u129 u130 u131 u132 u133 u134 u135 u136 u137 u138 u139 u140 u141 u142 u143 u144 u145 u146 u147 u148 u149 u150 u151 u152 u153 u154 u155 u156 u157 u158 u159 u160 u161 u162 u163 u164 u165 u166 u167 u168 u169 u170 u171 u172 u173 u174 u175 u176 u177 u178 u179 u180 u181 u182 u183 u184 u185 u186 u187 u188 u189 u190 u191 u192 u193 u194 u195 u196 u197 u198 u199 u200 u201 u202 u203 u204 u205 u206 u207 u208 u209 u210 u211 u212 u213 u214 u215 u216 u217 u218 u219 u220 u221 u222 u223 u224 u225 u226 u227 u228 u229 u230 u231 u232 u233 u234 u235 u236 u237 u238 u239 u240 u241 u242:Value}{c:Code}{Q:Exit→Act→World→Prop}{W4:World}{rg:Nat}{tl:Value}{Ae:Option Addr}{k ce:Nat}{il pl:Value}{gc qg:Nat}{gs:List Value}(hc: Tryz.f41.body.bind (zbW 26)=some c)(hI0:∀V,EdgA W4 rg tl Ae k ce il pl gc qg gs (fun _=>false) V W4.drew)
  (hne:some gc≠(Value.slice Ae k ce).ownBlock) (hk96:k≤96)
  (hend:∀(L:Nat→Bool) (V:Nat→Value) (w':World),(∀i,i<11→L i=true)→EdgA W4 rg tl Ae k ce il pl gc qg gs L V w'→Q .normal (putAll ⟨#[u0,u1,u2,u3,u4,u5,u6, .pointer (some ⟨rg,0,none⟩),u8,u9,u10,u11,u12,u13,u14,u15,u16, .pointer (some ⟨gc,0,none⟩),u18,u19,u20,u21,u22,u23,u24,u25,u26,u27,u28,u29,u30,u31,u32,u33,u34,u35,u36,u37,u38,u39,u40,u41,u42,u43,u44,u45,u46,u47,u48,u49,u50,u51,u52,u53,u54,u55,u56,u57,u58,u59,u60,u61,u62,u63,u64,u65,u66,u67,u68,u69,u70,u71,u72,u73,u74,u75,u76,u77,u78,u79,u80,u81,u82,u83,u84,u85,u86,u87,u88,u89,u90,u91,u92,u93,u94,u95,u96,u97,u98,u99,u100,u101,u102,u103,u104,u105,u106,u107,u108,u109,u110,u111,u112,u113,u114,u115,u116,u117,u118,u119,u120,u121,u122,u123,u124,u125,u126,u127,u128,u129,u130,u131,u132,u133,u134,u135,u136,u137,u138,u139,u140,u141,u142,u143,u144,u145,u146,u147,u148,u149,u150,u151,u152,u153,u154,u155,u156,u157,u158,u159,u160,u161,u162,u163,u164,u165,u166,u167,u168,u169,u170,u171,u172,u173,u174,u175,u176,u177,u178,u179,u180,u181,u182,u183,u184,u185,u186,u187,u188,u189,u190,u191,u192,u193,u194,u195,u196,u197,u198,u199,u200,u201,u202,u203,u204,u205,u206,u207,u208,u209,u210,u211,u212,u213,u214,u215,u216,u217,u218,u219,u220,u221,u222,u223,u224,u225,u226,u227,u228,u229,u230,u231,u232,u233,u234,u235,u236,u237,u238,u239,u240,u241,u242],[]⟩ [123,124,125,126,127,128,129,130,131,132] V) w'):c.wp Tryz.prog Q ⟨#[u0,u1,u2,u3,u4,u5,u6, .pointer (some ⟨rg,0,none⟩),u8,u9,u10,u11,u12,u13,u14,u15,u16, .pointer (some ⟨gc,0,none⟩),u18,u19,u20,u21,u22,u23,u24,u25,u26,u27,u28,u29,u30,u31,u32,u33,u34,u35,u36,u37,u38,u39,u40,u41,u42,u43,u44,u45,u46,u47,u48,u49,u50,u51,u52,u53,u54,u55,u56,u57,u58,u59,u60,u61,u62,u63,u64,u65,u66,u67,u68,u69,u70,u71,u72,u73,u74,u75,u76,u77,u78,u79,u80,u81,u82,u83,u84,u85,u86,u87,u88,u89,u90,u91,u92,u93,u94,u95,u96,u97,u98,u99,u100,u101,u102,u103,u104,u105,u106,u107,u108,u109,u110,u111,u112,u113,u114,u115,u116,u117,u118,u119,u120,u121,u122,u123,u124,u125,u126,u127,u128,u129,u130,u131,u132,u133,u134,u135,u136,u137,u138,u139,u140,u141,u142,u143,u144,u145,u146,u147,u148,u149,u150,u151,u152,u153,u154,u155,u156,u157,u158,u159,u160,u161,u162,u163,u164,u165,u166,u167,u168,u169,u170,u171,u172,u173,u174,u175,u176,u177,u178,u179,u180,u181,u182,u183,u184,u185,u186,u187,u188,u189,u190,u191,u192,u193,u194,u195,u196,u197,u198,u199,u200,u201,u202,u203,u204,u205,u206,u207,u208,u209,u210,u211,u212,u213,u214,u215,u216,u217,u218,u219,u220,u221,u222,u223,u224,u225,u226,u227,u228,u229,u230,u231,u232,u233,u234,u235,u236,u237,u238,u239,u240,u241,u242],[]⟩ W4:=by
 simp only[Tryz.f41,zbW,zcg,Nat.reduceBEq,cond_true,cond_false,zX]at hc;subst hc;obtain⟨ic,hic,cz0,cz1,cz2⟩:=info_parts zib;refine zN [123,124,125,126,127,128,129,130,131,132] (EdgA W4 rg tl Ae k ce il pl gc qg gs) (by kernel_rfl) (by kernel_rfl) ?_ ?_ ?_
 ·exact hI0 _
 ·intro i o ho L V w1 hi hL hno h K hK;rcases i with _|_|_|_|_|_|_|_|_|_|_|i
  ·obtain rfl:=sJ ho;simp only[putAll,zi,zj,zc,ze,zd];clear hL hno
   go_simp;exact hK (zg V 123 _) _ _ (by simp[putAll,zg]) {h with e0:=fun _=>rfl}
  ·obtain rfl:=sJ ho;simp only[putAll,zi,zj,zc,ze,zd];clear hL hno
   go_simp;exact hK (zg V 124 _) _ _ (by simp[putAll,zg]) {h with e1:=fun _=>rfl}
  ·obtain rfl:=sJ ho;simp only[putAll,zi,zj,zc,ze,zd];have e1:=h.e1 (hL ⟨1, .data⟩ (by simp) rfl)
   clear hL hno
   go_simp;exact hK (zg V 125 _) _ _ (by simp[putAll,zg,e1]) {h with e2:=fun _=>rfl}
  ·obtain rfl:=sJ ho;simp only[putAll,zi,zj,zc,ze,zd];have e2:=h.e2 (hL ⟨2, .data⟩ (by simp) rfl)
   clear hL hno
   go_simp;exact hK (zg V 126 _) _ _ (by simp[putAll,zg,e2]) {h with e3:=fun _=>rfl}
  ·obtain rfl:=sJ ho;simp only[putAll,zi,zj,zc,ze,zd];have e3:=h.e3 (hL ⟨3, .data⟩ (by simp) rfl)
   have ct:=(h.kr (hno 10 (by kernel_rfl))).cellL 1 rfl
   clear hL hno
   go_simp;exact hK (zg V 127 _) _ _ (by simp[putAll,zg,e3]) {h with e4:=fun _=>rfl}
  ·obtain rfl:=sJ ho;simp only[putAll,zi,zj,zc,ze,zd];have ct:=h.kc.cellL 0 rfl;clear hL hno
   go_simp;exact hK (zg V 128 _) _ _ (by simp[putAll,zg]) {h with e5:=fun _=>rfl}
  ·obtain rfl:=sJ ho;have e5:=h.e5 (hL ⟨5, .data⟩ (by simp) rfl)
   have l7:=hno 7 (by kernel_rfl)
   have l10:=hno 10 (by kernel_rfl)
   clear hL hno;simp only[putAll,zi,zj,zc,ze,zd];have hb:=bA_ w1 (.cells #[.pointer (some ⟨qg,0,none⟩)] 155);have hnew:=zal w1 _ rfl 155 [Value.pointer (some ⟨qg,0,none⟩)]
   go_simp;refine hK (zg V 129 (.slice (some ⟨w1.heap.size,0,none⟩) 1 1)) _ _ (by simp[putAll,zg,e5]) ?_
   exact{h with
    on:=h.on.trans (Only.of_below hb)
    kr:=fun hn=>(h.kr hn).below hb (h.kr hn).lt
    kr2:=nX_ l10
    kc:=h.kc.below hb h.kc.lt
    o0:=fun hn=>own_below (h.o0 hn) hb
    f6:=fun _ _=>⟨rfl,hnew.more (by simp)⟩
    f7:=nX_ l7}
  ·obtain rfl:=sJ ho;have e4:=h.e4 (hL ⟨4, .data⟩ (by simp) rfl)
   have h6:=h.f6 (hL ⟨6, .data⟩ (by simp) rfl) hi
   have l10:=hno 10 (by kernel_rfl)
   clear hL hno;have ho:=h.o0 hi;have kr:=h.kr l10;refine zaQ rfl (.tmp 127) (.tmp 129) 116 rfl 0 155 ic (.agg #[.pointer none]) 1 8 Tryz.underlying116 hic cz0 cz1 cz2 rfl (by decide) (V 127) k gs (by simp[putAll,Act.eval]) (by rw[e4];exact ho) w1.heap.size (some ⟨gbOf (V 129),0,none⟩) 1 1 [Value.pointer (some ⟨qg,0,none⟩)] (by simp[putAll,Act.eval];exact h6.1) rfl h6.2 (zgz qg) (by unfold maxLen;omega) (by omega) (zJ _) ?_
   intro v' w2 o2 g2 hv2;have ha:=zdg o2;rw[e4]at g2 hv2;have hnr:some rg≠(Value.slice Ae k ce).ownBlock:=own_ne ho kr (by decide)
   have on2:=h.on.grown g2 fun q _ hq=> .inr hq
   have sz:=h.on.size;refine hK (zg V 130 v') _ _ (by simp[putAll,Act.put,zg]) ?_
   exact{h with
    on:=on2
    kr:=fun _=>kr.grown g2 hnr
    kr2:=nX_ l10
    kc:=h.kc.grown g2 hne
    o0:=nT_
    f6:=fun _ hn=>(by cases hn)
    f7:=fun _=>⟨ha,o2,fun b hb=>by
     rcases hv2 with h2|h2
     ·exact .inl (h2▸hb)
     ·have h3:=h2.symm.trans hb;injection h3 with h3;exact .inr (by omega)⟩}
  ·obtain rfl:=sJ ho;simp only[putAll,zi,zj,zc,ze,zd];have e0:=h.e0 (hL ⟨0, .data⟩ (by simp) rfl)
   clear hL hno
   go_simp;exact hK (zg V 131 _) _ _ (by simp[putAll,zg,e0]) {h with e8:=fun _=>rfl}
  ·obtain rfl:=sJ ho;simp only[putAll,zi,zj,zc,ze,zd];have e8:=h.e8 (hL ⟨8, .data⟩ (by simp) rfl)
   clear hL hno
   go_simp;exact hK (zg V 132 _) _ _ (by simp[putAll,zg,e8]) {h with e9:=fun _=>rfl}
  ·obtain rfl:=sJ ho;have e9:=h.e9 (hL ⟨9, .data⟩ (by simp) rfl)
   have l7:L 7=true:=hL ⟨7, .data⟩ (by simp) rfl
   have h7:=h.f7 l7;have kr:=h.kr hi;clear hL hno;simp only[putAll,zi,zj,zc,ze,zd];have ct:=kr.cellL 1 rfl;have fr:=kr.frozen 1;have k2:=kr.set 1 (V 130);simp only[zc,ze,zd]at k2;have on2:=h.on.setCell ⟨rg,1,none⟩ (V 130) fun _=> .inl rfl
   have kc2:=h.kc.setOther kr (by decide) 1 (V 130)
   have o3:=zap h7.2.1 kr (by decide) 1 (V 130)
   have H7:=Lh h7;have e7:=h7.1;generalize sAddr (V 130)=A9 at e7;generalize sCap (V 130)=c9 at e7;have hv:w1.setCell ⟨rg,1,none⟩ (V 130)=w1.setCell ⟨rg,1,none⟩ (.slice A9 (k+1) c9):=by rw[e7]
   rw[hv]at k2 on2 kc2 o3;clear hv kr h7
   go_simp;refine hK V _ _ (by simp[putAll,e9,e7]) ?_
   exact{h with
    on:=on2
    kr:=nT_
    kr2:=fun _=>k2
    kc:=kc2
    o0:=fun hn=>(by cases (hn.symm.trans l7))
    f6:=fun _ hn=>(by cases (hn.symm.trans l7))
    f7:=fun _=>⟨H7.out.1,o3,H7.out.2.2⟩}
  ·simp at ho
 ·intro L V w' hL h;exact hend L V w' hL h
end Go.Proofs.YtpmlljbebdidgaaGreatDoor
