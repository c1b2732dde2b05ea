/- Lemmas and walks for the claim: Ob, Oc. -/
import Derived.Test.YtpmlljbebdidgaaGreatDoorA0
import Derived.Test.YtpmlljbebdidgaaGreatDoorA30
set_option linter.unusedSimpArgs false
set_option maxRecDepth 100000
set_option maxHeartbeats 40000000
namespace Go.Proofs.YtpmlljbebdidgaaGreatDoor
open Go.RowKit
structure LnkA(w0:World)(rg:Nat)(crg:List Value)(gt nA ctl:Nat)(gs:List Value)(btf:Nat)(cf:Array Value)(btt:Nat)(cts:Array Value)(ga:Nat)(cx:List Value)(gc qg bo bf lo li f fp t tp:Nat)(curO curS:Array Value)(L:Nat→Bool)(V:Nat→Value)(w:World):Prop where
 on:Only (fun q=>q=bo∨q=bf) w0 w
 kr:Blk w rg 119 (.slice (some ⟨gt,0,none⟩) nA ctl::crg).toArray
 tr:w.ownsRow 0 120 1 (.slice (some ⟨gt,0,none⟩) nA ctl) nA gs
 kf:Blk w btf 125 cf
 kt:Blk w btt 125 cts
 kx:Blk w ga 69 (.int .i64 (f:Nat):: .int .i64 (fp:Nat):: .int .i64 (t:Nat):: .int .i64 (tp:Nat)::cx).toArray
 kc:Blk w gc 155 #[.pointer (some ⟨qg,0,none⟩)]
 o0:L 31=false→Blk w bo 157 curO
 o1:L 31=true→Blk w bo 157 (curO.setIfInBounds fp (.iface 155 (.agg #[.pointer (some ⟨qg,0,none⟩)])))
 s0:L 33=false→Blk w bf 159 curS
 s1:L 33=true→Blk w bf 159 (curS.setIfInBounds tp (.iface 155 (.agg #[.pointer (some ⟨qg,0,none⟩)])))
 e0:L 0=true→V 133= .pointer (some ⟨rg,0,none⟩)
 e1:L 1=true→V 134= .pointer (some ⟨rg,0,none⟩)
 e2:L 2=true→V 135= .pointer (some ⟨rg,0,none⟩)
 e3:L 3=true→V 136= .slice (some ⟨gt,0,none⟩) nA ctl
 e4:L 4=true→V 137= .pointer (some ⟨ga,0,none⟩)
 e5:L 5=true→V 138= .int .i64 (f:Nat)
 e6:L 6=true→V 139= .pointer (some ⟨gt,f,none⟩)
 e7:L 7=true→V 140= .pointer (some ⟨btf,0,none⟩)
 e8:L 8=true→V 141= .pointer (some ⟨btf,0,none⟩)
 e9:L 9=true→V 142= .pointer (some ⟨btf,2,none⟩)
 e10:L 10=true→V 143= .slice (some ⟨bo,0,none⟩) lo lo
 e11:L 11=true→V 144= .pointer (some ⟨ga,1,none⟩)
 e12:L 12=true→V 145= .int .i64 (fp:Nat)
 e13:L 13=true→V 146= .pointer (some ⟨rg,0,none⟩)
 e14:L 14=true→V 147= .pointer (some ⟨rg,0,none⟩)
 e15:L 15=true→V 148= .pointer (some ⟨rg,0,none⟩)
 e16:L 16=true→V 149= .slice (some ⟨gt,0,none⟩) nA ctl
 e17:L 17=true→V 150= .pointer (some ⟨ga,2,none⟩)
 e18:L 18=true→V 151= .int .i64 (t:Nat)
 e19:L 19=true→V 152= .pointer (some ⟨gt,t,none⟩)
 e20:L 20=true→V 153= .pointer (some ⟨btt,0,none⟩)
 e21:L 21=true→V 154= .pointer (some ⟨btt,0,none⟩)
 e22:L 22=true→V 155= .pointer (some ⟨btt,1,none⟩)
 e23:L 23=true→V 156= .slice (some ⟨bf,0,none⟩) li li
 e24:L 24=true→V 157= .pointer (some ⟨ga,3,none⟩)
 e25:L 25=true→V 158= .int .i64 (tp:Nat)
 e26:L 26=true→V 159= .agg #[.pointer (some ⟨qg,0,none⟩)]
 e27:L 27=true→V 160= .iface 155 (.agg #[.pointer (some ⟨qg,0,none⟩)])
 e28:L 28=true→V 161= .agg #[.pointer (some ⟨qg,0,none⟩)]
 e29:L 29=true→V 162= .iface 155 (.agg #[.pointer (some ⟨qg,0,none⟩)])
 e30:L 30=true→V 163= .pointer (some ⟨bo,fp,none⟩)
 e32:L 32=true→V 164= .pointer (some ⟨bf,tp,none⟩)
theorem zo2{u0 u1 u2 u3 u4 u5 u6 u8 u9 u10 u11 u12 u13 u15 u16 u18 u19 u20 u21 u22 u23 u24 u25 u26 u27 u28 u29 u30 u31 u32 u33 u34 u35 u36 u37 u38 u39 u40 u41 u42 u43 u44 u45 u46 u47 u48 u49 u50 u51 u52 u53 u54 u55 u56 u57 u58 u59 u60 u61 u62 u63 u64 u65 u66 u67 u68 u69 u70 u71 u72 u73 u74 u75 u76 u77 u78 u79 u80 u81 u82 u83 u84 u85 u86 u87 u88 u89 u90 u91 u92 u93 u94 u95 u96 u97 u98 u99 u100 u101 u102 u103 u104 u105 u106 u107 u108 u109 u110 u111 u112 u113 u114 u115 u116 u117 u118 u119 u120 u121 u122 u123 u124 u125 u126 u127 u128 u129 u130 u131 u132 u133 u134 u135 u136 u137 u138 u139 u140 u141 u142 u143 u144 u145 u146 u147 u148 u149 u150 u151 u152 u153 u154 u155 u156 u157 u158 u159 u160 u161 u162 u163 u164 u165 u166 u167 u168 u169 u170 u171 u172 u173 u174 u175 u176 u177 u178 u179 u180 u181 u182 u183 u184 u185 u186 u187 u188 u189 u190 u191 u192 u193 u194 u195 u196 u197 u198 u199 u200 u201 u202 u203 u204 u205 u206 u207 u208 u209 u210 u211 u212 u213 u214 u215 u216 u217 u218 u219 u220 u221 u222 u223 u224 u225 u226 u227 u228 u229 u230 u231 u232 u233 u234 u235 u236 u237 u238 u239 u240 u241 u242:Value}{c:Code}{Q:Exit→Act→World→Prop}{w5:World}{rg:Nat}{crg:List Value}{gt nA ctl:Nat}{gs2:List Value}{btf:Nat}{cf:Array Value}{btt:Nat}{cts:Array Value}{ga:Nat}{cx:List Value}{gc qg bo bf lo li f fp t tp:Nat}{curO curS:Array Value}{xO xS:Value}(hc: Tryz.f41.body.bind (zbW 27)=some c)(hI0:∀V,LnkA w5 rg crg gt nA ctl gs2 btf cf btt cts ga cx gc qg bo bf lo li f fp t tp curO curS (fun _=>false) V w5.drew)
  (hf0:(0:Int)≤(f:Int)) (hf1:(f:Int)<(nA:Int)) (hft:Hid (gs2[f]?=some (.pointer (some ⟨btf,0,none⟩)))) (ht0:(0:Int)≤(t:Int)) (ht1:(t:Int)<(nA:Int)) (htt:Hid (gs2[t]?=some (.pointer (some ⟨btt,0,none⟩)))) (hfc:Hid (cf[2]?=some (.slice (some ⟨bo,0,none⟩) lo lo))) (htc:Hid (cts[1]?=some (.slice (some ⟨bf,0,none⟩) li li))) (hco:Hid (curO[fp]?=some xO)) (hcs:Hid (curS[tp]?=some xS)) (hfp0:(0:Int)≤(fp:Int)) (hfp1:(fp:Int)<(lo:Int)) (htp0:(0:Int)≤(tp:Int)) (htp1:(tp:Int)<(li:Int))
  (hend:∀(L:Nat→Bool) (V:Nat→Value) (w':World),(∀i,i<34→L i=true)→LnkA w5 rg crg gt nA ctl gs2 btf cf btt cts ga cx gc qg bo bf lo li f fp t tp curO curS L V w'→Q .normal (putAll ⟨#[u0,u1,u2,u3,u4,u5,u6, .pointer (some ⟨rg,0,none⟩),u8,u9,u10,u11,u12,u13, .pointer (some ⟨ga,0,none⟩),u15,u16, .pointer (some ⟨gc,0,none⟩),u18,u19,u20,u21,u22,u23,u24,u25,u26,u27,u28,u29,u30,u31,u32,u33,u34,u35,u36,u37,u38,u39,u40,u41,u42,u43,u44,u45,u46,u47,u48,u49,u50,u51,u52,u53,u54,u55,u56,u57,u58,u59,u60,u61,u62,u63,u64,u65,u66,u67,u68,u69,u70,u71,u72,u73,u74,u75,u76,u77,u78,u79,u80,u81,u82,u83,u84,u85,u86,u87,u88,u89,u90,u91,u92,u93,u94,u95,u96,u97,u98,u99,u100,u101,u102,u103,u104,u105,u106,u107,u108,u109,u110,u111,u112,u113,u114,u115,u116,u117,u118,u119,u120,u121,u122,u123,u124,u125,u126,u127,u128,u129,u130,u131,u132,u133,u134,u135,u136,u137,u138,u139,u140,u141,u142,u143,u144,u145,u146,u147,u148,u149,u150,u151,u152,u153,u154,u155,u156,u157,u158,u159,u160,u161,u162,u163,u164,u165,u166,u167,u168,u169,u170,u171,u172,u173,u174,u175,u176,u177,u178,u179,u180,u181,u182,u183,u184,u185,u186,u187,u188,u189,u190,u191,u192,u193,u194,u195,u196,u197,u198,u199,u200,u201,u202,u203,u204,u205,u206,u207,u208,u209,u210,u211,u212,u213,u214,u215,u216,u217,u218,u219,u220,u221,u222,u223,u224,u225,u226,u227,u228,u229,u230,u231,u232,u233,u234,u235,u236,u237,u238,u239,u240,u241,u242],[]⟩ [133,134,135,136,137,138,139,140,141,142,143,144,145,146,147,148,149,150,151,152,153,154,155,156,157,158,159,160,161,162,163,164] V) w'):c.wp Tryz.prog Q ⟨#[u0,u1,u2,u3,u4,u5,u6, .pointer (some ⟨rg,0,none⟩),u8,u9,u10,u11,u12,u13, .pointer (some ⟨ga,0,none⟩),u15,u16, .pointer (some ⟨gc,0,none⟩),u18,u19,u20,u21,u22,u23,u24,u25,u26,u27,u28,u29,u30,u31,u32,u33,u34,u35,u36,u37,u38,u39,u40,u41,u42,u43,u44,u45,u46,u47,u48,u49,u50,u51,u52,u53,u54,u55,u56,u57,u58,u59,u60,u61,u62,u63,u64,u65,u66,u67,u68,u69,u70,u71,u72,u73,u74,u75,u76,u77,u78,u79,u80,u81,u82,u83,u84,u85,u86,u87,u88,u89,u90,u91,u92,u93,u94,u95,u96,u97,u98,u99,u100,u101,u102,u103,u104,u105,u106,u107,u108,u109,u110,u111,u112,u113,u114,u115,u116,u117,u118,u119,u120,u121,u122,u123,u124,u125,u126,u127,u128,u129,u130,u131,u132,u133,u134,u135,u136,u137,u138,u139,u140,u141,u142,u143,u144,u145,u146,u147,u148,u149,u150,u151,u152,u153,u154,u155,u156,u157,u158,u159,u160,u161,u162,u163,u164,u165,u166,u167,u168,u169,u170,u171,u172,u173,u174,u175,u176,u177,u178,u179,u180,u181,u182,u183,u184,u185,u186,u187,u188,u189,u190,u191,u192,u193,u194,u195,u196,u197,u198,u199,u200,u201,u202,u203,u204,u205,u206,u207,u208,u209,u210,u211,u212,u213,u214,u215,u216,u217,u218,u219,u220,u221,u222,u223,u224,u225,u226,u227,u228,u229,u230,u231,u232,u233,u234,u235,u236,u237,u238,u239,u240,u241,u242],[]⟩ w5:=by
 simp only[Tryz.f41,zbW,zcg,Nat.reduceBEq,cond_true,cond_false,zX]at hc;subst hc;refine zN [133,134,135,136,137,138,139,140,141,142,143,144,145,146,147,148,149,150,151,152,153,154,155,156,157,158,159,160,161,162,163,164] (LnkA w5 rg crg gt nA ctl gs2 btf cf btt cts ga cx gc qg bo bf lo li f fp t tp curO curS) (by kernel_rfl) (by kernel_rfl) ?_ ?_ ?_
 ·exact hI0 _
 ·intro i o ho L V w1 hi hL hno h K hK;simp only[putAll,zi,zj,zc,ze,zd];rcases i with _|_|_|_|_|_|_|_|_|_|_|_|_|_|_|_|_|_|_|_|_|_|_|_|_|_|_|_|_|_|_|_|_|_|i
  ·obtain rfl:=sJ ho;clear hL hno
   go_simp;exact hK (zg V 133 _) _ _ (by simp[putAll,zg]) {h with e0:=fun _=>rfl}
  ·obtain rfl:=sJ ho;have e0:=h.e0 (hL ⟨0, .data⟩ (by simp) rfl)
   clear hL hno
   go_simp;exact hK (zg V 134 _) _ _ (by simp[putAll,zg,e0]) {h with e1:=fun _=>rfl}
  ·obtain rfl:=sJ ho;have e1:=h.e1 (hL ⟨1, .data⟩ (by simp) rfl)
   clear hL hno
   go_simp;exact hK (zg V 135 _) _ _ (by simp[putAll,zg,e1]) {h with e2:=fun _=>rfl}
  ·obtain rfl:=sJ ho;have e2:=h.e2 (hL ⟨2, .data⟩ (by simp) rfl)
   have ct:=h.kr.cellL 0 rfl;clear hL hno
   go_simp;exact hK (zg V 136 _) _ _ (by simp[putAll,zg,e2]) {h with e3:=fun _=>rfl}
  ·obtain rfl:=sJ ho;clear hL hno
   go_simp;exact hK (zg V 137 _) _ _ (by simp[putAll,zg]) {h with e4:=fun _=>rfl}
  ·obtain rfl:=sJ ho;have e4:=h.e4 (hL ⟨4, .data⟩ (by simp) rfl)
   have ct:=h.kx.cellL 0 rfl;clear hL hno
   go_simp;exact hK (zg V 138 _) _ _ (by simp[putAll,zg,e4]) {h with e5:=fun _=>rfl}
  ·obtain rfl:=sJ ho;have e3:=h.e3 (hL ⟨3, .data⟩ (by simp) rfl)
   have e5:=h.e5 (hL ⟨5, .data⟩ (by simp) rfl)
   have q1:=hf0;have q2:=hf1;clear hL hno
   go_simp;exact hK (zg V 139 _) _ _ (by simp[putAll,zg,e3,e5]) {h with e6:=fun _=>rfl}
  ·obtain rfl:=sJ ho;have e6:=h.e6 (hL ⟨6, .data⟩ (by simp) rfl)
   have xt:w1.cell? ⟨gt,f,none⟩=some (.pointer (some ⟨btf,0,none⟩)):=by rw[h.tr.cellAt f (by omega)];exact hft.out
   clear hL hno
   go_simp;exact hK (zg V 140 _) _ _ (by simp[putAll,zg,e6]) {h with e7:=fun _=>rfl}
  ·obtain rfl:=sJ ho;have e7:=h.e7 (hL ⟨7, .data⟩ (by simp) rfl)
   clear hL hno
   go_simp;exact hK (zg V 141 _) _ _ (by simp[putAll,zg,e7]) {h with e8:=fun _=>rfl}
  ·obtain rfl:=sJ ho;have e8:=h.e8 (hL ⟨8, .data⟩ (by simp) rfl)
   clear hL hno
   go_simp;exact hK (zg V 142 _) _ _ (by simp[putAll,zg,e8]) {h with e9:=fun _=>rfl}
  ·obtain rfl:=sJ ho;have e9:=h.e9 (hL ⟨9, .data⟩ (by simp) rfl)
   have xt:=h.kf.cell 2;rw[hfc.out]at xt;clear hL hno
   go_simp;exact hK (zg V 143 _) _ _ (by simp[putAll,zg,e9]) {h with e10:=fun _=>rfl}
  ·obtain rfl:=sJ ho;clear hL hno
   go_simp;exact hK (zg V 144 _) _ _ (by simp[putAll,zg]) {h with e11:=fun _=>rfl}
  ·obtain rfl:=sJ ho;have e11:=h.e11 (hL ⟨11, .data⟩ (by simp) rfl)
   have ct:=h.kx.cellL 1 rfl;clear hL hno
   go_simp;exact hK (zg V 145 _) _ _ (by simp[putAll,zg,e11]) {h with e12:=fun _=>rfl}
  ·obtain rfl:=sJ ho;clear hL hno
   go_simp;exact hK (zg V 146 _) _ _ (by simp[putAll,zg]) {h with e13:=fun _=>rfl}
  ·obtain rfl:=sJ ho;have e13:=h.e13 (hL ⟨13, .data⟩ (by simp) rfl)
   clear hL hno
   go_simp;exact hK (zg V 147 _) _ _ (by simp[putAll,zg,e13]) {h with e14:=fun _=>rfl}
  ·obtain rfl:=sJ ho;have e14:=h.e14 (hL ⟨14, .data⟩ (by simp) rfl)
   clear hL hno
   go_simp;exact hK (zg V 148 _) _ _ (by simp[putAll,zg,e14]) {h with e15:=fun _=>rfl}
  ·obtain rfl:=sJ ho;have e15:=h.e15 (hL ⟨15, .data⟩ (by simp) rfl)
   have ct:=h.kr.cellL 0 rfl;clear hL hno
   go_simp;exact hK (zg V 149 _) _ _ (by simp[putAll,zg,e15]) {h with e16:=fun _=>rfl}
  ·obtain rfl:=sJ ho;clear hL hno
   go_simp;exact hK (zg V 150 _) _ _ (by simp[putAll,zg]) {h with e17:=fun _=>rfl}
  ·obtain rfl:=sJ ho;have e17:=h.e17 (hL ⟨17, .data⟩ (by simp) rfl)
   have ct:=h.kx.cellL 2 rfl;clear hL hno
   go_simp;exact hK (zg V 151 _) _ _ (by simp[putAll,zg,e17]) {h with e18:=fun _=>rfl}
  ·obtain rfl:=sJ ho;have e16:=h.e16 (hL ⟨16, .data⟩ (by simp) rfl)
   have e18:=h.e18 (hL ⟨18, .data⟩ (by simp) rfl)
   have q1:=ht0;have q2:=ht1;clear hL hno
   go_simp;exact hK (zg V 152 _) _ _ (by simp[putAll,zg,e16,e18]) {h with e19:=fun _=>rfl}
  ·obtain rfl:=sJ ho;have e19:=h.e19 (hL ⟨19, .data⟩ (by simp) rfl)
   have xt:w1.cell? ⟨gt,t,none⟩=some (.pointer (some ⟨btt,0,none⟩)):=by rw[h.tr.cellAt t (by omega)];exact htt.out
   clear hL hno
   go_simp;exact hK (zg V 153 _) _ _ (by simp[putAll,zg,e19]) {h with e20:=fun _=>rfl}
  ·obtain rfl:=sJ ho;have e20:=h.e20 (hL ⟨20, .data⟩ (by simp) rfl)
   clear hL hno
   go_simp;exact hK (zg V 154 _) _ _ (by simp[putAll,zg,e20]) {h with e21:=fun _=>rfl}
  ·obtain rfl:=sJ ho;have e21:=h.e21 (hL ⟨21, .data⟩ (by simp) rfl)
   clear hL hno
   go_simp;exact hK (zg V 155 _) _ _ (by simp[putAll,zg,e21]) {h with e22:=fun _=>rfl}
  ·obtain rfl:=sJ ho;have e22:=h.e22 (hL ⟨22, .data⟩ (by simp) rfl)
   have xt:=h.kt.cell 1;rw[htc.out]at xt;clear hL hno
   go_simp;exact hK (zg V 156 _) _ _ (by simp[putAll,zg,e22]) {h with e23:=fun _=>rfl}
  ·obtain rfl:=sJ ho;clear hL hno
   go_simp;exact hK (zg V 157 _) _ _ (by simp[putAll,zg]) {h with e24:=fun _=>rfl}
  ·obtain rfl:=sJ ho;have e24:=h.e24 (hL ⟨24, .data⟩ (by simp) rfl)
   have ct:=h.kx.cellL 3 rfl;clear hL hno
   go_simp;exact hK (zg V 158 _) _ _ (by simp[putAll,zg,e24]) {h with e25:=fun _=>rfl}
  ·obtain rfl:=sJ ho;have ct:=h.kc.cellL 0 rfl;clear hL hno
   go_simp;exact hK (zg V 159 _) _ _ (by simp[putAll,zg]) {h with e26:=fun _=>rfl}
  ·obtain rfl:=sJ ho;have e26:=h.e26 (hL ⟨26, .data⟩ (by simp) rfl)
   clear hL hno
   go_simp;exact hK (zg V 160 _) _ _ (by simp[putAll,zg,e26]) {h with e27:=fun _=>rfl}
  ·obtain rfl:=sJ ho;have ct:=h.kc.cellL 0 rfl;clear hL hno
   go_simp;exact hK (zg V 161 _) _ _ (by simp[putAll,zg]) {h with e28:=fun _=>rfl}
  ·obtain rfl:=sJ ho;have e28:=h.e28 (hL ⟨28, .data⟩ (by simp) rfl)
   clear hL hno
   go_simp;exact hK (zg V 162 _) _ _ (by simp[putAll,zg,e28]) {h with e29:=fun _=>rfl}
  ·obtain rfl:=sJ ho;have e10:=h.e10 (hL ⟨10, .data⟩ (by simp) rfl)
   have e12:=h.e12 (hL ⟨12, .data⟩ (by simp) rfl)
   have q1:=hfp0;have q2:=hfp1;clear hL hno
   go_simp;exact hK (zg V 163 _) _ _ (by simp[putAll,zg,e10,e12]) {h with e30:=fun _=>rfl}
  ·obtain rfl:=sJ ho;have e30:=h.e30 (hL ⟨30, .data⟩ (by simp) rfl)
   have e27:=h.e27 (hL ⟨27, .data⟩ (by simp) rfl)
   have K:=h.o0 hi;clear hL hno;have xt:=K.cell fp;have fr:=K.frozen fp;rw[hco.out]at xt
   go_simp;refine hK V _ _ (by simp[putAll,e30,e27]) ?_
   exact{h with
    on:=h.on.setCell ⟨bo,fp,none⟩ (.iface 155 (.agg #[.pointer (some ⟨qg,0,none⟩)])) fun _=> .inl rfl
    kr:=h.kr.setOther K (by decide) fp (.iface 155 (.agg #[.pointer (some ⟨qg,0,none⟩)]))
    tr:=zap h.tr K (by decide) fp (.iface 155 (.agg #[.pointer (some ⟨qg,0,none⟩)]))
    kx:=h.kx.setOther K (by decide) fp (.iface 155 (.agg #[.pointer (some ⟨qg,0,none⟩)]))
    o0:=nT_
    o1:=fun _=>K.set fp (.iface 155 (.agg #[.pointer (some ⟨qg,0,none⟩)]))
    kf:=h.kf.setOther K (by decide) fp (.iface 155 (.agg #[.pointer (some ⟨qg,0,none⟩)]))
    kt:=h.kt.setOther K (by decide) fp (.iface 155 (.agg #[.pointer (some ⟨qg,0,none⟩)]))
    kc:=h.kc.setOther K (by decide) fp (.iface 155 (.agg #[.pointer (some ⟨qg,0,none⟩)]))
    s0:=fun hn=>(h.s0 hn).setOther K (by decide) fp (.iface 155 (.agg #[.pointer (some ⟨qg,0,none⟩)]))
    s1:=fun hn=>(h.s1 hn).setOther K (by decide) fp (.iface 155 (.agg #[.pointer (some ⟨qg,0,none⟩)]))}
  ·obtain rfl:=sJ ho;have e23:=h.e23 (hL ⟨23, .data⟩ (by simp) rfl)
   have e25:=h.e25 (hL ⟨25, .data⟩ (by simp) rfl)
   have q1:=htp0;have q2:=htp1;clear hL hno
   go_simp;exact hK (zg V 164 _) _ _ (by simp[putAll,zg,e23,e25]) {h with e32:=fun _=>rfl}
  ·obtain rfl:=sJ ho;have e32:=h.e32 (hL ⟨32, .data⟩ (by simp) rfl)
   have e29:=h.e29 (hL ⟨29, .data⟩ (by simp) rfl)
   have K:=h.s0 hi;clear hL hno;have xt:=K.cell tp;have fr:=K.frozen tp;rw[hcs.out]at xt
   go_simp;refine hK V _ _ (by simp[putAll,e32,e29]) ?_
   exact{h with
    on:=h.on.setCell ⟨bf,tp,none⟩ (.iface 155 (.agg #[.pointer (some ⟨qg,0,none⟩)])) fun _=> .inr rfl
    kr:=h.kr.setOther K (by decide) tp (.iface 155 (.agg #[.pointer (some ⟨qg,0,none⟩)]))
    tr:=zap h.tr K (by decide) tp (.iface 155 (.agg #[.pointer (some ⟨qg,0,none⟩)]))
    kx:=h.kx.setOther K (by decide) tp (.iface 155 (.agg #[.pointer (some ⟨qg,0,none⟩)]))
    s0:=nT_
    s1:=fun _=>K.set tp (.iface 155 (.agg #[.pointer (some ⟨qg,0,none⟩)]))
    kf:=h.kf.setOther K (by decide) tp (.iface 155 (.agg #[.pointer (some ⟨qg,0,none⟩)]))
    kt:=h.kt.setOther K (by decide) tp (.iface 155 (.agg #[.pointer (some ⟨qg,0,none⟩)]))
    kc:=h.kc.setOther K (by decide) tp (.iface 155 (.agg #[.pointer (some ⟨qg,0,none⟩)]))
    o0:=fun hn=>(h.o0 hn).setOther K (by decide) tp (.iface 155 (.agg #[.pointer (some ⟨qg,0,none⟩)]))
    o1:=fun hn=>(h.o1 hn).setOther K (by decide) tp (.iface 155 (.agg #[.pointer (some ⟨qg,0,none⟩)]))}
  ·simp at ho
 ·intro L V w' hL h;exact hend L V w' hL h
structure InpA(w0:World)(rg:Nat)(crg:List Value)(gt nA ctl:Nat)(gs:List Value)(btt:Nat)(cts:Array Value)(ga:Nat)(nm:Value)(qg bf li t tp:Nat)(curS:Array Value)(L:Nat→Bool)(V:Nat→Value)(w:World):Prop where
 on:Only (fun q=>q=bf) w0 w
 kr:Blk w rg 119 (.slice (some ⟨gt,0,none⟩) nA ctl::crg).toArray
 tr:w.ownsRow 0 120 1 (.slice (some ⟨gt,0,none⟩) nA ctl) nA gs
 kt:Blk w btt 125 cts
 kx:Blk w ga 53 #[nm, .int .i64 (t:Nat), .int .i64 (tp:Nat)]
 s0:L 17=false→Blk w bf 159 curS
 s1:L 17=true→Blk w bf 159 (curS.setIfInBounds tp (.iface 155 (.agg #[.pointer (some ⟨qg,0,none⟩)])))
 e0:L 0=true→V 188= .pointer (some ⟨rg,0,none⟩)
 e1:L 1=true→V 189= .pointer (some ⟨rg,0,none⟩)
 e2:L 2=true→V 190= .pointer (some ⟨rg,0,none⟩)
 e3:L 3=true→V 191= .slice (some ⟨gt,0,none⟩) nA ctl
 e4:L 4=true→V 192= .pointer (some ⟨ga,1,none⟩)
 e5:L 5=true→V 193= .int .i64 (t:Nat)
 e6:L 6=true→V 194= .pointer (some ⟨gt,t,none⟩)
 e7:L 7=true→V 195= .pointer (some ⟨btt,0,none⟩)
 e8:L 8=true→V 196= .pointer (some ⟨btt,0,none⟩)
 e9:L 9=true→V 197= .pointer (some ⟨btt,1,none⟩)
 e10:L 10=true→V 198= .slice (some ⟨bf,0,none⟩) li li
 e11:L 11=true→V 199= .pointer (some ⟨ga,2,none⟩)
 e12:L 12=true→V 200= .int .i64 (tp:Nat)
 e13:L 13=true→V 201= .pointer (some ⟨qg,0,none⟩)
 e14:L 14=true→V 202= .agg #[.pointer (some ⟨qg,0,none⟩)]
 e15:L 15=true→V 203= .iface 155 (.agg #[.pointer (some ⟨qg,0,none⟩)])
 e16:L 16=true→V 204= .pointer (some ⟨bf,tp,none⟩)
theorem zo3{u0 u1 u2 u3 u4 u5 u6 u8 u9 u10 u11 u12 u13 u14 u15 u16 u17 u18 u21 u22 u23 u24 u25 u26 u27 u28 u29 u30 u31 u32 u33 u34 u35 u36 u37 u38 u39 u40 u41 u42 u43 u44 u45 u46 u47 u48 u49 u50 u51 u52 u53 u54 u55 u56 u57 u58 u59 u60 u61 u62 u63 u64 u65 u66 u67 u68 u69 u70 u71 u72 u73 u74 u75 u76 u77 u78 u79 u80 u81 u82 u83 u84 u85 u86 u87 u88 u89 u90 u91 u92 u93 u94 u95 u96 u97 u98 u99 u100 u101 u102 u103 u104 u105 u106 u107 u108 u109 u110 u111 u112 u113 u114 u115 u116 u117 u118 u119 u120 u121 u122 u123 u124 u125 u126 u127 u128 u129 u130 u131 u132 u133 u134 u135 u136 u137 u138 u139 u140 u141 u142 u143 u144 u145 u146 u147 u148 u149 u150 u151 u152 u153 u154 u155 u156 u157 u158 u159 u160 u161 u162 u163 u164 u165 u166 u167 u168 u169 u170 u171 u172 u173 u174 u175 u176 u177 u178 u179 u180 u181 u182 u183 u184 u185 u186 u187 u188 u189 u190 u191 u192 u193 u194 u195 u196 u197 u198 u199 u200 u201 u202 u203 u204 u205 u206 u207 u208 u209 u210 u211 u212 u213 u214 u215 u216 u217 u218 u219 u220 u221 u222 u223 u224 u225 u226 u227 u228 u229 u230 u231 u232 u233 u234 u235 u236 u237 u238 u239 u240 u241 u242:Value}{c:Code}{Q:Exit→Act→World→Prop}{w5:World}{rg:Nat}{crg:List Value}{gt nA ctl:Nat}{gs2:List Value}{btt:Nat}{cts:Array Value}{ga:Nat}{nmv:Value}{qg bf li t tp:Nat}{curS:Array Value}{xS:Value}(hc: Tryz.f41.body.bind (zbW 34)=some c)(hI0:∀V,InpA w5 rg crg gt nA ctl gs2 btt cts ga nmv qg bf li t tp curS (fun _=>false) V w5.drew)
  (ht0:(0:Int)≤(t:Int)) (ht1:(t:Int)<(nA:Int)) (htt:Hid (gs2[t]?=some (.pointer (some ⟨btt,0,none⟩)))) (htc:Hid (cts[1]?=some (.slice (some ⟨bf,0,none⟩) li li))) (hcs:Hid (curS[tp]?=some xS)) (htp0:(0:Int)≤(tp:Int)) (htp1:(tp:Int)<(li:Int))
  (hend:∀(L:Nat→Bool) (V:Nat→Value) (w':World),(∀i,i<18→L i=true)→InpA w5 rg crg gt nA ctl gs2 btt cts ga nmv qg bf li t tp curS L V w'→Q .normal (putAll ⟨#[u0,u1,u2,u3,u4,u5,u6, .pointer (some ⟨rg,0,none⟩),u8,u9,u10,u11,u12,u13,u14,u15,u16,u17,u18, .pointer (some ⟨ga,0,none⟩), .pointer (some ⟨qg,0,none⟩),u21,u22,u23,u24,u25,u26,u27,u28,u29,u30,u31,u32,u33,u34,u35,u36,u37,u38,u39,u40,u41,u42,u43,u44,u45,u46,u47,u48,u49,u50,u51,u52,u53,u54,u55,u56,u57,u58,u59,u60,u61,u62,u63,u64,u65,u66,u67,u68,u69,u70,u71,u72,u73,u74,u75,u76,u77,u78,u79,u80,u81,u82,u83,u84,u85,u86,u87,u88,u89,u90,u91,u92,u93,u94,u95,u96,u97,u98,u99,u100,u101,u102,u103,u104,u105,u106,u107,u108,u109,u110,u111,u112,u113,u114,u115,u116,u117,u118,u119,u120,u121,u122,u123,u124,u125,u126,u127,u128,u129,u130,u131,u132,u133,u134,u135,u136,u137,u138,u139,u140,u141,u142,u143,u144,u145,u146,u147,u148,u149,u150,u151,u152,u153,u154,u155,u156,u157,u158,u159,u160,u161,u162,u163,u164,u165,u166,u167,u168,u169,u170,u171,u172,u173,u174,u175,u176,u177,u178,u179,u180,u181,u182,u183,u184,u185,u186,u187,u188,u189,u190,u191,u192,u193,u194,u195,u196,u197,u198,u199,u200,u201,u202,u203,u204,u205,u206,u207,u208,u209,u210,u211,u212,u213,u214,u215,u216,u217,u218,u219,u220,u221,u222,u223,u224,u225,u226,u227,u228,u229,u230,u231,u232,u233,u234,u235,u236,u237,u238,u239,u240,u241,u242],[]⟩ [188,189,190,191,192,193,194,195,196,197,198,199,200,201,202,203,204] V) w'):c.wp Tryz.prog Q ⟨#[u0,u1,u2,u3,u4,u5,u6, .pointer (some ⟨rg,0,none⟩),u8,u9,u10,u11,u12,u13,u14,u15,u16,u17,u18, .pointer (some ⟨ga,0,none⟩), .pointer (some ⟨qg,0,none⟩),u21,u22,u23,u24,u25,u26,u27,u28,u29,u30,u31,u32,u33,u34,u35,u36,u37,u38,u39,u40,u41,u42,u43,u44,u45,u46,u47,u48,u49,u50,u51,u52,u53,u54,u55,u56,u57,u58,u59,u60,u61,u62,u63,u64,u65,u66,u67,u68,u69,u70,u71,u72,u73,u74,u75,u76,u77,u78,u79,u80,u81,u82,u83,u84,u85,u86,u87,u88,u89,u90,u91,u92,u93,u94,u95,u96,u97,u98,u99,u100,u101,u102,u103,u104,u105,u106,u107,u108,u109,u110,u111,u112,u113,u114,u115,u116,u117,u118,u119,u120,u121,u122,u123,u124,u125,u126,u127,u128,u129,u130,u131,u132,u133,u134,u135,u136,u137,u138,u139,u140,u141,u142,u143,u144,u145,u146,u147,u148,u149,u150,u151,u152,u153,u154,u155,u156,u157,u158,u159,u160,u161,u162,u163,u164,u165,u166,u167,u168,u169,u170,u171,u172,u173,u174,u175,u176,u177,u178,u179,u180,u181,u182,u183,u184,u185,u186,u187,u188,u189,u190,u191,u192,u193,u194,u195,u196,u197,u198,u199,u200,u201,u202,u203,u204,u205,u206,u207,u208,u209,u210,u211,u212,u213,u214,u215,u216,u217,u218,u219,u220,u221,u222,u223,u224,u225,u226,u227,u228,u229,u230,u231,u232,u233,u234,u235,u236,u237,u238,u239,u240,u241,u242],[]⟩ w5:=by
 simp only[Tryz.f41,zbW,zcg,Nat.reduceBEq,cond_true,cond_false,zX]at hc;subst hc;refine zN [188,189,190,191,192,193,194,195,196,197,198,199,200,201,202,203,204] (InpA w5 rg crg gt nA ctl gs2 btt cts ga nmv qg bf li t tp curS) (by kernel_rfl) (by kernel_rfl) ?_ ?_ ?_
 ·exact hI0 _
 ·intro i o ho L V w1 hi hL hno h K hK;simp only[putAll,zi,zj,zc,ze,zd];rcases i with _|_|_|_|_|_|_|_|_|_|_|_|_|_|_|_|_|_|i
  ·obtain rfl:=sJ ho;clear hL hno
   go_simp;exact hK (zg V 188 _) _ _ (by simp[putAll,zg]) {h with e0:=fun _=>rfl}
  ·obtain rfl:=sJ ho;have e0:=h.e0 (hL ⟨0, .data⟩ (by simp) rfl)
   clear hL hno
   go_simp;exact hK (zg V 189 _) _ _ (by simp[putAll,zg,e0]) {h with e1:=fun _=>rfl}
  ·obtain rfl:=sJ ho;have e1:=h.e1 (hL ⟨1, .data⟩ (by simp) rfl)
   clear hL hno
   go_simp;exact hK (zg V 190 _) _ _ (by simp[putAll,zg,e1]) {h with e2:=fun _=>rfl}
  ·obtain rfl:=sJ ho;have e2:=h.e2 (hL ⟨2, .data⟩ (by simp) rfl)
   have ct:=h.kr.cellL 0 rfl;clear hL hno
   go_simp;exact hK (zg V 191 _) _ _ (by simp[putAll,zg,e2]) {h with e3:=fun _=>rfl}
  ·obtain rfl:=sJ ho;clear hL hno
   go_simp;exact hK (zg V 192 _) _ _ (by simp[putAll,zg]) {h with e4:=fun _=>rfl}
  ·obtain rfl:=sJ ho;have e4:=h.e4 (hL ⟨4, .data⟩ (by simp) rfl)
   have ct:=h.kx.cellL 1 rfl;clear hL hno
   go_simp;exact hK (zg V 193 _) _ _ (by simp[putAll,zg,e4]) {h with e5:=fun _=>rfl}
  ·obtain rfl:=sJ ho;have e3:=h.e3 (hL ⟨3, .data⟩ (by simp) rfl)
   have e5:=h.e5 (hL ⟨5, .data⟩ (by simp) rfl)
   have q1:=ht0;have q2:=ht1;clear hL hno
   go_simp;exact hK (zg V 194 _) _ _ (by simp[putAll,zg,e3,e5]) {h with e6:=fun _=>rfl}
  ·obtain rfl:=sJ ho;have e6:=h.e6 (hL ⟨6, .data⟩ (by simp) rfl)
   have xt:w1.cell? ⟨gt,t,none⟩=some (.pointer (some ⟨btt,0,none⟩)):=by rw[h.tr.cellAt t (by omega)];exact htt.out
   clear hL hno
   go_simp;exact hK (zg V 195 _) _ _ (by simp[putAll,zg,e6]) {h with e7:=fun _=>rfl}
  ·obtain rfl:=sJ ho;have e7:=h.e7 (hL ⟨7, .data⟩ (by simp) rfl)
   clear hL hno
   go_simp;exact hK (zg V 196 _) _ _ (by simp[putAll,zg,e7]) {h with e8:=fun _=>rfl}
  ·obtain rfl:=sJ ho;have e8:=h.e8 (hL ⟨8, .data⟩ (by simp) rfl)
   clear hL hno
   go_simp;exact hK (zg V 197 _) _ _ (by simp[putAll,zg,e8]) {h with e9:=fun _=>rfl}
  ·obtain rfl:=sJ ho;have e9:=h.e9 (hL ⟨9, .data⟩ (by simp) rfl)
   have xt:=h.kt.cell 1;rw[htc.out]at xt;clear hL hno
   go_simp;exact hK (zg V 198 _) _ _ (by simp[putAll,zg,e9]) {h with e10:=fun _=>rfl}
  ·obtain rfl:=sJ ho;clear hL hno
   go_simp;exact hK (zg V 199 _) _ _ (by simp[putAll,zg]) {h with e11:=fun _=>rfl}
  ·obtain rfl:=sJ ho;have e11:=h.e11 (hL ⟨11, .data⟩ (by simp) rfl)
   have ct:=h.kx.cellL 2 rfl;clear hL hno
   go_simp;exact hK (zg V 200 _) _ _ (by simp[putAll,zg,e11]) {h with e12:=fun _=>rfl}
  ·obtain rfl:=sJ ho;clear hL hno
   go_simp;exact hK (zg V 201 _) _ _ (by simp[putAll,zg]) {h with e13:=fun _=>rfl}
  ·obtain rfl:=sJ ho;have e13:=h.e13 (hL ⟨13, .data⟩ (by simp) rfl)
   clear hL hno
   go_simp;exact hK (zg V 202 _) _ _ (by simp[putAll,zg,e13]) {h with e14:=fun _=>rfl}
  ·obtain rfl:=sJ ho;have e14:=h.e14 (hL ⟨14, .data⟩ (by simp) rfl)
   clear hL hno
   go_simp;exact hK (zg V 203 _) _ _ (by simp[putAll,zg,e14]) {h with e15:=fun _=>rfl}
  ·obtain rfl:=sJ ho;have e10:=h.e10 (hL ⟨10, .data⟩ (by simp) rfl)
   have e12:=h.e12 (hL ⟨12, .data⟩ (by simp) rfl)
   have q1:=htp0;have q2:=htp1;clear hL hno
   go_simp;exact hK (zg V 204 _) _ _ (by simp[putAll,zg,e10,e12]) {h with e16:=fun _=>rfl}
  ·obtain rfl:=sJ ho;have e16:=h.e16 (hL ⟨16, .data⟩ (by simp) rfl)
   have e15:=h.e15 (hL ⟨15, .data⟩ (by simp) rfl)
   have K:=h.s0 hi;clear hL hno;have xt:=K.cell tp;have fr:=K.frozen tp;rw[hcs.out]at xt
   go_simp;refine hK V _ _ (by simp[putAll,e16,e15]) ?_
   exact{h with
    on:=h.on.setCell ⟨bf,tp,none⟩ (.iface 155 (.agg #[.pointer (some ⟨qg,0,none⟩)])) fun _=>rfl
    kr:=h.kr.setOther K (by decide) tp (.iface 155 (.agg #[.pointer (some ⟨qg,0,none⟩)]))
    tr:=zap h.tr K (by decide) tp (.iface 155 (.agg #[.pointer (some ⟨qg,0,none⟩)]))
    kx:=h.kx.setOther K (by decide) tp (.iface 155 (.agg #[.pointer (some ⟨qg,0,none⟩)]))
    s0:=nT_
    s1:=fun _=>K.set tp (.iface 155 (.agg #[.pointer (some ⟨qg,0,none⟩)]))
    kt:=h.kt.setOther K (by decide) tp (.iface 155 (.agg #[.pointer (some ⟨qg,0,none⟩)]))}
  ·simp at ho
 ·intro L V w' hL h;exact hend L V w' hL h
structure OutA(w0:World)(rg:Nat)(crg:List Value)(gt nA ctl:Nat)(gs:List Value)(btf:Nat)(cf:Array Value)(ga:Nat)(nm:Value)(pg bo lo f fp:Nat)(curO:Array Value)(L:Nat→Bool)(V:Nat→Value)(w:World):Prop where
 on:Only (fun q=>q=bo) w0 w
 kr:Blk w rg 119 (.slice (some ⟨gt,0,none⟩) nA ctl::crg).toArray
 tr:w.ownsRow 0 120 1 (.slice (some ⟨gt,0,none⟩) nA ctl) nA gs
 kf:Blk w btf 125 cf
 kx:Blk w ga 53 #[nm, .int .i64 (f:Nat), .int .i64 (fp:Nat)]
 o0:L 16=false→Blk w bo 157 curO
 o1:L 16=true→Blk w bo 157 (curO.setIfInBounds fp (.iface 160 (.pointer (some ⟨pg,0,none⟩))))
 e0:L 0=true→V 225= .pointer (some ⟨rg,0,none⟩)
 e1:L 1=true→V 226= .pointer (some ⟨rg,0,none⟩)
 e2:L 2=true→V 227= .pointer (some ⟨rg,0,none⟩)
 e3:L 3=true→V 228= .slice (some ⟨gt,0,none⟩) nA ctl
 e4:L 4=true→V 229= .pointer (some ⟨ga,1,none⟩)
 e5:L 5=true→V 230= .int .i64 (f:Nat)
 e6:L 6=true→V 231= .pointer (some ⟨gt,f,none⟩)
 e7:L 7=true→V 232= .pointer (some ⟨btf,0,none⟩)
 e8:L 8=true→V 233= .pointer (some ⟨btf,0,none⟩)
 e9:L 9=true→V 234= .pointer (some ⟨btf,2,none⟩)
 e10:L 10=true→V 235= .slice (some ⟨bo,0,none⟩) lo lo
 e11:L 11=true→V 236= .pointer (some ⟨ga,2,none⟩)
 e12:L 12=true→V 237= .int .i64 (fp:Nat)
 e13:L 13=true→V 238= .pointer (some ⟨pg,0,none⟩)
 e14:L 14=true→V 239= .iface 160 (.pointer (some ⟨pg,0,none⟩))
 e15:L 15=true→V 240= .pointer (some ⟨bo,fp,none⟩)
theorem zo4{u0 u1 u2 u3 u4 u5 u6 u8 u9 u10 u11 u12 u13 u14 u15 u16 u17 u18 u19 u20 u21 u22 u25 u26 u27 u28 u29 u30 u31 u32 u33 u34 u35 u36 u37 u38 u39 u40 u41 u42 u43 u44 u45 u46 u47 u48 u49 u50 u51 u52 u53 u54 u55 u56 u57 u58 u59 u60 u61 u62 u63 u64 u65 u66 u67 u68 u69 u70 u71 u72 u73 u74 u75 u76 u77 u78 u79 u80 u81 u82 u83 u84 u85 u86 u87 u88 u89 u90 u91 u92 u93 u94 u95 u96 u97 u98 u99 u100 u101 u102 u103 u104 u105 u106 u107 u108 u109 u110 u111 u112 u113 u114 u115 u116 u117 u118 u119 u120 u121 u122 u123 u124 u125 u126 u127 u128 u129 u130 u131 u132 u133 u134 u135 u136 u137 u138 u139 u140 u141 u142 u143 u144 u145 u146 u147 u148 u149 u150 u151 u152 u153 u154 u155 u156 u157 u158 u159 u160 u161 u162 u163 u164 u165 u166 u167 u168 u169 u170 u171 u172 u173 u174 u175 u176 u177 u178 u179 u180 u181 u182 u183 u184 u185 u186 u187 u188 u189 u190 u191 u192 u193 u194 u195 u196 u197 u198 u199 u200 u201 u202 u203 u204 u205 u206 u207 u208 u209 u210 u211 u212 u213 u214 u215 u216 u217 u218 u219 u220 u221 u222 u223 u224 u225 u226 u227 u228 u229 u230 u231 u232 u233 u234 u235 u236 u237 u238 u239 u240 u241 u242:Value}{c:Code}{Q:Exit→Act→World→Prop}{w5:World}{rg:Nat}{crg:List Value}{gt nA ctl:Nat}{gs2:List Value}{btf:Nat}{cf:Array Value}{ga:Nat}{nmv:Value}{pg bo lo f fp:Nat}{curO:Array Value}{xO:Value}(hc: Tryz.f41.body.bind (zbW 41)=some c)(hI0:∀V,OutA w5 rg crg gt nA ctl gs2 btf cf ga nmv pg bo lo f fp curO (fun _=>false) V w5.drew)
  (hf0:(0:Int)≤(f:Int)) (hf1:(f:Int)<(nA:Int)) (hft:Hid (gs2[f]?=some (.pointer (some ⟨btf,0,none⟩)))) (hfc:Hid (cf[2]?=some (.slice (some ⟨bo,0,none⟩) lo lo))) (hco:Hid (curO[fp]?=some xO)) (hfp0:(0:Int)≤(fp:Int)) (hfp1:(fp:Int)<(lo:Int))
  (hend:∀(L:Nat→Bool) (V:Nat→Value) (w':World),(∀i,i<17→L i=true)→OutA w5 rg crg gt nA ctl gs2 btf cf ga nmv pg bo lo f fp curO L V w'→Q .normal (putAll ⟨#[u0,u1,u2,u3,u4,u5,u6, .pointer (some ⟨rg,0,none⟩),u8,u9,u10,u11,u12,u13,u14,u15,u16,u17,u18,u19,u20,u21,u22, .pointer (some ⟨ga,0,none⟩), .pointer (some ⟨pg,0,none⟩),u25,u26,u27,u28,u29,u30,u31,u32,u33,u34,u35,u36,u37,u38,u39,u40,u41,u42,u43,u44,u45,u46,u47,u48,u49,u50,u51,u52,u53,u54,u55,u56,u57,u58,u59,u60,u61,u62,u63,u64,u65,u66,u67,u68,u69,u70,u71,u72,u73,u74,u75,u76,u77,u78,u79,u80,u81,u82,u83,u84,u85,u86,u87,u88,u89,u90,u91,u92,u93,u94,u95,u96,u97,u98,u99,u100,u101,u102,u103,u104,u105,u106,u107,u108,u109,u110,u111,u112,u113,u114,u115,u116,u117,u118,u119,u120,u121,u122,u123,u124,u125,u126,u127,u128,u129,u130,u131,u132,u133,u134,u135,u136,u137,u138,u139,u140,u141,u142,u143,u144,u145,u146,u147,u148,u149,u150,u151,u152,u153,u154,u155,u156,u157,u158,u159,u160,u161,u162,u163,u164,u165,u166,u167,u168,u169,u170,u171,u172,u173,u174,u175,u176,u177,u178,u179,u180,u181,u182,u183,u184,u185,u186,u187,u188,u189,u190,u191,u192,u193,u194,u195,u196,u197,u198,u199,u200,u201,u202,u203,u204,u205,u206,u207,u208,u209,u210,u211,u212,u213,u214,u215,u216,u217,u218,u219,u220,u221,u222,u223,u224,u225,u226,u227,u228,u229,u230,u231,u232,u233,u234,u235,u236,u237,u238,u239,u240,u241,u242],[]⟩ [225,226,227,228,229,230,231,232,233,234,235,236,237,238,239,240] V) w'):c.wp Tryz.prog Q ⟨#[u0,u1,u2,u3,u4,u5,u6, .pointer (some ⟨rg,0,none⟩),u8,u9,u10,u11,u12,u13,u14,u15,u16,u17,u18,u19,u20,u21,u22, .pointer (some ⟨ga,0,none⟩), .pointer (some ⟨pg,0,none⟩),u25,u26,u27,u28,u29,u30,u31,u32,u33,u34,u35,u36,u37,u38,u39,u40,u41,u42,u43,u44,u45,u46,u47,u48,u49,u50,u51,u52,u53,u54,u55,u56,u57,u58,u59,u60,u61,u62,u63,u64,u65,u66,u67,u68,u69,u70,u71,u72,u73,u74,u75,u76,u77,u78,u79,u80,u81,u82,u83,u84,u85,u86,u87,u88,u89,u90,u91,u92,u93,u94,u95,u96,u97,u98,u99,u100,u101,u102,u103,u104,u105,u106,u107,u108,u109,u110,u111,u112,u113,u114,u115,u116,u117,u118,u119,u120,u121,u122,u123,u124,u125,u126,u127,u128,u129,u130,u131,u132,u133,u134,u135,u136,u137,u138,u139,u140,u141,u142,u143,u144,u145,u146,u147,u148,u149,u150,u151,u152,u153,u154,u155,u156,u157,u158,u159,u160,u161,u162,u163,u164,u165,u166,u167,u168,u169,u170,u171,u172,u173,u174,u175,u176,u177,u178,u179,u180,u181,u182,u183,u184,u185,u186,u187,u188,u189,u190,u191,u192,u193,u194,u195,u196,u197,u198,u199,u200,u201,u202,u203,u204,u205,u206,u207,u208,u209,u210,u211,u212,u213,u214,u215,u216,u217,u218,u219,u220,u221,u222,u223,u224,u225,u226,u227,u228,u229,u230,u231,u232,u233,u234,u235,u236,u237,u238,u239,u240,u241,u242],[]⟩ w5:=by
 simp only[Tryz.f41,zbW,zcg,Nat.reduceBEq,cond_true,cond_false,zX]at hc;subst hc;refine zN [225,226,227,228,229,230,231,232,233,234,235,236,237,238,239,240] (OutA w5 rg crg gt nA ctl gs2 btf cf ga nmv pg bo lo f fp curO) (by kernel_rfl) (by kernel_rfl) ?_ ?_ ?_
 ·exact hI0 _
 ·intro i o ho L V w1 hi hL hno h K hK;simp only[putAll,zi,zj,zc,ze,zd];rcases i with _|_|_|_|_|_|_|_|_|_|_|_|_|_|_|_|_|i
  ·obtain rfl:=sJ ho;clear hL hno
   go_simp;exact hK (zg V 225 _) _ _ (by simp[putAll,zg]) {h with e0:=fun _=>rfl}
  ·obtain rfl:=sJ ho;have e0:=h.e0 (hL ⟨0, .data⟩ (by simp) rfl)
   clear hL hno
   go_simp;exact hK (zg V 226 _) _ _ (by simp[putAll,zg,e0]) {h with e1:=fun _=>rfl}
  ·obtain rfl:=sJ ho;have e1:=h.e1 (hL ⟨1, .data⟩ (by simp) rfl)
   clear hL hno
   go_simp;exact hK (zg V 227 _) _ _ (by simp[putAll,zg,e1]) {h with e2:=fun _=>rfl}
  ·obtain rfl:=sJ ho;have e2:=h.e2 (hL ⟨2, .data⟩ (by simp) rfl)
   have ct:=h.kr.cellL 0 rfl;clear hL hno
   go_simp;exact hK (zg V 228 _) _ _ (by simp[putAll,zg,e2]) {h with e3:=fun _=>rfl}
  ·obtain rfl:=sJ ho;clear hL hno
   go_simp;exact hK (zg V 229 _) _ _ (by simp[putAll,zg]) {h with e4:=fun _=>rfl}
  ·obtain rfl:=sJ ho;have e4:=h.e4 (hL ⟨4, .data⟩ (by simp) rfl)
   have ct:=h.kx.cellL 1 rfl;clear hL hno
   go_simp;exact hK (zg V 230 _) _ _ (by simp[putAll,zg,e4]) {h with e5:=fun _=>rfl}
  ·obtain rfl:=sJ ho;have e3:=h.e3 (hL ⟨3, .data⟩ (by simp) rfl)
   have e5:=h.e5 (hL ⟨5, .data⟩ (by simp) rfl)
   have q1:=hf0;have q2:=hf1;clear hL hno
   go_simp;exact hK (zg V 231 _) _ _ (by simp[putAll,zg,e3,e5]) {h with e6:=fun _=>rfl}
  ·obtain rfl:=sJ ho;have e6:=h.e6 (hL ⟨6, .data⟩ (by simp) rfl)
   have xt:w1.cell? ⟨gt,f,none⟩=some (.pointer (some ⟨btf,0,none⟩)):=by rw[h.tr.cellAt f (by omega)];exact hft.out
   clear hL hno
   go_simp;exact hK (zg V 232 _) _ _ (by simp[putAll,zg,e6]) {h with e7:=fun _=>rfl}
  ·obtain rfl:=sJ ho;have e7:=h.e7 (hL ⟨7, .data⟩ (by simp) rfl)
   clear hL hno
   go_simp;exact hK (zg V 233 _) _ _ (by simp[putAll,zg,e7]) {h with e8:=fun _=>rfl}
  ·obtain rfl:=sJ ho;have e8:=h.e8 (hL ⟨8, .data⟩ (by simp) rfl)
   clear hL hno
   go_simp;exact hK (zg V 234 _) _ _ (by simp[putAll,zg,e8]) {h with e9:=fun _=>rfl}
  ·obtain rfl:=sJ ho;have e9:=h.e9 (hL ⟨9, .data⟩ (by simp) rfl)
   have xt:=h.kf.cell 2;rw[hfc.out]at xt;clear hL hno
   go_simp;exact hK (zg V 235 _) _ _ (by simp[putAll,zg,e9]) {h with e10:=fun _=>rfl}
  ·obtain rfl:=sJ ho;clear hL hno
   go_simp;exact hK (zg V 236 _) _ _ (by simp[putAll,zg]) {h with e11:=fun _=>rfl}
  ·obtain rfl:=sJ ho;have e11:=h.e11 (hL ⟨11, .data⟩ (by simp) rfl)
   have ct:=h.kx.cellL 2 rfl;clear hL hno
   go_simp;exact hK (zg V 237 _) _ _ (by simp[putAll,zg,e11]) {h with e12:=fun _=>rfl}
  ·obtain rfl:=sJ ho;clear hL hno
   go_simp;exact hK (zg V 238 _) _ _ (by simp[putAll,zg]) {h with e13:=fun _=>rfl}
  ·obtain rfl:=sJ ho;have e13:=h.e13 (hL ⟨13, .data⟩ (by simp) rfl)
   clear hL hno
   go_simp;exact hK (zg V 239 _) _ _ (by simp[putAll,zg,e13]) {h with e14:=fun _=>rfl}
  ·obtain rfl:=sJ ho;have e10:=h.e10 (hL ⟨10, .data⟩ (by simp) rfl)
   have e12:=h.e12 (hL ⟨12, .data⟩ (by simp) rfl)
   have q1:=hfp0;have q2:=hfp1;clear hL hno
   go_simp;exact hK (zg V 240 _) _ _ (by simp[putAll,zg,e10,e12]) {h with e15:=fun _=>rfl}
  ·obtain rfl:=sJ ho;have e15:=h.e15 (hL ⟨15, .data⟩ (by simp) rfl)
   have e14:=h.e14 (hL ⟨14, .data⟩ (by simp) rfl)
   have K:=h.o0 hi;clear hL hno;have xt:=K.cell fp;have fr:=K.frozen fp;rw[hco.out]at xt
   go_simp;refine hK V _ _ (by simp[putAll,e15,e14]) ?_
   exact{h with
    on:=h.on.setCell ⟨bo,fp,none⟩ (.iface 160 (.pointer (some ⟨pg,0,none⟩))) fun _=>rfl
    kr:=h.kr.setOther K (by decide) fp (.iface 160 (.pointer (some ⟨pg,0,none⟩)))
    tr:=zap h.tr K (by decide) fp (.iface 160 (.pointer (some ⟨pg,0,none⟩)))
    kx:=h.kx.setOther K (by decide) fp (.iface 160 (.pointer (some ⟨pg,0,none⟩)))
    o0:=nT_
    o1:=fun _=>K.set fp (.iface 160 (.pointer (some ⟨pg,0,none⟩)))
    kf:=h.kf.setOther K (by decide) fp (.iface 160 (.pointer (some ⟨pg,0,none⟩)))}
  ·simp at ho
 ·intro L V w' hL h;exact hend L V w' hL h
end Go.Proofs.YtpmlljbebdidgaaGreatDoor
