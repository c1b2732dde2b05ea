/- Lemmas and walks for the claim: Oc. -/
import Derived.Test.YtpmlljbebdidgaaGreatDoorA0
import Derived.Test.YtpmlljbebdidgaaGreatDoorA33
set_option maxRecDepth 100000
set_option maxHeartbeats 40000000
namespace Go.Proofs.YtpmlljbebdidgaaGreatDoor
open Go.RowKit
structure InpA(w0:World)(rg:Nat)(crg:List Value)(gt nA ctl:Nat)(gs:List Value)(btt:Nat)(cts:Array Value)(ga:Nat)(nm:Value)(qg bf li t tp:Nat)(curS:Array Value)(L:Nat→Bool)(V:Nat→Value)(w:World):Prop where
 on:Only (fun q=>q=bf) w0 w
 kr:Blk w rg 119 (.slice (some ⟨gt,0,none⟩) nA ctl::crg).toArray
 tr:w.ownsRow 0 120 1 (.slice (some ⟨gt,0,none⟩) nA ctl) nA gs
 kt:Blk w btt 125 cts
 kx:Blk w ga 53 #[nm, .int .i64 (t:Nat), .int .i64 (tp:Nat)]
 s0:L 17=false→Blk w bf 159 curS
 s1:L 17=true→Blk w bf 159 (curS.setIfInBounds tp (.iface 155 (.agg #[.pointer (some ⟨qg,0,none⟩)])))
 e0:L 0=true→V 188= .pointer (some ⟨rg,0,none⟩)
 e1:L 1=true→V 189= .pointer (some ⟨rg,0,none⟩)
 e2:L 2=true→V 190= .pointer (some ⟨rg,0,none⟩)
 e3:L 3=true→V 191= .slice (some ⟨gt,0,none⟩) nA ctl
 e4:L 4=true→V 192= .pointer (some ⟨ga,1,none⟩)
 e5:L 5=true→V 193= .int .i64 (t:Nat)
 e6:L 6=true→V 194= .pointer (some ⟨gt,t,none⟩)
 e7:L 7=true→V 195= .pointer (some ⟨btt,0,none⟩)
 e8:L 8=true→V 196= .pointer (some ⟨btt,0,none⟩)
 e9:L 9=true→V 197= .pointer (some ⟨btt,1,none⟩)
 e10:L 10=true→V 198= .slice (some ⟨bf,0,none⟩) li li
 e11:L 11=true→V 199= .pointer (some ⟨ga,2,none⟩)
 e12:L 12=true→V 200= .int .i64 (tp:Nat)
 e13:L 13=true→V 201= .pointer (some ⟨qg,0,none⟩)
 e14:L 14=true→V 202= .agg #[.pointer (some ⟨qg,0,none⟩)]
 e15:L 15=true→V 203= .iface 155 (.agg #[.pointer (some ⟨qg,0,none⟩)])
 e16:L 16=true→V 204= .pointer (some ⟨bf,tp,none⟩)
theorem new_r34{u0 u1 u2 u3 u4 u5 u6 u8 u9 u10 u11 u12 u13 u14 u15 u16 u17 u18 u21 u22 u23 u24 u25 u26 u27 u28 u29 u30 u31 u32 u33 u34 u35 u36 u37 u38 u39 u40 u41 u42 u43 u44 u45 u46 u47 u48 u49 u50 u51 u52 u53 u54 u55 u56 u57 u58 u59 u60 u61 u62 u63 u64 u65 u66 u67 u68 u69 u70 u71 u72 u73 u74 u75 u76 u77 u78 u79 u80 u81 u82 u83 u84 u85 u86 u87 u88 u89 u90 u91 u92 u93 u94 u95 u96 u97 u98 u99 u100 u101 u102 u103 u104 u105 u106 u107 u108 u109 u110 u111 u112 u113 u114 u115 u116 u117 u118 u119 u120 u121 u122 u123 u124 u125 u126 u127 u128 u129 u130 u131 u132 u133 u134 u135 u136 u137 u138 u139 u140 u141 u142 u143 u144 u145 u146 u147 u148 u149 u150 u151 u152 u153 u154 u155 u156 u157 u158 u159 u160 u161 u162 u163 u164 u165 u166 u167 u168 u169 u170 u171 u172 u173 u174 u175 u176 u177 u178 u179 u180 u181 u182 u183 u184 u185 u186 u187 u188 u189 u190 u191 u192 u193 u194 u195 u196 u197 u198 u199 u200 u201 u202 u203 u204 u205 u206 u207 u208 u209 u210 u211 u212 u213 u214 u215 u216 u217 u218 u219 u220 u221 u222 u223 u224 u225 u226 u227 u228 u229 u230 u231 u232 u233 u234 u235 u236 u237 u238 u239 u240 u241 u242:Value}{c:Code}{Q:Exit→Act→World→Prop}{w5:World}{rg:Nat}{crg:List Value}{gt nA ctl:Nat}{gs2:List Value}{btt:Nat}{cts:Array Value}{ga:Nat}{nmv:Value}{qg bf li t tp:Nat}{curS:Array Value}{xS:Value}(hc: Tryz.f41.body.bind (regOf 34)=some c)(hI0:∀V,InpA w5 rg crg gt nA ctl gs2 btt cts ga nmv qg bf li t tp curS (fun _=>false) V w5.drew)
  (ht0:(0:Int)≤(t:Int)) (ht1:(t:Int)<(nA:Int)) (htt:Hid (gs2[t]?=some (.pointer (some ⟨btt,0,none⟩)))) (htc:Hid (cts[1]?=some (.slice (some ⟨bf,0,none⟩) li li))) (hcs:Hid (curS[tp]?=some xS)) (htp0:(0:Int)≤(tp:Int)) (htp1:(tp:Int)<(li:Int))
  (hend:∀(L:Nat→Bool) (V:Nat→Value) (w':World),(∀i,i<18→L i=true)→InpA w5 rg crg gt nA ctl gs2 btt cts ga nmv qg bf li t tp curS L V w'→Q .normal (putAll ⟨#[u0,u1,u2,u3,u4,u5,u6, .pointer (some ⟨rg,0,none⟩),u8,u9,u10,u11,u12,u13,u14,u15,u16,u17,u18, .pointer (some ⟨ga,0,none⟩), .pointer (some ⟨qg,0,none⟩),u21,u22,u23,u24,u25,u26,u27,u28,u29,u30,u31,u32,u33,u34,u35,u36,u37,u38,u39,u40,u41,u42,u43,u44,u45,u46,u47,u48,u49,u50,u51,u52,u53,u54,u55,u56,u57,u58,u59,u60,u61,u62,u63,u64,u65,u66,u67,u68,u69,u70,u71,u72,u73,u74,u75,u76,u77,u78,u79,u80,u81,u82,u83,u84,u85,u86,u87,u88,u89,u90,u91,u92,u93,u94,u95,u96,u97,u98,u99,u100,u101,u102,u103,u104,u105,u106,u107,u108,u109,u110,u111,u112,u113,u114,u115,u116,u117,u118,u119,u120,u121,u122,u123,u124,u125,u126,u127,u128,u129,u130,u131,u132,u133,u134,u135,u136,u137,u138,u139,u140,u141,u142,u143,u144,u145,u146,u147,u148,u149,u150,u151,u152,u153,u154,u155,u156,u157,u158,u159,u160,u161,u162,u163,u164,u165,u166,u167,u168,u169,u170,u171,u172,u173,u174,u175,u176,u177,u178,u179,u180,u181,u182,u183,u184,u185,u186,u187,u188,u189,u190,u191,u192,u193,u194,u195,u196,u197,u198,u199,u200,u201,u202,u203,u204,u205,u206,u207,u208,u209,u210,u211,u212,u213,u214,u215,u216,u217,u218,u219,u220,u221,u222,u223,u224,u225,u226,u227,u228,u229,u230,u231,u232,u233,u234,u235,u236,u237,u238,u239,u240,u241,u242],[]⟩ [188,189,190,191,192,193,194,195,196,197,198,199,200,201,202,203,204] V) w'):c.wp Tryz.prog Q ⟨#[u0,u1,u2,u3,u4,u5,u6, .pointer (some ⟨rg,0,none⟩),u8,u9,u10,u11,u12,u13,u14,u15,u16,u17,u18, .pointer (some ⟨ga,0,none⟩), .pointer (some ⟨qg,0,none⟩),u21,u22,u23,u24,u25,u26,u27,u28,u29,u30,u31,u32,u33,u34,u35,u36,u37,u38,u39,u40,u41,u42,u43,u44,u45,u46,u47,u48,u49,u50,u51,u52,u53,u54,u55,u56,u57,u58,u59,u60,u61,u62,u63,u64,u65,u66,u67,u68,u69,u70,u71,u72,u73,u74,u75,u76,u77,u78,u79,u80,u81,u82,u83,u84,u85,u86,u87,u88,u89,u90,u91,u92,u93,u94,u95,u96,u97,u98,u99,u100,u101,u102,u103,u104,u105,u106,u107,u108,u109,u110,u111,u112,u113,u114,u115,u116,u117,u118,u119,u120,u121,u122,u123,u124,u125,u126,u127,u128,u129,u130,u131,u132,u133,u134,u135,u136,u137,u138,u139,u140,u141,u142,u143,u144,u145,u146,u147,u148,u149,u150,u151,u152,u153,u154,u155,u156,u157,u158,u159,u160,u161,u162,u163,u164,u165,u166,u167,u168,u169,u170,u171,u172,u173,u174,u175,u176,u177,u178,u179,u180,u181,u182,u183,u184,u185,u186,u187,u188,u189,u190,u191,u192,u193,u194,u195,u196,u197,u198,u199,u200,u201,u202,u203,u204,u205,u206,u207,u208,u209,u210,u211,u212,u213,u214,u215,u216,u217,u218,u219,u220,u221,u222,u223,u224,u225,u226,u227,u228,u229,u230,u231,u232,u233,u234,u235,u236,u237,u238,u239,u240,u241,u242],[]⟩ w5:=by
 simp only[Tryz.f41,regOf,Option.bind_some,Nat.reduceBEq,cond_true,cond_false,Option.some.injEq]at hc;subst hc;refine wp_region_put3 [188,189,190,191,192,193,194,195,196,197,198,199,200,201,202,203,204] (InpA w5 rg crg gt nA ctl gs2 btt cts ga nmv qg bf li t tp curS) (by kernel_rfl) (by kernel_rfl) ?_ ?_ ?_
 ·exact hI0 _
 ·intro i o ho L V w1 hi hL hno h K hK;simp only[putAll,List.foldl_cons,List.foldl_nil,List.setIfInBounds_toArray,List.set_cons_zero,List.set_cons_succ];rcases i with _|_|_|_|_|_|_|_|_|_|_|_|_|_|_|_|_|_|i
  ·obtain rfl:=sJ ho;clear hL hno
   go_simp;exact hK (updV V 188 _) _ _ (by simp[putAll,updV]) {h with e0:=fun _=>rfl}
  ·obtain rfl:=sJ ho;have e0:=h.e0 (hL ⟨0, .data⟩ (by simp) rfl)
   clear hL hno
   go_simp;exact hK (updV V 189 _) _ _ (by simp[putAll,updV,e0]) {h with e1:=fun _=>rfl}
  ·obtain rfl:=sJ ho;have e1:=h.e1 (hL ⟨1, .data⟩ (by simp) rfl)
   clear hL hno
   go_simp;exact hK (updV V 190 _) _ _ (by simp[putAll,updV,e1]) {h with e2:=fun _=>rfl}
  ·obtain rfl:=sJ ho;have e2:=h.e2 (hL ⟨2, .data⟩ (by simp) rfl)
   have ct:=h.kr.cellL 0 rfl;clear hL hno
   go_simp;exact hK (updV V 191 _) _ _ (by simp[putAll,updV,e2]) {h with e3:=fun _=>rfl}
  ·obtain rfl:=sJ ho;clear hL hno
   go_simp;exact hK (updV V 192 _) _ _ (by simp[putAll,updV]) {h with e4:=fun _=>rfl}
  ·obtain rfl:=sJ ho;have e4:=h.e4 (hL ⟨4, .data⟩ (by simp) rfl)
   have ct:=h.kx.cellL 1 rfl;clear hL hno
   go_simp;exact hK (updV V 193 _) _ _ (by simp[putAll,updV,e4]) {h with e5:=fun _=>rfl}
  ·obtain rfl:=sJ ho;have e3:=h.e3 (hL ⟨3, .data⟩ (by simp) rfl)
   have e5:=h.e5 (hL ⟨5, .data⟩ (by simp) rfl)
   have q1:=ht0;have q2:=ht1;clear hL hno
   go_simp;exact hK (updV V 194 _) _ _ (by simp[putAll,updV,e3,e5]) {h with e6:=fun _=>rfl}
  ·obtain rfl:=sJ ho;have e6:=h.e6 (hL ⟨6, .data⟩ (by simp) rfl)
   have xt:w1.cell? ⟨gt,t,none⟩=some (.pointer (some ⟨btt,0,none⟩)):=by rw[h.tr.cellAt t (by omega)];exact htt.out
   clear hL hno
   go_simp;exact hK (updV V 195 _) _ _ (by simp[putAll,updV,e6]) {h with e7:=fun _=>rfl}
  ·obtain rfl:=sJ ho;have e7:=h.e7 (hL ⟨7, .data⟩ (by simp) rfl)
   clear hL hno
   go_simp;exact hK (updV V 196 _) _ _ (by simp[putAll,updV,e7]) {h with e8:=fun _=>rfl}
  ·obtain rfl:=sJ ho;have e8:=h.e8 (hL ⟨8, .data⟩ (by simp) rfl)
   clear hL hno
   go_simp;exact hK (updV V 197 _) _ _ (by simp[putAll,updV,e8]) {h with e9:=fun _=>rfl}
  ·obtain rfl:=sJ ho;have e9:=h.e9 (hL ⟨9, .data⟩ (by simp) rfl)
   have xt:=h.kt.cell 1;rw[htc.out]at xt;clear hL hno
   go_simp;exact hK (updV V 198 _) _ _ (by simp[putAll,updV,e9]) {h with e10:=fun _=>rfl}
  ·obtain rfl:=sJ ho;clear hL hno
   go_simp;exact hK (updV V 199 _) _ _ (by simp[putAll,updV]) {h with e11:=fun _=>rfl}
  ·obtain rfl:=sJ ho;have e11:=h.e11 (hL ⟨11, .data⟩ (by simp) rfl)
   have ct:=h.kx.cellL 2 rfl;clear hL hno
   go_simp;exact hK (updV V 200 _) _ _ (by simp[putAll,updV,e11]) {h with e12:=fun _=>rfl}
  ·obtain rfl:=sJ ho;clear hL hno
   go_simp;exact hK (updV V 201 _) _ _ (by simp[putAll,updV]) {h with e13:=fun _=>rfl}
  ·obtain rfl:=sJ ho;have e13:=h.e13 (hL ⟨13, .data⟩ (by simp) rfl)
   clear hL hno
   go_simp;exact hK (updV V 202 _) _ _ (by simp[putAll,updV,e13]) {h with e14:=fun _=>rfl}
  ·obtain rfl:=sJ ho;have e14:=h.e14 (hL ⟨14, .data⟩ (by simp) rfl)
   clear hL hno
   go_simp;exact hK (updV V 203 _) _ _ (by simp[putAll,updV,e14]) {h with e15:=fun _=>rfl}
  ·obtain rfl:=sJ ho;have e10:=h.e10 (hL ⟨10, .data⟩ (by simp) rfl)
   have e12:=h.e12 (hL ⟨12, .data⟩ (by simp) rfl)
   have q1:=htp0;have q2:=htp1;clear hL hno
   go_simp;exact hK (updV V 204 _) _ _ (by simp[putAll,updV,e10,e12]) {h with e16:=fun _=>rfl}
  ·obtain rfl:=sJ ho;have e16:=h.e16 (hL ⟨16, .data⟩ (by simp) rfl)
   have e15:=h.e15 (hL ⟨15, .data⟩ (by simp) rfl)
   have K:=h.s0 hi;clear hL hno;have xt:=K.cell tp;have fr:=K.frozen tp;rw[hcs.out]at xt
   go_simp;refine hK V _ _ (by simp[putAll,e16,e15]) ?_
   exact{h with
    on:=h.on.setCell ⟨bf,tp,none⟩ (.iface 155 (.agg #[.pointer (some ⟨qg,0,none⟩)])) fun _=>rfl
    kr:=h.kr.setOther K (by decide) tp (.iface 155 (.agg #[.pointer (some ⟨qg,0,none⟩)]))
    tr:=own_set h.tr K (by decide) tp (.iface 155 (.agg #[.pointer (some ⟨qg,0,none⟩)]))
    kx:=h.kx.setOther K (by decide) tp (.iface 155 (.agg #[.pointer (some ⟨qg,0,none⟩)]))
    s0:=nT_
    s1:=fun _=>K.set tp (.iface 155 (.agg #[.pointer (some ⟨qg,0,none⟩)]))
    kt:=h.kt.setOther K (by decide) tp (.iface 155 (.agg #[.pointer (some ⟨qg,0,none⟩)]))}
  ·simp at ho
 ·intro L V w' hL h;exact hend L V w' hL h
structure OutA(w0:World)(rg:Nat)(crg:List Value)(gt nA ctl:Nat)(gs:List Value)(btf:Nat)(cf:Array Value)(ga:Nat)(nm:Value)(pg bo lo f fp:Nat)(curO:Array Value)(L:Nat→Bool)(V:Nat→Value)(w:World):Prop where
 on:Only (fun q=>q=bo) w0 w
 kr:Blk w rg 119 (.slice (some ⟨gt,0,none⟩) nA ctl::crg).toArray
 tr:w.ownsRow 0 120 1 (.slice (some ⟨gt,0,none⟩) nA ctl) nA gs
 kf:Blk w btf 125 cf
 kx:Blk w ga 53 #[nm, .int .i64 (f:Nat), .int .i64 (fp:Nat)]
 o0:L 16=false→Blk w bo 157 curO
 o1:L 16=true→Blk w bo 157 (curO.setIfInBounds fp (.iface 160 (.pointer (some ⟨pg,0,none⟩))))
 e0:L 0=true→V 225= .pointer (some ⟨rg,0,none⟩)
 e1:L 1=true→V 226= .pointer (some ⟨rg,0,none⟩)
 e2:L 2=true→V 227= .pointer (some ⟨rg,0,none⟩)
 e3:L 3=true→V 228= .slice (some ⟨gt,0,none⟩) nA ctl
 e4:L 4=true→V 229= .pointer (some ⟨ga,1,none⟩)
 e5:L 5=true→V 230= .int .i64 (f:Nat)
 e6:L 6=true→V 231= .pointer (some ⟨gt,f,none⟩)
 e7:L 7=true→V 232= .pointer (some ⟨btf,0,none⟩)
 e8:L 8=true→V 233= .pointer (some ⟨btf,0,none⟩)
 e9:L 9=true→V 234= .pointer (some ⟨btf,2,none⟩)
 e10:L 10=true→V 235= .slice (some ⟨bo,0,none⟩) lo lo
 e11:L 11=true→V 236= .pointer (some ⟨ga,2,none⟩)
 e12:L 12=true→V 237= .int .i64 (fp:Nat)
 e13:L 13=true→V 238= .pointer (some ⟨pg,0,none⟩)
 e14:L 14=true→V 239= .iface 160 (.pointer (some ⟨pg,0,none⟩))
 e15:L 15=true→V 240= .pointer (some ⟨bo,fp,none⟩)
theorem new_r41{u0 u1 u2 u3 u4 u5 u6 u8 u9 u10 u11 u12 u13 u14 u15 u16 u17 u18 u19 u20 u21 u22 u25 u26 u27 u28 u29 u30 u31 u32 u33 u34 u35 u36 u37 u38 u39 u40 u41 u42 u43 u44 u45 u46 u47 u48 u49 u50 u51 u52 u53 u54 u55 u56 u57 u58 u59 u60 u61 u62 u63 u64 u65 u66 u67 u68 u69 u70 u71 u72 u73 u74 u75 u76 u77 u78 u79 u80 u81 u82 u83 u84 u85 u86 u87 u88 u89 u90 u91 u92 u93 u94 u95 u96 u97 u98 u99 u100 u101 u102 u103 u104 u105 u106 u107 u108 u109 u110 u111 u112 u113 u114 u115 u116 u117 u118 u119 u120 u121 u122 u123 u124 u125 u126 u127 u128 u129 u130 u131 u132 u133 u134 u135 u136 u137 u138 u139 u140 u141 u142 u143 u144 u145 u146 u147 u148 u149 u150 u151 u152 u153 u154 u155 u156 u157 u158 u159 u160 u161 u162 u163 u164 u165 u166 u167 u168 u169 u170 u171 u172 u173 u174 u175 u176 u177 u178 u179 u180 u181 u182 u183 u184 u185 u186 u187 u188 u189 u190 u191 u192 u193 u194 u195 u196 u197 u198 u199 u200 u201 u202 u203 u204 u205 u206 u207 u208 u209 u210 u211 u212 u213 u214 u215 u216 u217 u218 u219 u220 u221 u222 u223 u224 u225 u226 u227 u228 u229 u230 u231 u232 u233 u234 u235 u236 u237 u238 u239 u240 u241 u242:Value}{c:Code}{Q:Exit→Act→World→Prop}{w5:World}{rg:Nat}{crg:List Value}{gt nA ctl:Nat}{gs2:List Value}{btf:Nat}{cf:Array Value}{ga:Nat}{nmv:Value}{pg bo lo f fp:Nat}{curO:Array Value}{xO:Value}(hc: Tryz.f41.body.bind (regOf 41)=some c)(hI0:∀V,OutA w5 rg crg gt nA ctl gs2 btf cf ga nmv pg bo lo f fp curO (fun _=>false) V w5.drew)
  (hf0:(0:Int)≤(f:Int)) (hf1:(f:Int)<(nA:Int)) (hft:Hid (gs2[f]?=some (.pointer (some ⟨btf,0,none⟩)))) (hfc:Hid (cf[2]?=some (.slice (some ⟨bo,0,none⟩) lo lo))) (hco:Hid (curO[fp]?=some xO)) (hfp0:(0:Int)≤(fp:Int)) (hfp1:(fp:Int)<(lo:Int))
  (hend:∀(L:Nat→Bool) (V:Nat→Value) (w':World),(∀i,i<17→L i=true)→OutA w5 rg crg gt nA ctl gs2 btf cf ga nmv pg bo lo f fp curO L V w'→Q .normal (putAll ⟨#[u0,u1,u2,u3,u4,u5,u6, .pointer (some ⟨rg,0,none⟩),u8,u9,u10,u11,u12,u13,u14,u15,u16,u17,u18,u19,u20,u21,u22, .pointer (some ⟨ga,0,none⟩), .pointer (some ⟨pg,0,none⟩),u25,u26,u27,u28,u29,u30,u31,u32,u33,u34,u35,u36,u37,u38,u39,u40,u41,u42,u43,u44,u45,u46,u47,u48,u49,u50,u51,u52,u53,u54,u55,u56,u57,u58,u59,u60,u61,u62,u63,u64,u65,u66,u67,u68,u69,u70,u71,u72,u73,u74,u75,u76,u77,u78,u79,u80,u81,u82,u83,u84,u85,u86,u87,u88,u89,u90,u91,u92,u93,u94,u95,u96,u97,u98,u99,u100,u101,u102,u103,u104,u105,u106,u107,u108,u109,u110,u111,u112,u113,u114,u115,u116,u117,u118,u119,u120,u121,u122,u123,u124,u125,u126,u127,u128,u129,u130,u131,u132,u133,u134,u135,u136,u137,u138,u139,u140,u141,u142,u143,u144,u145,u146,u147,u148,u149,u150,u151,u152,u153,u154,u155,u156,u157,u158,u159,u160,u161,u162,u163,u164,u165,u166,u167,u168,u169,u170,u171,u172,u173,u174,u175,u176,u177,u178,u179,u180,u181,u182,u183,u184,u185,u186,u187,u188,u189,u190,u191,u192,u193,u194,u195,u196,u197,u198,u199,u200,u201,u202,u203,u204,u205,u206,u207,u208,u209,u210,u211,u212,u213,u214,u215,u216,u217,u218,u219,u220,u221,u222,u223,u224,u225,u226,u227,u228,u229,u230,u231,u232,u233,u234,u235,u236,u237,u238,u239,u240,u241,u242],[]⟩ [225,226,227,228,229,230,231,232,233,234,235,236,237,238,239,240] V) w'):c.wp Tryz.prog Q ⟨#[u0,u1,u2,u3,u4,u5,u6, .pointer (some ⟨rg,0,none⟩),u8,u9,u10,u11,u12,u13,u14,u15,u16,u17,u18,u19,u20,u21,u22, .pointer (some ⟨ga,0,none⟩), .pointer (some ⟨pg,0,none⟩),u25,u26,u27,u28,u29,u30,u31,u32,u33,u34,u35,u36,u37,u38,u39,u40,u41,u42,u43,u44,u45,u46,u47,u48,u49,u50,u51,u52,u53,u54,u55,u56,u57,u58,u59,u60,u61,u62,u63,u64,u65,u66,u67,u68,u69,u70,u71,u72,u73,u74,u75,u76,u77,u78,u79,u80,u81,u82,u83,u84,u85,u86,u87,u88,u89,u90,u91,u92,u93,u94,u95,u96,u97,u98,u99,u100,u101,u102,u103,u104,u105,u106,u107,u108,u109,u110,u111,u112,u113,u114,u115,u116,u117,u118,u119,u120,u121,u122,u123,u124,u125,u126,u127,u128,u129,u130,u131,u132,u133,u134,u135,u136,u137,u138,u139,u140,u141,u142,u143,u144,u145,u146,u147,u148,u149,u150,u151,u152,u153,u154,u155,u156,u157,u158,u159,u160,u161,u162,u163,u164,u165,u166,u167,u168,u169,u170,u171,u172,u173,u174,u175,u176,u177,u178,u179,u180,u181,u182,u183,u184,u185,u186,u187,u188,u189,u190,u191,u192,u193,u194,u195,u196,u197,u198,u199,u200,u201,u202,u203,u204,u205,u206,u207,u208,u209,u210,u211,u212,u213,u214,u215,u216,u217,u218,u219,u220,u221,u222,u223,u224,u225,u226,u227,u228,u229,u230,u231,u232,u233,u234,u235,u236,u237,u238,u239,u240,u241,u242],[]⟩ w5:=by
 simp only[Tryz.f41,regOf,Option.bind_some,Nat.reduceBEq,cond_true,cond_false,Option.some.injEq]at hc;subst hc;refine wp_region_put3 [225,226,227,228,229,230,231,232,233,234,235,236,237,238,239,240] (OutA w5 rg crg gt nA ctl gs2 btf cf ga nmv pg bo lo f fp curO) (by kernel_rfl) (by kernel_rfl) ?_ ?_ ?_
 ·exact hI0 _
 ·intro i o ho L V w1 hi hL hno h K hK;simp only[putAll,List.foldl_cons,List.foldl_nil,List.setIfInBounds_toArray,List.set_cons_zero,List.set_cons_succ];rcases i with _|_|_|_|_|_|_|_|_|_|_|_|_|_|_|_|_|i
  ·obtain rfl:=sJ ho;clear hL hno
   go_simp;exact hK (updV V 225 _) _ _ (by simp[putAll,updV]) {h with e0:=fun _=>rfl}
  ·obtain rfl:=sJ ho;have e0:=h.e0 (hL ⟨0, .data⟩ (by simp) rfl)
   clear hL hno
   go_simp;exact hK (updV V 226 _) _ _ (by simp[putAll,updV,e0]) {h with e1:=fun _=>rfl}
  ·obtain rfl:=sJ ho;have e1:=h.e1 (hL ⟨1, .data⟩ (by simp) rfl)
   clear hL hno
   go_simp;exact hK (updV V 227 _) _ _ (by simp[putAll,updV,e1]) {h with e2:=fun _=>rfl}
  ·obtain rfl:=sJ ho;have e2:=h.e2 (hL ⟨2, .data⟩ (by simp) rfl)
   have ct:=h.kr.cellL 0 rfl;clear hL hno
   go_simp;exact hK (updV V 228 _) _ _ (by simp[putAll,updV,e2]) {h with e3:=fun _=>rfl}
  ·obtain rfl:=sJ ho;clear hL hno
   go_simp;exact hK (updV V 229 _) _ _ (by simp[putAll,updV]) {h with e4:=fun _=>rfl}
  ·obtain rfl:=sJ ho;have e4:=h.e4 (hL ⟨4, .data⟩ (by simp) rfl)
   have ct:=h.kx.cellL 1 rfl;clear hL hno
   go_simp;exact hK (updV V 230 _) _ _ (by simp[putAll,updV,e4]) {h with e5:=fun _=>rfl}
  ·obtain rfl:=sJ ho;have e3:=h.e3 (hL ⟨3, .data⟩ (by simp) rfl)
   have e5:=h.e5 (hL ⟨5, .data⟩ (by simp) rfl)
   have q1:=hf0;have q2:=hf1;clear hL hno
   go_simp;exact hK (updV V 231 _) _ _ (by simp[putAll,updV,e3,e5]) {h with e6:=fun _=>rfl}
  ·obtain rfl:=sJ ho;have e6:=h.e6 (hL ⟨6, .data⟩ (by simp) rfl)
   have xt:w1.cell? ⟨gt,f,none⟩=some (.pointer (some ⟨btf,0,none⟩)):=by rw[h.tr.cellAt f (by omega)];exact hft.out
   clear hL hno
   go_simp;exact hK (updV V 232 _) _ _ (by simp[putAll,updV,e6]) {h with e7:=fun _=>rfl}
  ·obtain rfl:=sJ ho;have e7:=h.e7 (hL ⟨7, .data⟩ (by simp) rfl)
   clear hL hno
   go_simp;exact hK (updV V 233 _) _ _ (by simp[putAll,updV,e7]) {h with e8:=fun _=>rfl}
  ·obtain rfl:=sJ ho;have e8:=h.e8 (hL ⟨8, .data⟩ (by simp) rfl)
   clear hL hno
   go_simp;exact hK (updV V 234 _) _ _ (by simp[putAll,updV,e8]) {h with e9:=fun _=>rfl}
  ·obtain rfl:=sJ ho;have e9:=h.e9 (hL ⟨9, .data⟩ (by simp) rfl)
   have xt:=h.kf.cell 2;rw[hfc.out]at xt;clear hL hno
   go_simp;exact hK (updV V 235 _) _ _ (by simp[putAll,updV,e9]) {h with e10:=fun _=>rfl}
  ·obtain rfl:=sJ ho;clear hL hno
   go_simp;exact hK (updV V 236 _) _ _ (by simp[putAll,updV]) {h with e11:=fun _=>rfl}
  ·obtain rfl:=sJ ho;have e11:=h.e11 (hL ⟨11, .data⟩ (by simp) rfl)
   have ct:=h.kx.cellL 2 rfl;clear hL hno
   go_simp;exact hK (updV V 237 _) _ _ (by simp[putAll,updV,e11]) {h with e12:=fun _=>rfl}
  ·obtain rfl:=sJ ho;clear hL hno
   go_simp;exact hK (updV V 238 _) _ _ (by simp[putAll,updV]) {h with e13:=fun _=>rfl}
  ·obtain rfl:=sJ ho;have e13:=h.e13 (hL ⟨13, .data⟩ (by simp) rfl)
   clear hL hno
   go_simp;exact hK (updV V 239 _) _ _ (by simp[putAll,updV,e13]) {h with e14:=fun _=>rfl}
  ·obtain rfl:=sJ ho;have e10:=h.e10 (hL ⟨10, .data⟩ (by simp) rfl)
   have e12:=h.e12 (hL ⟨12, .data⟩ (by simp) rfl)
   have q1:=hfp0;have q2:=hfp1;clear hL hno
   go_simp;exact hK (updV V 240 _) _ _ (by simp[putAll,updV,e10,e12]) {h with e15:=fun _=>rfl}
  ·obtain rfl:=sJ ho;have e15:=h.e15 (hL ⟨15, .data⟩ (by simp) rfl)
   have e14:=h.e14 (hL ⟨14, .data⟩ (by simp) rfl)
   have K:=h.o0 hi;clear hL hno;have xt:=K.cell fp;have fr:=K.frozen fp;rw[hco.out]at xt
   go_simp;refine hK V _ _ (by simp[putAll,e15,e14]) ?_
   exact{h with
    on:=h.on.setCell ⟨bo,fp,none⟩ (.iface 160 (.pointer (some ⟨pg,0,none⟩))) fun _=>rfl
    kr:=h.kr.setOther K (by decide) fp (.iface 160 (.pointer (some ⟨pg,0,none⟩)))
    tr:=own_set h.tr K (by decide) fp (.iface 160 (.pointer (some ⟨pg,0,none⟩)))
    kx:=h.kx.setOther K (by decide) fp (.iface 160 (.pointer (some ⟨pg,0,none⟩)))
    o0:=nT_
    o1:=fun _=>K.set fp (.iface 160 (.pointer (some ⟨pg,0,none⟩)))
    kf:=h.kf.setOther K (by decide) fp (.iface 160 (.pointer (some ⟨pg,0,none⟩)))}
  ·simp at ho
 ·intro L V w' hL h;exact hend L V w' hL h
end Go.Proofs.YtpmlljbebdidgaaGreatDoor
