/- Lemmas and walks for the claim: Dn, Do, Dp, Dq, Dr. -/
import Derived.Test.YtpmlljbebdidgaaGreatDoorA0
import Derived.Test.YtpmlljbebdidgaaGreatDoorA17
set_option maxRecDepth 100000
set_option maxHeartbeats 1000000
namespace Go.Proofs.YtpmlljbebdidgaaGreatDoor
open Go.RowKit Go.ChangeShapes
inductive KdV
 |up|down|weave|unweave|add|quot|copies|drop
 |filter (T:Option Addr) (ct:Nat) (taps:List Int) (S:Option Addr) (cs:Nat) (seen:List Int)
 |sum (x:Int)
 |tick (x d:Int)
def KdV.ty:KdV→TypeId
 | .up=> 205 | .down=> 207 | .weave=> 209 | .unweave=> 211 | .add=> 213 | .quot=> 215
 | .copies=> 222 | .drop=> 227 | .filter .. => 202 | .sum _=> 220 | .tick .. => 225
def KdV.pt:KdV→TypeId
 | .up=> 203 | .down=> 206 | .weave=> 208 | .unweave=> 210 | .add=> 212 | .quot=> 214
 | .copies=> 221 | .drop=> 226 | .filter .. => 200 | .sum _=> 216 | .tick .. => 223
def KdV.fn:KdV→FuncId
 | .up=> 136 | .down=> 137 | .weave=> 138 | .unweave=> 139 | .add=> 140
 | .quot=> 142 | .copies=> 146 | .drop=> 148 | .filter .. => 132 | .sum _=> 145 | .tick .. => 147
def KdV.extra:KdV→List Value
 | .filter T ct taps S cs seen=>[.slice T taps.length ct, .slice S seen.length cs]
 | .sum x=>[.int .i64 x]
 | .tick x d=>[.int .i64 x, .int .i64 d]
 |_=>[]
def KdV.rates(κ:KdV)(rin rout:List Int):Prop:=
 match κ with
 | .filter _ _ taps _ _ seen=>rin=[1]∧rout=[1]∧taps.length=seen.length+1∧seen.length≤1000
 | .up=>rin=[1]∧∃n:Nat,(1≤n∧n≤64)∧rout=[(n:Int)]
 | .down=>rout=[1]∧∃n:Nat,(1≤n∧n≤64)∧rin=[(n:Int)]
 | .weave=>∃n m:Nat,(1≤n∧n≤16)∧(1≤m∧m≤64)∧n*m≤64∧rin=List.replicate n (m:Int)∧rout=[((n*m:Nat):Int)]
 | .unweave=>∃n m:Nat,(1≤n∧n≤16)∧(1≤m∧m≤64)∧n*m≤64∧rin=[((n*m:Nat):Int)]∧rout=List.replicate n (m:Int)
 | .add=>rout=[1]∧∃n:Nat,(1≤n∧n≤16)∧rin=List.replicate n 1
 | .copies=>rin=[1]∧∃n:Nat,(1≤n∧n≤16)∧rout=List.replicate n 1
 | .quot=>rin=[1,1]∧rout=[1]
 | .sum _=>rin=[1]∧rout=[1]
 | .tick .. =>rin=[]∧rout=[1]
 | .drop=>rout=[]∧∃n:Nat,(1≤n∧n≤64)∧rin=[(n:Int)]
def KdV.ok(κ:KdV)(w:World):Prop:=
 match κ with
 | .filter T _ taps S _ seen=>Rd w w.heap.size T (cellsI taps)∧AllFit taps∧Rd w w.heap.size S (cellsI seen)∧AllFit seen
 | .sum x=>fits x
 | .tick x d=>fits x∧fits d
 |_=>True
def KdV.fix(κ:KdV)(q:Nat):Prop:=
 match κ with
 | .filter T _ taps S _ seen=>(taps≠[]∧blkOf T=some q)∨(seen≠[]∧blkOf S=some q)
 |_=>False
def KdV.fx(κ:KdV)(Ai Ao:Option Addr)(q:Nat):Prop:=blkOf Ai=some q∨blkOf Ao=some q∨κ.fix q
structure KdM(w:World)(b:Nat)(κ:KdV)(rin rout:List Int)(Ai:Option Addr)(ci:Nat)(Ao:Option Addr)(co:Nat)(n:Int):Prop where
 blk:Blk w b κ.ty (Value.slice Ai rin.length ci::Value.slice Ao rout.length co::Value.int .i64 n::κ.extra).toArray
 ri:Rd w w.heap.size Ai (cellsI rin)
 ro:Rd w w.heap.size Ao (cellsI rout)
 rt:κ.rates rin rout
 ex:κ.ok w
 ap:∀q,κ.fx Ai Ao q→q≠b
theorem KdV.ok.only{X:Nat→Prop}{w w':World}{κ:KdV}(h:κ.ok w)(ho:Only X w w')(hX:∀q,κ.fix q→¬X q):κ.ok w':=by
 cases κ with
 |filter T ct taps S cs seen=>exact⟨Rd.onlyN h.1 ho fun q hx hq=>hX q (.inl ⟨hx,hq⟩),h.2.1,Rd.onlyN h.2.2.1 ho fun q hx hq=>hX q (.inr ⟨hx,hq⟩),h.2.2.2⟩
 |_=>exact h
theorem KdV.ok.lt{w:World}{κ:KdV}(h:κ.ok w){q:Nat}(hq:κ.fix q):q<w.heap.size:=by
 cases κ with
 |filter T ct taps S cs seen=>
  rcases hq with⟨h1,h2⟩|⟨h1,h2⟩
  ·exact Rd.ltN h.1 h1 h2
  ·exact Rd.ltN h.2.2.1 h1 h2
 |_=>exact hq.elim
theorem KdM.only{X:Nat→Prop}{w w':World}{b:Nat}{κ:KdV}{rin rout:List Int}{Ai Ao:Option Addr}{ci co:Nat}{n:Int}(h:KdM w b κ rin rout Ai ci Ao co n)(ho:Only X w w')(hb:¬X b)(hX:∀q,κ.fx Ai Ao q→¬X q):KdM w' b κ rin rout Ai ci Ao co n:=
 ⟨h.blk.only ho hb,(Rd.only h.ri ho lR_ fun q hq=>hX q (.inl hq)).more ho.size,(Rd.only h.ro ho lR_ fun q hq=>hX q (.inr (.inl hq))).more ho.size,h.rt,h.ex.only ho fun q hq=>hX q (.inr (.inr hq)),h.ap⟩
theorem KdM.below{w w':World}{b:Nat}{κ:KdV}{rin rout:List Int}{Ai Ao:Option Addr}{ci co:Nat}{n:Int}(h:KdM w b κ rin rout Ai ci Ao co n)(hb:Below w.heap.size w w'):KdM w' b κ rin rout Ai ci Ao co n:=
 h.only (X:=fun _=>False) (Only.of_below hb) id (fun _ _=>id)
theorem rates_method(κ:KdV)(bk:Nat)(w:World):(method 357 κ.pt (.pointer (some ⟨bk,0,none⟩)) "pianola/actors.rates").run Tryz.prog w= .ok (131, .pointer (some ⟨bk,0,none⟩)) w:=by cases κ<;>kernel_rfl
theorem fired_method(κ:KdV)(bk:Nat)(w:World):(method 357 κ.pt (.pointer (some ⟨bk,0,none⟩)) "pianola/actors.fired").run Tryz.prog w= .ok (129, .pointer (some ⟨bk,0,none⟩)) w:=by cases κ<;>kernel_rfl
theorem reckon_method(κ:KdV)(bk:Nat)(w:World):(method 357 κ.pt (.pointer (some ⟨bk,0,none⟩)) "pianola/actors.reckon").run Tryz.prog w= .ok (κ.fn, .pointer (some ⟨bk,0,none⟩)) w:=by cases κ<;>kernel_rfl
theorem reckon_call(κ:KdV)(args:Array Value)(w:World):(callFunc κ.fn args).run Tryz.prog w= .ok (.enter κ.fn args) w:=by cases κ<;>kernel_rfl
def RckOut(w:World)(b:Nat)(κ:KdV)(rin rout:List Int)(Ai:Option Addr)(ci:Nat)(Ao:Option Addr)(co:Nat)(n:Int)(e:Ending)(w':World):Prop:=
 ∃gv ok,e= .returned (.tuple #[gv, .bool ok])∧∃z,w.heap.size≤z∧(∃κ':KdV,κ'.pt=κ.pt∧κ'.fn=κ.fn∧κ'.ty=κ.ty∧KdM w' b κ' rin rout Ai ci Ao co n∧∀q,κ'.fix q→q<z∧(κ.fix q∨w.heap.size≤q))∧Only (fun q=>q=b) w w'∧
  (ok=true→∃outs:List RowV,GiftM w' z gv outs∧outs.map (fun r=>(r.xs.length:Int))=rout)
theorem rck_still{w w':World}{b:Nat}{κ:KdV}{rin rout:List Int}{Ai Ao:Option Addr}{ci co:Nat}{n:Int}(h:KdM w b κ rin rout Ai ci Ao co n)(hb:Below w.heap.size w w'){gv:Value}{ok:Bool}(hg:ok=true→∃outs:List RowV,GiftM w' w.heap.size gv outs∧outs.map (fun r=>(r.xs.length:Int))=rout):
  RckOut w b κ rin rout Ai ci Ao co n (.returned (.tuple #[gv, .bool ok])) w':=
 ⟨gv,ok,rfl,w.heap.size,Nat.le_refl _,⟨κ,rfl,rfl,rfl,h.below hb,fun _ hq=>⟨h.ex.lt hq, .inl hq⟩⟩,Only.of_below hb,hg⟩
theorem map_one{rows:List RowV}{n:Int}(h:rows.map (fun r=>(r.xs.length:Int))=[n]):∃r,rows=[r]∧(r.xs.length:Int)=n:=by
 cases rows with
 |nil=>cases h
 |cons r rs=>
  cases rs with
  |nil=>exact⟨r,rfl,by simpa using h⟩
  |cons r' rs=>simp at h
theorem map_two{rows:List RowV}{n m:Int}(h:rows.map (fun r=>(r.xs.length:Int))=[n,m]):∃r r',rows=[r,r']∧(r.xs.length:Int)=n∧(r'.xs.length:Int)=m:=by
 cases rows with
 |nil=>cases h
 |cons r rs=>
  obtain⟨r',rfl,h2⟩:=map_one (rows:=rs) (n:=m) (List.cons.inj h).2;exact⟨r,r',rfl,(List.cons.inj h).1,h2⟩
theorem map_rep{rows:List RowV}{n m:Nat}(h:rows.map (fun r=>(r.xs.length:Int))=List.replicate n (m:Int)):rows.length=n∧∀r∈rows,r.xs.length=m:=by
 have h1:=congrArg List.length h;rw[List.length_map,List.length_replicate]at h1;refine⟨h1,fun r hr=>?_⟩
 have h2:(r.xs.length:Int)∈List.replicate n (m:Int):=h▸List.mem_map.2 ⟨r,hr,rfl⟩
 rw[List.mem_replicate]at h2;omega
theorem reckon_any(κ:KdV)(b:Nat)(rin rout:List Int)(Ai:Option Addr)(ci:Nat)(Ao:Option Addr)(co:Nat)(n:Int)(w:World)(h:KdM w b κ rin rout Ai ci Ao co n)(H:Option Addr)(rows:List RowV)(ch:Nat)(hI:InM w w.heap.size H rows)(hlen:rows.map (fun r=>(r.xs.length:Int))=rin):
  Calls Tryz.prog κ.fn #[.pointer (some ⟨b,0,none⟩), .slice H rows.length ch] w (RckOut w b κ rin rout Ai ci Ao co n):=by
 cases κ with
 |up=>
  obtain⟨e1,m,hm,rfl⟩:=h.rt;obtain⟨r,rfl,hr⟩:=map_one (hlen.trans e1);refine(up_any b m _ _ _ Ao co w h.blk h.ro hm H [r] 1 ch hI rfl r rfl (by omega)).mono ?_
  rintro e w' ⟨gv,rfl,outs,hg,ho,hb⟩;exact rck_still h hb fun _=>⟨outs,hg,ho⟩
 |down=>
  obtain⟨rfl,m,hm,e1⟩:=h.rt;obtain⟨r,rfl,hr⟩:=map_one (hlen.trans e1);refine(down_any b w H [r] 1 ch hI rfl r rfl _ (List.getElem?_eq_getElem (by omega:0<r.xs.length))).mono ?_
  rintro e w' ⟨gv,rfl,outs,hg,ho,hb⟩;exact rck_still h hb fun _=>⟨outs,hg,ho⟩
 |weave=>
  obtain⟨m,k,hm,hk,hmk,e1,rfl⟩:=h.rt;obtain⟨hl,hr⟩:=map_rep (hlen.trans e1);have hri:=h.ri;have hbl:=h.blk;rw[e1]at hri hbl;rw[List.length_replicate]at hbl;rw[show m=(m-1)+1 by omega,List.replicate_succ]at hri
  rw[hl];refine(kWeave_any b m k _ _ Ai Ao ci co (List.replicate (m-1) (k:Int)) w hbl hri h.ro hm hk hmk H rows ch hI hl hr).mono ?_;rintro e w' ⟨gv,rfl,outs,hg,ho,hb⟩;exact rck_still h hb fun _=>⟨outs,hg,ho⟩
 |unweave=>
  obtain⟨m,k,hm,hk,hmk,e1,rfl⟩:=h.rt;obtain⟨r,rfl,hr⟩:=map_one (hlen.trans e1);have hbl:=h.blk;rw[List.length_replicate]at hbl;refine(kUnweave_any b m k _ _ _ Ao co w hbl hm hk hmk H [r] 1 ch hI rfl r rfl (by omega)).mono ?_
  rintro e w' ⟨gv,rfl,outs,hg,ho,hb⟩;exact rck_still h hb fun _=>⟨outs,hg,ho⟩
 |add=>
  obtain⟨rfl,m,hm,e1⟩:=h.rt;obtain⟨hl,hr⟩:=map_rep (m:=1) (hlen.trans e1);refine(kAdd_any b w H rows _ ch hI rfl fun r h=>by rw[hr r h];omega).mono ?_
  rintro e w' ⟨gv,ok,rfl,hg,hb⟩;exact rck_still h hb hg
 |quot=>
  obtain⟨e1,rfl⟩:=h.rt;obtain⟨r,r',rfl,hr,hr'⟩:=map_two (hlen.trans e1);refine(quot_any b w H [r,r'] 2 ch hI rfl r r' rfl rfl (by omega) (by omega)).mono ?_
  rintro e w' ⟨gv,ok,rfl,hg,hb⟩;exact rck_still h hb hg
 |copies=>
  obtain⟨e1,m,hm,rfl⟩:=h.rt;obtain⟨r,rfl,hr⟩:=map_one (hlen.trans e1);have hbl:=h.blk;rw[List.length_replicate]at hbl;refine(kCopies_any b m _ _ _ Ao co w hbl hm.2 H [r] 1 ch hI rfl r rfl (by omega)).mono ?_
  rintro e w' ⟨gv,rfl,outs,hg,ho,hb⟩;exact rck_still h hb fun _=>⟨outs,hg,ho⟩
 |drop=>
  obtain⟨rfl,m,hm,e1⟩:=h.rt;refine(drop_any b w H _ ch).mono ?_;rintro e w' ⟨rfl,rfl⟩;exact rck_still h (Below.refl _ _) fun _=>⟨[],⟨⟨rfl, .inl ⟨rfl,rfl⟩⟩,fun r h=>(by cases h),fun r h=>(by cases h),fun r h=>(by cases h)⟩,rfl⟩
 |sum x=>
  obtain⟨e1,rfl⟩:=h.rt;obtain⟨r,rfl,hr⟩:=map_one (hlen.trans e1);refine(kSum_any b _ _ _ _ x w h.blk h.ex H [r] 1 ch hI rfl r rfl (by omega)).mono ?_
  rintro e w' ⟨gv,ok,rfl,⟨s',hs',kb⟩,hO,hg⟩;have hk:=fun q (hq:KdV.fx (.sum x) Ai Ao q)=>h.ap q hq
  refine⟨gv,ok,rfl,w.heap.size,Nat.le_refl _,⟨.sum s',rfl,rfl,rfl,⟨kb,(Rd.only h.ri hO lR_ fun q hq=>hk q (.inl hq)).more hO.size,(Rd.only h.ro hO lR_ fun q hq=>hk q (.inr (.inl hq))).more hO.size,⟨e1,rfl⟩,hs',h.ap⟩,fun q hq=>hq.elim⟩,hO,hg⟩
 |tick x d=>
  obtain⟨e1,rfl⟩:=h.rt;refine(kTick_any b _ _ _ _ x d w h.blk h.ex.1 h.ex.2 _).mono ?_;rintro e w' ⟨gv,ok,rfl,⟨s',hs',kb⟩,hO,hg⟩;have hk:=fun q (hq:KdV.fx (.tick x d) Ai Ao q)=>h.ap q hq
  refine⟨gv,ok,rfl,w.heap.size,Nat.le_refl _,⟨.tick s' d,rfl,rfl,rfl,⟨kb,(Rd.only h.ri hO lR_ fun q hq=>hk q (.inl hq)).more hO.size,(Rd.only h.ro hO lR_ fun q hq=>hk q (.inr (.inl hq))).more hO.size,⟨e1,rfl⟩,⟨hs',h.ex.2⟩,h.ap⟩,fun q hq=>hq.elim⟩,hO,hg⟩
 |filter T ct taps S cs seen=>
  obtain⟨e1,rfl,htl,hsl⟩:=h.rt;obtain⟨r,rfl,hr⟩:=map_one (hlen.trans e1);have hbl:Blk w b 202 #[.slice Ai rin.length ci, .slice Ao 1 co, .int .i64 n, .slice T (seen.length+1) ct, .slice S seen.length cs]:=by
   have:=h.blk
   have e:(KdV.filter T ct taps S cs seen).extra=[.slice T (seen.length+1) ct, .slice S seen.length cs]:=by simp[KdV.extra,htl]
   rw[e]at this;exact this
  refine(kFilter_any b _ _ _ _ T ct seen.length cs taps seen S w hbl h.ex.1 htl h.ex.2.1 h.ex.2.2.1 rfl h.ex.2.2.2 hsl H [r] 1 ch hI rfl r rfl (by omega)).mono ?_
  rintro e w' ⟨gv,ok,rfl,⟨S',cs',seen',kb,hrd,hl',hf',z,hz,hS',hg⟩,hO⟩;have hk:=fun q (hq:KdV.fx (.filter T ct taps S cs seen) Ai Ao q)=>h.ap q hq
  have hb:=h.blk.lt;have hfix:∀q,KdV.fix (.filter T ct taps S' cs' seen') q→q<z∧(KdV.fix (.filter T ct taps S cs seen) q∨w.heap.size≤q):=fun q hq=>by
   rcases hq with hq|hq
   ·exact⟨Nat.lt_of_lt_of_le (Rd.ltN h.ex.1 hq.1 hq.2) hz, .inl (.inl hq)⟩
   ·have hne:seen≠[]:=fun hc=>hq.1 (List.length_eq_zero_iff.1 (by rw[hl',hc];rfl))
    obtain⟨h1,h|h⟩:=hS' q hq.1 hq.2
    ·exact⟨h1, .inl (.inr ⟨hne,h⟩)⟩
    ·exact⟨h1, .inr h⟩
  refine⟨gv,ok,rfl,z,hz,⟨.filter T ct taps S' cs' seen',rfl,rfl,rfl,⟨?_,(Rd.only h.ri hO lR_ fun q hq=>hk q (.inl hq)).more hO.size,(Rd.only h.ro hO lR_ fun q hq=>hk q (.inr (.inl hq))).more hO.size,⟨e1,rfl,by omega,by omega⟩,⟨Rd.onlyN h.ex.1 hO fun q hx hq=>hk q (.inr (.inr (.inl ⟨hx,hq⟩))),h.ex.2.1,hrd,hf'⟩,fun q hq=>?_⟩,hfix⟩,hO,hg⟩
  ·have e:(KdV.filter T ct taps S' cs' seen').extra=[.slice T (seen.length+1) ct, .slice S' seen.length cs']:=by simp[KdV.extra,htl,hl']
   rw[e];exact kb
  ·rcases hq with hq|hq|hq
   ·exact hk q (.inl hq)
   ·exact hk q (.inr (.inl hq))
   ·rcases(hfix q hq).2 with h'|h'
    ·exact hk q (.inr (.inr h'))
    ·omega
structure RaI(w0:World)(b:Nat)(Ai:Option Addr)(li ci:Nat)(Ao:Option Addr)(lo co:Nat)(rin rout:List Int)(L:Nat→Bool)(V:Nat→Value)(w:World):Prop where
 bel:Below w0.heap.size w0 w
 f4:L 4=true→V 8= .slice (sAddr (V 8)) li (sCap (V 8))∧w.ownsRow w0.heap.size 3 1 (V 8) li (cellsI rin)
 f9:L 9=true→V 13= .slice (sAddr (V 13)) lo (sCap (V 13))∧w.ownsRow w0.heap.size 3 1 (V 13) lo (cellsI rout)
 g10:L 10=true→V 2=V 8
 g11:L 11=true→V 3=V 13
 e0:L 0=true→V 4= .pointer (some ⟨b,0,none⟩)
 e1:L 1=true→V 5= .pointer (some ⟨b,0,none⟩)
 e2:L 2=true→V 6= .pointer (some ⟨b,0,none⟩)
 e3:L 3=true→V 7= .slice Ai li ci
 e5:L 5=true→V 9= .pointer (some ⟨b,0,none⟩)
 e6:L 6=true→V 10= .pointer (some ⟨b,0,none⟩)
 e7:L 7=true→V 11= .pointer (some ⟨b,1,none⟩)
 e8:L 8=true→V 12= .slice Ao lo co
theorem rates_any(b:Nat)(Ai:Option Addr)(li ci:Nat)(Ao:Option Addr)(lo co:Nat)(rin rout:List Int)(w:World)(c0:w.cell? ⟨b,0,none⟩=some (.slice Ai li ci))(c1:w.cell? ⟨b,1,none⟩=some (.slice Ao lo co))(hbw:b<w.heap.size)
  (hi:Rd w w.heap.size Ai (cellsI rin)) (ho:Rd w w.heap.size Ao (cellsI rout)) (hli:rin.length=li) (hlo:rout.length=lo) (hl1:li≤1000) (hl2:lo≤1000):
  Calls Tryz.prog 131 #[.pointer (some ⟨b,0,none⟩)] w fun e w'=>∃A c A' c',e= .returned (.tuple #[.slice A li c, .slice A' lo c'])∧w'.ownsRow w.heap.size 3 1 (.slice A li c) li (cellsI rin)∧w'.ownsRow w.heap.size 3 1 (.slice A' lo c') lo (cellsI rout)∧Below w.heap.size w w':=by
 have HC0:=Lh c0;have HC1:=Lh c1;have HRi:=Lh hi;have HRo:=Lh ho;have Hli:=Lh hli;have Hlo:=Lh hlo;clear c0 c1 hi ho hli hlo
 go_enter Tryz.func131, Tryz.ntmps131
 go_wp2_with fail;have hI0:∀V,RaI w b Ai li ci Ao lo co rin rout (fun _=>false) V w.drew:=fun V=>by
  constructor
  all_goals first
   |exact Drawn.below _ ((Drawn.refl w).drewN 1)
   |(intro h;cases h)
 refine wp_region_put3 [4,5,6,7,8,9,10,11,12,13,2,3] (RaI w b Ai li ci Ao lo co rin rout) (by kernel_rfl) (by kernel_rfl) ?_ ?_ ?_
 ·exact hI0 _
 ·intro i o ho L V w1 hi hL hno h K hK;simp only[putAll,List.foldl_cons,List.foldl_nil,List.setIfInBounds_toArray,List.set_cons_zero,List.set_cons_succ];rcases i with _|_|_|_|_|_|_|_|_|_|_|_|i
  ·obtain rfl:=sJ ho;clear hL hno
   go_simp;exact hK (updV V 4 _) _ _ (by simp[putAll,updV]) {h with e0:=fun _=>rfl}
  ·obtain rfl:=sJ ho;have e0:=h.e0 (hL ⟨0, .data⟩ (by simp) rfl)
   clear hL hno
   go_simp;exact hK (updV V 5 _) _ _ (by simp[putAll,updV,e0]) {h with e1:=fun _=>rfl}
  ·obtain rfl:=sJ ho;have e1:=h.e1 (hL ⟨1, .data⟩ (by simp) rfl)
   clear hL hno
   go_simp;exact hK (updV V 6 _) _ _ (by simp[putAll,updV,e1]) {h with e2:=fun _=>rfl}
  ·obtain rfl:=sJ ho;have e2:=h.e2 (hL ⟨2, .data⟩ (by simp) rfl)
   have ct:=(h.bel.cell (p:=⟨b,0,none⟩) hbw).trans HC0.out;clear hL hno
   go_simp;exact hK (updV V 7 _) _ _ (by simp[putAll,updV,e2]) {h with e3:=fun _=>rfl}
  ·obtain rfl:=sJ ho;have e3:=h.e3 (hL ⟨3, .data⟩ (by simp) rfl)
   have l10:=hno 10 (by kernel_rfl)
   clear hL hno;have hz:=h.bel.size;have hr:=(HRi.out.below h.bel lR_).more hz
   go_simp;refine(clone_any _ Ai li ci w1 Hli.out hr (by omega)).mono ?_
   rintro e w3 ⟨A3,c3,rfl,o3,b3⟩;refine hK (updV V 8 (.slice A3 li c3)) _ _ (by simp[putAll,updV,e3]) ?_
   exact{h with
    bel:=h.bel.trans (b3.mono hz)
    f4:=fun _=>⟨rfl,World.ownsRow.mono o3 hz⟩
    f9:=fun hl=>⟨(h.f9 hl).1,own_below (h.f9 hl).2 b3⟩
    g10:=nX_ l10}
  ·obtain rfl:=sJ ho;clear hL hno
   go_simp;exact hK (updV V 9 _) _ _ (by simp[putAll,updV]) {h with e5:=fun _=>rfl}
  ·obtain rfl:=sJ ho;have e5:=h.e5 (hL ⟨5, .data⟩ (by simp) rfl)
   clear hL hno
   go_simp;exact hK (updV V 10 _) _ _ (by simp[putAll,updV,e5]) {h with e6:=fun _=>rfl}
  ·obtain rfl:=sJ ho;have e6:=h.e6 (hL ⟨6, .data⟩ (by simp) rfl)
   clear hL hno
   go_simp;exact hK (updV V 11 _) _ _ (by simp[putAll,updV,e6]) {h with e7:=fun _=>rfl}
  ·obtain rfl:=sJ ho;have e7:=h.e7 (hL ⟨7, .data⟩ (by simp) rfl)
   have ct:=(h.bel.cell (p:=⟨b,1,none⟩) hbw).trans HC1.out;clear hL hno
   go_simp;exact hK (updV V 12 _) _ _ (by simp[putAll,updV,e7]) {h with e8:=fun _=>rfl}
  ·obtain rfl:=sJ ho;have e8:=h.e8 (hL ⟨8, .data⟩ (by simp) rfl)
   have l11:=hno 11 (by kernel_rfl)
   clear hL hno;have hz:=h.bel.size;have hr:=(HRo.out.below h.bel lR_).more hz
   go_simp;refine(clone_any _ Ao lo co w1 Hlo.out hr (by omega)).mono ?_
   rintro e w3 ⟨A3,c3,rfl,o3,b3⟩;refine hK (updV V 13 (.slice A3 lo c3)) _ _ (by simp[putAll,updV,e8]) ?_
   exact{h with
    bel:=h.bel.trans (b3.mono hz)
    f9:=fun _=>⟨rfl,World.ownsRow.mono o3 hz⟩
    f4:=fun hl=>⟨(h.f4 hl).1,own_below (h.f4 hl).2 b3⟩
    g11:=nX_ l11}
  ·obtain rfl:=sJ ho;have hd:=(h.f4 (hL ⟨4, .data⟩ (by simp) rfl)).1
   generalize sAddr (V 8)=A9 at hd;generalize sCap (V 8)=c9 at hd;clear hL hno
   go_simp;refine hK (updV V 2 (.slice A9 li c9)) _ _ (by simp[putAll,updV,hd]) ?_
   exact{h with g10:=fun _=>hd.symm}
  ·obtain rfl:=sJ ho;have hd:=(h.f9 (hL ⟨9, .data⟩ (by simp) rfl)).1
   generalize sAddr (V 13)=A9 at hd;generalize sCap (V 13)=c9 at hd;clear hL hno
   go_simp;refine hK (updV V 3 (.slice A9 lo c9)) _ _ (by simp[putAll,updV,hd]) ?_
   exact{h with g11:=fun _=>hd.symm}
  ·simp at ho
 ·clear hI0;intro L V w2 hL h;have h4:=h.f4 (hL 4 (by simp))
  have h9:=h.f9 (hL 9 (by simp))
  have e10:=(h.g10 (hL 10 (by simp))).trans h4.1
  have e11:=(h.g11 (hL 11 (by simp))).trans h9.1
  have hb:=h.bel;clear h hL;generalize sAddr (V 8)=A1 at h4 e10;generalize sCap (V 8)=d1 at h4 e10;generalize sAddr (V 13)=A2 at h9 e11;generalize sCap (V 13)=d2 at h9 e11;obtain⟨x1,x2⟩:=h4;obtain⟨x3,x4⟩:=h9;rw[x1]at x2;rw[x3]at x4;have HX2:=Lh x2;have HX4:=Lh x4;have HB:=Lh hb;simp only[putAll,List.foldl_cons,List.foldl_nil,List.setIfInBounds_toArray,List.set_cons_zero,List.set_cons_succ,e10,e11];clear x1 x2 x3 x4 e10 e11 hb
  go_wp2_with fail
  go_ret2;exact⟨A1,d1,A2,d2,rfl,HX2.out,HX4.out,HB.out⟩
theorem fired_kind(b:Nat)(n:Int)(w:World)(c2:w.cell? ⟨b,2,none⟩=some (.int .i64 n))(f2:w.frozen? ⟨b,2,none⟩=false)(hn:0≤n∧n≤4611686018427387904):
  Calls Tryz.prog 129 #[.pointer (some ⟨b,0,none⟩)] w fun e w'=>e= .returned (.tuple #[])∧w'=w.setCell ⟨b,2,none⟩ (.int .i64 (n+1)):=by
 have e2:IntKind.i64.wrap (n+1)=n+1:=by rw[IntKind.wrap_i64];omega
 go_enter Tryz.func129, Tryz.ntmps129
 go_wp2_with fail
 go_end0
 exact⟨rfl,rfl⟩
theorem few_rep{n:Nat}{m:Nat}(hn:n≤16)(hm:1≤m∧m≤64):(List.replicate n (m:Int)).length≤16∧∀x∈List.replicate n (m:Int),1≤x∧x≤64:=
 ⟨by rw[List.length_replicate];exact hn,fun x hx=>by rw[List.mem_replicate]at hx;omega⟩
theorem few_one{x:Int}(h:1≤x∧x≤64):[x].length≤16∧∀y∈[x],1≤y∧y≤64:=⟨by simp,fun y hy=>by simp at hy;subst hy;exact h⟩
theorem KdV.rates_few{κ:KdV}{rin rout:List Int}(h:κ.rates rin rout):(rin.length≤16∧∀x∈rin,1≤x∧x≤64)∧(rout.length≤16∧∀x∈rout,1≤x∧x≤64):=by
 have o:[(1:Int)].length≤16∧∀y∈[(1:Int)],1≤y∧y≤64:=few_one (by omega)
 have z:([]:List Int).length≤16∧∀y∈([]:List Int),1≤y∧y≤64:=⟨by simp,fun y hy=>(by cases hy)⟩
 cases κ with
 |up=>obtain⟨rfl,n,hn,rfl⟩:=h;exact⟨o,few_one (by omega)⟩
 |down=>obtain⟨rfl,n,hn,rfl⟩:=h;exact⟨few_one (by omega),o⟩
 |weave=>obtain⟨n,m,hn,hm,hnm,rfl,rfl⟩:=h;have:=Nat.mul_pos (show 0<n by omega) (show 0<m by omega);exact⟨few_rep hn.2 hm,few_one (by omega)⟩
 |unweave=>obtain⟨n,m,hn,hm,hnm,rfl,rfl⟩:=h;have:=Nat.mul_pos (show 0<n by omega) (show 0<m by omega);exact⟨few_one (by omega),few_rep hn.2 hm⟩
 |add=>obtain⟨rfl,n,hn,rfl⟩:=h;exact⟨few_rep (m:=1) hn.2 (by omega),o⟩
 |copies=>obtain⟨rfl,n,hn,rfl⟩:=h;exact⟨o,few_rep (m:=1) hn.2 (by omega)⟩
 |quot=>obtain⟨rfl,rfl⟩:=h;exact⟨⟨by simp,fun x hx=>by simp at hx;omega⟩,o⟩
 |drop=>obtain⟨rfl,n,hn,rfl⟩:=h;exact⟨few_one (by omega),z⟩
 |sum x=>obtain⟨rfl,rfl⟩:=h;exact⟨o,o⟩
 |tick x d=>obtain⟨rfl,rfl⟩:=h;exact⟨z,o⟩
 |filter T ct taps S cs seen=>obtain⟨rfl,rfl,-⟩:=h;exact⟨o,o⟩
theorem shapeK_any(bb bk:Nat)(κ:KdV)(rin rout:List Int)(Ai:Option Addr)(ci:Nat)(Ao:Option Addr)(co:Nat)(n:Int)(w:World)(kb:Blk w bb 187 #[.iface κ.pt (.pointer (some ⟨bk,0,none⟩))])(h:KdM w bk κ rin rout Ai ci Ao co n):
  Calls Tryz.prog 61 #[.pointer (some ⟨bb,0,none⟩)] w fun e w'=>∃A c A' c',e= .returned (.tuple #[.slice A rin.length c, .slice A' rout.length c'])∧w'.ownsRow w.heap.size 3 1 (.slice A rin.length c) rin.length (cellsI rin)∧w'.ownsRow w.heap.size 3 1 (.slice A' rout.length c') rout.length (cellsI rout)∧Below w.heap.size w w':=by
 obtain⟨h1,h2⟩:=KdV.rates_few h.rt;have c0:=kb.cellL 0 rfl;have hm:=rates_method κ bk;have d0:=h.blk.cellL 0 rfl;have d1:=h.blk.cellL 1 rfl;have HR:=Lh (rates_any bk Ai rin.length ci Ao rout.length co rin rout w d0 d1 h.blk.lt h.ri h.ro rfl rfl (by omega) (by omega))
 generalize rin.length=li at*;generalize rout.length=lo at*;generalize κ.pt=pt at*;clear kb h d0 d1 h1 h2
 go_enter Tryz.func61, Tryz.ntmps61
 go_wp2_with fail;refine HR.out.mono ?_
 rintro e w2 ⟨A,c,A',c',rfl,o1,o2,hb⟩;have HO1:=Lh o1;have HO2:=Lh o2;have HB:=Lh hb;clear o1 o2 hb hm c0
 go_wp2_with fail
 go_ret2;exact⟨A,c,A',c',rfl,HO1.out,HO2.out,HB.out⟩
theorem GiftM.only{X:Nat→Prop}{w w':World}{z:Nat}{gv:Value}{rows:List RowV}(h:GiftM w z gv rows)(ho:Only X w w')(hX:∀q,z≤q→¬X q):GiftM w' z gv rows:=
 ⟨own_only h.row ho fun q hq=>hX q (own_ge h.row hq),fun r hr=>{(h.ok r hr)with rd:=(Rd.only (h.ok r hr).rd ho lR_ fun q hq=>hX q (h.far r hr q hq)).more ho.size},h.far,h.ap⟩
theorem KdV.ty_ne(κ:KdV):κ.ty≠ 187 :=by cases κ<;>(unfold KdV.ty;simp only;decide)
def FireOut(w:World)(bk:Nat)(κ:KdV)(rin rout:List Int)(Ai:Option Addr)(ci:Nat)(Ao:Option Addr)(co:Nat)(n:Int)(e:Ending)(w':World):Prop:=
 ∃gv ec,e= .returned (.tuple #[gv, .int .i64 ec])∧∃z,w.heap.size≤z∧(∃(κ':KdV) (n':Int),κ'.pt=κ.pt∧(n≤n'∧n'≤n+1)∧KdM w' bk κ' rin rout Ai ci Ao co n'∧∀q,κ'.fix q→q<z∧(κ.fix q∨w.heap.size≤q))∧Only (fun q=>q=bk) w w'∧
  (ec=0∨ec=70)∧(ec=0→∃outs:List RowV,GiftM w' z gv outs∧outs.map (fun r=>(r.xs.length:Int))=rout)
theorem fireK_any(bb bk:Nat)(κ:KdV)(rin rout:List Int)(Ai:Option Addr)(ci:Nat)(Ao:Option Addr)(co:Nat)(n:Int)(w:World)(kb:Blk w bb 187 #[.iface κ.pt (.pointer (some ⟨bk,0,none⟩))])(h:KdM w bk κ rin rout Ai ci Ao co n)(hn:0≤n∧n≤4611686018427387904)(H:Option Addr)(rows:List RowV)(ch:Nat)(hI:InM w w.heap.size H rows)(hlen:rows.map (fun r=>(r.xs.length:Int))=rin):
  Calls Tryz.prog 86 #[.pointer (some ⟨bb,0,none⟩), .slice H rows.length ch] w (FireOut w bk κ rin rout Ai ci Ao co n):=by
 obtain⟨h1,h2⟩:=KdV.rates_few h.rt;have c0:=kb.cellL 0 rfl;have hm1:=rates_method κ bk;have hm2:=reckon_method κ bk;have hm3:=fired_method κ bk;have hc:=reckon_call κ;have d0:=h.blk.cellL 0 rfl;have d1:=h.blk.cellL 1 rfl;have hml:rows.length=rin.length:=by rw[←hlen,List.length_map]
 have HR:=Lh (rates_any bk Ai rin.length ci Ao rout.length co rin rout w d0 d1 h.blk.lt h.ri h.ro rfl rfl (by omega) (by omega))
 have Hlen:=Lh hlen;have Hml:=Lh hml;have HK:=Lh h;have HI:=Lh hI;have HKB:=Lh kb;have hfew:rin.length≤16:=h1.1;rw[hml];obtain⟨li,hli⟩:∃l,rin.length=l:=⟨_,rfl⟩;obtain⟨lo,hlo⟩:∃l,rout.length=l:=⟨_,rfl⟩;rw[hli,hlo]at HR;rw[hli]at Hml hfew⊢;have Hli:=Lh hli;obtain⟨pt,hpt⟩:∃p,κ.pt=p:=⟨_,rfl⟩;obtain⟨fn,hfn⟩:∃p,κ.fn=p:=⟨_,rfl⟩;rw[hpt]at hm1 hm2 hm3 c0;rw[hfn]at hc hm2;have Hpt:=Lh hpt;have Hfn:=Lh hfn;clear kb h d0 d1 h1 h2 hlen hml hI hli hlo hpt hfn
 go_enter Tryz.func86, Tryz.ntmps86
 go_wp2_with fail;refine HR.out.mono ?_
 rintro e w2 ⟨A,c,A',c',rfl,o1,-,hb⟩;have hnn:((li:Int) !=(li:Int))=false:=by simp
 have HO1:=Lh o1;have HB:=Lh hb;clear o1 hb c0
 go_wp2_with fail
 go_loopw [29] (fun i wr=>∃k:Nat,k≤li∧i= .int .i64 k∧Drawn w2 wr) (fun i _=>li-(intOf i).toNat)
 case atStart=>exact⟨0,by omega,rfl,Drawn.refl _⟩
 case round=>
  obtain⟨k,hk,rfl,hd⟩:=hrel;by_cases hlt:k<li
  ·have hI2:=(HI.out.below (HB.out.trans (hd.below w.heap.size)) lR_);obtain⟨b1,o1,r,rfl,-,hr,c1,-⟩:=hI2.at_ (i:=k) (by rw[Hml.out];exact hlt)
   have ho:=own_below HO1.out (hd.below w2.heap.size);have hrk:rin[k]?=some (r.xs.length:Int):=by rw[←Hlen.out,List.getElem?_map,hr];rfl
   obtain⟨g,rfl⟩:=own_addr ho (by omega)
   have c2:wr.cell? ⟨g,k,none⟩=some (.int .i64 (r.xs.length:Int)):=by
    rcases rd_of_own ho with h|⟨b,off,hA,_,hc⟩
    ·have:=congrArg List.length h
     rw[cellsI_length,Hli.out,List.length_nil]at this;omega
    ·injection hA with hA
     injection hA with e1 e2 _
     subst e1 e2
     have:=hc k (.int .i64 (r.xs.length:Int)) (by simp[cellsI,hrk])
     rwa [Nat.zero_add]at this
   have h3:(0:Int)≤(k:Int):=by omega
   have h4:(k:Int)<(li:Int):=by omega
   generalize r.xs.length=l at*;have hll:((l:Int) !=(l:Int))=false:=by simp
   have HD:=Lh hd;clear hI2 hr ho hrk hd
   go_wp2_with fail
   go_roundw
   case rel=>exact⟨k+1,by omega,by go_num,HD.out⟩
   case measure=>simp[intOf];omega
  ·obtain rfl:k=li:=by omega
   have hbw:=HB.out.trans (hd.below w.heap.size);have hz:=hbw.size;have K2:=HK.out.below hbw;have c0:=(HKB.out.below hbw HKB.out.lt).cellL 0 rfl;rw[Hpt.out]at c0;have HC:=Lh (reckon_any κ bk rin rout Ai ci Ao co n wr K2 H rows ch ((HI.out.below hbw lR_).more hz) Hlen.out);rw[Hfn.out,Hml.out]at HC;have HBw:=Lh hbw;have Hz:=Lh hz;clear hd hbw hz K2
   go_wp2_with fail;refine HC.out.mono ?_
   rintro e w3 ⟨gv,ok,rfl,z,hzz,⟨κ',hpt',-,hty,K3,hfix⟩,hO,hg⟩;have hne:bb≠bk:=fun hc=>by
    have h1:=HKB.out;rw[hc]at h1;exact κ.ty_ne (blk_ty HK.out.blk h1)
   have kb3:=((HKB.out.below HBw.out HKB.out.lt).only hO hne);have hbk:=HK.out.blk.lt;have O3:Only (fun q=>q=bk) w w3:=(Only.of_below HBw.out).trans hO
   have HK3:=Lh K3;have HO3:=Lh O3;have HFX:Hid (∀q,κ'.fix q→q<z∧(κ.fix q∨w.heap.size≤q)):=fun q hq=>⟨(hfix q hq).1,(hfix q hq).2.imp id fun h=>Nat.le_trans Hz.out h⟩
   have Hzz:Hid (w.heap.size≤z):=Nat.le_trans Hz.out hzz
   have Hpt':=Lh hpt';have Hg:=Lh hg;clear hpt' hO hg hfix O3 hzz;cases ok with
   |false=>
    clear kb3 K3 hty c0
    go_wp2_with fail
    go_ret2;exact⟨_,70,rfl,z,Hzz.out,⟨κ',n,Hpt'.out,by omega,HK3.out,HFX.out⟩,HO3.out, .inr rfl,fun h=>(by cases h)⟩
   |true=>
    have c0:=kb3.cellL 0 rfl;rw[Hpt.out]at c0;have d2:=K3.blk.cellL 2 rfl;have f2:=K3.blk.frozen 2;have HF:=Lh (fired_kind bk n w3 d2 f2 hn);have k4:=K3.blk.set 2 (.int .i64 (n+1));simp only[List.setIfInBounds_toArray,List.set_cons_zero,List.set_cons_succ]at k4;have O4:Only (fun q=>q=bk) w3 (w3.setCell ⟨bk,2,none⟩ (.int .i64 (n+1))):=(Only.refl _ _).setCell _ _ fun _=>rfl
    have K4:KdM (w3.setCell ⟨bk,2,none⟩ (.int .i64 (n+1))) bk κ' rin rout Ai ci Ao co (n+1):=
     ⟨k4,(Rd.only K3.ri O4 lR_ fun q hq=>K3.ap q (.inl hq)).more O4.size,(Rd.only K3.ro O4 lR_ fun q hq=>K3.ap q (.inr (.inl hq))).more O4.size,K3.rt,K3.ex.only O4 fun q hq=>K3.ap q (.inr (.inr hq)),K3.ap⟩
    obtain⟨outs,G,hout⟩:=Hg.out rfl;have G4:=G.only O4 fun q hq he=>by have:=Hzz.out;omega
    have HK4:=Lh K4;have HO4:=Lh (HO3.out.trans O4);have HG4:=Lh G4;have Hout:=Lh hout;clear kb3 K3 hty d2 f2 k4 O4 K4 G hout G4 HO3 HK3 Hg
    go_wp2_with fail;refine HF.out.mono ?_
    rintro e w5 ⟨rfl,rfl⟩
    go_wp2_with fail
    go_ret2;exact⟨_,0,rfl,z,Hzz.out,⟨κ',n+1,Hpt'.out,by omega,HK4.out,HFX.out⟩,HO4.out, .inl rfl,fun _=>⟨outs,HG4.out,Hout.out⟩⟩
theorem within_iff{n m:Int}:withinB n m=true↔1≤n∧n≤m:=by unfold withinB;simp
theorem nat_of{n m:Int}(h:withinB n m=true):∃k:Nat,n=k∧1≤k∧(k:Int)≤m:=⟨n.toNat,by have:=within_iff.1 h;omega,by have:=within_iff.1 h;omega,by have:=within_iff.1 h;omega⟩
theorem shape_of{tag:Int}{ps I O:List Int}(h:shapeR tag ps=(I,O,0))(k:Int)(hk:tag=k)(h1:1≤k∧k≤11):shapeB k ps.length (ps[0]?.getD 0) (ps[1]?.getD 0) (decide (ps.length=1)) (pairB ps.length (ps[0]?.getD 0) (ps[1]?.getD 0))=(I,O,0):=by
 subst hk;unfold shapeR at h;rw[if_neg (by omega)]at h
 exact h
theorem shape_filter{l:Nat}{n m:Int}{s p:Bool}{I O:List Int}(h:shapeB 1 l n m s p=(I,O,0)):I=[1]∧O=[1]∧1≤l∧l≤16:=by
 unfold shapeB at h;simp at h;split at h
 ·rename_i hw
  have:=within_iff.1 hw
  simp at h
  exact⟨h.1.symm,h.2.symm,by omega,by omega⟩
 ·simp at h
theorem shape_up{l:Nat}{n m:Int}{s p:Bool}{I O:List Int}(h:shapeB 2 l n m s p=(I,O,0)):KdV.rates .up I O:=by
 unfold shapeB at h;simp at h;split at h
 ·rename_i hw
  obtain⟨k,rfl,h1,h2⟩:=nat_of hw.2;simp at h;exact⟨h.1.symm,k,by omega,h.2.symm⟩
 ·simp at h
theorem shape_down{l:Nat}{n m:Int}{s p:Bool}{I O:List Int}(h:shapeB 3 l n m s p=(I,O,0)):KdV.rates .down I O:=by
 unfold shapeB at h;simp at h;split at h
 ·rename_i hw
  obtain⟨k,rfl,h1,h2⟩:=nat_of hw.2;simp at h;exact⟨h.2.symm,k,by omega,h.1.symm⟩
 ·simp at h
theorem pair_parts{l:Nat}{n m:Int}(h:pairB l n m=true):∃a b:Nat,n=a∧m=b∧(1≤a∧a≤16)∧(1≤b∧b≤64)∧a*b≤64:=by
 unfold pairB at h;simp only[Bool.and_eq_true,decide_eq_true_eq]at h;obtain⟨-,h1,h2,h3⟩:=h;obtain⟨a,rfl,a1,a2⟩:=nat_of h1;obtain⟨b,rfl,b1,b2⟩:=nat_of h2;refine⟨a,b,rfl,rfl,by omega,by omega,?_⟩
 rw[←Int.natCast_mul]at h3;omega
theorem shape_weave{l:Nat}{n m:Int}{s:Bool}{I O:List Int}(h:shapeB 4 l n m s (pairB l n m)=(I,O,0)):KdV.rates .weave I O:=by
 unfold shapeB at h;simp at h;split at h
 ·rename_i hw
  obtain⟨a,b,rfl,rfl,h1,h2,h3⟩:=pair_parts hw;simp at h;exact⟨a,b,h1,h2,h3,h.1.symm,by rw[←h.2,Int.natCast_mul]⟩
 ·simp at h
theorem shape_unweave{l:Nat}{n m:Int}{s:Bool}{I O:List Int}(h:shapeB 5 l n m s (pairB l n m)=(I,O,0)):KdV.rates .unweave I O:=by
 unfold shapeB at h;simp at h;split at h
 ·rename_i hw
  obtain⟨a,b,rfl,rfl,h1,h2,h3⟩:=pair_parts hw;simp at h;exact⟨a,b,h1,h2,h3,by rw[←h.1,Int.natCast_mul],h.2.symm⟩
 ·simp at h
theorem shape_add{l:Nat}{n m:Int}{s p:Bool}{I O:List Int}(h:shapeB 6 l n m s p=(I,O,0)):KdV.rates .add I O:=by
 unfold shapeB at h;simp at h;split at h
 ·rename_i hw
  obtain⟨k,rfl,h1,h2⟩:=nat_of hw.2;simp at h;exact⟨h.2.symm,k,by omega,h.1.symm⟩
 ·simp at h
theorem shape_quot{l:Nat}{n m:Int}{s p:Bool}{I O:List Int}(h:shapeB 7 l n m s p=(I,O,0)):KdV.rates .quot I O:=by
 unfold shapeB at h;simp at h;split at h
 ·simp at h
  exact⟨h.1.symm,h.2.symm⟩
 ·simp at h
theorem shape_sum{l:Nat}{n m:Int}{s p:Bool}{I O:List Int}(h:shapeB 8 l n m s p=(I,O,0)):I=[1]∧O=[1]:=by
 unfold shapeB at h;simp at h;split at h
 ·simp at h
  exact⟨h.1.symm,h.2.symm⟩
 ·simp at h
theorem shape_copies{l:Nat}{n m:Int}{s p:Bool}{I O:List Int}(h:shapeB 9 l n m s p=(I,O,0)):KdV.rates .copies I O:=by
 unfold shapeB at h;simp at h;split at h
 ·rename_i hw
  obtain⟨k,rfl,h1,h2⟩:=nat_of hw.2;simp at h;exact⟨h.1.symm,k,by omega,h.2.symm⟩
 ·simp at h
theorem shape_tick{l:Nat}{n m:Int}{s p:Bool}{I O:List Int}(h:shapeB 10 l n m s p=(I,O,0)):I=[]∧O=[1]∧l=2:=by
 unfold shapeB at h;simp at h;split at h
 ·rename_i hw
  simp at h
  exact⟨h.1,h.2.symm,hw⟩
 ·simp at h
theorem shape_drop{l:Nat}{n m:Int}{s p:Bool}{I O:List Int}(h:shapeB 11 l n m s p=(I,O,0)):KdV.rates .drop I O:=by
 unfold shapeB at h;simp at h;split at h
 ·rename_i hw
  obtain⟨k,rfl,h1,h2⟩:=nat_of hw.2;simp at h;exact⟨h.2,k,by omega,h.1.symm⟩
 ·simp at h
end Go.Proofs.YtpmlljbebdidgaaGreatDoor
