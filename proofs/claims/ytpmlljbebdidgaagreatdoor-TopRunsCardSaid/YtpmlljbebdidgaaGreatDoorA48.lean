/- Lemmas and walks for the claim: Q, BQ, GQ, OQ, JQ. -/
import Derived.Test.YtpmlljbebdidgaaGreatDoorA0
import Derived.Test.YtpmlljbebdidgaaGreatDoorA1
import Derived.Test.YtpmlljbebdidgaaGreatDoorCards
import Derived.Test.YtpmlljbebdidgaaGreatDoorTie
import Derived.ProofKit
import Derived.OpenShut
import Derived.Deep.DeepHandedRow
import Derived.Lib.LaidTab
import Derived.SizedLaws
import Derived.Test.YtpmlljbebdidgaaGreatDoorA36
import Derived.Deep.Slices
import Derived.Deep.Fields
import Derived.ChangeSame
import Derived.Lib.SmallJoins
import Derived.Test.YtpmlljbebdidgaaGreatDoorA13
import Derived.Test.YtpmlljbebdidgaaGreatDoorA33
set_option linter.unusedSimpArgs false
set_option maxRecDepth 100000
set_option maxHeartbeats 1000000
namespace Go.Proofs.YtpmlljbebdidgaaGreatDoor
open Go.ChangeShapes Go.WideShapes Go.ChangeAt Go.RowKit
theorem zo5:laidOutB Tryz.prog=true:=by kernel_rfl
theorem own:ownKnob Tryz.prog.godebug=none:=by kernel_rfl
def zhI:String:=Rows.topStuckRow.named.headD Rows.topStuckRow.func
theorem zpw: Tryz.prog.globalNamed zhI=some 0 :=by kernel_rfl
theorem zn0:(Tryz.prog.globals[0]?).map (·.type)=some 235 :=by kernel_rfl
theorem zn1: Tryz.prog.cellsOf 235 =64:=by kernel_rfl
theorem zmG: Tryz.prog.cellsOf 5 =1:=by kernel_rfl
theorem cellsInt: Tryz.prog.cellsOf 3 =1:=by kernel_rfl
theorem zn2: Tryz.prog.bytesOf 3 =8:=by kernel_rfl
def listed:List (String×DataW Unit):=[(zhI,Rows.laid_math_bits_deBruijn64tab)]
theorem zj6{W:World}(h:laidMetH Tryz.prog listed W):Tab W:=by
 have ht:Lib.TabIs Tryz.prog W zhI .u8 (Lib.deBruijn64tab.map Int.ofNat):=
  Lib.tabIs_of_head (rest:=[]) zpw zn0 Tryz.underlying235 Tryz.underlying5 zmG zn1 h
 intro j hj
 have:=ht.cell zpw j (by simpa [Lib.deBruijn64tab]using hj)
 rw[this]
 congr 2
 simp only[zz,zp];cases Lib.deBruijn64tab[j]?<;>rfl
section
variable {H:Type} {enc:TypeId×Value→H} {P:Program}
theorem zf5(hl:laidOutB P=true){W W':World}(hb:Below W.heap.size W W'):
  ∀(ts:List TypeId) (vs:List Value) (ds:List (DataW H)) (p:List MemPlace),(ts.all fun t=>P.readableRec t&&decide (t<P.types.size))=true→DataW.TrodAll enc P W 0 (fun _=>true) true ts vs ds p→(∀x∈p,x.block<W.heap.size)→
   DataW.TrodAll enc P W' 0 (fun b=>decide (b<W.heap.size)) true ts vs ds p
 |[],vs,ds,p,_,h,_=>by
  obtain⟨rfl,rfl,rfl⟩:=trodAll_nil h
  rfl
 |t::ts,vs,ds,p,ha,h,hlt=>by
  obtain⟨v,vs',d,ds',p',q',rfl,rfl,rfl,h1,h2⟩:=trodAll_cons h;simp only[zcZ,zag,decide_eq_true_eq]at ha;exact⟨p',q',Below.trod hl ha.1.1 ha.1.2 h1 hb (fun x hx=>hlt x (zbZ _ hx)),zf5 hl hb ts vs' ds' q' ha.2 h2 (fun x hx=>hlt x (List.mem_append_right _ hx)),rfl⟩
theorem zn3{f:Func}{s:ChangeSpec}{W W':World}{args:Array Value}{ds gs:List (DataW H)}{before:List MemPlace}{tb:TypeId}(hl:laidOutB P=true)(hts:(f.params.toList.all fun t=>P.readableRec t&&decide (t<P.types.size))=true)
  (hsv:s.vars=[]) (hrt:f.resultTypes=#[tb]) (hbool:P.underlying tb=some .bool) (hW:DataW.Whole enc P f.params.toList s.vars false W args.toList ds gs before)
  (hres:(s.fn H (ds++gs)).results=[.lit (.bool true)]) (hargs:(s.fn H (ds++gs)).args=ds) (hvars:(s.fn H (ds++gs)).vars=[]) (hb:Below W.heap.size W W'):
  s.post enc P f false true false false W args (.bool true) W':=by
 have hlt:∀p∈before,p.block<W.heap.size:=fun p hp=>hW.lt p hp
 have hW':=hW;obtain⟨p,q,hA,hV,rfl,_,_⟩:=hW;refine⟨ds,gs,p++q,[],p,[],hW',?_,?_,?_,hb.frame _,fun h=>by cases h⟩
 ·rw[hres,hrt];exact trodAll_cons_mk (shut_bool hbool true) trodAll_mk0
 ·rw[hargs];exact zf5 hl hb _ _ _ _ hts hA (fun x hx=>hlt x (zbZ _ hx))
 ·rw[hvars,hsv]
  rfl
end
theorem zcS{x:Int}(h:(Lit.int .i64 x).wf=true):fits x:=bounds_i64 h
noncomputable def laidWorld (os:Os):World:=
 {World.holding Tryz.prog os ⟨#[],#[],[]⟩with heap:=(World.holding Tryz.prog os ⟨#[],#[],[]⟩).heap.modify 0 fun
   | .cells _ t frozen=> .cells (Lib.deBruijn64tab.map fun n:Nat=>Value.int .u8 (n:Int)).toArray t frozen
   |o=>o}
end Go.Proofs.YtpmlljbebdidgaaGreatDoor
namespace Go.Proofs.YtpmlljbebdidgaaGreatDoor
open Go.ChangeShapes Go.WideShapes Go.ChangeAt Go.RowKit Go.Deep Go.Joins
section
variable {H:Type} {enc:TypeId×Value→H} {P:Program} {w:World} {base:Nat} {spare:Nat→Bool} {held:Bool}
theorem open_slice_fields{t e:TypeId}{fs:Array Field}{fuel:Nat}{cs:List Value}{x:DataW H×List MemPlace}(ht:P.underlying t=some (.slice e))(he:P.underlying e=some (.struct fs))
  (hone:oneCellFields P fs=true) (hC:P.cellsOf e=fs.size) (h:DataW.trod enc P w base spare held fuel t cs=some x):
  (cs=[.slice none 0 0]∧x=(.nil,[]))∨
  ∃(a:Addr) (len cap m:Nat) (D:Nat→DataW H) (Pl:Nat→List MemPlace),cs=[.slice (some a) len cap]∧base≤a.block∧len≤cap∧cap≤maxLen∧m=(if spare a.block then cap else len)∧
   x=(.slice ((List.range len).map D) ((List.range (m-len)).map fun j=>D (len+j)),MemPlace.row a (m*fs.size)++(List.range m).flatMap Pl)∧
   ∀i,i<m→∃(ys:List (DataW H×List MemPlace)) (n:Nat),D i= .agg (ys.map (·.1))∧Pl i=ys.flatMap (·.2)∧ys.length=fs.size∧
    ∀(j:Nat) (f:Field),fs[j]?=some f→∃(v:Value) (y:DataW H×List MemPlace),w.cell? (a.add (i*fs.size+j))=some v∧ys[j]?=some y∧DataW.trod enc P w base spare held n f.type [v]=some y:=by
 rcases open_slice ht h with h0|⟨a,len,cap,m,n,D,Pl,hcs,hb,hl,hm,hmm,hx,hi⟩
 ·exact .inl h0
 ·refine .inr ⟨a,len,cap,m,D,Pl,hcs,hb,hl,hm,hmm,by rw[hC]at hx;exact hx,fun i him=>?_⟩
  obtain⟨cs',hc,ht'⟩:=hi i him;rw[hC]at hc;obtain⟨ys,n',hn',hy,hlen,hyl,hf⟩:=DataW.trod_struct he ht';obtain⟨_,hcl,hat⟩:=World.cells?_some hc;simp only[zaj]at hy;refine⟨ys,n',hy.1,hy.2,hyl,fun j f hj=>?_⟩
  obtain⟨ho,hk⟩:=hone_of hone j f hj;have hjl:j<fs.size:=(zQ.1 hj).1;have hcell:=hat j hjl;have hv:cs'[j]?=some (cs'[j]'(by omega)):=zk (by omega)
  have h1:=hf j f hj;rw[ho,hk]at h1;have hone':(cs'.drop j).take 1=[cs'[j]'(by omega)]:=by
   rw[zah (by omega)]
   rfl
  rw[hone']at h1;have hys:ys[j]?=some (ys[j]'(by omega)):=zk (by omega)
  refine⟨_,_,?_,hys,h1.trans hys⟩;rw[←Go.Deep.add_add,hcell,hv]
end
theorem zkN: Tryz.prog.cellsOf 26 =5:=by kernel_rfl
theorem zkO: Tryz.prog.cellsOf 72 =3:=by kernel_rfl
theorem zl9: Tryz.prog.cellsOf 69 =5:=by kernel_rfl
theorem zhZ: Tryz.prog.cellsOf 53 =3:=by kernel_rfl
theorem zgG{H:Type}{P:Program}{e:TypeId}{d:DataW H}{n:Nat}(hn:n∈d.weights P e):∀(l:List (DataW H)),d∈l→n∈DataW.weightsAll P e l:=by
 intro l
 induction l with
 |nil=>intro h;cases h
 |cons x l ih=>
  intro h;simp only[DataW.weightsAll,zaZ];rcases zV.1 h with rfl|h
  ·exact .inl hn
  ·exact .inr (ih h)
theorem flat_get{α:Type}(f:α→List Value)(n:Nat)(hf:∀x,(f x).length=n)(hn:0<n):∀(l:List α) (k:Nat) (u:Value),(l.flatMap f)[k]?=some u→∃a,l[k/n]?=some a∧(f a)[k%n]?=some u:=by
 intro l
 induction l with
 |nil=>intro k u h;simp at h
 |cons b l ih=>
  intro k u h;rw[zdz]at h;by_cases hk:k<n
  ·rw[zar (by rw[hf];exact hk)]at h
   rw[Nat.div_eq_of_lt hk,zdV hk];exact⟨b,rfl,h⟩
  ·rw[zO (by rw[hf];omega),hf]at h
   obtain⟨a,h1,h2⟩:=ih (k-n) u h;have e1:k/n=(k-n)/n+1:=by rw[Nat.div_eq_sub_div hn (by omega)]
   have e2:k%n=(k-n)%n:=by rw[Nat.mod_eq_sub_mod (by omega)]
   rw[e1,e2];exact⟨a,h1,h2⟩
section
variable {H:Type} {enc:TypeId×Value→H} {W:World}
theorem zfP{n:Nat}{v:Value}{y:DataW H×List MemPlace}(h:DataW.trod enc Tryz.prog W 0 (fun _=>true) true n 36 [v]=some y)(hz:∀x∈y.1.weights Tryz.prog 36,x≤reachBytes):
  ∃A c xs,v= .slice A (List.length xs) c∧AllFit xs∧Rd W W.heap.size A (cellsI xs)∧xs.length*8≤140737488351232∧xs.length≤maxLen:=by
 rcases open_ints Tryz.underlying36 Tryz.underlying3 cellsInt h with⟨hcs,hx⟩|⟨a,len,cap,zs,hcs,_,hl,hm,hzl,hx,hcell,hwz⟩
 ·simp only[za7,and_true]at hcs;subst hcs;exact⟨none,0,[],rfl,fun x hx=>(by cases hx), .inl rfl,by simp,by simp⟩
 ·simp only[za7,and_true]at hcs;subst hcs;simp only[if_true]at hzl;have hd0:y.1= .slice (lits .i64 (zs.take len)) (lits .i64 (zs.drop len)):=congrArg Prod.fst hx;have hsz:=hz ((len+(cap-len))*8) (by rw[hd0];simp[DataW.weights, Tryz.underlying36,zn2,lits,hzl,zbz hl])
  simp only[reachBytes]at hsz;refine⟨some a,cap,zs.take len,by rw[zaH,hzl,zbz hl],fun x hx=>zcS (hwz x (zcU hx)),?_,by rw[zaH];omega,by rw[zaH];omega⟩
  by_cases h0:0<zs.length
  ·obtain⟨b,off,rfl,hc⟩:=ints_at hcell h0;refine .inr ⟨b,off,rfl,zch W ⟨b,off+0,none⟩ (hc 0 h0),fun i u hu=>?_⟩
   have hi:=(zu.1 hu).1;rw[cellsI_length,zaH]at hi;rw[hc i (by omega),←hu]
   simp[cellsI,show i<len by omega,show i<zs.length by omega]
  ·left
   have:zs=[]:=zaL (by omega)
   simp[this,cellsI]
theorem zeK{α:Type} [Inhabited α]{f:α→List Value}{good:α→Prop}{te e:TypeId}{fs:Array Field}{n:Nat}{v:Value}{y:DataW H×List MemPlace}(ht: Tryz.prog.underlying te=some (.slice e))(he: Tryz.prog.underlying e=some (.struct fs))
  (hone:oneCellFields Tryz.prog fs=true) (hC: Tryz.prog.cellsOf e=fs.size) (hf:∀x,(f x).length=fs.size) (hpos:0<fs.size)
  (h:DataW.trod enc Tryz.prog W 0 (fun _=>true) true n te [v]=some y) (hz:∀x∈y.1.weights Tryz.prog te,x≤reachBytes)
  (hmk:∀(ys:List (DataW H×List MemPlace)) (us:Nat→Value) (m:Nat),ys.length=fs.size→(∀x∈DataW.weightsEach Tryz.prog (fs.toList.map (·.type)) (ys.map (·.1)),x≤reachBytes)→
   (∀(j:Nat) (fd:Field),fs[j]?=some fd→∃y,ys[j]?=some y∧DataW.trod enc Tryz.prog W 0 (fun _=>true) true m fd.type [us j]=some y)→∃a:α,good a∧∀j u,(f a)[j]?=some u→u=us j):
  ∃A c l,v= .slice A (List.length l) c∧(∀x∈l,good x)∧Rd W W.heap.size A (l.flatMap f)∧l.length≤maxLen:=by
 rcases open_slice_fields ht he hone hC h with⟨hcs,hx⟩|⟨a,len,cap,mm,D,Pl,hcs,_,hl,hm,hmm,hx,hi⟩
 ·simp only[za7,and_true]at hcs;subst hcs;exact⟨none,0,[],rfl,fun x hx=>(by cases hx), .inl rfl,by simp⟩
 ·simp only[za7,and_true]at hcs;subst hcs;simp only[if_true]at hmm;subst hmm;have hy1:y.1= .slice ((List.range len).map D) ((List.range (mm-len)).map fun j=>D (len+j)):=congrArg Prod.fst hx
  have one:∀i,i<len→∃b:α,good b∧∀j u,(f b)[j]?=some u→W.cell? (a.add (i*fs.size+j))=some u:=by
   intro i hil;obtain⟨ys,m,hD,_,hyl,hfj⟩:=hi i (by omega)
   obtain⟨us,hus⟩:∃us:Nat→Value,∀j,j<fs.size→W.cell? (a.add (i*fs.size+j))=some (us j)∧∀fd,fs[j]?=some fd→∃y,ys[j]?=some y∧DataW.trod enc Tryz.prog W 0 (fun _=>true) true m fd.type [us j]=some y:=by
    have:Inhabited Value:=⟨.bool false⟩
    refine choose_lt (p:=fun j u=>W.cell? (a.add (i*fs.size+j))=some u∧∀fd,fs[j]?=some fd→∃y,ys[j]?=some y∧DataW.trod enc Tryz.prog W 0 (fun _=>true) true m fd.type [u]=some y) fun j hj=>?_
    obtain⟨v,y,h1,h2,h3⟩:=hfj j fs[j] (zbv hj);refine⟨v,h1,fun fd hfd=>?_⟩
    rw[zbv hj]at hfd;cases hfd;exact⟨y,h2,h3⟩
   obtain⟨b,hb,hbu⟩:=hmk ys us m hyl (fun x hx=>by
    refine hz x ?_;rw[hy1];simp only[DataW.weights,ht,zV,zaZ];refine .inr (.inl (zgG (d:=D i) ?_ _ (zY.2 ⟨i,zM.2 hil,rfl⟩)));rw[hD];simp only[DataW.weights,he];exact hx) (fun j fd hj=>(hus j (zQ.1 hj).1).2 fd hj)
   refine⟨b,hb,fun j u hu=>?_⟩
   have hj:j<fs.size:=by have:=(zu.1 hu).1;rw[hf]at this;exact this
   rw[hbu j u hu];exact(hus j hj).1
  obtain⟨F,hF⟩:=choose_lt one;refine⟨some a,mm,(List.range len).map F,by simp,?_,?_,by simp;omega⟩
  ·intro b hb;obtain⟨i,hi,rfl⟩:=zY.1 hb;exact(hF i (zM.1 hi)).1
  ·by_cases h0:0<len
   ·have e1:((f (F 0))[0]?)=some ((f (F 0))[0]'(by rw[hf];exact hpos)):=zk _
    have e0:=(hF 0 h0).2 0 _ e1;obtain⟨b,off,spot⟩:=a;have hspot:spot=none:=by simpa [Addr.add]using World.cell?_spot e0
    subst hspot;refine .inr ⟨b,off,rfl,?_,fun k u hu=>?_⟩
    ·have:=zch W _ e0
     simpa [Addr.add]using this
    ·obtain⟨x,h1,h2⟩:=flat_get f fs.size hf hpos _ k u hu;have hk:k/fs.size<len:=by have:=(zu.1 h1).1;simpa using this
     have hx:x=F (k/fs.size):=by simp[hk]at h1;exact h1.symm
     subst hx
     have:=(hF (k/fs.size) hk).2 (k%fs.size) u h2
     rw[show k/fs.size*fs.size+k%fs.size=k by rw[zaK];exact Nat.div_add_mod k fs.size,Addr.add_lit]at this
     exact this
   ·left
    obtain rfl:len=0:=by omega
    rfl
theorem zhc{t:TypeId}{fs:Array Field}{base:Nat}{v:Value}{d:DataW H}{p:List MemPlace}(hs: Tryz.prog.underlying t=some (.struct fs))(hone:oneCellFields Tryz.prog fs=true)(hC: Tryz.prog.cellsOf t=fs.size)
  (hv:Value.okWide Tryz.prog W .any base t v) (h:DataW.Trod enc Tryz.prog W 0 (fun _=>true) true t v d p):
  ∃(cs:Array Value) (ys:List (DataW H×List MemPlace)) (n:Nat),v= .agg cs∧d= .agg (ys.map (·.1))∧cs.size=fs.size∧ys.length=fs.size∧
   ∀(j:Nat) (f:Field),fs[j]?=some f→∃u y,cs[j]?=some u∧ys[j]?=some y∧DataW.trod enc Tryz.prog W 0 (fun _=>true) true n f.type [u]=some y:=by
 obtain⟨cs,rfl,hsz⟩:=okWide_struct hs hv;obtain⟨fuel,hf⟩:=h;obtain⟨ys,n,_,hx,hl,hlen,hf⟩:=DataW.trod_struct hs hf;simp only[zaj]at hx;rw[hC]at hsz;refine⟨cs,ys,n,rfl,hx.1,hsz,hlen,fun j f hj=>?_⟩
 obtain⟨ho,hk⟩:=hone_of hone j f hj;have hjl:j<fs.size:=(zQ.1 hj).1;have h1:=hf j f hj;rw[ho,hk]at h1;have hone':((Value.agg cs).cells.toList.drop j).take 1=[cs[j]'(by omega)]:=by
  rw[show(Value.agg cs).cells.toList=cs.toList from rfl,zah (by simpa using by omega)]
  rfl
 rw[hone']at h1;have hys:ys[j]?=some (ys[j]'(by omega)):=zk (by omega)
 exact⟨_,_,zbv (by omega),hys,h1.trans hys⟩
end
theorem ActV.len3(x:ActV):x.cells.length=3:=rfl
theorem GEdg.len5(x:GEdg):x.cells.length=5:=rfl
theorem PrtV.len3(x:PrtV):x.cells.length=3:=rfl
instance:Inhabited ActV:=⟨⟨ByteArray.empty,0,[],none,0⟩⟩
instance:Inhabited GEdg:=⟨⟨0,0,0,0,[],none,0⟩⟩
instance:Inhabited PrtV:=⟨⟨ByteArray.empty,0,0⟩⟩
theorem zkP{H:Type}{enc:TypeId×Value→H}{W:World}{base:Nat}{v:Value}{d:DataW H}{p:List MemPlace}{ts:List TypeId}{ds:List (DataW H)}{j:Nat}(hv:Value.okWide Tryz.prog W .any base 26 v)(h:DataW.Trod enc Tryz.prog W 0 (fun _=>true) true 26 v d p)
  (hz:(DataW.weightsEach Tryz.prog ts ds).all (·≤reachBytes)=true) (ht:ts[j]?=some 26) (hd:ds[j]?=some d):
  ∃g:zB,v=g.val∧g.good W W.heap.size:=by
 obtain⟨cs,ys,n,rfl,rfl,hcs,hys,hf⟩:=zhc Tryz.underlying26 (by kernel_rfl) zkN hv h
 have hw:∀x∈DataW.weights Tryz.prog 26 (.agg (ys.map (·.1)):DataW H),x≤reachBytes:=fun x hx=>of_decide_eq_true (zU.1 hz x (DataW.weights_mem_each ht hd x hx))
 simp only[DataW.weights, Tryz.underlying26]at hw;have hj:∀(j:Nat) (y:DataW H×List MemPlace) (t:TypeId),([9, 22, 23, 24, 24]:List TypeId)[j]?=some t→ys[j]?=some y→∀x∈y.1.weights Tryz.prog t,x≤reachBytes:=by
  intro j y t h1 h2 x hx;exact hw x (DataW.weights_mem_each (j:=j) h1 (by rw[zp,h2];rfl) x hx)
 obtain⟨u0,y0,c0,g0,t0⟩:=hf 0 _ rfl;obtain⟨u1,y1,c1,g1,t1⟩:=hf 1 _ rfl;obtain⟨u2,y2,c2,g2,t2⟩:=hf 2 _ rfl;obtain⟨u3,y3,c3,g3,t3⟩:=hf 3 _ rfl;obtain⟨u4,y4,c4,g4,t4⟩:=hf 4 _ rfl;obtain⟨nm,hn,_,hnz⟩:=DataW.trod_string Tryz.underlying9 t0;simp only[za7,and_true]at hn;subst hn;obtain⟨aA,cA,acts,rfl,gA,rA,lA⟩:=zeK (α:=ActV) (f:=ActV.cells) (good:=ActV.good W W.heap.size) Tryz.underlying22 Tryz.underlying72 (by kernel_rfl) zkO ActV.len3 (by decide) t1 (hj 1 y1 _ rfl g1) (by
  intro ys us m hyl hw hf;obtain⟨y0,g0,t0⟩:=hf 0 _ rfl;obtain⟨y1,g1,t1⟩:=hf 1 _ rfl;obtain⟨y2,g2,t2⟩:=hf 2 _ rfl;obtain⟨s,e0,_,hs⟩:=DataW.trod_string Tryz.underlying9 t0;obtain⟨tg,e1,_,htg⟩:=DataW.trod_int Tryz.underlying70 t1;obtain⟨A,c,xs,e2,q1,q2,q3,q4⟩:=zfP t2 (fun x hx=>hw x (DataW.weights_mem_each (j:=2) rfl (by rw[zp,g2];rfl) x hx))
  simp only[za7,and_true]at e0 e1;refine⟨⟨s,tg,xs,A,c⟩,⟨hs,bounds_u8 htg,q1,q4,q3,q2⟩,fun j u hu=>?_⟩
  match j,hu with
  |0,hu=>simp[ActV.cells]at hu;subst hu;exact e0.symm
  |1,hu=>simp[ActV.cells]at hu;subst hu;exact e1.symm
  |2,hu=>simp[ActV.cells]at hu;subst hu;exact e2.symm
  |j+3,hu=>simp[ActV.cells]at hu)
 obtain⟨aE,cE,edges,rfl,gE,rE,lE⟩:=zeK (α:=GEdg) (f:=GEdg.cells) (good:=GEdg.good W W.heap.size) Tryz.underlying23 Tryz.underlying69 (by kernel_rfl) zl9 GEdg.len5 (by decide) t2 (hj 2 y2 _ rfl g2) (by
  intro ys us m hyl hw hf;obtain⟨y0,g0,t0⟩:=hf 0 _ rfl;obtain⟨y1,g1,t1⟩:=hf 1 _ rfl;obtain⟨y2,g2,t2⟩:=hf 2 _ rfl;obtain⟨y3,g3,t3⟩:=hf 3 _ rfl;obtain⟨y4,g4,t4⟩:=hf 4 _ rfl;obtain⟨x0,e0,_,w0⟩:=DataW.trod_int Tryz.underlying3 t0;obtain⟨x1,e1,_,w1⟩:=DataW.trod_int Tryz.underlying3 t1;obtain⟨x2,e2,_,w2⟩:=DataW.trod_int Tryz.underlying3 t2;obtain⟨x3,e3,_,w3⟩:=DataW.trod_int Tryz.underlying3 t3;obtain⟨A,c,xs,e4,q1,q2,q3,q4⟩:=zfP t4 (fun x hx=>hw x (DataW.weights_mem_each (j:=4) rfl (by rw[zp,g4];rfl) x hx))
  simp only[za7,and_true]at e0 e1 e2 e3;refine⟨⟨x0,x1,x2,x3,xs,A,c⟩,⟨zcS w0,zcS w1,zcS w2,zcS w3,q1,q4,q3,q2⟩,fun j u hu=>?_⟩
  match j,hu with
  |0,hu=>simp[GEdg.cells]at hu;subst hu;exact e0.symm
  |1,hu=>simp[GEdg.cells]at hu;subst hu;exact e1.symm
  |2,hu=>simp[GEdg.cells]at hu;subst hu;exact e2.symm
  |3,hu=>simp[GEdg.cells]at hu;subst hu;exact e3.symm
  |4,hu=>simp[GEdg.cells]at hu;subst hu;exact e4.symm
  |j+5,hu=>simp[GEdg.cells]at hu)
 have port:∀(ys:List (DataW H×List MemPlace)) (us:Nat→Value) (m:Nat),ys.length=3→(∀x∈DataW.weightsEach Tryz.prog [9, 3, 3] (ys.map (·.1)),x≤reachBytes)→
   (∀(j:Nat) (fd:Field),(#[⟨ "Name", 9,0,false, "", "",0⟩,⟨ "Actor", 3,1,false, "", "",16⟩,⟨ "Port", 3,2,false, "", "",24⟩]:Array Field)[j]?=some fd→∃y,ys[j]?=some y∧DataW.trod enc Tryz.prog W 0 (fun _=>true) true m fd.type [us j]=some y)→∃a:PrtV,a.good∧∀j u,a.cells[j]?=some u→u=us j:=by
  intro ys us m hyl hw hf;obtain⟨y0,g0,t0⟩:=hf 0 _ rfl;obtain⟨y1,g1,t1⟩:=hf 1 _ rfl;obtain⟨y2,g2,t2⟩:=hf 2 _ rfl;obtain⟨s,e0,_,hs⟩:=DataW.trod_string Tryz.underlying9 t0;obtain⟨x1,e1,_,w1⟩:=DataW.trod_int Tryz.underlying3 t1;obtain⟨x2,e2,_,w2⟩:=DataW.trod_int Tryz.underlying3 t2;simp only[za7,and_true]at e0 e1 e2;refine⟨⟨s,x1,x2⟩,⟨hs,zcS w1,zcS w2⟩,fun j u hu=>?_⟩
  match j,hu with
  |0,hu=>simp[PrtV.cells]at hu;subst hu;exact e0.symm
  |1,hu=>simp[PrtV.cells]at hu;subst hu;exact e1.symm
  |2,hu=>simp[PrtV.cells]at hu;subst hu;exact e2.symm
  |j+3,hu=>simp[PrtV.cells]at hu
 obtain⟨aI,cI,ins,rfl,gI,rI,lI⟩:=zeK (α:=PrtV) (f:=PrtV.cells) (good:=PrtV.good) Tryz.underlying24 Tryz.underlying53 (by kernel_rfl) zhZ PrtV.len3 (by decide) t3 (hj 3 y3 _ rfl g3) port
 obtain⟨aO,cO,outs,rfl,gO,rO,lO⟩:=zeK (α:=PrtV) (f:=PrtV.cells) (good:=PrtV.good) Tryz.underlying24 Tryz.underlying53 (by kernel_rfl) zhZ PrtV.len3 (by decide) t4 (hj 4 y4 _ rfl g4) port
 have hcs':cs=#[.string nm, .slice aA acts.length cA, .slice aE edges.length cE, .slice aI ins.length cI, .slice aO outs.length cO]:=by
  refine Array.ext_getElem? fun k=>?_
  match k with
  |0=>exact c0
  |1=>exact c1
  |2=>exact c2
  |3=>exact c3
  |4=>exact c4
  |k+5=>rw[zbo (by rw[hcs];show 5≤k+5;omega),zbo (by show 5≤k+5;omega)]
 exact⟨⟨nm,acts,edges,ins,outs,aA,cA,aE,cE,aI,cI,aO,cO⟩,by rw[hcs'];rfl,⟨hnz,lA,lE,lI,lO,rA,rE,rI,rO,gA,gE,gI,gO⟩⟩
theorem cellsRowI: Tryz.prog.cellsOf 36 =1:=by kernel_rfl
section
variable {H:Type} {enc:TypeId×Value→H} {W:World}
theorem zj4{n:Nat}{v:Value}{y:DataW H×List MemPlace}(h:DataW.trod enc Tryz.prog W 0 (fun _=>true) true n 27 [v]=some y)(hz:∀x∈y.1.weights Tryz.prog 27,x≤reachBytes):
  ∃A c rows,v= .slice A (List.length rows) c∧FdM W W.heap.size A rows∧rows.length≤maxLen:=by
 rcases open_slice1 Tryz.underlying27 cellsRowI h with⟨hcs,hx⟩|⟨a,len,cap,mm,m,V,D,Pl,hcs,_,hl,hm,hmm,hx,hi⟩
 ·simp only[za7,and_true]at hcs;subst hcs;exact⟨none,0,[],rfl,⟨.inl rfl,fun r hr=>(by cases hr)⟩,by simp⟩
 ·simp only[za7,and_true]at hcs;subst hcs;simp only[if_true]at hmm;subst hmm;have hy1:y.1= .slice ((List.range len).map D) ((List.range (mm-len)).map fun j=>D (len+j)):=congrArg Prod.fst hx
  have one:∀i,i<len→∃r:RowV,(W.cell? (a.add i)=some r.val)∧Rd W W.heap.size r.A (cellsI r.xs)∧AllFit r.xs∧r.xs.length*8≤140737488351232:=by
   intro i hil;obtain⟨h1,h2⟩:=hi i (by omega)
   obtain⟨A,c,xs,hv,q1,q2,q3,-⟩:=zfP h2 (fun x hx=>by
    refine hz x ?_;rw[hy1];simp only[DataW.weights, Tryz.underlying27,zV,zaZ];exact .inr (.inl (zgG (d:=D i) hx _ (zY.2 ⟨i,zM.2 hil,rfl⟩))))
   rw[hv]at h1;exact⟨⟨A,c,xs⟩,h1,q2,q1,q3⟩
  have:Inhabited RowV:=⟨⟨none,0,[]⟩⟩
  obtain⟨F,hF⟩:=choose_lt one;refine⟨some a,mm,(List.range len).map F,by simp,⟨?_,fun r hr=>?_⟩,by simp;omega⟩
  ·by_cases h0:0<len
   ·have e0:=(hF 0 h0).1;obtain⟨b,off,spot⟩:=a;have hspot:spot=none:=by simpa [Addr.add]using World.cell?_spot e0
    subst hspot;refine .inr ⟨b,off,rfl,?_,fun k u hu=>?_⟩
    ·have:=zch W _ e0
     simpa [Addr.add]using this
    ·have hk:k<len:=by have:=(zu.1 hu).1;simpa using this
     have hu':u=(F k).val:=by simp[hk]at hu;exact hu.symm
     subst hu'
     have:=(hF k hk).1
     rw[Addr.add_lit]at this;exact this
   ·left
    obtain rfl:len=0:=by omega
    rfl
  ·obtain⟨i,hi,rfl⟩:=zY.1 hr;exact(hF i (zM.1 hi)).2
end
theorem zk6{H:Type}{enc:TypeId×Value→H}{W:World}{base:Nat}{v:Value}{d:DataW H}{p:List MemPlace}{ts:List TypeId}{ds:List (DataW H)}{j:Nat}(hv:Value.okWide Tryz.prog W .any base 27 v)(h:DataW.Trod enc Tryz.prog W 0 (fun _=>true) true 27 v d p)
  (hz:(DataW.weightsEach Tryz.prog ts ds).all (·≤reachBytes)=true) (ht:ts[j]?=some 27) (hd:ds[j]?=some d):∃A c rows,v= .slice A (List.length rows) c∧FdM W W.heap.size A rows:=by
 obtain⟨a0,len,cap,rfl⟩:=okWide_slice Tryz.underlying27 hv;obtain⟨fuel,hf⟩:=h;obtain⟨A,c,rows,e,hF,-⟩:=zj4 (y:=(d,p)) hf fun x hx=>of_decide_eq_true (zU.1 hz x (DataW.weights_mem_each ht hd x hx))
 exact⟨A,c,rows,e,hF⟩
end Go.Proofs.YtpmlljbebdidgaaGreatDoor
