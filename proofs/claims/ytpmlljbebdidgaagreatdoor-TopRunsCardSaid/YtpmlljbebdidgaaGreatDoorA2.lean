/- Lemmas and walks for the claim: Sa, Sb, Sc, Sd, Da. -/
import Derived.Test.YtpmlljbebdidgaaGreatDoorA0
import Derived.Test.YtpmlljbebdidgaaGreatDoorA1
import Derived.BigRegion
set_option linter.unusedSimpArgs false
set_option maxRecDepth 100000
set_option maxHeartbeats 4000000
namespace Go.Proofs.YtpmlljbebdidgaaGreatDoor
open Go.RowKit
def zpG:ArcV:=⟨0,0,0,0,0⟩
def arcAt(ars:List ArcV)(i:Nat):ArcV:=ars[i]?.getD zpG
def intoF(ars:List ArcV)(m v:Nat):List Nat:=(List.range m).filter fun i=>decide ((arcAt ars i).t=v)
def outF(ars:List ArcV)(m v:Nat):List Nat:=(List.range m).filter fun i=>decide ((arcAt ars i).f=v)
def ints(xs:List Nat):List Int:=xs.map Int.ofNat
def zc6(F:Nat→Int)(a:ArcV):Int:=a.s+a.g*F a.f.toNat-a.k*F a.t.toNat
def rowF(F:Nat→Int)(n:Nat):List Int:=(List.range n).map F
def tokI(ars:List ArcV)(F:Nat→Int)(i:Nat):Int:=zc6 F (arcAt ars i)
def ArcV.ok(n:Nat)(a:ArcV):Prop:=0≤a.f∧a.f<n∧0≤a.t∧a.t<n∧1≤a.g∧a.g≤64∧1≤a.k∧a.k≤64∧0≤a.s∧a.s≤256
def zd6(F:Nat→Int)(a:ArcV):Bool:=decide (zc6 F a<a.k)
def shortO(ars:List ArcV)(F:Nat→Int)(v:Nat):Option Nat:=(List.range ars.length).find? fun i=>decide ((arcAt ars i).t=v)&&zd6 F (arcAt ars i)
def optI:Option Nat→Int
 |some i=>i
 |none=> -1
def mayB(ars:List ArcV)(n:Nat)(F:Nat→Int)(v:Int):Bool:=decide (0≤v∧v<n)&&(shortO ars F v.toNat).isNone
theorem zdt{ars:List ArcV}{i:Nat}{a:ArcV}(h:ars[i]?=some a):arcAt ars i=a:=by unfold arcAt;rw[h];rfl
theorem zfe{ars:List ArcV}{i:Nat}(h:i<ars.length):arcAt ars i∈ars:=by
 unfold arcAt;rw[zk h];exact zaF h
theorem zjl{ars:List ArcV}{m v i:Nat}(h:i∈intoF ars m v):i<m:=by
 have:=(List.mem_filter.1 h).1;exact zM.1 this
theorem zo6{ars:List ArcV}{m v i:Nat}(h:i∈outF ars m v):i<m:=by
 have:=(List.mem_filter.1 h).1;exact zM.1 this
theorem zj7(ars:List ArcV)(F:Nat→Int)(v:Nat):shortO ars F v=(intoF ars ars.length v).find? fun i=>zd6 F (arcAt ars i):=by
 unfold shortO intoF;rw[List.find?_filter]
 congr 1
 funext i
 simp
theorem zlj(ars:List ArcV)(m v:Nat):intoF ars (m+1) v=intoF ars m v++if(arcAt ars m).t=v then [m]else []:=by
 unfold intoF;rw[zaO,zcu]
 congr 1
 by_cases h:(arcAt ars m).t=v<;>simp[h]
theorem zmH(ars:List ArcV)(m v:Nat):outF ars (m+1) v=outF ars m v++if(arcAt ars m).f=v then [m]else []:=by
 unfold outF;rw[zaO,zcu]
 congr 1
 by_cases h:(arcAt ars m).f=v<;>simp[h]
theorem zn4{m:Nat}{xs:List Nat}(h:∀i∈xs,i<m)(hm:m≤100000):AllFit (ints xs):=by
 intro x hx;obtain⟨i,hi,rfl⟩:=zY.1 hx
 have:=h i hi
 show fits (i:Int)
 unfold fits;omega
theorem zj8(xs:List Nat):(ints xs).length=xs.length:=by simp[ints]
structure SM where
 gs:Nat
 gi:Nat
 go:Nat
 gt:Nat
 gf:Nat
 A:Option Addr
 ca:Nat
 Ai:Nat→Option Addr
 ci:Nat→Nat
 Ao:Nat→Option Addr
 co:Nat→Nat
structure StT(w:World)(B:Nat)(s:SM)(n:Nat)(ars:List ArcV)(T F:Nat→Int):Prop where
 blk:Blk w s.gs 107 #[.slice s.A ars.length s.ca, .slice (some ⟨s.gi,0,none⟩) n n, .slice (some ⟨s.go,0,none⟩) n n, .slice (some ⟨s.gt,0,none⟩) ars.length ars.length, .slice (some ⟨s.gf,0,none⟩) n n]
 arcs:Rd w w.heap.size s.A (cellsA ars)
 inb:∀j,j<n→w.cell? ⟨s.gi,j,none⟩=some (.slice (s.Ai j) (intoF ars ars.length j).length (s.ci j))
 outb:∀j,j<n→w.cell? ⟨s.go,j,none⟩=some (.slice (s.Ao j) (outF ars ars.length j).length (s.co j))
 inr:∀j,j<n→Rd w w.heap.size (s.Ai j) (cellsI (ints (intoF ars ars.length j)))
 outr:∀j,j<n→Rd w w.heap.size (s.Ao j) (cellsI (ints (outF ars ars.length j)))
 tok:w.ownsRow B 3 1 (.slice (some ⟨s.gt,0,none⟩) ars.length ars.length) ars.length (cellsI (rowF T ars.length))
 fir:w.ownsRow B 3 1 (.slice (some ⟨s.gf,0,none⟩) n n) n (cellsI (rowF F n))
 gilt:s.gi<w.heap.size
 golt:s.go<w.heap.size
 gtf:s.gt≠s.gf
 gst:s.gs≠s.gt
 gsf:s.gs≠s.gf
 git:s.gi≠s.gt
 gif:s.gi≠s.gf
 got:s.go≠s.gt
 gof:s.go≠s.gf
 at_:blkOf s.A≠some s.gt
 af:blkOf s.A≠some s.gf
 ait:∀j,j<n→blkOf (s.Ai j)≠some s.gt
 aif:∀j,j<n→blkOf (s.Ai j)≠some s.gf
 aot:∀j,j<n→blkOf (s.Ao j)≠some s.gt
 aof:∀j,j<n→blkOf (s.Ao j)≠some s.gf
abbrev St(w:World)(B:Nat)(s:SM)(n:Nat)(ars:List ArcV)(F:Nat→Int):Prop:=StT w B s n ars (tokI ars F) F
structure zbX(n:Nat)(ars:List ArcV):Prop where
 pos:1≤n
 n32:n≤32
 l96:ars.length≤96
 ok:∀a∈ars,a.ok n
theorem netOk_of{n:Int}{ars:List ArcV}(h:checkF n ars=0):∃m:Nat,n=m∧zbX m ars:=by
 unfold checkF at h;split at h
 ·cases h
 ·split at h
  ·cases h
  ·refine⟨n.toNat,by omega,by omega,by omega,by omega,?_⟩
   rename_i h1 h2
   intro a ha;have:∀bs:List ArcV,arcsF n bs=0→a∈bs→arcF n a=0:=by
    intro bs
    induction bs with
    |nil=>intro _ h;cases h
    |cons b bs ih=>
     intro hb hm;unfold arcsF at hb;split at hb
     ·rename_i h0
      rcases zV.1 hm with rfl|hm
      ·exact h0
      ·exact ih hb hm
     ·rename_i h0;exact absurd hb h0
   have h3:=this ars h ha;unfold arcF at h3;unfold ArcV.ok;split at h3
   ·cases h3
   ·split at h3
    ·cases h3
    ·split at h3
     ·cases h3
     ·omega
theorem zbX.fit{n:Nat}{ars:List ArcV}(h:zbX n ars):∀a∈ars,a.fit:=by
 intro a ha;obtain⟨h1,h2,h3,h4,h5,h6,h7,h8,h9,h10⟩:=h.ok a ha
 have:=h.n32
 unfold ArcV.fit fits;omega
structure Only(X:Nat→Prop)(w w':World):Prop where
 os:w'.os=w.os
 tape:w'.tape=w.tape
 output:w'.output=w.output
 size:w.heap.size≤w'.heap.size
 block:∀k,k<w.heap.size→¬X k→w'.heap[k]?=w.heap[k]?
theorem Rd.only{X:Nat→Prop}{w w':World}{B:Nat}{A:Option Addr}{cs:List Value}(hr:Rd w B A cs)(ho:Only X w w')(hB:B≤w.heap.size)(hX:∀b,blkOf A=some b→¬X b):Rd w' B A cs:=by
 rcases hr with hr|⟨b,off,rfl,hb,hc⟩
 ·exact .inl hr
 ·refine .inr ⟨b,off,rfl,hb,fun j u hu=>?_⟩
  rw[zbB (w:=w) (a:=⟨b,off+j,none⟩) (ho.block b (by omega) (hX b rfl))]
  exact hc j u hu
theorem zae{X:Nat→Prop}{w w':World}{base:Nat}{e:TypeId}{size n:Nat}{v:Value}{xs:List Value}(h:w.ownsRow base e size v n xs)(ho:Only X w w')(hX:∀b,v.ownBlock=some b→¬X b):w'.ownsRow base e size v n xs:=by
 obtain⟨h1,h2⟩:=h;refine⟨h1,?_⟩;rcases h2 with h2|⟨g,cap,cur,rfl,h3,h4,h5⟩
 ·exact .inl h2
 ·have hlt:=(zQ.1 h4).1;exact .inr ⟨g,cap,cur,rfl,h3,(ho.block g hlt (hX g rfl)).trans h4,h5⟩
theorem StT.only{X:Nat→Prop}{w w':World}{B:Nat}{s:SM}{n:Nat}{ars:List ArcV}{T T' F F':Nat→Int}(h:StT w B s n ars T F)(ho:Only X w w')(hX:∀k,k≠s.gt→k≠s.gf→k<w.heap.size→¬X k)
  (ht:w'.ownsRow B 3 1 (.slice (some ⟨s.gt,0,none⟩) ars.length ars.length) ars.length (cellsI (rowF T' ars.length))) (hf:w'.ownsRow B 3 1 (.slice (some ⟨s.gf,0,none⟩) n n) n (cellsI (rowF F' n))):StT w' B s n ars T' F':=by
 have rdlt:∀{A:Option Addr} {cs:List Value},Rd w w.heap.size A cs→blkOf A≠some s.gt→blkOf A≠some s.gf→Rd w' w'.heap.size A cs:=by
  intro A cs hr h1 h2;refine Rd.more (B:=w.heap.size) ?_ ho.size;rcases hr with hr|⟨b,off,rfl,hb,hc⟩
  ·exact .inl hr
  ·exact Rd.only (.inr ⟨b,off,rfl,hb,hc⟩) ho lR_ (fun b' he=>hX b' (fun h=>h1 (by rw[he,h])) (fun h=>h2 (by rw[he,h])) (by simp only[blkOf]at he;injection he with he;omega))
 have cell:∀g j u,g≠s.gt→g≠s.gf→g<w.heap.size→w.cell? ⟨g,j,none⟩=some u→w'.cell? ⟨g,j,none⟩=some u:=by
  intro g j u h1 h2 h3 hc;rw[zbB (w:=w) (a:=⟨g,j,none⟩) (ho.block g h3 (hX g h1 h2 h3))];exact hc
 have hsz:=ho.size;exact⟨(ho.block _ h.blk.lt (hX _ h.gst h.gsf h.blk.lt)).trans h.blk,rdlt h.arcs h.at_ h.af,fun j hj=>cell _ _ _ h.git h.gif h.gilt (h.inb j hj),fun j hj=>cell _ _ _ h.got h.gof h.golt (h.outb j hj),
  fun j hj=>rdlt (h.inr j hj) (h.ait j hj) (h.aif j hj),fun j hj=>rdlt (h.outr j hj) (h.aot j hj) (h.aof j hj),ht,hf,by have:=h.gilt;omega,by have:=h.golt;omega,
  h.gtf,h.gst,h.gsf,h.git,h.gif,h.got,h.gof,h.at_,h.af,h.ait,h.aif,h.aot,h.aof⟩
theorem zff{B:Nat}{w w':World}(h:Below B w w'):Only (fun k=>B≤k) w w':=⟨h.os,h.tape,h.output,h.size,fun k _ hX=>h.block k (by omega)⟩
theorem StT.kept{X:Nat→Prop}{w w':World}{B:Nat}{s:SM}{n:Nat}{ars:List ArcV}{T F:Nat→Int}(h:StT w B s n ars T F)(ho:Only X w w')(hX:∀k,k<w.heap.size→¬X k):StT w' B s n ars T F:=
 h.only ho (fun k _ _ hk=>hX k hk) (zae h.tok ho fun b hb=>hX b (h.tok.lt b hb).2) (zae h.fir ho fun b hb=>hX b (h.fir.lt b hb).2)
theorem StT.below{w w':World}{B:Nat}{s:SM}{n:Nat}{ars:List ArcV}{T F:Nat→Int}(h:StT w B s n ars T F)(hb:Below w.heap.size w w'):StT w' B s n ars T F:=h.kept (zff hb) (fun _ hk=>by omega)
theorem StT.drawn{w w':World}{B:Nat}{s:SM}{n:Nat}{ars:List ArcV}{T F:Nat→Int}(h:StT w B s n ars T F)(hd:Drawn w w'):StT w' B s n ars T F:=h.below (hd.below _)
theorem zhJ(g n c:Nat)(A:Option Addr)(v:Int)(w:World)(hc:w.cell? ⟨g,1,none⟩=some (.slice A n c)):
  Calls Tryz.prog 57 #[.pointer (some ⟨g,0,none⟩), .int .i64 v] w fun e w'=>e= .returned (.bool (decide (0≤v∧v<n)))∧w=w':=by
 by_cases h1:0≤v
 ·by_cases h2:v<n
  ·rw[decide_eq_true (p:=0≤v∧v<n) ⟨h1,h2⟩]
   go_enter Tryz.func57, Tryz.ntmps57
   go_wp2
   go_ret;exact⟨rfl,rfl⟩
  ·rw[decide_eq_false (p:=0≤v∧v<n) (by omega)]
   have h2':(n:Int)≤v:=by omega
   go_enter Tryz.func57, Tryz.ntmps57
   go_wp2
   go_ret;exact⟨rfl,rfl⟩
 ·rw[decide_eq_false (p:=0≤v∧v<n) (by omega)]
  have h2':v<0:=by omega
  go_enter Tryz.func57, Tryz.ntmps57
  go_wp2
  go_ret;exact⟨rfl,rfl⟩
theorem zic(g gi n c:Nat)(u:Value)(v:Nat)(w:World)(hv:v<n)(hc:w.cell? ⟨g,1,none⟩=some (.slice (some ⟨gi,0,none⟩) n c))(hu:w.cell? ⟨gi,v,none⟩=some u):
  Calls Tryz.prog 37 #[.pointer (some ⟨g,0,none⟩), .int .i64 v] w fun e w'=>e= .returned u∧w=w':=by
 go_enter Tryz.func37, Tryz.ntmps37
 go_wp2
 go_ret;exact⟨rfl,rfl⟩
theorem zmI(g gi n c:Nat)(u:Value)(v:Nat)(w:World)(hv:v<n)(hc:w.cell? ⟨g,2,none⟩=some (.slice (some ⟨gi,0,none⟩) n c))(hu:w.cell? ⟨gi,v,none⟩=some u):
  Calls Tryz.prog 38 #[.pointer (some ⟨g,0,none⟩), .int .i64 v] w fun e w'=>e= .returned u∧w=w':=by
 go_enter Tryz.func38, Tryz.ntmps38
 go_wp2
 go_ret;exact⟨rfl,rfl⟩
def zeQ(n:Nat)(F:Nat→Int):Prop:=∀j,j<n→0≤F j∧F j≤1000000
theorem tokA_fit{n:Nat}{F:Nat→Int}{a:ArcV}(ha:a.ok n)(hF:zeQ n F): -64000000≤zc6 F a∧zc6 F a≤64000256:=by
 obtain⟨h1,h2,h3,h4,h5,h6,h7,h8,h9,h10⟩:=ha;have f1:=hF a.f.toNat (by omega)
 have f2:=hF a.t.toNat (by omega)
 have m1:0≤a.g*F a.f.toNat:=zak (by omega) f1.1
 have m2:a.g*F a.f.toNat≤64*1000000:=zaC h6 f1.2 f1.1 (by omega)
 have m3:0≤a.k*F a.t.toNat:=zak (by omega) f2.1
 have m4:a.k*F a.t.toNat≤64*1000000:=zaC h8 f2.2 f2.1 (by omega)
 unfold zc6;omega
theorem zdu(F:Nat→Int){n j:Nat}(h:j<n):(rowF F n)[j]?=some (F j):=by simp[rowF,h]
theorem StT.tokCell{w:World}{B:Nat}{s:SM}{n:Nat}{ars:List ArcV}{T F:Nat→Int}(h:StT w B s n ars T F){i:Nat}(hi:i<ars.length):w.cell? ⟨s.gt,i,none⟩=some (.int .i64 (T i)):=by
 rw[h.tok.cellAt i (by omega)]
 simp only[cellsI,zp,zdu T hi]
 rfl
theorem StT.firCell{w:World}{B:Nat}{s:SM}{n:Nat}{ars:List ArcV}{T F:Nat→Int}(h:StT w B s n ars T F){j:Nat}(hj:j<n):w.cell? ⟨s.gf,j,none⟩=some (.int .i64 (F j)):=by
 rw[h.fir.cellAt j (by omega)]
 simp only[cellsI,zp,zdu F hj]
 rfl
theorem zjm{w:World}{B m:Nat}{A:Option Addr}{xs:List Nat}{q:Nat}(h:Rd w B A (cellsI (ints xs)))(hx:∀i∈xs,i<m)(hm:m≤100000)(hq:q<xs.length):
  ∃b off i,A=some ⟨b,off,none⟩∧b<B∧i<m∧w.cell? ⟨b,off+q,none⟩=some (.int .i64 (i:Int))∧Hid (xs.drop q=i::xs.drop (q+1))∧Hid (xs[q]?=some i):=by
 obtain⟨b,off,x,h1,h2,_,h4,_,h6⟩:=h.at_ (zn4 hx hm) (by rw[zj8];exact hq)
 have hg:xs[q]?=some xs[q]:=zk hq
 have:x=(xs[q]:Int):=by
  have h7:=h6.out;unfold ints at h7;rw[zp,hg]at h7;exact(zq h7).symm
 subst this;exact⟨b,off,xs[q],h1,h2,hx _ (zaF _),h4,zah hq,hg⟩
theorem zid(v n:Nat)(ars:List ArcV)(F:Nat→Int)(B:Nat)(s:SM)(w:World)(hN:zbX n ars)(hF:zeQ n F)(hS:St w B s n ars F)(hv:v<n):
  Calls Tryz.prog 56 #[.pointer (some ⟨s.gs,0,none⟩), .int .i64 v] w fun e w'=>e= .returned (.int .i64 (optI (shortO ars F v)))∧Drawn w w':=by
 have l96:=hN.l96;have n32:=hN.n32;have c0:=hS.blk.cell 0;have c1:=hS.blk.cell 1;have c3:=hS.blk.cell 3;simp at c0 c1 c3;have cv:=hS.inb v hv;have hrow:=hS.inr v hv;have hil:∀i∈intoF ars ars.length v,i<ars.length:=fun i hi=>zjl hi
 have hlen:(intoF ars ars.length v).length≤ars.length:=by
  unfold intoF
  have:=zaX (fun i=>decide ((arcAt ars i).t=v)) (List.range ars.length)
  simpa using this
 rw[zj7];generalize hI:intoF ars ars.length v=I at*;generalize s.Ai v=Av at cv hrow;have hd:decide (0≤(v:Int)∧(v:Int)<n)=true:=decide_eq_true ⟨by omega,by omega⟩
 go_enter Tryz.func56, Tryz.ntmps56
 go_wp2_with fail;refine(zhJ s.gs n n _ v w c1).mono ?_;rintro e w' ⟨rfl,rfl⟩
 rw[hd]
 go_wp2_with fail;refine(zic s.gs s.gi n n _ v w hv c1 cv).mono ?_;rintro e w' ⟨rfl,rfl⟩
 go_wp2_with fail;have HF:=Lh hF
 have HN:=Lh hN;have HS:=Lh hS;have Hil:=Lh hil;have Hrow:=Lh hrow;clear hF hN hS hil hrow hI hd
 go_loopw [21] (fun i wr=>∃q:Nat,q≤I.length∧i= .int .i64 q∧Drawn w wr∧Hid ((I.find? fun i=>zd6 F (arcAt ars i))=(I.drop q).find? fun i=>zd6 F (arcAt ars i))) (fun i _=>I.length-(intOf i).toNat)
 case atStart=>exact⟨0,by omega,rfl,Drawn.refl w,rfl⟩
 case round=>
  obtain⟨q,hq,rfl,hdw,He⟩:=hrel;by_cases hlt:q<I.length
  ·obtain⟨b,off,i,rfl,hb,hi,hc,hdr,hat⟩:=zjm (hdw.rd Hrow.out) Hil.out (by omega) hlt
   obtain⟨b2,off2,a,hA2,hb2,hf2,c00,c01,c02,c03,c04,hd2,hxx⟩:=(hdw.rd HS.out.arcs).arc HN.out.fit hi;have ha:=zdt hxx.out;have hok:=HN.out.ok a (zv hxx.out);have htf:=tokA_fit hok HF.out;have ct:wr.cell? ⟨s.gt,i,none⟩=some (.int .i64 (zc6 F a)):=by rw[hdw.cell,←ha];exact StT.tokCell HS.out hi
   have d0:wr.cell? ⟨s.gs,0,none⟩=some (.slice s.A ars.length s.ca):=by rw[hdw.cell];exact c0
   have d3:wr.cell? ⟨s.gs,3,none⟩=some (.slice (some ⟨s.gt,0,none⟩) ars.length ars.length):=by rw[hdw.cell];exact c3
   rw[hA2]at d0;have h1:(0:Int)≤(i:Int):=by omega
   have h2:(i:Int)<(ars.length:Int):=by omega
   by_cases hl:zc6 F a<a.k
   ·go_wp2
    go_quiet (fail)
    go_wp2
    go_ret;refine⟨?_,hdw.drewN _⟩
    rw[He.out,hdr.out];have hl':zd6 F (arcAt ars i)=true:=by rw[ha];exact decide_eq_true hl
    rw[List.find?_cons_of_pos (p:=fun i=>zd6 F (arcAt ars i)) hl']
    rfl
   ·have hl2:a.k≤zc6 F a:=by omega
    go_wp2
    go_quiet (fail)
    go_wp2
    go_roundw
    case rel=>
     have hl':¬zd6 F (arcAt ars i)=true:=by rw[ha];unfold zd6;simpa using hl2
     exact⟨q+1,by omega,by go_num,hdw.drewN _,by rw[He.out,hdr.out,List.find?_cons_of_neg (p:=fun i=>zd6 F (arcAt ars i)) hl'];rfl⟩
    case measure=>simp[intOf];omega
  ·go_wp2
   go_ret;refine⟨?_,hdw⟩
   rw[He.out,zS (by omega)]
   rfl
theorem zkt(v:Int)(n:Nat)(ars:List ArcV)(F:Nat→Int)(B:Nat)(s:SM)(w:World)(hN:zbX n ars)(hF:zeQ n F)(hS:St w B s n ars F):
  Calls Tryz.prog 36 #[.pointer (some ⟨s.gs,0,none⟩), .int .i64 v] w fun e w'=>e= .returned (.bool (mayB ars n F v))∧Drawn w w':=by
 have c1:=hS.blk.cell 1;simp at c1;unfold mayB;by_cases h:0≤v∧v<n
 ·obtain⟨k,rfl⟩:∃k:Nat,v=k:=⟨v.toNat,by omega⟩
  have hk:k<n:=by omega
  rw[decide_eq_true h,zE];generalize hs:shortO ars F k=o;have hd:decide (0≤(k:Int)∧(k:Int)<n)=true:=decide_eq_true h
  go_enter Tryz.func36, Tryz.ntmps36
  go_wp2_with fail;refine(zhJ s.gs n n _ k w c1).mono ?_;rintro e w' ⟨rfl,rfl⟩
  rw[hd]
  go_wp2_with fail;refine(zid k n ars F B s w hN hF hS hk).mono ?_;rintro e w' ⟨rfl,d1⟩
  rw[hs];cases o with
  |none=>
   have hx:optI (none:Option Nat)= -1:=rfl
   rw[hx]
   go_wp2
   go_ret;exact⟨rfl,d1⟩
  |some i=>
   have hx:optI (some i)=(i:Int):=rfl
   rw[hx]
   go_wp2
   go_ret;exact⟨rfl,d1⟩
 ·rw[decide_eq_false h]
  go_enter Tryz.func36, Tryz.ntmps36
  go_wp2_with fail;refine(zhJ s.gs n n _ v w c1).mono ?_;rintro e w' ⟨rfl,rfl⟩
  rw[decide_eq_false h]
  go_wp2
  go_ret;exact⟨rfl,Drawn.refl w⟩
theorem zbl(w:World)(a:Addr)(v:Value):Only (fun k=>k=a.block) w (w.setCell a v):=⟨rfl,rfl,rfl,by simp,fun k _ hk=>zaa w a v k hk⟩
theorem Only.mono{X Y:Nat→Prop}{w w':World}(h:Only X w w')(hXY:∀k,k<w.heap.size→X k→Y k):Only Y w w':=⟨h.os,h.tape,h.output,h.size,fun k hk hY=>h.block k hk (fun hX=>hY (hXY k hk hX))⟩
theorem Only.trans{X:Nat→Prop}{w w' w'':World}(h:Only X w w')(h':Only X w' w''):Only X w w'':=
 ⟨h'.os.trans h.os,h'.tape.trans h.tape,h'.output.trans h.output,zy h.size h'.size,fun k hk hX=>(h'.block k (by have:=h.size;omega) hX).trans (h.block k hk hX)⟩
theorem Only.refl(X:Nat→Prop)(w:World):Only X w w:=⟨rfl,rfl,rfl,zF _,fun _ _ _=>rfl⟩
theorem Only.drawn{X:Nat→Prop}{w w' w'':World}(h:Only X w w')(hd:Drawn w' w''):Only X w w'':=by obtain⟨d,rfl⟩:=hd;exact⟨h.os,h.tape,h.output,h.size,h.block⟩
theorem zdU(T:Nat→Int)(n i:Nat)(x:Int):(rowF T n).set i x=rowF (upd T i x) n:=by unfold rowF;rw[zoA]
theorem StT.setTok{w:World}{B:Nat}{s:SM}{n:Nat}{ars:List ArcV}{T F:Nat→Int}(h:StT w B s n ars T F)(i:Nat)(x:Int):StT (w.setCell ⟨s.gt,i,none⟩ (.int .i64 x)) B s n ars (upd T i x) F:=by
 have st:=h.tok.stored i (.int .i64 x);rw[zcP,zdU]at st;refine h.only (zbl w _ _) (fun k h1 _ _ h3=>h1 h3) st.1 (zae h.fir (zbl w _ _) ?_)
 intro b hb he;simp only[Value.ownBlock]at hb;injection hb with hb;exact h.gtf (by rw[hb];exact he.symm)
theorem StT.setFir{w:World}{B:Nat}{s:SM}{n:Nat}{ars:List ArcV}{T F:Nat→Int}(h:StT w B s n ars T F)(i:Nat)(x:Int):StT (w.setCell ⟨s.gf,i,none⟩ (.int .i64 x)) B s n ars T (upd F i x):=by
 have st:=h.fir.stored i (.int .i64 x);rw[zcP,zdU]at st;refine h.only (zbl w _ _) (fun k _ h2 _ h3=>h2 h3) (zae h.tok (zbl w _ _) ?_) st.1
 intro b hb he;simp only[Value.ownBlock]at hb;injection hb with hb;exact h.gtf (by rw[hb];exact he)
theorem StT.congr{w:World}{B:Nat}{s:SM}{n:Nat}{ars:List ArcV}{T T' F F':Nat→Int}(h:StT w B s n ars T F)(hT:∀i,i<ars.length→T i=T' i)(hF:∀j,j<n→F j=F' j):StT w B s n ars T' F':=by
 have e1:rowF T' ars.length=rowF T ars.length:=zaV fun i hi=>(hT i (zM.1 hi)).symm
 have e2:rowF F' n=rowF F n:=zaV fun j hj=>(hF j (zM.1 hj)).symm
 exact{h with tok:=by rw[e1];exact h.tok,fir:=by rw[e2];exact h.fir}
def bump(F:Nat→Int)(v:Nat):Nat→Int:=upd F v (F v+1)
def fireN(ars:List ArcV)(n:Nat):(Nat→Int)→List Int→Nat
 |_,[]=>0
 |F,v::vs=>if mayB ars n F v=true then fireN ars n (bump F v.toNat) vs+1 else 0
def zcF(ars:List ArcV)(n:Nat):(Nat→Int)→List Int→Nat→Int
 |F,[]=>F
 |F,v::vs=>if mayB ars n F v=true then zcF ars n (bump F v.toNat) vs else F
theorem zn6(ars:List ArcV){n:Nat}(F:Nat→Int){i v:Nat}(ha:(arcAt ars i).ok n):tokI ars (bump F v) i=(if(arcAt ars i).f=v then(tokI ars F i-if(arcAt ars i).t=v then(arcAt ars i).k else 0)+(arcAt ars i).g else tokI ars F i-if(arcAt ars i).t=v then(arcAt ars i).k else 0):=by
 unfold tokI;generalize arcAt ars i=a at*;obtain⟨h1,h2,h3,h4,_⟩:=ha;have e1:bump F v a.f.toNat=F a.f.toNat+if a.f=v then 1 else 0:=by
  unfold bump;by_cases h:a.f=v
  ·rw[if_pos h,h,zE,zaW]
  ·rw[if_neg h,zaI (by omega),Int.add_zero]
 have e2:bump F v a.t.toNat=F a.t.toNat+if a.t=v then 1 else 0:=by
  unfold bump;by_cases h:a.t=v
  ·rw[if_pos h,h,zE,zaW]
  ·rw[if_neg h,zaI (by omega),Int.add_zero]
 unfold zc6;rw[e1,e2,zbx,zbx];by_cases h5:a.f=v<;>by_cases h6:a.t=v
 ·rw[if_pos h5,if_pos h5,if_pos h6,if_pos h6];omega
 ·rw[if_pos h5,if_pos h5,if_neg h6,if_neg h6];omega
 ·rw[if_neg h5,if_neg h5,if_pos h6,if_pos h6];omega
 ·rw[if_neg h5,if_neg h5,if_neg h6,if_neg h6];omega
def took(ars:List ArcV)(T:Nat→Int)(I:List Nat):Nat→Int:=fun i=>if i∈I then T i-(arcAt ars i).k else T i
def gave(ars:List ArcV)(T:Nat→Int)(I:List Nat):Nat→Int:=fun i=>if i∈I then T i+(arcAt ars i).g else T i
theorem zgo{I:List Nat}{q i:Nat}(hg:I[q]?=some i):I.take (q+1)=I.take q++[i]:=by
 rw[zan,hg];rfl
theorem zey{I:List Nat}(hn:I.Nodup){q i:Nat}(hg:I[q]?=some i):i∉I.take q:=by
 intro hm;obtain⟨j,hj,he⟩:=List.mem_take_iff_getElem.1 hm;obtain⟨hq,hgi⟩:=zu.1 hg;exact List.pairwise_iff_getElem.1 hn j q (by omega) hq (by omega) (he.trans hgi.symm)
theorem zmJ{ars:List ArcV}{T:Nat→Int}{I:List Nat}(hn:I.Nodup){q i:Nat}(hg:I[q]?=some i):upd (took ars T (I.take q)) i (took ars T (I.take q) i-(arcAt ars i).k)=took ars T (I.take (q+1)):=by
 have hni:=zey hn hg
 funext j
 unfold took;rw[zgo hg];by_cases hj:j=i
 ·subst hj;rw[zaW,if_neg hni,if_pos (by simp)]
 ·rw[zaI hj];by_cases hm:j∈I.take q
  ·rw[if_pos hm,if_pos (zbZ _ hm)]
  ·rw[if_neg hm,if_neg (by simp[hm,hj])]
theorem zmK{ars:List ArcV}{T:Nat→Int}{I:List Nat}(hn:I.Nodup){q i:Nat}(hg:I[q]?=some i):upd (gave ars T (I.take q)) i (gave ars T (I.take q) i+(arcAt ars i).g)=gave ars T (I.take (q+1)):=by
 have hni:=zey hn hg
 funext j
 unfold gave;rw[zgo hg];by_cases hj:j=i
 ·subst hj;rw[zaW,if_neg hni,if_pos (by simp)]
 ·rw[zaI hj];by_cases hm:j∈I.take q
  ·rw[if_pos hm,if_pos (zbZ _ hm)]
  ·rw[if_neg hm,if_neg (by simp[hm,hj])]
theorem zj9(ars:List ArcV)(m v:Nat):(intoF ars m v).Nodup:=List.Pairwise.filter _ List.nodup_range
theorem zlk(ars:List ArcV)(m v:Nat):(outF ars m v).Nodup:=List.Pairwise.filter _ List.nodup_range
theorem zmL{ars:List ArcV}{n:Nat}(F:Nat→Int){i v:Nat}(ha:(arcAt ars i).ok n)(hi:i<ars.length):gave ars (took ars (tokI ars F) (intoF ars ars.length v)) (outF ars ars.length v) i=tokI ars (bump F v) i:=by
 rw[zn6 ars F ha];unfold gave took intoF outF;simp only[List.mem_filter,zM,hi,true_and,decide_eq_true_eq];by_cases h5:(arcAt ars i).f=v<;>by_cases h6:(arcAt ars i).t=v<;>simp[h5,h6]
theorem zjn(vs:List Int)(Av:Option Addr)(l c n:Nat)(ars:List ArcV)(F:Nat→Int)(B:Nat)(s:SM)(w:World)(hl:vs.length=l)(hfv:AllFit vs)(hr:Rd w w.heap.size Av (cellsI vs))(hat:blkOf Av≠some s.gt)(haf:blkOf Av≠some s.gf)
  (hN:zbX n ars) (hF:∀j,j<n→0≤F j∧F j+l≤1000000) (hS:St w B s n ars F):
  Calls Tryz.prog 11 #[.pointer (some ⟨s.gs,0,none⟩), .slice Av l c] w fun e w'=>e= .returned (.int .i64 (fireN ars n F vs:Nat))∧St w' B s n ars (zcF ars n F vs)∧Only (fun k=>k=s.gt∨k=s.gf) w w':=by
 subst hl;have l96:=hN.l96;have n32:=hN.n32;have hlm:vs.length≤1000000:=by have:=hF 0 (by have:=hN.pos;omega);omega
 have hrd:∀wr:World,Only (fun k=>k=s.gt∨k=s.gf) w wr→Rd wr w.heap.size Av (cellsI vs):=fun wr ho=>hr.only ho lR_ (fun b hb hx=>by
  rcases hx with rfl|rfl
  ·exact hat hb
  ·exact haf hb)
 have Hrd:=Lh hrd;have HF:=Lh hF;have HN:=Lh hN;have Hfv:=Lh hfv;clear hrd hF hN hat haf hr hfv
 go_enter Tryz.func11, Tryz.ntmps11
 go_wp2_with fail
 go_loopw [15] (fun i wr=>∃(q:Nat) (G:Nat→Int),q≤vs.length∧i= .int .i64 q∧Only (fun k=>k=s.gt∨k=s.gf) w wr∧St wr B s n ars G∧Hid (∀j,j<n→0≤G j∧G j≤F j+q)∧Hid (fireN ars n F vs=fireN ars n G (vs.drop q)+q)∧Hid (zcF ars n F vs=zcF ars n G (vs.drop q))) (fun i _=>vs.length-(intOf i).toNat)
 case atStart=>exact⟨0,F,by omega,rfl,Only.refl _ _,hS,fun j hj=>by have:=HF.out j hj;omega,rfl,rfl⟩
 case round=>
  clear hS;obtain⟨q,G,hq,rfl,hO,hS,hG,hE1,hE2⟩:=hrel;by_cases hlt:q<vs.length
  ·obtain⟨b,off,x,rfl,hb,hxf,hc,hd,hxx⟩:=(Hrd.out wr hO).at_ Hfv.out hlt;have hsm:zeQ n G:=fun j hj=>by have h1:=hG.out j hj;have h2:=HF.out j hj;omega
   go_wp2_with fail;refine(zkt x n ars G B s wr HN.out hsm hS).mono ?_;rintro e w1 ⟨rfl,d1⟩
   have hS1:=hS.drawn d1;have hO1:=hO.drawn d1;by_cases hmay:mayB ars n G x=true
   ·rw[hmay];have hx0:0≤x∧x<n:=by unfold mayB at hmay;simp at hmay;exact hmay.1
    obtain⟨k,rfl⟩:∃k:Nat,x=k:=⟨x.toNat,by omega⟩
    have hk:k<n:=by omega
    have c1:=hS1.blk.cell 1;simp at c1;have ci:=hS1.inb k hk;obtain⟨I,hI⟩:∃I,intoF ars ars.length k=I:=⟨_,rfl⟩;obtain⟨Ai,hAi⟩:∃Ai,s.Ai k=Ai:=⟨_,rfl⟩;rw[hI,hAi]at ci;have hIn:I.Nodup:=hI▸zj9 ars ars.length k;have hIl:∀i∈I,i<ars.length:=hI▸fun i hi=>zjl hi
    have hIc:I.length≤96:=by
     rw[←hI];unfold intoF
     have:=zaX (fun i=>decide ((arcAt ars i).t=k)) (List.range ars.length)
     simp at this;simp;omega
    have HI:=Lh hI;have HAi:=Lh hAi;have HIn:=Lh hIn;have HIl:=Lh hIl;have Hsm:=Lh hsm;have Hmay:=Lh hmay;have HS0:=Lh hS1;have HO0:=Lh hO1;clear hI hAi hIn hIl hsm hmay hS hS1 hO hO1 d1 hc hb
    go_wp2_with fail;refine(zic s.gs s.gi n n _ k w1 hk c1 ci).mono ?_;rintro e w' ⟨rfl,rfl⟩
    go_wp2_with fail
    go_loopw [31] (fun i wr=>∃r:Nat,r≤I.length∧i= .int .i64 r∧Only (fun k=>k=s.gt∨k=s.gf) w wr∧StT wr B s n ars (took ars (tokI ars G) (I.take r)) G) (fun i _=>I.length-(intOf i).toNat)
    case atStart=>exact⟨0,by omega,rfl,HO0.out,StT.congr HS0.out (fun i _=>by simp[took]) (fun _ _=>rfl)⟩
    case round=>
     clear c1 ci;obtain⟨r,hr',rfl,hO,hS⟩:=hrel;by_cases hlr:r<I.length
     ·have hrow:=hS.inr k hk;rw[HAi.out,HI.out]at hrow;obtain⟨b1,off1,i,rfl,hb1,hi,hci,hdr,hgi⟩:=zjm hrow HIl.out (by omega) hlr
      obtain⟨b2,off2,a,hA2,hb2,hf2,c00,c01,c02,c03,c04,hd2,hxx2⟩:=hS.arcs.arc HN.out.fit hi;have ha:=zdt hxx2.out;have htf:=tokA_fit (HN.out.ok a (zv hxx2.out)) Hsm.out;have hok:=HN.out.ok a (zv hxx2.out);obtain⟨_,_,_,_,hg1,hg2,hk1,hk2,_⟩:=hok;have ht:took ars (tokI ars G) (I.take r) i=zc6 G a:=by
       unfold took;rw[if_neg (zey HIn.out hgi.out)];unfold tokI;rw[ha]
      have ct:=hS.tokCell hi;rw[ht]at ct;have d0:=hS.blk.cell 0;have d3:=hS.blk.cell 3;simp at d0 d3;rw[hA2]at d0;have fro:=hS.tok.frozenAt i;have S2:=hS.setTok i (zc6 G a-a.k);have O2:=hO.trans ((zbl wr ⟨s.gt,i,none⟩ (.int .i64 (zc6 G a-a.k))).mono (Y:=fun k=>k=s.gt∨k=s.gf) (fun k _ hk=> .inl hk))
      have e2:upd (took ars (tokI ars G) (I.take r)) i (zc6 G a-a.k)=took ars (tokI ars G) (I.take (r+1)):=by
       rw[←zmJ HIn.out hgi.out,ht,ha]
      rw[e2]at S2;have h1:(0:Int)≤(i:Int):=by omega
      have h2:(i:Int)<(ars.length:Int):=by omega
      clear e2 hO hS hrow hb1 hb2 ht
      go_wp2
      go_region
      go_wp2
      go_roundw
      case rel=>exact⟨r+1,by omega,by go_num,O2.drawn ⟨1,rfl⟩,S2.drawn ⟨1,rfl⟩⟩
      case measure=>simp[intOf];omega
     ·obtain rfl:r=I.length:=by omega
      rw[zcT]at hS;have c2:=hS.blk.cell 2;simp at c2;have co:=hS.outb k hk;obtain⟨J,hJ⟩:∃J,outF ars ars.length k=J:=⟨_,rfl⟩;obtain⟨Ao,hAo⟩:∃Ao,s.Ao k=Ao:=⟨_,rfl⟩;rw[hJ,hAo]at co;have hJn:J.Nodup:=hJ▸zlk ars ars.length k;have hJl:∀i∈J,i<ars.length:=hJ▸fun i hi=>zo6 hi
      have hJc:J.length≤96:=by
       rw[←hJ];unfold outF
       have:=zaX (fun i=>decide ((arcAt ars i).f=k)) (List.range ars.length)
       simp at this;simp;omega
      have HJ:=Lh hJ;have HAo:=Lh hAo;have HJn:=Lh hJn;have HJl:=Lh hJl;have HS1:=Lh hS;have HO1:=Lh hO;clear hJ hAo hJn hJl hS hO
      go_wp2_with fail;refine(zmI s.gs s.go n n _ k wr hk c2 co).mono ?_;rintro e w' ⟨rfl,rfl⟩
      go_wp2_with fail
      go_loopw [60] (fun i wx=>∃r:Nat,r≤J.length∧i= .int .i64 r∧Only (fun k=>k=s.gt∨k=s.gf) w wx∧StT wx B s n ars (gave ars (took ars (tokI ars G) I) (J.take r)) G) (fun i _=>J.length-(intOf i).toNat)
      case atStart=>exact⟨0,by omega,rfl,HO1.out,StT.congr HS1.out (fun i _=>by simp[gave]) (fun _ _=>rfl)⟩
      case round=>
       clear c2 co;obtain⟨r,hr'',rfl,hO,hS⟩:=hrel;by_cases hlr2:r<J.length
       ·have hrow:=hS.outr k hk;rw[HAo.out,HJ.out]at hrow;obtain⟨b1,off1,i,rfl,hb1,hi,hci,hdr,hgi⟩:=zjm hrow HJl.out (by omega) hlr2
        obtain⟨b2,off2,a,hA2,hb2,hf2,c00,c01,c02,c03,c04,hd2,hxx2⟩:=hS.arcs.arc HN.out.fit hi;have ha:=zdt hxx2.out;have htf:=tokA_fit (HN.out.ok a (zv hxx2.out)) Hsm.out;have hok:=HN.out.ok a (zv hxx2.out);obtain⟨_,_,_,_,hg1,hg2,hk1,hk2,_⟩:=hok;obtain⟨T,hT⟩:∃T,gave ars (took ars (tokI ars G) I) (J.take r) i=T:=⟨_,rfl⟩;have hTb: -64000064≤T∧T≤64000256:=by
         rw[←hT];unfold gave;rw[if_neg (zey HJn.out hgi.out)];unfold took tokI;rw[ha];split<;>omega
        have ct:=hS.tokCell hi;rw[hT]at ct;have d0:=hS.blk.cell 0;have d3:=hS.blk.cell 3;simp at d0 d3;rw[hA2]at d0;have fro:=hS.tok.frozenAt i;have S2:=hS.setTok i (T+a.g);have O2:=hO.trans ((zbl wr ⟨s.gt,i,none⟩ (.int .i64 (T+a.g))).mono (Y:=fun k=>k=s.gt∨k=s.gf) (fun k _ hk=> .inl hk))
        have e2:upd (gave ars (took ars (tokI ars G) I) (J.take r)) i (T+a.g)=gave ars (took ars (tokI ars G) I) (J.take (r+1)):=by
         rw[←zmK HJn.out hgi.out,hT,ha]
        rw[e2]at S2;have h1:(0:Int)≤(i:Int):=by omega
        have h2:(i:Int)<(ars.length:Int):=by omega
        clear e2 hO hS hrow hb1 hb2 hT
        go_wp2
        go_region
        go_wp2
        go_roundw
        case rel=>exact⟨r+1,by omega,by go_num,O2.drawn ⟨1,rfl⟩,S2.drawn ⟨1,rfl⟩⟩
        case measure=>simp[intOf];omega
       ·obtain rfl:r=J.length:=by omega
        rw[zcT]at hS;have hS3:St wr B s n ars (bump G k)→True:=fun _=>trivial
        have hGk:=hG.out k hk;have hFk:=HF.out k hk;have S2:=hS.setFir k (G k+1);have O2:=hO.trans ((zbl wr ⟨s.gf,k,none⟩ (.int .i64 (G k+1))).mono (Y:=fun k=>k=s.gt∨k=s.gf) (fun k _ hk=> .inr hk))
        have S3:St (wr.setCell ⟨s.gf,k,none⟩ (.int .i64 (G k+1))) B s n ars (bump G k):=S2.congr (fun i hi=>by
         rw[←zmL G (HN.out.ok _ (zfe hi)) hi,HI.out,HJ.out]) (fun _ _=>rfl)
        have d4:=hS.blk.cell 4;simp at d4;have ct:=hS.firCell hk;have fro:=hS.fir.frozenAt k;have hE1':Hid (fireN ars n F vs=fireN ars n (bump G k) (vs.drop (q+1))+(q+1)):=by
         unfold Hid;rw[hE1.out,hd.out,fireN,if_pos Hmay.out,zE];omega
        have hE2':Hid (zcF ars n F vs=zcF ars n (bump G k) (vs.drop (q+1))):=by
         unfold Hid;rw[hE2.out,hd.out,zcF,if_pos Hmay.out,zE]
        have hG':Hid (∀j,j<n→0≤bump G k j∧bump G k j≤F j+(q+1:Nat)):=by
         intro j hj
         have:=hG.out j hj
         unfold bump;by_cases hjk:j=k
         ·subst hjk;rw[zaW];omega
         ·rw[zaI hjk];omega
        have h1:(0:Int)≤(k:Int):=by omega
        have h2:(k:Int)<(n:Int):=by omega
        clear hO hS S2 hS3 hE1 hE2 hG
        go_wp2
        go_roundw
        case rel=>exact⟨q+1,_,by omega,by go_num,O2,S3,hG',hE1',hE2'⟩
        case measure=>simp[intOf];omega
   ·have hmf:mayB ars n G x=false:=by simpa using hmay
    rw[hmf]
    go_wp2
    go_ret;refine⟨?_,?_,hO1⟩
    ·rw[hE1.out,hd.out,fireN,if_neg hmay];simp
    ·rw[hE2.out,hd.out,zcF,if_neg hmay];exact hS1
  ·go_wp2
   go_ret;obtain rfl:q=vs.length:=by omega
   refine⟨?_,?_,hO⟩
   ·rw[hE1.out,List.drop_length];simp[fireN]
   ·rw[hE2.out,List.drop_length];exact hS
theorem zcO(w:World)(b:Nat)(hb:b=w.heap.size)(e:TypeId)(size:Nat):(w.alloc (.cells #[] e)).ownsRow b e size (.slice (some ⟨b,0,none⟩) 0 0) 0 []:=by
 subst hb;exact⟨by simp, .inr ⟨w.heap.size,0,#[],rfl,zF _,heap_alloc_new w _,zF _,by unfold maxLen;omega,by simp,by simp⟩⟩
theorem zaS(F:Nat→Int)(n:Nat):(rowF F n).length=n:=by simp[rowF]
theorem zmM(n:Nat)(ars:List ArcV)(F:Nat→Int)(B:Nat)(s:SM)(w:World)(hN:zbX n ars)(hS:St w B s n ars F):
  Calls Tryz.prog 55 #[.pointer (some ⟨s.gs,0,none⟩)] w fun e w'=>∃A c,e= .returned (.slice A n c)∧w'.ownsRow w.heap.size 3 1 (.slice A n c) n (cellsI (rowF F n))∧Below w.heap.size w w':=by
 obtain⟨i,hi,hz0,hz1,hz2⟩:=info_parts zas;have n32:=hN.n32;have l96:=hN.l96;have c4:=(hS.blk.alloc (.cells #[] 3)).cell 4;simp at c4;have hr:=rd_of_own hS.fir;have b1:=bA_ w (.cells #[] 3);have o1:=zcO w _ rfl 3 1;have hcl:(cellsI (rowF F n)).length=n*1:=by rw[cellsI_length,zaS,zaY]
 have r1:=hr.below b1 lR_
 go_enter Tryz.func55, Tryz.ntmps55
 go_wp2_with (at_builtin;refine zR _ rfl _ _ 36 rfl w.heap.size 3 i (.int .i64 0) 1 8 Tryz.underlying36 hi hz0 hz1 hz2 rfl (by decide) _ 0 [] rfl o1 w.heap.size (some ⟨s.gf,0,none⟩) n n (cellsI (rowF F n)) rfl hcl r1 (zaA _) (by unfold maxLen;omega) (by omega) (by simp) ?_)
 intro v' w2 o2 g2 h2;obtain⟨A',c',rfl,hc'⟩:=zH o2;have hb:Below w.heap.size w w2:=b1.grown g2 b1.size (fun k hk=>by simp only[Value.ownBlock]at hk;injection hk with hk;omega)
 clear b1 o1 r1 hr c4 g2 h2
 go_wp2
 go_ret;exact⟨A',c',rfl,o2,hb⟩
theorem zho(n:Nat)(ars:List ArcV)(F:Nat→Int)(B:Nat)(s:SM)(w:World)(hN:zbX n ars)(hS:St w B s n ars F):
  Calls Tryz.prog 10 #[.pointer (some ⟨s.gs,0,none⟩)] w fun e w'=>∃A c,e= .returned (.slice A ars.length c)∧w'.ownsRow w.heap.size 3 1 (.slice A ars.length c) ars.length (cellsI (rowF (tokI ars F) ars.length))∧Below w.heap.size w w':=by
 obtain⟨i,hi,hz0,hz1,hz2⟩:=info_parts zas;have n32:=hN.n32;have l96:=hN.l96;have c4:=(hS.blk.alloc (.cells #[] 3)).cell 3;simp at c4;have hr:=rd_of_own hS.tok;have b1:=bA_ w (.cells #[] 3);have o1:=zcO w _ rfl 3 1;have hcl:(cellsI (rowF (tokI ars F) ars.length)).length=ars.length*1:=by rw[cellsI_length,zaS,zaY]
 have r1:=hr.below b1 lR_
 go_enter Tryz.func10, Tryz.ntmps10
 go_wp2_with (at_builtin;refine zR _ rfl _ _ 36 rfl w.heap.size 3 i (.int .i64 0) 1 8 Tryz.underlying36 hi hz0 hz1 hz2 rfl (by decide) _ 0 [] rfl o1 w.heap.size (some ⟨s.gt,0,none⟩) ars.length ars.length (cellsI (rowF (tokI ars F) ars.length)) rfl hcl r1 (zaA _) (by unfold maxLen;omega) (by omega) (by simp) ?_)
 intro v' w2 o2 g2 h2;obtain⟨A',c',rfl,hc'⟩:=zH o2;have hb:Below w.heap.size w w2:=b1.grown g2 b1.size (fun k hk=>by simp only[Value.ownBlock]at hk;injection hk with hk;omega)
 clear b1 o1 r1 hr c4 g2 h2
 go_wp2
 go_ret;exact⟨A',c',rfl,o2,hb⟩
structure QV where
 g:Nat
 cap:Int
 lv:Value
 ys:List Int
 k:Nat
def QV.own(q:QV)(b:Nat):Prop:=b=q.g∨q.lv.ownBlock=some b
def QV.len(q:QV):Nat:=q.ys.length-q.k
structure QuM(w:World)(q:QV):Prop where
 kb:Blk w q.g 189 #[.int .i64 q.cap,q.lv, .int .i64 q.k]
 row:w.ownsRow 0 3 1 q.lv q.ys.length (cellsI q.ys)
 le:q.k≤q.ys.length
 fit:AllFit q.ys
 cap0:0≤q.cap∧q.cap≤9223372036854775807
 wide:q.ys.length*8≤140737488355328
theorem Blk.only{X:Nat→Prop}{w w':World}{g:Nat}{t:TypeId}{cs:Array Value}(h:Blk w g t cs)(ho:Only X w w')(hX:¬X g):Blk w' g t cs:=(ho.block g h.lt hX).trans h
theorem QuM.only{X:Nat→Prop}{w w':World}{q:QV}(h:QuM w q)(ho:Only X w w')(hX:∀b,q.own b→¬X b):QuM w' q:=
 {h with kb:=h.kb.only ho (hX _ (.inl rfl)),row:=zae h.row ho fun b hb=>hX b (.inr hb)}
theorem QuM.below{w w':World}{q:QV}(h:QuM w q)(hb:Below w.heap.size w w'):QuM w' q:=
 {h with kb:=h.kb.below hb h.kb.lt,row:=own_below h.row hb}
theorem QuM.drawn{w w':World}{q:QV}(h:QuM w q)(hd:Drawn w w'):QuM w' q:=h.below (hd.below _)
theorem zgN(q:QV)(w:World)(h:QuM w q):Calls Tryz.prog 101 #[.pointer (some ⟨q.g,0,none⟩)] w fun e w'=>e= .returned (.int .i64 (q.len:Nat))∧Drawn w w':=by
 obtain⟨A,c,hlv,_⟩:=zH h.row;obtain⟨n,hn⟩:∃n,q.ys.length=n:=⟨_,rfl⟩;obtain⟨k,hk⟩:∃k,q.k=k:=⟨_,rfl⟩;obtain⟨g,hg⟩:∃g,q.g=g:=⟨_,rfl⟩;have hl:q.len=n-k:=by unfold QV.len;rw[hn,hk]
 have hle:=h.le;have hw:=h.wide;have kb:=h.kb;rw[hlv,hn,hk,hg]at kb;rw[hn]at hle hw;rw[hk]at hle;rw[hl,hg];have c1:=kb.cellL 1 rfl;have c2:=kb.cellL 2 rfl;have e1:(n:Int)-(k:Int)=((n-k:Nat):Int):=by omega
 have e2:IntKind.i64.wrap ((n-k:Nat):Int)=((n-k:Nat):Int):=by rw[IntKind.wrap_i64];omega
 clear kb hl hn hk hg hlv h
 go_enter Tryz.func101, Tryz.ntmps101
 go_wp2_with fail
 go_quiet (fail)
 go_wp2_with fail
 go_ret;exact⟨rfl,(Drawn.refl w).drewN _⟩
end Go.Proofs.YtpmlljbebdidgaaGreatDoor
