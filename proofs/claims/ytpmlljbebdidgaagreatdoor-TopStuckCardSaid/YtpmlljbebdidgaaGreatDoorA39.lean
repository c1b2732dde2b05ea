/- Lemmas and walks for the claim: Fc, Fd. -/
import Derived.Test.YtpmlljbebdidgaaGreatDoorA1
import Derived.Test.YtpmlljbebdidgaaGreatDoorA0
import Derived.Deep.RegionWith
import Derived.StillTailTactics
set_option maxRecDepth 100000
set_option maxHeartbeats 4000000
namespace Go.Proofs.YtpmlljbebdidgaaGreatDoor
open Go.RowKit
def upN(up:List Int)(v:Nat):Nat:=(up[v]?.getD 0).toNat
def rootF(up:List Int):Nat→Nat→Nat
 |0,v=>v
 |f+1,v=>if upN up v<v then rootF up f (upN up v)else v
def root(up:List Int)(v:Nat):Nat:=rootF up v v
def Good(up:List Int):Prop:=∀(v:Nat) (x:Int),up[v]?=some x→0≤x∧x≤v
theorem rootF_more(up:List Int):∀(f v:Nat),v≤f→rootF up f v=rootF up v v:=by
 intro f
 induction f using Nat.strongRecOn with
 |ind f ih=>
  intro v hv
  match f,v with
  |0,0=>rfl
  |f+1,0=>
   rw[rootF,rootF,if_neg (by omega)]
  |f+1,v+1=>
   rw[rootF,rootF];by_cases h:upN up (v+1)<v+1
   ·rw[if_pos h,if_pos h,ih f (by omega) _ (by omega)]
    rcases Nat.lt_or_ge v f with hlt|hge
    ·rw[ih v (by omega) _ (by omega)]
    ·obtain rfl:v=f:=by omega
     rw[ih v (by omega) _ (by omega)]
   ·rw[if_neg h,if_neg h]
theorem root_step(up:List Int)(v:Nat):root up v=if upN up v<v then root up (upN up v)else v:=by
 unfold root
 match v with
 |0=>rw[if_neg (by omega)];rfl
 |v+1=>
  rw[rootF];by_cases h:upN up (v+1)<v+1
  ·rw[if_pos h,if_pos h,rootF_more up v _ (by omega)]
  ·rw[if_neg h,if_neg h]
theorem upN_of{up:List Int}{v:Nat}{x:Int}(h:up[v]?=some x):upN up v=x.toNat:=by unfold upN;rw[h];rfl
theorem root_le(up:List Int):∀v,root up v≤v:=by
 intro v
 induction v using Nat.strongRecOn with
 |ind v ih=>
  rw[root_step];by_cases h:upN up v<v
  ·rw[if_pos h];exact Nat.le_trans (ih _ h) (by omega)
  ·rw[if_neg h];exact Nat.le_refl _
theorem root_root(up:List Int):∀v,root up (root up v)=root up v:=by
 intro v
 induction v using Nat.strongRecOn with
 |ind v ih=>
  by_cases h:upN up v<v
  ·have e:root up v=root up (upN up v):=by rw[root_step up v,if_pos h]
   rw[e];exact ih _ h
  ·have e:root up v=v:=by rw[root_step up v,if_neg h]
   rw[e];exact e
theorem Good.fit{up:List Int}(h:Good up)(hl:up.length≤32):AllFit up:=by
 intro x hx;obtain⟨v,hv⟩:=List.mem_iff_getElem?.1 hx;have hvl:=(List.getElem?_eq_some_iff.1 hv).1
 have:=h v x hv
 unfold fits;omega
theorem find_any(up:List Int)(v:Nat)(A:Option Addr)(n c B Bx:Nat)(w:World)(hbox:w.cell? ⟨Bx,0,none⟩=some (.slice A n c))(hn:up.length=n)(hr:Rd w B A (cellsI up))(hg:Good up)(hl:n≤32)(hv:v<n):
  Calls Tryz.prog 49 #[.int .i64 v, .pointer (some ⟨Bx,0,none⟩)] w fun e w'=>e= .returned (.int .i64 (root up v:Nat))∧w=w':=by
 subst hn;have hf:=hg.fit hl
 go_enter Tryz.func49, Tryz.ntmps49
 go_wp2
 go_loop [0] (fun s=>∃k:Nat,s= .int .i64 k∧k<up.length∧Hid (root up v=root up k)) (fun s=>(intOf s).toNat)
 case atStart=>exact⟨v,rfl,hv,rfl⟩
 case round=>
  obtain⟨k,rfl,hk,Hk⟩:=hrel;obtain⟨b,off,x,rfl,hb,hxk,hc,hd,hxx⟩:=hr.at_ hf hk;obtain⟨hx0,hx1⟩:=hg k x hxx.out;have hu:=upN_of hxx.out;by_cases hlt:x<k
  ·have h1:(x !=(k:Int))=true:=by simp;omega
   have Hk2:Hid (root up v=root up x.toNat):=by unfold Hid;rw[Hk.out,root_step up k,hu,if_pos (by omega)]
   obtain⟨y,rfl⟩:∃y:Nat,x=y:=⟨x.toNat,by omega⟩
   clear hd hxx Hk hu
   go_wp2
   go_round
   case rel=>exact⟨y,rfl,by omega,by simpa using Hk2⟩
   case measure=>simp[intOf];omega
  ·obtain rfl:x=k:=by omega
   have h1:((k:Int) !=(k:Int))=false:=by simp
   have Hk2:Hid (root up v=k):=by unfold Hid;rw[Hk.out,root_step up k,hu,if_neg (by omega)]
   clear hd hxx Hk hu
   go_wp2
   go_ret;exact⟨by rw[Hk2.out];rfl,rfl⟩
def selfs(n:Nat):List Int:=(List.range n).map fun v:Nat=>(v:Int)
theorem selfs_length(n:Nat):(selfs n).length=n:=by simp[selfs]
theorem selfs_at{n v:Nat}(h:v<n):(selfs n)[v]?=some (v:Int):=by simp[selfs,h]
theorem selfs_good(n:Nat):Good (selfs n):=fun v x h=>by
 have hv:=(List.getElem?_eq_some_iff.1 h).1;rw[selfs_length]at hv;rw[selfs_at hv]at h;cases h;omega
theorem selfs_next(n k:Nat)(hk:k<n):(selfs k++List.replicate (n-k) (0:Int)).set k k=selfs (k+1)++List.replicate (n-(k+1)) 0:=by
 obtain⟨d,rfl⟩:∃d,n=k+1+d:=⟨n-(k+1),by omega⟩
 have e1:k+1+d-k=d+1:=by omega
 have e2:k+1+d-(k+1)=d:=by omega
 rw[e1,e2,List.replicate_succ,List.set_append_right _ _ (by rw[selfs_length];omega),selfs_length,Nat.sub_self,List.set_cons_zero]
 simp[selfs,List.range_succ]
def forestGo:Nat→List Int→List Int→List ArcV→List Int×List Int
 |_,up,tr,[]=>(up,tr)
 |i,up,tr,a::ars=>
  if root up a.f.toNat=root up a.t.toNat then forestGo (i+1) up tr ars
  else forestGo (i+1) (up.set (max (root up a.f.toNat) (root up a.t.toNat)) (min (root up a.f.toNat) (root up a.t.toNat):Nat)) (tr++[(i:Int)]) ars
def upF(n:Nat)(ars:List ArcV):List Int:=(forestGo 0 (selfs n) [] ars).1
def treeF(n:Nat)(ars:List ArcV):List Int:=(forestGo 0 (selfs n) [] ars).2
def homeF(n:Nat)(ars:List ArcV):List Int:=(List.range n).map fun v:Nat=>(root (upF n ars) v:Int)
theorem arcs_ok(n:Int):∀(ars:List ArcV),arcsF n ars=0→∀a∈ars,0≤a.f∧a.f<n∧0≤a.t∧a.t<n:=by
 intro ars
 induction ars with
 |nil=>intro _ a ha;cases ha
 |cons b ars ih=>
  intro h a ha;rw[arcsF]at h;by_cases hb:arcF n b=0
  ·rw[if_pos hb]at h;rcases List.mem_cons.1 ha with rfl|ha
   ·unfold arcF at hb;split at hb
    ·cases hb
    ·omega
   ·exact ih h a ha
  ·rw[if_neg hb]at h;exact absurd h hb
theorem root_set(up:List Int)(hi lo:Nat)(hlo:lo<hi)(hh:hi<up.length)(hr:root up hi=hi)(hl:root up lo=lo):
  ∀v,v<up.length→root (up.set hi (lo:Nat)) v=if root up v=hi then lo else root up v:=by
 intro v
 induction v using Nat.strongRecOn with
 |ind v ih=>
  intro hv;by_cases he:v=hi
  ·subst he;have hu:upN (up.set v (lo:Nat)) v=lo:=by
    unfold upN;rw[List.getElem?_set_self hh];simp
   rw[root_step,hu,if_pos hlo,ih lo hlo (by omega),hl,if_neg (by omega),hr,if_pos rfl]
  ·have hu:upN (up.set hi (lo:Nat)) v=upN up v:=by
    unfold upN;rw[List.getElem?_set_ne (by omega)]
   rw[root_step (up.set hi (lo:Nat)) v,hu,root_step up v];by_cases h:upN up v<v
   ·rw[if_pos h,if_pos h];exact ih _ h (by omega)
   ·rw[if_neg h,if_neg h,if_neg he]
theorem good_set(up:List Int)(hi lo:Nat)(hg:Good up)(hlo:lo≤hi):Good (up.set hi (lo:Nat)):=by
 intro v x h;by_cases he:v=hi
 ·subst he;rw[List.getElem?_set_self (by have:=(List.getElem?_eq_some_iff.1 h).1;simpa using this)]at h
  cases h;omega
 ·rw[List.getElem?_set_ne (by omega)]at h
  exact hg v x h
theorem own_lt{w:World}{base:Nat}{e:TypeId}{size g o n c:Nat}{xs:List Value}(h:w.ownsRow base e size (.slice (some ⟨g,o,none⟩) n c) n xs):g<w.heap.size:=by
 rcases h.2 with⟨h',_⟩|⟨g',cap,cur,hv,_,hh,_⟩
 ·cases h'
 ·injection hv with hv
  injection hv with hv
  injection hv with h1 _
  subst h1;rcases Nat.lt_or_ge g w.heap.size with hlt|hge
  ·exact hlt
  ·rw[Array.getElem?_eq_none hge]at hh;cases hh
def rootsK(up:List Int)(k:Nat):List Int:=(List.range k).map fun v:Nat=>(root up v:Int)
theorem rootsK_next(up:List Int)(n k:Nat)(hk:k<n):(rootsK up k++List.replicate (n-k) (0:Int)).set k (root up k:Nat)=rootsK up (k+1)++List.replicate (n-(k+1)) 0:=by
 obtain⟨d,rfl⟩:∃d,n=k+1+d:=⟨n-(k+1),by omega⟩
 have e1:k+1+d-k=d+1:=by omega
 have e2:k+1+d-(k+1)=d:=by omega
 have e3:(rootsK up k).length=k:=by simp[rootsK]
 rw[e1,e2,List.replicate_succ,List.set_append_right _ _ (by omega),e3,Nat.sub_self,List.set_cons_zero]
 simp[rootsK,List.range_succ]
structure OfSt(w wr:World)(n l c:Nat)(A:Option Addr)(g gh bx bf:Nat)(up home tr:List Int)(vt vf:Value):Prop where
 ou:wr.ownsRow g 3 1 (.slice (some ⟨g,0,none⟩) n n) n (cellsI up)
 oh:wr.ownsRow gh 3 1 (.slice (some ⟨gh,0,none⟩) n n) n (cellsI home)
 ot:wr.ownsRow (bf+1) 3 1 vt tr.length (cellsI tr)
 ku:Blk wr bx 36 #[.slice (some ⟨g,0,none⟩) n n]
 kf:Blk wr bf 79 #[vf, .slice (some ⟨gh,0,none⟩) n n]
 kn:Blk wr w.heap.size 30 #[.int .i64 n, .slice A l c]
 kr:Blk wr (w.heap.size+1) 79 #[.slice none 0 0, .slice none 0 0]
 bw:Below w.heap.size w wr
 hsz:bf+1≤wr.heap.size
 s1:w.heap.size+1+1≤g
 s2:g<bx
 s3:bx<gh
 s4:gh<bf
theorem OfSt.alloc{w wr:World}{n l c:Nat}{A:Option Addr}{g gh bx bf:Nat}{up home tr:List Int}{vt vf:Value}(h:OfSt w wr n l c A g gh bx bf up home tr vt vf)(o:Obj):OfSt w (wr.alloc o) n l c A g gh bx bf up home tr vt vf:=
 ⟨h.ou.alloc o,h.oh.alloc o,h.ot.alloc o,h.ku.alloc o,h.kf.alloc o,h.kn.alloc o,h.kr.alloc o,h.bw.alloc h.bw.size o,by have:=h.hsz;simp;omega,h.s1,h.s2,h.s3,h.s4⟩
theorem OfSt.drawn{w wr:World}{n l c:Nat}{A:Option Addr}{g gh bx bf:Nat}{up home tr:List Int}{vt vf:Value}(h:OfSt w wr n l c A g gh bx bf up home tr vt vf)(d:Nat):OfSt w (wr.drewN d) n l c A g gh bx bf up home tr vt vf:=
 ⟨h.ou,h.oh,h.ot,h.ku,h.kf,h.kn,h.kr,Below.drewN h.bw d,h.hsz,h.s1,h.s2,h.s3,h.s4⟩
theorem OfSt.grown{w wr w':World}{n l c:Nat}{A:Option Addr}{g gh bx bf:Nat}{up home tr tr':List Int}{vt vt' vf:Value}(h:OfSt w wr n l c A g gh bx bf up home tr vt vf)(hg:wr.grownBy w' vt.ownBlock)
  (ho:w'.ownsRow (bf+1) 3 1 vt' tr'.length (cellsI tr')):OfSt w w' n l c A g gh bx bf up home tr' vt' vf:=by
 have:=h.s1;have:=h.s2;have:=h.s3;have:=h.s4
 have hlt:=h.ot.lt;have ne:∀k,k<bf+1→some k≠vt.ownBlock:=fun k hk he=>by have:=(hlt k he.symm).1;omega
 exact⟨h.ou.kept hg (.inr (by simp[Value.ownBlock];exact ne g (by omega))),h.oh.kept hg (.inr (by simp[Value.ownBlock];exact ne gh (by omega))),ho,h.ku.grown hg (ne bx (by omega)),h.kf.grown hg (ne bf (by omega)),
  h.kn.grown hg (ne _ (by omega)),h.kr.grown hg (ne _ (by omega)),h.bw.grown hg h.bw.size (fun k hk=>by have:=hlt k hk;omega),Nat.le_trans h.hsz hg.size,h.s1,h.s2,h.s3,h.s4⟩
theorem OfSt.setF{w wr:World}{n l c:Nat}{A:Option Addr}{g gh bx bf:Nat}{up home tr:List Int}{vt vf:Value}(h:OfSt w wr n l c A g gh bx bf up home tr vt vf)(v:Value):OfSt w (wr.setCell ⟨bf,0,none⟩ v) n l c A g gh bx bf up home tr vt v:=by
 have:=h.s1;have:=h.s2;have:=h.s3;have:=h.s4
 exact⟨own_set h.ou h.kf (by decide) 0 v,own_set h.oh h.kf (by decide) 0 v,own_set h.ot h.kf (by decide) 0 v,h.ku.far (by simp;omega) v,by simpa using h.kf.set 0 v,h.kn.far (by simp;omega) v,h.kr.far (by simp;omega) v,
  h.bw.setCell (by simp;omega) v,by have:=h.hsz;simp;omega,h.s1,h.s2,h.s3,h.s4⟩
theorem OfSt.setU{w wr:World}{n l c:Nat}{A:Option Addr}{g gh bx bf:Nat}{up home tr:List Int}{vt vf:Value}(h:OfSt w wr n l c A g gh bx bf up home tr vt vf)(j:Nat)(u:Int):OfSt w (wr.setCell ⟨g,j,none⟩ (.int .i64 u)) n l c A g gh bx bf (up.set j u) home tr vt vf:=by
 have:=h.s1;have:=h.s2;have:=h.s3;have:=h.s4
 have ho:=(h.ou.stored j (.int .i64 u)).1;have hgr:wr.grownBy (wr.setCell ⟨g,j,none⟩ (.int .i64 u)) (some g):=(h.ou.stored j (.int .i64 u)).2;have hlt:=h.ot.lt;rw[cellsI_set]at ho;exact⟨ho,h.oh.kept hgr (.inr (by simp[Value.ownBlock];omega)),h.ot.kept hgr (.inr (fun he=>by have:=(hlt g he).1;omega)),h.ku.far (by simp;omega) _,h.kf.far (by simp;omega) _,h.kn.far (by simp;omega) _,h.kr.far (by simp;omega) _,
  h.bw.setCell (by simp;omega) _,by have:=h.hsz;simp;omega,h.s1,h.s2,h.s3,h.s4⟩
theorem OfSt.setH{w wr:World}{n l c:Nat}{A:Option Addr}{g gh bx bf:Nat}{up home tr:List Int}{vt vf:Value}(h:OfSt w wr n l c A g gh bx bf up home tr vt vf)(j:Nat)(u:Int):OfSt w (wr.setCell ⟨gh,j,none⟩ (.int .i64 u)) n l c A g gh bx bf up (home.set j u) tr vt vf:=by
 have:=h.s1;have:=h.s2;have:=h.s3;have:=h.s4
 have ho:=(h.oh.stored j (.int .i64 u)).1;have hgr:wr.grownBy (wr.setCell ⟨gh,j,none⟩ (.int .i64 u)) (some gh):=(h.oh.stored j (.int .i64 u)).2;have hlt:=h.ot.lt;rw[cellsI_set]at ho;exact⟨h.ou.kept hgr (.inr (by simp[Value.ownBlock];omega)),ho,h.ot.kept hgr (.inr (fun he=>by have:=(hlt gh he).1;omega)),h.ku.far (by simp;omega) _,h.kf.far (by simp;omega) _,h.kn.far (by simp;omega) _,h.kr.far (by simp;omega) _,
  h.bw.setCell (by simp;omega) _,by have:=h.hsz;simp;omega,h.s1,h.s2,h.s3,h.s4⟩
theorem own_mono{w:World}{base base':Nat}{e:TypeId}{size n:Nat}{v:Value}{xs:List Value}(h:w.ownsRow base e size v n xs)(hb:base'≤base):w.ownsRow base' e size v n xs:=by
 refine⟨h.1,?_⟩;rcases h.2 with hn|⟨g,cap,cur,rfl,h1,h2⟩
 ·exact .inl hn
 ·exact .inr ⟨g,cap,cur,rfl,by omega,h2⟩
def OfOut(w:World)(n:Nat)(ars:List ArcV)(e:Ending)(w':World):Prop:=
 ∃A c gh,e= .returned (.tuple #[.agg #[.slice A (treeF n ars).length c, .slice (some ⟨gh,0,none⟩) n n], .int .i64 0])∧w.heap.size≤gh∧w'.ownsRow (gh+1) 3 1 (.slice A (treeF n ars).length c) (treeF n ars).length (cellsI (treeF n ars))∧
  w'.ownsRow gh 3 1 (.slice (some ⟨gh,0,none⟩) n n) n (cellsI (homeF n ars))∧Below w.heap.size w w'
theorem of_walk(n:Nat)(ars:List ArcV)(A:Option Addr)(l c:Nat)(w:World)(hl:ars.length=l)(hx:∀a∈ars,a.fit)(hr:Rd w w.heap.size A (cellsA ars))(hm:l≤maxLen)(hc:checkF n ars=0):
  Calls Tryz.prog 25 #[.agg #[.int .i64 n, .slice A l c]] w (OfOut w n ars):=by
 obtain⟨i0,hi,hz0,hz1,hz2⟩:=info_parts info_int;have hn1:1≤n∧n≤32:=by
  unfold checkF at hc;split at hc
  ·cases hc
  ·omega
 have hl96:l≤96:=by
  unfold checkF at hc;rw[if_neg (by omega)]at hc
  split at hc
  ·cases hc
  ·omega
 have harcs:arcsF n ars=0:=by
  unfold checkF at hc;rw[if_neg (by omega)]at hc
  split at hc
  ·cases hc
  ·exact hc
 go_enter Tryz.func25, Tryz.ntmps25
 have hb0:∀o o',Below w.heap.size w ((w.alloc o).alloc o'):=fun o o'=>((Below.refl _ _).alloc lR_ o).alloc (by simp) o'
 go_wp2_with fail;refine(check_any n ars A l c _ hl hx ((hr.below (hb0 _ _) lR_).more (by simp;omega)) hm).mono ?_;rintro e w1 ⟨rfl,hb1⟩
 rw[hc];have bz:((w.alloc (.cells #[.int .i64 n, .slice A l c] 30)).alloc (.cells #[.slice none 0 0, .slice none 0 0] 79)).heap.size=w.heap.size+1+1:=by simp
 have bw1:Below w.heap.size w w1:=(hb0 _ _).trans (hb1.mono (by rw[bz];omega))
 have kn1:Blk w1 w.heap.size 30 #[.int .i64 n, .slice A l c]:=((Blk.new w _ rfl _ _).alloc _).below hb1 (by rw[bz];omega)
 have kr1:Blk w1 (w.heap.size+1) 79 #[.slice none 0 0, .slice none 0 0]:=(Blk.new (w.alloc (.cells #[.int .i64 n, .slice A l c] 30)) _ (by simp) _ _).below hb1 (by rw[bz];omega)
 have s1:=hb1.size;rw[bz]at s1;clear hb1 bz hb0;have n0:=kn1.cell 0;simp at n0
 go_wp2_with (at_make;refine wpList_make_full _ rfl _ _ 36 rfl w1.heap.size 3 i0 (.int .i64 0) 1 Tryz.underlying36 hi hz0 hz1 _ _ _ _ n rfl rfl (by omega) (by omega) (by rw[hz2];omega) (by unfold maxLen;omega) (by simp) ?_)
 intro w2 o2 g2;have hmade:(madeCells #[Value.int .i64 0] n).toList=cellsI (List.replicate n 0):=by
  have:=madeCells_int n
  simpa [Value.cells]using this
 rw[hmade]at o2;have b2:Below w.heap.size w w2:=bw1.grown g2 bw1.size (fun k hk=>by cases hk)
 have kn2:=kn1.grown g2 (by simp)
 have kr2:=kr1.grown g2 (by simp)
 have s2:=g2.size;obtain⟨g,hg⟩:∃g,w1.heap.size=g:=⟨_,rfl⟩;rw[hg]at o2 s1 s2⊢;clear g2 hmade kn1 kr1 bw1 n0 hg;obtain⟨bx,hbx⟩:∃bx,w2.heap.size=bx:=⟨_,rfl⟩;have hgl:=own_lt o2;rw[hbx]at hgl s2;have kn3:=kn2.alloc (.cells #[.slice (some ⟨g,0,none⟩) n n] 36);have kr3:=kr2.alloc (.cells #[.slice (some ⟨g,0,none⟩) n n] 36);have ku3:=Blk.new w2 bx hbx.symm 36 #[.slice (some ⟨g,0,none⟩) n n];have o3:=o2.alloc (.cells #[.slice (some ⟨g,0,none⟩) n n] 36);have b3:=b2.alloc b2.size (.cells #[.slice (some ⟨g,0,none⟩) n n] 36)
 go_wp2
 clear kn2 kr2 o2 b2
 go_loopw [25] (fun i wr=>∃k:Nat,k≤n∧i= .int .i64 k∧wr.ownsRow g 3 1 (.slice (some ⟨g,0,none⟩) n n) n (cellsI (selfs k++List.replicate (n-k) 0))∧Blk wr bx 36 #[.slice (some ⟨g,0,none⟩) n n]∧
  Blk wr w.heap.size 30 #[.int .i64 n, .slice A l c]∧Blk wr (w.heap.size+1) 79 #[.slice none 0 0, .slice none 0 0]∧Below w.heap.size w wr) (fun i _=>n-(intOf i).toNat)
 case atStart=>exact⟨0,by omega,rfl,o3,ku3,kn3,kr3,b3⟩
 case round=>
  clear o3 ku3 kn3 kr3 b3 hbx;obtain⟨k,hk,rfl,o3,ku3,kn3,kr3,b3⟩:=hrel;have u0:=ku3.cell 0;simp at u0;by_cases hlt:k<n
  ·have hl3:(selfs k++List.replicate (n-k) (0:Int)).length=n:=by simp[selfs_length];omega
   obtain⟨o,hoo⟩:∃o,(selfs k++List.replicate (n-k) (0:Int))[k]?=some o:=⟨_,List.getElem?_eq_getElem (by omega)⟩
   have hco:=o3.cellAt k (by omega)
   rw[show(cellsI (selfs k++List.replicate (n-k) (0:Int)))[k]?=some (.int .i64 o) by simp only[cellsI,List.getElem?_map,hoo];rfl]at hco
   have fro:=o3.frozenAt k;have o4:=(o3.stored k (.int .i64 k)).1;rw[cellsI_set,selfs_next n k hlt]at o4;have m1:=ku3.far (p:=⟨g,k,none⟩) (by simp;omega) (.int .i64 k)
   have m2:=kn3.far (p:=⟨g,k,none⟩) (by simp;omega) (.int .i64 k)
   have m3:=kr3.far (p:=⟨g,k,none⟩) (by simp;omega) (.int .i64 k)
   have m4:=b3.setCell (p:=⟨g,k,none⟩) (by simp;omega) (.int .i64 k)
   clear o3 ku3 kn3 kr3 b3 hoo
   go_wp2
   go_roundw
   case rel=>exact⟨k+1,by omega,by go_num,o4,m1,m2,m3,m4⟩
   case measure=>simp[intOf];omega
  ·obtain rfl:n=k:=by omega
   have o4:wr.ownsRow g 3 1 (.slice (some ⟨g,0,none⟩) n n) n (cellsI (selfs n)):=by simpa using o3
   clear o3;have n0:=kn3.cell 0;simp at n0
   go_wp2_with (at_make;refine wpList_make_full _ rfl _ _ 36 rfl wr.heap.size 3 i0 (.int .i64 0) 1 Tryz.underlying36 hi hz0 hz1 _ _ _ _ n rfl rfl (by omega) (by omega) (by rw[hz2];omega) (by unfold maxLen;omega) (by simp) ?_)
   intro w5 o5 g5;have hmade:(madeCells #[Value.int .i64 0] n).toList=cellsI (List.replicate n 0):=by
    have:=madeCells_int n
    simpa [Value.cells]using this
   rw[hmade]at o5;have b5:=b3.grown g5 b3.size (fun k hk=>by cases hk)
   have kn5:=kn3.grown g5 (by simp)
   have kr5:=kr3.grown g5 (by simp)
   have ku5:=ku3.grown g5 (by simp)
   have ou5:=o4.kept g5 (by simp[Value.ownBlock])
   have s5:=g5.size;have hbxl:=ku3.lt;obtain⟨gh,hgh⟩:∃gh,wr.heap.size=gh:=⟨_,rfl⟩;rw[hgh]at o5 s5 hbxl⊢;clear g5 hmade kn3 kr3 ku3 b3 o4 n0 u0 hgh;have hghl:=own_lt o5;obtain⟨bf,hbf⟩:∃bf,w5.heap.size=bf:=⟨_,rfl⟩;have kf6:=Blk.new w5 bf hbf.symm 79 #[.slice none 0 0, .slice (some ⟨gh,0,none⟩) n n];have kn6:=kn5.alloc (.cells #[.slice none 0 0, .slice (some ⟨gh,0,none⟩) n n] 79);have kr6:=kr5.alloc (.cells #[.slice none 0 0, .slice (some ⟨gh,0,none⟩) n n] 79);have ku6:=ku5.alloc (.cells #[.slice none 0 0, .slice (some ⟨gh,0,none⟩) n n] 79);have ou6:=ou5.alloc (.cells #[.slice none 0 0, .slice (some ⟨gh,0,none⟩) n n] 79);have oh6:=o5.alloc (.cells #[.slice none 0 0, .slice (some ⟨gh,0,none⟩) n n] 79);have b6:=b5.alloc b5.size (.cells #[.slice none 0 0, .slice (some ⟨gh,0,none⟩) n n] 79);have hsz6:(w5.alloc (.cells #[.slice none 0 0, .slice (some ⟨gh,0,none⟩) n n] 79)).heap.size=bf+1:=by simp[hbf]
   obtain⟨w6,hw6⟩:∃w6,w5.alloc (.cells #[.slice none 0 0, .slice (some ⟨gh,0,none⟩) n n] 79)=w6:=⟨_,rfl⟩;rw[hw6]at kf6 kn6 kr6 ku6 ou6 oh6 b6 hsz6;rw[hbf]at hghl s5;have n1:=kn6.cell 1;simp at n1;have S6:OfSt w w6 n l c A g gh bx bf (selfs n) (List.replicate n 0) [] (.slice none 0 0) (.slice none 0 0):=⟨ou6,oh6,World.ownsRow_nil _ _ _ _,ku6,kf6,kn6,kr6,b6,by omega,by omega,hgl,hbxl,hghl⟩
   clear kn5 kr5 ku5 ou5 o5 b5 ou6 oh6 ku6 kf6 kn6 kr6 b6 hsz6
   go_wp2
   clear hw6 hbf n1 s1 s2 s5 hgl hbxl hghl hlt hk w5 w2 w1
   go_loopw [41] (fun i wr=>∃(k:Nat) (up tr:List Int) (vt:Value),k≤l∧i= .int .i64 k∧up.length=n∧Good up∧tr.length≤k∧OfSt w wr n l c A g gh bx bf up (List.replicate n 0) tr vt vt∧Hid (forestGo 0 (selfs n) [] ars=forestGo k up tr (ars.drop k))) (fun i _=>l-(intOf i).toNat)
   case atStart=>exact⟨0,selfs n,[], .slice none 0 0,Nat.zero_le _,rfl,selfs_length n,selfs_good n,Nat.le_refl _,S6,rfl⟩
   case round=>
    clear S6 w6;obtain⟨k,up,tr,vt,hk,rfl,hul,hgood,htl,S,He⟩:=hrel;by_cases hkl:k<l
    ·obtain⟨b,off,a,rfl,hbl,hfa,c0,c1,c2,c3,c4,hd,hat⟩:=(hr.below S.bw lR_).arc (k:=k) hx (by omega)
     obtain⟨q1,q2,q3,q4⟩:=arcs_ok n ars harcs a (List.mem_of_getElem? hat.out);obtain⟨fx,hfx⟩:∃fx:Nat,a.f=fx:=⟨a.f.toNat,by omega⟩
     obtain⟨tx,htx⟩:∃tx:Nat,a.t=tx:=⟨a.t.toNat,by omega⟩
     have Hst:Hid (forestGo 0 (selfs n) [] ars=if root up fx=root up tx then forestGo (k+1) up tr (ars.drop (k+1))else forestGo (k+1) (up.set (max (root up fx) (root up tx)) (min (root up fx) (root up tx):Nat)) (tr++[(k:Int)]) (ars.drop (k+1))):=by
      unfold Hid;rw[He.out,hd.out,forestGo,hfx,htx];rfl
     have r1:=root_le up fx;have r2:=root_le up tx;rw[hfx]at c0 q1 q2;rw[htx]at c1 q3 q4;clear hd hat He hfx htx;obtain⟨W1,hW1⟩:∃W1,wr.alloc (.cells #[.int .i64 fx, .int .i64 tx, .int .i64 a.g, .int .i64 a.k, .int .i64 a.s] 76)=W1:=⟨_,rfl⟩;have ka1:Blk W1 wr.heap.size 76 #[.int .i64 fx, .int .i64 tx, .int .i64 a.g, .int .i64 a.k, .int .i64 a.s]:=hW1▸Blk.new wr _ rfl _ _;have S1:OfSt w W1 n l c (some ⟨b,off,none⟩) g gh bx bf up (List.replicate n 0) tr vt vt:=hW1▸S.alloc _;have d0:=ka1.cell 0;have d1:=ka1.cell 1;have u0:=S1.ku.cell 0;simp at d0 d1 u0;have ru:=rd_of_own S1.ou;clear S
     go_wp2
     go_quiet ((first|(go_at_call_of 49 (Value.int .i64 (fx:Int));exact quiet_left (find_any up fx _ n n _ bx _ u0 hul ru hgood (by omega) (by omega)))|(go_at_call_of 49 (Value.int .i64 (tx:Int));exact quiet_left (find_any up tx _ n n _ bx _ u0 hul ru hgood (by omega) (by omega)))))
     clear c0 c1 c2 c3 c4 d0 d1 u0 ru ka1 hW1;have S2:=S1.drawn nq;generalize W1.drewN nq=W2 at S2⊢;clear S1 W1;have hf2:=S2.kf.cell 0;have hff:=S2.kf.frozen 0;simp at hf2;by_cases hrr:root up fx=root up tx
     ·have Hst2:Hid (forestGo 0 (selfs n) [] ars=forestGo (k+1) up tr (ars.drop (k+1))):=by unfold Hid;rw[Hst.out,if_pos hrr]
      rw[hrr];clear Hst hrr
      go_wp2
      go_roundw
      case rel=>exact⟨k+1,up,tr,vt,by omega,by go_num,hul,hgood,by omega,S2,Hst2⟩
      case measure=>simp[intOf];omega
     ·have Hst2:Hid (forestGo 0 (selfs n) [] ars=forestGo (k+1) (up.set (max (root up fx) (root up tx)) (min (root up fx) (root up tx):Nat)) (tr++[(k:Int)]) (ars.drop (k+1))):=by unfold Hid;rw[Hst.out,if_neg hrr]
      clear Hst;generalize root up fx=rx at*;generalize root up tx=ry at*;have hne:((rx:Int) !=(ry:Int))=true:=by simp;omega
      go_wp2_with (at_builtin;refine wpList_append_rd _ rfl _ _ 36 rfl (bf+1) 3 i0 (.int .i64 0) 1 8 Tryz.underlying36 hi hz0 hz1 hz2 rfl (by decide) vt tr.length (cellsI tr) rfl (S2.ot.alloc _) (W2.heap.size+1) (some ⟨W2.heap.size,0,none⟩) 1 1 (cellsI [(k:Int)]) rfl rfl (rd_alloc W2 W2.heap.size rfl 3 (cellsI [(k:Int)])) (cellsI_one [(k:Int)]) (by unfold maxLen;omega) (by omega) (by have:=S2.hsz;simp;omega) ?_)
      intro vt' W3 o3 g3 _;obtain⟨A3,c3,rfl,hc3⟩:=own_slice o3;have S3:OfSt w W3 n l c (some ⟨b,off,none⟩) g gh bx bf up (List.replicate n 0) (tr++[(k:Int)]) (.slice A3 (tr.length+1) c3) vt:=(S2.alloc _).grown g3 (by simpa [cellsI]using o3)
      clear S2 o3 g3 hf2 hff;have hf3:=S3.kf.cell 0;have hff3:=S3.kf.frozen 0;simp at hf3;have S4:=S3.setF (.slice A3 (tr.length+1) c3);have hu4:=S4.ku.cell 0;simp at hu4;rcases Nat.lt_or_gt_of_ne hrr with hlt|hgt
      ·have S5:=S4.setU ry (rx:Int);have hst4:=S4.ou.cellAt ry (by omega)
       have hfr4:=S4.ou.frozenAt ry;obtain⟨o,hoo⟩:∃o,up[ry]?=some o:=⟨_,List.getElem?_eq_getElem (by omega)⟩
       rw[show(cellsI up)[ry]?=some (.int .i64 o) by simp only[cellsI,List.getElem?_map,hoo];rfl]at hst4
       have hg5:=good_set up ry rx hgood (by omega)
       have Hst3:Hid (forestGo 0 (selfs n) [] ars=forestGo (k+1) (up.set ry (rx:Nat)) (tr++[(k:Int)]) (ars.drop (k+1))):=by
        unfold Hid;rw[Hst2.out,Nat.max_eq_right (by omega),Nat.min_eq_left (by omega)]
       have hmx:max (rx:Int) (ry:Int)=ry:=by omega
       have hmn:min (rx:Int) (ry:Int)=rx:=by omega
       clear Hst2 hoo hrr S3 S4
       go_wp2
       go_roundw
       case rel=>exact⟨k+1,_,_,_,by omega,by go_num,by simp[hul],hg5,by simp;omega,S5,Hst3⟩
       case measure=>simp[intOf];omega
      ·have S5:=S4.setU rx (ry:Int);have hst4:=S4.ou.cellAt rx (by omega)
       have hfr4:=S4.ou.frozenAt rx;obtain⟨o,hoo⟩:∃o,up[rx]?=some o:=⟨_,List.getElem?_eq_getElem (by omega)⟩
       rw[show(cellsI up)[rx]?=some (.int .i64 o) by simp only[cellsI,List.getElem?_map,hoo];rfl]at hst4
       have hg5:=good_set up rx ry hgood (by omega)
       have Hst3:Hid (forestGo 0 (selfs n) [] ars=forestGo (k+1) (up.set rx (ry:Nat)) (tr++[(k:Int)]) (ars.drop (k+1))):=by
        unfold Hid;rw[Hst2.out,Nat.max_eq_left (by omega),Nat.min_eq_right (by omega)]
       have hmx:max (rx:Int) (ry:Int)=rx:=by omega
       have hmn:min (rx:Int) (ry:Int)=ry:=by omega
       clear Hst2 hoo hrr S3 S4
       go_wp2
       go_roundw
       case rel=>exact⟨k+1,_,_,_,by omega,by go_num,by simp[hul],hg5,by simp;omega,S5,Hst3⟩
       case measure=>simp[intOf];omega
    ·obtain rfl:l=k:=by omega
     have Hup:Hid (upF n ars=up∧treeF n ars=tr):=by
      have hd:ars.drop l=[]:=List.drop_eq_nil_of_le (by omega)
      unfold Hid upF treeF;rw[He.out,hd];exact⟨rfl,rfl⟩
     clear He;have f1:=S.kf.cell 1;simp at f1
     go_wp2
     go_loopw [75] (fun i wx=>∃k:Nat,k≤n∧i= .int .i64 k∧OfSt w wx n l c A g gh bx bf up (rootsK up k++List.replicate (n-k) 0) tr vt vt) (fun i _=>n-(intOf i).toNat)
     case atStart=>exact⟨0,by omega,rfl,by simpa [rootsK]using S⟩
     case round=>
      clear S f1;obtain⟨k,hk3,rfl,S⟩:=hrel;by_cases hlt:k<n
      ·have hl3:(rootsK up k++List.replicate (n-k) (0:Int)).length=n:=by simp[rootsK];omega
       obtain⟨o,hoo⟩:∃o,(rootsK up k++List.replicate (n-k) (0:Int))[k]?=some o:=⟨_,List.getElem?_eq_getElem (by omega)⟩
       have hco:=S.oh.cellAt k (by omega)
       rw[show(cellsI (rootsK up k++List.replicate (n-k) (0:Int)))[k]?=some (.int .i64 o) by simp only[cellsI,List.getElem?_map,hoo];rfl]at hco
       have fro:=S.oh.frozenAt k;have S5:=(S.drawn 1).setH k (root up k:Nat);rw[rootsK_next up n k hlt]at S5;have f1:=S.kf.cell 1;have u0:=S.ku.cell 0;simp at f1 u0;have ru:=rd_of_own S.ou;clear hoo S
       go_wp2
       refine wp_region_still_tail 7 (by kernel_rfl) (by kernel_rfl) ?_
       simp only[List.take_succ_cons,List.take_zero,List.drop_succ_cons,List.drop_zero];change wpStill _ _ (wr.drewN 1) _ _ _;have hw0:∀a,(wr.drewN 1).cell? a=wr.cell? a:=fun _=>rfl
       have hw1:∀a,(wr.drewN 1).frozen? a=wr.frozen? a:=fun _=>rfl
       repeat still_step
       still_call ((find_any up k _ n n _ bx (wr.drewN 1) u0 hul ru hgood (by omega) (by omega)).mono fun _ _ ⟨h,h'⟩=>⟨h,h'.symm⟩)
       repeat still_step
       refine wpStill_nil ?_
       go_wp2
       go_roundw
       case rel=>exact⟨k+1,by omega,by go_num,S5⟩
       case measure=>simp[intOf];omega
      ·obtain rfl:k=n:=by omega
       obtain⟨A3,c3,rfl,hc3⟩:=own_slice S.ot;have f1:=S.kf.cell 1;have f0:=S.kf.cell 0;have r0:=S.kr.cell 0;have r1:=S.kr.cell 1;simp at f0 f1 r0 r1;have z0:=S.kr.frozen 0;have z1:=S.kr.frozen 1;have S7:=S.kr.set 0 (.slice A3 tr.length c3);have S8:=S7.set 1 (.slice (some ⟨gh,0,none⟩) k k);have t0:=S8.cell 0;have t1:=S8.cell 1;have hs2:=S.s2;have hs3:=S.s3;have hs1:=S.s1;have hs4:=S.s4;have ot:=own_set (own_set S.ot S.kr (by decide) 0 (.slice A3 tr.length c3)) S7 (by decide) 1 (.slice (some ⟨gh,0,none⟩) k k)
       have oh:=own_set (own_set S.oh S.kr (by decide) 0 (.slice A3 tr.length c3)) S7 (by decide) 1 (.slice (some ⟨gh,0,none⟩) k k)
       have bw:=(S.bw.setCell (p:=⟨w.heap.size+1,0,none⟩) (by simp) (.slice A3 tr.length c3)).setCell (p:=⟨w.heap.size+1,1,none⟩) (by simp) (.slice (some ⟨gh,0,none⟩) k k)
       have ot':=own_mono (base':=gh+1) ot (by omega)
       simp at t0 t1
       have oh':World.ownsRow ((wr.setCell ⟨w.heap.size+1,0,none⟩ (.slice A3 tr.length c3)).setCell ⟨w.heap.size+1,1,none⟩ (.slice (some ⟨gh,0,none⟩) k k)) gh 3 1 (.slice (some ⟨gh,0,none⟩) k k) k (cellsI (rootsK up k)):=by simpa using oh
       clear S7 S8 S ot oh
       go_wp2
       refine bodyPost_ret (v:= .tuple #[.agg #[.slice A3 tr.length c3, .slice (some ⟨gh,0,none⟩) k k], .int .i64 0]) (by simp[results, Tryz.results25,go_sem,t0,t1]) rfl ?_
       have e1:=Hup.out.1;have e2:=Hup.out.2;have e3:homeF k ars=rootsK up k:=by unfold homeF;rw[e1];rfl
       unfold OfOut;rw[e2,e3];exact⟨A3,c3,gh,rfl,by omega,ot',oh',bw⟩
theorem of_bad(n:Int)(ars:List ArcV)(A:Option Addr)(l c:Nat)(w:World)(hl:ars.length=l)(hx:∀a∈ars,a.fit)(hr:Rd w w.heap.size A (cellsA ars))(hm:l≤maxLen)(hc:checkF n ars≠0):
  Calls Tryz.prog 25 #[.agg #[.int .i64 n, .slice A l c]] w fun e w'=>e= .returned (.tuple #[.agg #[.slice none 0 0, .slice none 0 0], .int .i64 (checkF n ars)])∧Below w.heap.size w w':=by
 have hb0:∀o o',Below w.heap.size w ((w.alloc o).alloc o'):=fun o o'=>((Below.refl _ _).alloc lR_ o).alloc (by simp) o'
 obtain⟨q,hq⟩:∃q,checkF n ars=q:=⟨_,rfl⟩;rw[hq]at hc;have hne:(q !=0)=true:=by simpa using hc
 have Hq:=Lh hq;clear hq;rw[Hq.out]
 go_enter Tryz.func25, Tryz.ntmps25
 go_wp2_with fail;refine(check_any n ars A l c _ hl hx ((hr.below (hb0 _ _) lR_).more (by simp;omega)) hm).mono ?_;rintro e w1 ⟨rfl,hb1⟩
 rw[Hq.out];have bz:((w.alloc (.cells #[.int .i64 n, .slice A l c] 30)).alloc (.cells #[.slice none 0 0, .slice none 0 0] 79)).heap.size=w.heap.size+1+1:=by simp
 have bw1:Below w.heap.size w w1:=(hb0 _ _).trans (hb1.mono (by rw[bz];omega))
 have kr1:Blk w1 (w.heap.size+1) 79 #[.slice none 0 0, .slice none 0 0]:=(Blk.new (w.alloc (.cells #[.int .i64 n, .slice A l c] 30)) _ (by simp) _ _).below hb1 (by rw[bz];omega)
 have bw2:=(bw1.setCell (p:=⟨w.heap.size+1,0,none⟩) (by simp) (.slice none 0 0)).setCell (p:=⟨w.heap.size+1,1,none⟩) (by simp) (.slice none 0 0)
 have r0:=kr1.cell 0;have r1:=kr1.cell 1;have z0:=kr1.frozen 0;have z1:=kr1.frozen 1;have t0:=((kr1.set 0 (.slice none 0 0)).set 1 (.slice none 0 0)).cell 0;have t1:=((kr1.set 0 (.slice none 0 0)).set 1 (.slice none 0 0)).cell 1;simp at r0 r1 t0 t1;clear hb1 bz hb0 kr1
 go_wp2
 exact bodyPost_ret (v:= .tuple #[.agg #[.slice none 0 0, .slice none 0 0], .int .i64 q]) (by simp[results, Tryz.results25,go_sem,t0,t1]) rfl ⟨rfl,bw2⟩
end Go.Proofs.YtpmlljbebdidgaaGreatDoor
