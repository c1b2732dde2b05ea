/- Lemmas and walks for the claim: Fd, Fp. -/
import Derived.Test.YtpmlljbebdidgaaGreatDoorA0
import Derived.Test.YtpmlljbebdidgaaGreatDoorA34
import Derived.Deep.RegionWith
import Derived.StillTailTactics
set_option linter.unusedSimpArgs false
set_option maxRecDepth 100000
set_option maxHeartbeats 4000000
namespace Go.Proofs.YtpmlljbebdidgaaGreatDoor
open Go.RowKit
def forestGo:Nat→List Int→List Int→List ArcV→List Int×List Int
 |_,up,tr,[]=>(up,tr)
 |i,up,tr,a::ars=>
  if root up a.f.toNat=root up a.t.toNat then forestGo (i+1) up tr ars
  else forestGo (i+1) (up.set (max (root up a.f.toNat) (root up a.t.toNat)) (min (root up a.f.toNat) (root up a.t.toNat):Nat)) (tr++[(i:Int)]) ars
def upF(n:Nat)(ars:List ArcV):List Int:=(forestGo 0 (selfs n) [] ars).1
def treeF(n:Nat)(ars:List ArcV):List Int:=(forestGo 0 (selfs n) [] ars).2
def zcq(n:Nat)(ars:List ArcV):List Int:=(List.range n).map fun v:Nat=>(root (upF n ars) v:Int)
theorem zkl(n:Int):∀(ars:List ArcV),arcsF n ars=0→∀a∈ars,0≤a.f∧a.f<n∧0≤a.t∧a.t<n:=by
 intro ars
 induction ars with
 |nil=>intro _ a ha;cases ha
 |cons b ars ih=>
  intro h a ha;rw[arcsF]at h;by_cases hb:arcF n b=0
  ·rw[if_pos hb]at h;rcases zV.1 ha with rfl|ha
   ·unfold arcF at hb;split at hb
    ·cases hb
    ·omega
   ·exact ih h a ha
  ·rw[if_neg hb]at h;exact absurd h hb
theorem znz(up:List Int)(hi lo:Nat)(hlo:lo<hi)(hh:hi<up.length)(hr:root up hi=hi)(hl:root up lo=lo):
  ∀v,v<up.length→root (up.set hi (lo:Nat)) v=if root up v=hi then lo else root up v:=by
 intro v
 induction v using Nat.strongRecOn with
 |ind v ih=>
  intro hv;by_cases he:v=hi
  ·subst he;have hu:upN (up.set v (lo:Nat)) v=lo:=by
    unfold upN;rw[zat hh];simp
   rw[zcp,hu,if_pos hlo,ih lo hlo (by omega),hl,if_neg (by omega),hr,if_pos rfl]
  ·have hu:upN (up.set hi (lo:Nat)) v=upN up v:=by
    unfold upN;rw[zaM (by omega)]
   rw[zcp (up.set hi (lo:Nat)) v,hu,zcp up v];by_cases h:upN up v<v
   ·rw[if_pos h,if_pos h];exact ih _ h (by omega)
   ·rw[if_neg h,if_neg h,if_neg he]
theorem zgP(up:List Int)(hi lo:Nat)(hg:zgd up)(hlo:lo≤hi):zgd (up.set hi (lo:Nat)):=by
 intro v x h;by_cases he:v=hi
 ·subst he;rw[zat (by have:=(zu.1 h).1;simpa using this)]at h
  cases h;omega
 ·rw[zaM (by omega)]at h
  exact hg v x h
theorem own_lt{w:World}{base:Nat}{e:TypeId}{size g o n c:Nat}{xs:List Value}(h:w.ownsRow base e size (.slice (some ⟨g,o,none⟩) n c) n xs):g<w.heap.size:=by
 rcases h.2 with⟨h',_⟩|⟨g',cap,cur,hv,_,hh,_⟩
 ·cases h'
 ·injection hv with hv
  injection hv with hv
  injection hv with h1 _
  subst h1;rcases zcf g w.heap.size with hlt|hge
  ·exact hlt
  ·rw[zbo hge]at hh;cases hh
def rootsK(up:List Int)(k:Nat):List Int:=(List.range k).map fun v:Nat=>(root up v:Int)
theorem zjP(up:List Int)(n k:Nat)(hk:k<n):(rootsK up k++List.replicate (n-k) (0:Int)).set k (root up k:Nat)=rootsK up (k+1)++List.replicate (n-(k+1)) 0:=by
 obtain⟨d,rfl⟩:∃d,n=k+1+d:=⟨n-(k+1),by omega⟩
 have e1:k+1+d-k=d+1:=by omega
 have e2:k+1+d-(k+1)=d:=by omega
 have e3:(rootsK up k).length=k:=by simp[rootsK]
 rw[e1,e2,zc8,List.set_append_right _ _ (by omega),e3,zbp,ze]
 simp[rootsK,zaO]
structure zb6(w wr:World)(n l c:Nat)(A:Option Addr)(g gh bx bf:Nat)(up home tr:List Int)(vt vf:Value):Prop where
 ou:wr.ownsRow g 3 1 (.slice (some ⟨g,0,none⟩) n n) n (cellsI up)
 oh:wr.ownsRow gh 3 1 (.slice (some ⟨gh,0,none⟩) n n) n (cellsI home)
 ot:wr.ownsRow (bf+1) 3 1 vt tr.length (cellsI tr)
 ku:Blk wr bx 36 #[.slice (some ⟨g,0,none⟩) n n]
 kf:Blk wr bf 79 #[vf, .slice (some ⟨gh,0,none⟩) n n]
 kn:Blk wr w.heap.size 30 #[.int .i64 n, .slice A l c]
 kr:Blk wr (w.heap.size+1) 79 #[.slice none 0 0, .slice none 0 0]
 bw:Below w.heap.size w wr
 hsz:bf+1≤wr.heap.size
 s1:w.heap.size+1+1≤g
 s2:g<bx
 s3:bx<gh
 s4:gh<bf
theorem zb6.alloc{w wr:World}{n l c:Nat}{A:Option Addr}{g gh bx bf:Nat}{up home tr:List Int}{vt vf:Value}(h:zb6 w wr n l c A g gh bx bf up home tr vt vf)(o:Obj):zb6 w (wr.alloc o) n l c A g gh bx bf up home tr vt vf:=
 ⟨h.ou.alloc o,h.oh.alloc o,h.ot.alloc o,h.ku.alloc o,h.kf.alloc o,h.kn.alloc o,h.kr.alloc o,h.bw.alloc h.bw.size o,by have:=h.hsz;simp;omega,h.s1,h.s2,h.s3,h.s4⟩
theorem zb6.drawn{w wr:World}{n l c:Nat}{A:Option Addr}{g gh bx bf:Nat}{up home tr:List Int}{vt vf:Value}(h:zb6 w wr n l c A g gh bx bf up home tr vt vf)(d:Nat):zb6 w (wr.drewN d) n l c A g gh bx bf up home tr vt vf:=
 ⟨h.ou,h.oh,h.ot,h.ku,h.kf,h.kn,h.kr,Below.drewN h.bw d,h.hsz,h.s1,h.s2,h.s3,h.s4⟩
theorem zb6.grown{w wr w':World}{n l c:Nat}{A:Option Addr}{g gh bx bf:Nat}{up home tr tr':List Int}{vt vt' vf:Value}(h:zb6 w wr n l c A g gh bx bf up home tr vt vf)(hg:wr.grownBy w' vt.ownBlock)
  (ho:w'.ownsRow (bf+1) 3 1 vt' tr'.length (cellsI tr')):zb6 w w' n l c A g gh bx bf up home tr' vt' vf:=by
 have:=h.s1;have:=h.s2;have:=h.s3;have:=h.s4
 have hlt:=h.ot.lt;have ne:∀k,k<bf+1→some k≠vt.ownBlock:=fun k hk he=>by have:=(hlt k he.symm).1;omega
 exact⟨h.ou.kept hg (.inr (by simp[Value.ownBlock];exact ne g (by omega))),h.oh.kept hg (.inr (by simp[Value.ownBlock];exact ne gh (by omega))),ho,h.ku.grown hg (ne bx (by omega)),h.kf.grown hg (ne bf (by omega)),
  h.kn.grown hg (ne _ (by omega)),h.kr.grown hg (ne _ (by omega)),h.bw.grown hg h.bw.size (fun k hk=>by have:=hlt k hk;omega),zy h.hsz hg.size,h.s1,h.s2,h.s3,h.s4⟩
theorem zb6.setF{w wr:World}{n l c:Nat}{A:Option Addr}{g gh bx bf:Nat}{up home tr:List Int}{vt vf:Value}(h:zb6 w wr n l c A g gh bx bf up home tr vt vf)(v:Value):zb6 w (wr.setCell ⟨bf,0,none⟩ v) n l c A g gh bx bf up home tr vt v:=by
 have:=h.s1;have:=h.s2;have:=h.s3;have:=h.s4
 exact⟨zap h.ou h.kf (by decide) 0 v,zap h.oh h.kf (by decide) 0 v,zap h.ot h.kf (by decide) 0 v,h.ku.far (by simp;omega) v,by simpa using h.kf.set 0 v,h.kn.far (by simp;omega) v,h.kr.far (by simp;omega) v,
  h.bw.setCell (by simp;omega) v,by have:=h.hsz;simp;omega,h.s1,h.s2,h.s3,h.s4⟩
theorem zb6.setU{w wr:World}{n l c:Nat}{A:Option Addr}{g gh bx bf:Nat}{up home tr:List Int}{vt vf:Value}(h:zb6 w wr n l c A g gh bx bf up home tr vt vf)(j:Nat)(u:Int):zb6 w (wr.setCell ⟨g,j,none⟩ (.int .i64 u)) n l c A g gh bx bf (up.set j u) home tr vt vf:=by
 have:=h.s1;have:=h.s2;have:=h.s3;have:=h.s4
 have ho:=(h.ou.stored j (.int .i64 u)).1;have hgr:wr.grownBy (wr.setCell ⟨g,j,none⟩ (.int .i64 u)) (some g):=(h.ou.stored j (.int .i64 u)).2;have hlt:=h.ot.lt;rw[zd7]at ho;exact⟨ho,h.oh.kept hgr (.inr (by simp[Value.ownBlock];omega)),h.ot.kept hgr (.inr (fun he=>by have:=(hlt g he).1;omega)),h.ku.far (by simp;omega) _,h.kf.far (by simp;omega) _,h.kn.far (by simp;omega) _,h.kr.far (by simp;omega) _,
  h.bw.setCell (by simp;omega) _,by have:=h.hsz;simp;omega,h.s1,h.s2,h.s3,h.s4⟩
theorem zb6.setH{w wr:World}{n l c:Nat}{A:Option Addr}{g gh bx bf:Nat}{up home tr:List Int}{vt vf:Value}(h:zb6 w wr n l c A g gh bx bf up home tr vt vf)(j:Nat)(u:Int):zb6 w (wr.setCell ⟨gh,j,none⟩ (.int .i64 u)) n l c A g gh bx bf up (home.set j u) tr vt vf:=by
 have:=h.s1;have:=h.s2;have:=h.s3;have:=h.s4
 have ho:=(h.oh.stored j (.int .i64 u)).1;have hgr:wr.grownBy (wr.setCell ⟨gh,j,none⟩ (.int .i64 u)) (some gh):=(h.oh.stored j (.int .i64 u)).2;have hlt:=h.ot.lt;rw[zd7]at ho;exact⟨h.ou.kept hgr (.inr (by simp[Value.ownBlock];omega)),ho,h.ot.kept hgr (.inr (fun he=>by have:=(hlt gh he).1;omega)),h.ku.far (by simp;omega) _,h.kf.far (by simp;omega) _,h.kn.far (by simp;omega) _,h.kr.far (by simp;omega) _,
  h.bw.setCell (by simp;omega) _,by have:=h.hsz;simp;omega,h.s1,h.s2,h.s3,h.s4⟩
theorem zeb{w:World}{base base':Nat}{e:TypeId}{size n:Nat}{v:Value}{xs:List Value}(h:w.ownsRow base e size v n xs)(hb:base'≤base):w.ownsRow base' e size v n xs:=by
 refine⟨h.1,?_⟩;rcases h.2 with hn|⟨g,cap,cur,rfl,h1,h2⟩
 ·exact .inl hn
 ·exact .inr ⟨g,cap,cur,rfl,by omega,h2⟩
def OfOut(w:World)(n:Nat)(ars:List ArcV)(e:Ending)(w':World):Prop:=
 ∃A c gh,e= .returned (.tuple #[.agg #[.slice A (treeF n ars).length c, .slice (some ⟨gh,0,none⟩) n n], .int .i64 0])∧w.heap.size≤gh∧w'.ownsRow (gh+1) 3 1 (.slice A (treeF n ars).length c) (treeF n ars).length (cellsI (treeF n ars))∧
  w'.ownsRow gh 3 1 (.slice (some ⟨gh,0,none⟩) n n) n (cellsI (zcq n ars))∧Below w.heap.size w w'
theorem zgx(n:Nat)(ars:List ArcV)(A:Option Addr)(l c:Nat)(w:World)(hl:ars.length=l)(hx:∀a∈ars,a.fit)(hr:Rd w w.heap.size A (cellsA ars))(hm:l≤maxLen)(hc:checkF n ars=0):
  Calls Tryz.prog 25 #[.agg #[.int .i64 n, .slice A l c]] w (OfOut w n ars):=by
 obtain⟨i0,hi,hz0,hz1,hz2⟩:=info_parts zas;have hn1:1≤n∧n≤32:=by
  unfold checkF at hc;split at hc
  ·cases hc
  ·omega
 have hl96:l≤96:=by
  unfold checkF at hc;rw[if_neg (by omega)]at hc
  split at hc
  ·cases hc
  ·omega
 have harcs:arcsF n ars=0:=by
  unfold checkF at hc;rw[if_neg (by omega)]at hc
  split at hc
  ·cases hc
  ·exact hc
 go_enter Tryz.func25, Tryz.ntmps25
 have hb0:∀o o',Below w.heap.size w ((w.alloc o).alloc o'):=fun o o'=>((zm _ _).alloc lR_ o).alloc (by simp) o'
 go_wp2_with fail;refine(zeu n ars A l c _ hl hx ((hr.below (hb0 _ _) lR_).more (by simp;omega)) hm).mono ?_;rintro e w1 ⟨rfl,hb1⟩
 rw[hc];have bz:((w.alloc (.cells #[.int .i64 n, .slice A l c] 30)).alloc (.cells #[.slice none 0 0, .slice none 0 0] 79)).heap.size=w.heap.size+1+1:=by simp
 have bw1:Below w.heap.size w w1:=(hb0 _ _).trans (hb1.mono (by rw[bz];omega))
 have kn1:Blk w1 w.heap.size 30 #[.int .i64 n, .slice A l c]:=((Blk.new w _ rfl _ _).alloc _).below hb1 (by rw[bz];omega)
 have kr1:Blk w1 (w.heap.size+1) 79 #[.slice none 0 0, .slice none 0 0]:=(Blk.new (w.alloc (.cells #[.int .i64 n, .slice A l c] 30)) _ (by simp) _ _).below hb1 (by rw[bz];omega)
 have s1:=hb1.size;rw[bz]at s1;clear hb1 bz hb0;have n0:=kn1.cell 0;simp at n0
 go_wp2_with (at_make;refine wpList_make_full _ rfl _ _ 36 rfl w1.heap.size 3 i0 (.int .i64 0) 1 Tryz.underlying36 hi hz0 hz1 _ _ _ _ n rfl rfl (by omega) (by omega) (by rw[hz2];omega) (by unfold maxLen;omega) (by simp) ?_)
 intro w2 o2 g2;have hmade:(madeCells #[Value.int .i64 0] n).toList=cellsI (List.replicate n 0):=by
  have:=zdR n
  simpa [Value.cells]using this
 rw[hmade]at o2;have b2:Below w.heap.size w w2:=bw1.grown g2 bw1.size (fun k hk=>by cases hk)
 have kn2:=kn1.grown g2 (by simp)
 have kr2:=kr1.grown g2 (by simp)
 have s2:=g2.size;obtain⟨g,hg⟩:∃g,w1.heap.size=g:=⟨_,rfl⟩;rw[hg]at o2 s1 s2⊢;clear g2 hmade kn1 kr1 bw1 n0 hg;obtain⟨bx,hbx⟩:∃bx,w2.heap.size=bx:=⟨_,rfl⟩;have hgl:=own_lt o2;rw[hbx]at hgl s2;have kn3:=kn2.alloc (.cells #[.slice (some ⟨g,0,none⟩) n n] 36);have kr3:=kr2.alloc (.cells #[.slice (some ⟨g,0,none⟩) n n] 36);have ku3:=Blk.new w2 bx hbx.symm 36 #[.slice (some ⟨g,0,none⟩) n n];have o3:=o2.alloc (.cells #[.slice (some ⟨g,0,none⟩) n n] 36);have b3:=b2.alloc b2.size (.cells #[.slice (some ⟨g,0,none⟩) n n] 36)
 go_wp2
 clear kn2 kr2 o2 b2
 go_loopw [25] (fun i wr=>∃k:Nat,k≤n∧i= .int .i64 k∧wr.ownsRow g 3 1 (.slice (some ⟨g,0,none⟩) n n) n (cellsI (selfs k++List.replicate (n-k) 0))∧Blk wr bx 36 #[.slice (some ⟨g,0,none⟩) n n]∧
  Blk wr w.heap.size 30 #[.int .i64 n, .slice A l c]∧Blk wr (w.heap.size+1) 79 #[.slice none 0 0, .slice none 0 0]∧Below w.heap.size w wr) (fun i _=>n-(intOf i).toNat)
 case atStart=>exact⟨0,by omega,rfl,o3,ku3,kn3,kr3,b3⟩
 case round=>
  clear o3 ku3 kn3 kr3 b3 hbx;obtain⟨k,hk,rfl,o3,ku3,kn3,kr3,b3⟩:=hrel;have u0:=ku3.cell 0;simp at u0;by_cases hlt:k<n
  ·have hl3:(selfs k++List.replicate (n-k) (0:Int)).length=n:=by simp[zcI];omega
   obtain⟨o,hoo⟩:∃o,(selfs k++List.replicate (n-k) (0:Int))[k]?=some o:=⟨_,zk (by omega)⟩
   have hco:=o3.cellAt k (by omega)
   rw[show(cellsI (selfs k++List.replicate (n-k) (0:Int)))[k]?=some (.int .i64 o) by simp only[cellsI,zp,hoo];rfl]at hco
   have fro:=o3.frozenAt k;have o4:=(o3.stored k (.int .i64 k)).1;rw[zd7,zkK n k hlt]at o4;have m1:=ku3.far (p:=⟨g,k,none⟩) (by simp;omega) (.int .i64 k)
   have m2:=kn3.far (p:=⟨g,k,none⟩) (by simp;omega) (.int .i64 k)
   have m3:=kr3.far (p:=⟨g,k,none⟩) (by simp;omega) (.int .i64 k)
   have m4:=b3.setCell (p:=⟨g,k,none⟩) (by simp;omega) (.int .i64 k)
   clear o3 ku3 kn3 kr3 b3 hoo
   go_wp2
   go_roundw
   case rel=>exact⟨k+1,by omega,by go_num,o4,m1,m2,m3,m4⟩
   case measure=>simp[intOf];omega
  ·obtain rfl:n=k:=by omega
   have o4:wr.ownsRow g 3 1 (.slice (some ⟨g,0,none⟩) n n) n (cellsI (selfs n)):=by simpa using o3
   clear o3;have n0:=kn3.cell 0;simp at n0
   go_wp2_with (at_make;refine wpList_make_full _ rfl _ _ 36 rfl wr.heap.size 3 i0 (.int .i64 0) 1 Tryz.underlying36 hi hz0 hz1 _ _ _ _ n rfl rfl (by omega) (by omega) (by rw[hz2];omega) (by unfold maxLen;omega) (by simp) ?_)
   intro w5 o5 g5;have hmade:(madeCells #[Value.int .i64 0] n).toList=cellsI (List.replicate n 0):=by
    have:=zdR n
    simpa [Value.cells]using this
   rw[hmade]at o5;have b5:=b3.grown g5 b3.size (fun k hk=>by cases hk)
   have kn5:=kn3.grown g5 (by simp)
   have kr5:=kr3.grown g5 (by simp)
   have ku5:=ku3.grown g5 (by simp)
   have ou5:=o4.kept g5 (by simp[Value.ownBlock])
   have s5:=g5.size;have hbxl:=ku3.lt;obtain⟨gh,hgh⟩:∃gh,wr.heap.size=gh:=⟨_,rfl⟩;rw[hgh]at o5 s5 hbxl⊢;clear g5 hmade kn3 kr3 ku3 b3 o4 n0 u0 hgh;have hghl:=own_lt o5;obtain⟨bf,hbf⟩:∃bf,w5.heap.size=bf:=⟨_,rfl⟩;have kf6:=Blk.new w5 bf hbf.symm 79 #[.slice none 0 0, .slice (some ⟨gh,0,none⟩) n n];have kn6:=kn5.alloc (.cells #[.slice none 0 0, .slice (some ⟨gh,0,none⟩) n n] 79);have kr6:=kr5.alloc (.cells #[.slice none 0 0, .slice (some ⟨gh,0,none⟩) n n] 79);have ku6:=ku5.alloc (.cells #[.slice none 0 0, .slice (some ⟨gh,0,none⟩) n n] 79);have ou6:=ou5.alloc (.cells #[.slice none 0 0, .slice (some ⟨gh,0,none⟩) n n] 79);have oh6:=o5.alloc (.cells #[.slice none 0 0, .slice (some ⟨gh,0,none⟩) n n] 79);have b6:=b5.alloc b5.size (.cells #[.slice none 0 0, .slice (some ⟨gh,0,none⟩) n n] 79);have hsz6:(w5.alloc (.cells #[.slice none 0 0, .slice (some ⟨gh,0,none⟩) n n] 79)).heap.size=bf+1:=by simp[hbf]
   obtain⟨w6,hw6⟩:∃w6,w5.alloc (.cells #[.slice none 0 0, .slice (some ⟨gh,0,none⟩) n n] 79)=w6:=⟨_,rfl⟩;rw[hw6]at kf6 kn6 kr6 ku6 ou6 oh6 b6 hsz6;rw[hbf]at hghl s5;have n1:=kn6.cell 1;simp at n1;have S6:zb6 w w6 n l c A g gh bx bf (selfs n) (List.replicate n 0) [] (.slice none 0 0) (.slice none 0 0):=⟨ou6,oh6,zr _ _ _ _,ku6,kf6,kn6,kr6,b6,by omega,by omega,hgl,hbxl,hghl⟩
   clear kn5 kr5 ku5 ou5 o5 b5 ou6 oh6 ku6 kf6 kn6 kr6 b6 hsz6
   go_wp2
   clear hw6 hbf n1 s1 s2 s5 hgl hbxl hghl hlt hk w5 w2 w1
   go_loopw [41] (fun i wr=>∃(k:Nat) (up tr:List Int) (vt:Value),k≤l∧i= .int .i64 k∧up.length=n∧zgd up∧tr.length≤k∧zb6 w wr n l c A g gh bx bf up (List.replicate n 0) tr vt vt∧Hid (forestGo 0 (selfs n) [] ars=forestGo k up tr (ars.drop k))) (fun i _=>l-(intOf i).toNat)
   case atStart=>exact⟨0,selfs n,[], .slice none 0 0,zJ _,rfl,zcI n,zg5 n,zF _,S6,rfl⟩
   case round=>
    clear S6 w6;obtain⟨k,up,tr,vt,hk,rfl,hul,hgood,htl,S,He⟩:=hrel;by_cases hkl:k<l
    ·obtain⟨b,off,a,rfl,hbl,hfa,c0,c1,c2,c3,c4,hd,hat⟩:=(hr.below S.bw lR_).arc (k:=k) hx (by omega)
     obtain⟨q1,q2,q3,q4⟩:=zkl n ars harcs a (zv hat.out);obtain⟨fx,hfx⟩:∃fx:Nat,a.f=fx:=⟨a.f.toNat,by omega⟩
     obtain⟨tx,htx⟩:∃tx:Nat,a.t=tx:=⟨a.t.toNat,by omega⟩
     have Hst:Hid (forestGo 0 (selfs n) [] ars=if root up fx=root up tx then forestGo (k+1) up tr (ars.drop (k+1))else forestGo (k+1) (up.set (max (root up fx) (root up tx)) (min (root up fx) (root up tx):Nat)) (tr++[(k:Int)]) (ars.drop (k+1))):=by
      unfold Hid;rw[He.out,hd.out,forestGo,hfx,htx];rfl
     have r1:=zfA up fx;have r2:=zfA up tx;rw[hfx]at c0 q1 q2;rw[htx]at c1 q3 q4;clear hd hat He hfx htx;obtain⟨W1,hW1⟩:∃W1,wr.alloc (.cells #[.int .i64 fx, .int .i64 tx, .int .i64 a.g, .int .i64 a.k, .int .i64 a.s] 76)=W1:=⟨_,rfl⟩;have ka1:Blk W1 wr.heap.size 76 #[.int .i64 fx, .int .i64 tx, .int .i64 a.g, .int .i64 a.k, .int .i64 a.s]:=hW1▸Blk.new wr _ rfl _ _;have S1:zb6 w W1 n l c (some ⟨b,off,none⟩) g gh bx bf up (List.replicate n 0) tr vt vt:=hW1▸S.alloc _;have d0:=ka1.cell 0;have d1:=ka1.cell 1;have u0:=S1.ku.cell 0;simp at d0 d1 u0;have ru:=rd_of_own S1.ou;clear S
     go_wp2
     go_quiet ((first|(go_at_call_of 49 (Value.int .i64 (fx:Int));exact zbU (zgO up fx _ n n _ bx _ u0 hul ru hgood (by omega) (by omega)))|(go_at_call_of 49 (Value.int .i64 (tx:Int));exact zbU (zgO up tx _ n n _ bx _ u0 hul ru hgood (by omega) (by omega)))))
     clear c0 c1 c2 c3 c4 d0 d1 u0 ru ka1 hW1;have S2:=S1.drawn nq;generalize W1.drewN nq=W2 at S2⊢;clear S1 W1;have hf2:=S2.kf.cell 0;have hff:=S2.kf.frozen 0;simp at hf2;by_cases hrr:root up fx=root up tx
     ·have Hst2:Hid (forestGo 0 (selfs n) [] ars=forestGo (k+1) up tr (ars.drop (k+1))):=by unfold Hid;rw[Hst.out,if_pos hrr]
      rw[hrr];clear Hst hrr
      go_wp2
      go_roundw
      case rel=>exact⟨k+1,up,tr,vt,by omega,by go_num,hul,hgood,by omega,S2,Hst2⟩
      case measure=>simp[intOf];omega
     ·have Hst2:Hid (forestGo 0 (selfs n) [] ars=forestGo (k+1) (up.set (max (root up fx) (root up tx)) (min (root up fx) (root up tx):Nat)) (tr++[(k:Int)]) (ars.drop (k+1))):=by unfold Hid;rw[Hst.out,if_neg hrr]
      clear Hst;generalize root up fx=rx at*;generalize root up tx=ry at*;have hne:((rx:Int) !=(ry:Int))=true:=by simp;omega
      go_wp2_with (at_builtin;refine zR _ rfl _ _ 36 rfl (bf+1) 3 i0 (.int .i64 0) 1 8 Tryz.underlying36 hi hz0 hz1 hz2 rfl (by decide) vt tr.length (cellsI tr) rfl (S2.ot.alloc _) (W2.heap.size+1) (some ⟨W2.heap.size,0,none⟩) 1 1 (cellsI [(k:Int)]) rfl rfl (zal W2 W2.heap.size rfl 3 (cellsI [(k:Int)])) (zaA [(k:Int)]) (by unfold maxLen;omega) (by omega) (by have:=S2.hsz;simp;omega) ?_)
      intro vt' W3 o3 g3 _;obtain⟨A3,c3,rfl,hc3⟩:=zH o3;have S3:zb6 w W3 n l c (some ⟨b,off,none⟩) g gh bx bf up (List.replicate n 0) (tr++[(k:Int)]) (.slice A3 (tr.length+1) c3) vt:=(S2.alloc _).grown g3 (by simpa [cellsI]using o3)
      clear S2 o3 g3 hf2 hff;have hf3:=S3.kf.cell 0;have hff3:=S3.kf.frozen 0;simp at hf3;have S4:=S3.setF (.slice A3 (tr.length+1) c3);have hu4:=S4.ku.cell 0;simp at hu4;rcases Nat.lt_or_gt_of_ne hrr with hlt|hgt
      ·have S5:=S4.setU ry (rx:Int);have hst4:=S4.ou.cellAt ry (by omega)
       have hfr4:=S4.ou.frozenAt ry;obtain⟨o,hoo⟩:∃o,up[ry]?=some o:=⟨_,zk (by omega)⟩
       rw[show(cellsI up)[ry]?=some (.int .i64 o) by simp only[cellsI,zp,hoo];rfl]at hst4
       have hg5:=zgP up ry rx hgood (by omega)
       have Hst3:Hid (forestGo 0 (selfs n) [] ars=forestGo (k+1) (up.set ry (rx:Nat)) (tr++[(k:Int)]) (ars.drop (k+1))):=by
        unfold Hid;rw[Hst2.out,Nat.max_eq_right (by omega),zbz (by omega)]
       have hmx:max (rx:Int) (ry:Int)=ry:=by omega
       have hmn:min (rx:Int) (ry:Int)=rx:=by omega
       clear Hst2 hoo hrr S3 S4
       go_wp2
       go_roundw
       case rel=>exact⟨k+1,_,_,_,by omega,by go_num,by simp[hul],hg5,by simp;omega,S5,Hst3⟩
       case measure=>simp[intOf];omega
      ·have S5:=S4.setU rx (ry:Int);have hst4:=S4.ou.cellAt rx (by omega)
       have hfr4:=S4.ou.frozenAt rx;obtain⟨o,hoo⟩:∃o,up[rx]?=some o:=⟨_,zk (by omega)⟩
       rw[show(cellsI up)[rx]?=some (.int .i64 o) by simp only[cellsI,zp,hoo];rfl]at hst4
       have hg5:=zgP up rx ry hgood (by omega)
       have Hst3:Hid (forestGo 0 (selfs n) [] ars=forestGo (k+1) (up.set rx (ry:Nat)) (tr++[(k:Int)]) (ars.drop (k+1))):=by
        unfold Hid;rw[Hst2.out,Nat.max_eq_left (by omega),zdW (by omega)]
       have hmx:max (rx:Int) (ry:Int)=rx:=by omega
       have hmn:min (rx:Int) (ry:Int)=ry:=by omega
       clear Hst2 hoo hrr S3 S4
       go_wp2
       go_roundw
       case rel=>exact⟨k+1,_,_,_,by omega,by go_num,by simp[hul],hg5,by simp;omega,S5,Hst3⟩
       case measure=>simp[intOf];omega
    ·obtain rfl:l=k:=by omega
     have Hup:Hid (upF n ars=up∧treeF n ars=tr):=by
      have hd:ars.drop l=[]:=zS (by omega)
      unfold Hid upF treeF;rw[He.out,hd];exact⟨rfl,rfl⟩
     clear He;have f1:=S.kf.cell 1;simp at f1
     go_wp2
     go_loopw [75] (fun i wx=>∃k:Nat,k≤n∧i= .int .i64 k∧zb6 w wx n l c A g gh bx bf up (rootsK up k++List.replicate (n-k) 0) tr vt vt) (fun i _=>n-(intOf i).toNat)
     case atStart=>exact⟨0,by omega,rfl,by simpa [rootsK]using S⟩
     case round=>
      clear S f1;obtain⟨k,hk3,rfl,S⟩:=hrel;by_cases hlt:k<n
      ·have hl3:(rootsK up k++List.replicate (n-k) (0:Int)).length=n:=by simp[rootsK];omega
       obtain⟨o,hoo⟩:∃o,(rootsK up k++List.replicate (n-k) (0:Int))[k]?=some o:=⟨_,zk (by omega)⟩
       have hco:=S.oh.cellAt k (by omega)
       rw[show(cellsI (rootsK up k++List.replicate (n-k) (0:Int)))[k]?=some (.int .i64 o) by simp only[cellsI,zp,hoo];rfl]at hco
       have fro:=S.oh.frozenAt k;have S5:=(S.drawn 1).setH k (root up k:Nat);rw[zjP up n k hlt]at S5;have f1:=S.kf.cell 1;have u0:=S.ku.cell 0;simp at f1 u0;have ru:=rd_of_own S.ou;clear hoo S
       go_wp2
       refine wp_region_still_tail 7 (by kernel_rfl) (by kernel_rfl) ?_
       simp only[List.take_succ_cons,List.take_zero,List.drop_succ_cons,List.drop_zero];change wpStill _ _ (wr.drewN 1) _ _ _;have hw0:∀a,(wr.drewN 1).cell? a=wr.cell? a:=fun _=>rfl
       have hw1:∀a,(wr.drewN 1).frozen? a=wr.frozen? a:=fun _=>rfl
       repeat still_step
       still_call ((zgO up k _ n n _ bx (wr.drewN 1) u0 hul ru hgood (by omega) (by omega)).mono fun _ _ ⟨h,h'⟩=>⟨h,h'.symm⟩)
       repeat still_step
       refine wpStill_nil ?_
       go_wp2
       go_roundw
       case rel=>exact⟨k+1,by omega,by go_num,S5⟩
       case measure=>simp[intOf];omega
      ·obtain rfl:k=n:=by omega
       obtain⟨A3,c3,rfl,hc3⟩:=zH S.ot;have f1:=S.kf.cell 1;have f0:=S.kf.cell 0;have r0:=S.kr.cell 0;have r1:=S.kr.cell 1;simp at f0 f1 r0 r1;have z0:=S.kr.frozen 0;have z1:=S.kr.frozen 1;have S7:=S.kr.set 0 (.slice A3 tr.length c3);have S8:=S7.set 1 (.slice (some ⟨gh,0,none⟩) k k);have t0:=S8.cell 0;have t1:=S8.cell 1;have hs2:=S.s2;have hs3:=S.s3;have hs1:=S.s1;have hs4:=S.s4;have ot:=zap (zap S.ot S.kr (by decide) 0 (.slice A3 tr.length c3)) S7 (by decide) 1 (.slice (some ⟨gh,0,none⟩) k k)
       have oh:=zap (zap S.oh S.kr (by decide) 0 (.slice A3 tr.length c3)) S7 (by decide) 1 (.slice (some ⟨gh,0,none⟩) k k)
       have bw:=(S.bw.setCell (p:=⟨w.heap.size+1,0,none⟩) (by simp) (.slice A3 tr.length c3)).setCell (p:=⟨w.heap.size+1,1,none⟩) (by simp) (.slice (some ⟨gh,0,none⟩) k k)
       have ot':=zeb (base':=gh+1) ot (by omega)
       simp at t0 t1
       have oh':World.ownsRow ((wr.setCell ⟨w.heap.size+1,0,none⟩ (.slice A3 tr.length c3)).setCell ⟨w.heap.size+1,1,none⟩ (.slice (some ⟨gh,0,none⟩) k k)) gh 3 1 (.slice (some ⟨gh,0,none⟩) k k) k (cellsI (rootsK up k)):=by simpa using oh
       clear S7 S8 S ot oh
       go_wp2
       refine bodyPost_ret (v:= .tuple #[.agg #[.slice A3 tr.length c3, .slice (some ⟨gh,0,none⟩) k k], .int .i64 0]) (by simp[results, Tryz.results25,go_sem,t0,t1]) rfl ?_
       have e1:=Hup.out.1;have e2:=Hup.out.2;have e3:zcq k ars=rootsK up k:=by unfold zcq;rw[e1];rfl
       unfold OfOut;rw[e2,e3];exact⟨A3,c3,gh,rfl,by omega,ot',oh',bw⟩
theorem zl2(n:Int)(ars:List ArcV)(A:Option Addr)(l c:Nat)(w:World)(hl:ars.length=l)(hx:∀a∈ars,a.fit)(hr:Rd w w.heap.size A (cellsA ars))(hm:l≤maxLen)(hc:checkF n ars≠0):
  Calls Tryz.prog 25 #[.agg #[.int .i64 n, .slice A l c]] w fun e w'=>e= .returned (.tuple #[.agg #[.slice none 0 0, .slice none 0 0], .int .i64 (checkF n ars)])∧Below w.heap.size w w':=by
 have hb0:∀o o',Below w.heap.size w ((w.alloc o).alloc o'):=fun o o'=>((zm _ _).alloc lR_ o).alloc (by simp) o'
 obtain⟨q,hq⟩:∃q,checkF n ars=q:=⟨_,rfl⟩;rw[hq]at hc;have hne:(q !=0)=true:=by simpa using hc
 have Hq:=Lh hq;clear hq;rw[Hq.out]
 go_enter Tryz.func25, Tryz.ntmps25
 go_wp2_with fail;refine(zeu n ars A l c _ hl hx ((hr.below (hb0 _ _) lR_).more (by simp;omega)) hm).mono ?_;rintro e w1 ⟨rfl,hb1⟩
 rw[Hq.out];have bz:((w.alloc (.cells #[.int .i64 n, .slice A l c] 30)).alloc (.cells #[.slice none 0 0, .slice none 0 0] 79)).heap.size=w.heap.size+1+1:=by simp
 have bw1:Below w.heap.size w w1:=(hb0 _ _).trans (hb1.mono (by rw[bz];omega))
 have kr1:Blk w1 (w.heap.size+1) 79 #[.slice none 0 0, .slice none 0 0]:=(Blk.new (w.alloc (.cells #[.int .i64 n, .slice A l c] 30)) _ (by simp) _ _).below hb1 (by rw[bz];omega)
 have bw2:=(bw1.setCell (p:=⟨w.heap.size+1,0,none⟩) (by simp) (.slice none 0 0)).setCell (p:=⟨w.heap.size+1,1,none⟩) (by simp) (.slice none 0 0)
 have r0:=kr1.cell 0;have r1:=kr1.cell 1;have z0:=kr1.frozen 0;have z1:=kr1.frozen 1;have t0:=((kr1.set 0 (.slice none 0 0)).set 1 (.slice none 0 0)).cell 0;have t1:=((kr1.set 0 (.slice none 0 0)).set 1 (.slice none 0 0)).cell 1;simp at r0 r1 t0 t1;clear hb1 bz hb0 kr1
 go_wp2
 exact bodyPost_ret (v:= .tuple #[.agg #[.slice none 0 0, .slice none 0 0], .int .i64 q]) (by simp[results, Tryz.results25,go_sem,t0,t1]) rfl ⟨rfl,bw2⟩
end Go.Proofs.YtpmlljbebdidgaaGreatDoor
namespace Go.Proofs.YtpmlljbebdidgaaGreatDoor
structure Edg where
 i:Nat
 f:Nat
 t:Nat
abbrev Stp:=Nat×Bool
def stepOk(T:List Edg)(u v:Nat)(s:Stp):Prop:=∃e∈T,e.i=s.1∧if s.2=true then v=e.f∧u=e.t else u=e.f∧v=e.t
def Walk(T:List Edg):Nat→List Stp→Nat→Prop
 |u,[],v=>u=v
 |u,s::p,v=>∃m,stepOk T u m s∧Walk T m p v
def Red:List Stp→Prop
 |[]=>True
 |[_]=>True
 |s::s'::p=>s.1≠s'.1∧Red (s'::p)
def Conn(T:List Edg)(u v:Nat):Prop:=∃p,Walk T u p v
def Forest:List Edg→Prop
 |[]=>True
 |e::T=>Forest T∧(∀d∈T,d.i≠e.i)∧¬Conn T e.f e.t
theorem stepOk.more{T:List Edg}{e:Edg}{u v:Nat}{s:Stp}(h:stepOk T u v s):stepOk (e::T) u v s:=by
 obtain⟨d,hd,h1⟩:=h;exact⟨d,za2 _ hd,h1⟩
theorem stepOk.turn{T:List Edg}{u v:Nat}{s:Stp}(h:stepOk T u v s):stepOk T v u (s.1,!s.2):=by
 obtain⟨d,hd,h1,h2⟩:=h;refine⟨d,hd,h1,?_⟩;obtain⟨i,b⟩:=s;cases b
 ·simp at h2⊢;exact⟨h2.1,h2.2⟩
 ·simp at h2⊢;exact⟨h2.1,h2.2⟩
theorem Walk.app{T:List Edg}:∀{p q:List Stp} {u v x:Nat},Walk T u p v→Walk T v q x→Walk T u (p++q) x
 |[],q,u,v,x,h,h'=>by rw[show u=v from h];exact h'
 |s::p,q,u,v,x,⟨m,h1,h2⟩,h'=>⟨m,h1,Walk.app h2 h'⟩
theorem Walk.split{T:List Edg}:∀{p q:List Stp} {u x:Nat},Walk T u (p++q) x→∃v,Walk T u p v∧Walk T v q x
 |[],q,u,x,h=>⟨u,rfl,h⟩
 |s::p,q,u,x,⟨m,h1,h2⟩=>by
  obtain⟨v,a,b⟩:=Walk.split h2;exact⟨v,⟨m,h1,a⟩,b⟩
def zg8(p:List Stp):List Stp:=(p.map fun s=>(s.1,!s.2)).reverse
theorem zjQ(s:Stp)(p:List Stp):zg8 (s::p)=zg8 p++[(s.1,!s.2)]:=by simp[zg8]
theorem Walk.turn{T:List Edg}:∀{p:List Stp} {u v:Nat},Walk T u p v→Walk T v (zg8 p) u
 |[],u,v,h=>(show u=v from h).symm
 |s::p,u,v,⟨m,h1,h2⟩=>by
  rw[zjQ];exact(Walk.turn h2).app ⟨u,h1.turn,rfl⟩
theorem Walk.more{T:List Edg}{e:Edg}:∀{p:List Stp} {u v:Nat},Walk T u p v→Walk (e::T) u p v
 |[],_,_,h=>h
 |_::_,_,_,⟨m,h1,h2⟩=>⟨m,h1.more,Walk.more h2⟩
theorem Conn.refl(T:List Edg)(u:Nat):Conn T u u:=⟨[],rfl⟩
theorem Conn.symm{T:List Edg}{u v:Nat}(h:Conn T u v):Conn T v u:=by obtain⟨p,hp⟩:=h;exact⟨_,hp.turn⟩
theorem Conn.trans{T:List Edg}{u v x:Nat}(h:Conn T u v)(h':Conn T v x):Conn T u x:=by
 obtain⟨p,hp⟩:=h;obtain⟨q,hq⟩:=h';exact⟨_,hp.app hq⟩
theorem Conn.more{T:List Edg}{e:Edg}{u v:Nat}(h:Conn T u v):Conn (e::T) u v:=by obtain⟨p,hp⟩:=h;exact⟨p,hp.more⟩
theorem Walk.less{T:List Edg}{e:Edg}:∀{p:List Stp} {u v:Nat},Walk (e::T) u p v→(∀s∈p,s.1≠e.i)→Walk T u p v
 |[],_,_,h,_=>h
 |s::p,_,_,⟨m,⟨d,hd,h1,h2⟩,h3⟩,hn=>by
  refine⟨m,⟨d,?_,h1,h2⟩,Walk.less h3 fun s' hs'=>hn s' (za2 _ hs')⟩
  rcases zV.1 hd with rfl|hd
  ·exact absurd h1.symm (hn s za0)
  ·exact hd
theorem first_of{i:Nat}:∀{p:List Stp},(∃s∈p,s.1=i)→∃p1 s p2,p=p1++s::p2∧s.1=i∧∀s'∈p1,s'.1≠i
 |[],h=>by obtain⟨s,hs,_⟩:=h;cases hs
 |s::p,h=>by
  by_cases hs:s.1=i
  ·exact⟨[],s,p,rfl,hs,fun _ h=>by cases h⟩
  ·obtain⟨s',hs',he⟩:=h;have:∃s∈p,s.1=i:=by
    rcases zV.1 hs' with rfl|hs'
    ·exact absurd he hs
    ·exact⟨s',hs',he⟩
   obtain⟨p1,s2,p2,hp,h1,h2⟩:=first_of this;refine⟨s::p1,s2,p2,by rw[hp];rfl,h1,fun s' hs'=>?_⟩
   rcases zV.1 hs' with rfl|hs'
   ·exact hs
   ·exact h2 s' hs'
theorem Red.tail{s:Stp}{p:List Stp}(h:Red (s::p)):Red p:=by
 cases p with
 |nil=>trivial
 |cons s' p=>exact h.2
theorem Red.right{q:List Stp}:∀{p:List Stp},Red (p++q)→Red q
 |[],h=>h
 |_::p,h=>Red.right (p:=p) (Red.tail h)
theorem Red.left{q:List Stp}:∀{p:List Stp},Red (p++q)→Red p
 |[],_=>trivial
 |[_],_=>trivial
 |_::s'::p,h=>⟨h.1,Red.left (p:=s'::p) h.2⟩
theorem zex{T:List Edg}{e:Edg}(hn:∀d∈T,d.i≠e.i){u v:Nat}{s:Stp}(h:stepOk (e::T) u v s)(hs:s.1=e.i):if s.2=true then v=e.f∧u=e.t else u=e.f∧v=e.t:=by
 obtain⟨d,hd,h1,h2⟩:=h;rcases zV.1 hd with rfl|hd
 ·exact h2
 ·exact absurd (h1.trans hs) (hn d hd)
theorem once{T:List Edg}{e:Edg}(hF:Forest (e::T))(hz:∀u p,Walk T u p u→Red p→p=[]){u v:Nat}{p1 p2:List Stp}{s:Stp}(hw:Walk (e::T) u (p1++s::p2) v)(hr:Red (p1++s::p2))(hs:s.1=e.i):∀s'∈p2,s'.1≠e.i:=by
 obtain⟨_,hn,hc⟩:=hF;intro s' hs' he;obtain⟨q1,s2,q2,rfl,h2,h3⟩:=first_of ⟨s',hs',he⟩;obtain⟨x,_,y,hx,hw2⟩:=hw.split;obtain⟨z,hq,y2,hz2,_⟩:=hw2.split;have hq':=hq.less h3;have e1:=zex hn hx hs;have e2:=zex hn hz2 h2;have hr1:Red (s::(q1++s2::q2)):=hr.right;have hr2:Red q1:=Red.left (Red.tail hr1);by_cases hyz:y=z
 ·subst hyz
  have:=hz y q1 hq' hr2
  subst this;exact hr1.1 (hs.trans h2.symm)
 ·have hcon:Conn T y z:=⟨q1,hq'⟩
  split at e1<;>split at e2
  ·exact hyz (by rw[e1.1];exact absurd (show Conn T e.f e.t by rw[←e1.1,←e2.2];exact hcon) hc)
  ·exact hyz (by rw[e1.1,e2.1])
  ·exact hyz (by rw[e1.2,e2.2])
  ·exact hc (by rw[←e1.2,←e2.1];exact hcon.symm)
theorem uniq:∀{T:List Edg},Forest T→∀{u v:Nat} {p q:List Stp},Walk T u p v→Walk T u q v→Red p→Red q→p=q
 |[],_,u,v,p,q,hp,hq,_,_=>by
  have no:∀{p:List Stp} {u v:Nat},Walk [] u p v→p=[]:=by
   intro p u v h;cases p with
   |nil=>rfl
   |cons s p=>obtain⟨m,⟨d,hd,_⟩,_⟩:=h;cases hd
  rw[no hp,no hq]
 |e::T,hF,u,v,p,q,hp,hq,hpr,hqr=>by
  have hF':=hF;obtain⟨hT,hn,hc⟩:=hF';have ih:= @uniq T hT;have hz:∀u p,Walk T u p u→Red p→p=[]:=fun u p h hr=>ih h (show Walk T u [] u from rfl) hr trivial
  have apart:∀{p:List Stp} {u v:Nat},Walk (e::T) u p v→Red p→(∃s∈p,s.1=e.i)→∃p1 s p2 x y,p=p1++s::p2∧s.1=e.i∧Walk T u p1 x∧Walk T y p2 v∧Red p1∧Red p2∧(if s.2=true then y=e.f∧x=e.t else x=e.f∧y=e.t):=by
   intro p u v hw hr hs;obtain⟨p1,s,p2,rfl,h1,h2⟩:=first_of hs;have h3:=once hF hz hw hr h1;obtain⟨x,hx,y,hy,hw2⟩:=hw.split;exact⟨p1,s,p2,x,y,rfl,h1,hx.less h2,hw2.less h3,Red.left hr,Red.tail (Red.right hr),zex hn hy h1⟩
  by_cases h1:∃s∈p,s.1=e.i
  ·by_cases h2:∃s∈q,s.1=e.i
   ·obtain⟨p1,s,p2,x,y,rfl,a1,a2,a3,a4,a5,a6⟩:=apart hp hpr h1;obtain⟨q1,s',q2,x',y',rfl,b1,b2,b3,b4,b5,b6⟩:=apart hq hqr h2;have hxx:Conn T x x':=Conn.trans (Conn.symm ⟨p1,a2⟩) ⟨q1,b2⟩;obtain⟨i,b⟩:=s;obtain⟨i',b'⟩:=s';simp only at a1 b1 a6 b6;have hb:b=b':=by
     cases b<;>cases b'<;>simp at a6 b6
     ·rfl
     ·rw[a6.1,b6.2]at hxx;exact absurd hxx hc
     ·rw[a6.2,b6.1]at hxx;exact absurd hxx.symm hc
     ·rfl
    subst hb;have hx:x=x'∧y=y':=by
     cases b<;>simp at a6 b6
     ·exact⟨by rw[a6.1,b6.1],by rw[a6.2,b6.2]⟩
     ·exact⟨by rw[a6.2,b6.2],by rw[a6.1,b6.1]⟩
    obtain⟨rfl,rfl⟩:=hx;rw[ih a2 b2 a4 b4,ih a3 b3 a5 b5,a1,b1]
   ·obtain⟨p1,s,p2,x,y,rfl,a1,a2,a3,a4,a5,a6⟩:=apart hp hpr h1;have hq':=hq.less (fun s hs he=>h2 ⟨s,hs,he⟩)
    have hxy:Conn T x y:=Conn.trans (Conn.symm ⟨p1,a2⟩) (Conn.trans ⟨q,hq'⟩ (Conn.symm ⟨p2,a3⟩))
    split at a6
    ·rw[a6.1,a6.2]at hxy;exact absurd hxy.symm hc
    ·rw[a6.1,a6.2]at hxy;exact absurd hxy hc
  ·by_cases h2:∃s∈q,s.1=e.i
   ·obtain⟨p1,s,p2,x,y,rfl,a1,a2,a3,a4,a5,a6⟩:=apart hq hqr h2;have hp':=hp.less (fun s hs he=>h1 ⟨s,hs,he⟩)
    have hxy:Conn T x y:=Conn.trans (Conn.symm ⟨p1,a2⟩) (Conn.trans ⟨p,hp'⟩ (Conn.symm ⟨p2,a3⟩))
    split at a6
    ·rw[a6.1,a6.2]at hxy;exact absurd hxy.symm hc
    ·rw[a6.1,a6.2]at hxy;exact absurd hxy hc
   ·exact ih (hp.less fun s hs he=>h1 ⟨s,hs,he⟩) (hq.less fun s hs he=>h2 ⟨s,hs,he⟩) hpr hqr
theorem other_end:∀{T:List Edg},Forest T→∀{u v x:Nat} {s s':Stp},stepOk T u v s→stepOk T v x s'→s.1=s'.1→x=u
 |[],_,u,v,x,s,s',h,_,_=>by obtain⟨d,hd,_⟩:=h;cases hd
 |e::T,hF,u,v,x,s,s',h,h',he=>by
  obtain⟨hT,hn,hc⟩:=hF;by_cases hs:s.1=e.i
  ·have e1:=zex hn h hs;have e2:=zex hn h' (he▸hs);have hft:e.f≠e.t:=fun h=>hc (h▸Conn.refl T _)
   split at e1<;>split at e2
   ·exact absurd (e1.1.symm.trans e2.2) hft
   ·rw[e2.2,e1.2]
   ·rw[e2.1,e1.1]
   ·exact absurd (e2.1.symm.trans e1.2) hft
  ·have less:∀{u v:Nat} {s:Stp},stepOk (e::T) u v s→s.1≠e.i→stepOk T u v s:=by
    intro u v s ⟨d,hd,h1,h2⟩ hne;rcases zV.1 hd with rfl|hd
    ·exact absurd h1.symm hne
    ·exact⟨d,hd,h1,h2⟩
   exact other_end hT (less h hs) (less h' (he▸hs)) he
theorem no_twice{T:List Edg}(hF:Forest T){u v x:Nat}{p q:List Stp}(h1:Walk T u p x)(h2:Walk T x q v)(hr:Red (p++q))(he:u=x):p=[]:=by
 subst he;exact uniq hF h1 (show Walk T u [] u from rfl) (Red.left hr) trivial
end Go.Proofs.YtpmlljbebdidgaaGreatDoor
