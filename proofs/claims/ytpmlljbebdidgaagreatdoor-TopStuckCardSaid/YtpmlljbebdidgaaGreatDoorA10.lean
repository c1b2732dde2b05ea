/- Lemmas and walks for the claim: Sr, Sm, Sn, So, Sp, Ss. -/
import Derived.Test.YtpmlljbebdidgaaGreatDoorA0
import Derived.Test.YtpmlljbebdidgaaGreatDoorA9
import Derived.Test.YtpmlljbebdidgaaGreatDoorA5
set_option maxRecDepth 100000
set_option maxHeartbeats 4000000
namespace Go.Proofs.YtpmlljbebdidgaaGreatDoor
open Go.RowKit
structure BlkV where
 v:Int
 f:Int
 a:Int
def BlkV.cells(b:BlkV):List Value:=[.int .i64 b.v, .int .i64 b.f, .int .i64 b.a]
def cellsB_Sr(bs:List BlkV):List Value:=bs.flatMap BlkV.cells
def blocksF(ars:List ArcV)(_n:Nat)(F Lf:Nat→Int)(k:Nat):List BlkV:=((List.range k).filter fun v:Nat=>decide (0<Lf v)).map fun v:Nat=>⟨v,F v,optI (shortO ars F v)⟩
theorem blocksF_succ(ars:List ArcV)(n:Nat)(F Lf:Nat→Int)(k:Nat):blocksF ars n F Lf (k+1)=blocksF ars n F Lf k++if 0<Lf k then [⟨k,F k,optI (shortO ars F k)⟩]else []:=by
 unfold blocksF;rw[List.range_succ,List.filter_append,List.map_append]
 congr 1
 by_cases h:0<Lf k<;>simp[h]
theorem blocksF_length(ars:List ArcV)(n:Nat)(F Lf:Nat→Int)(k:Nat):(blocksF ars n F Lf k).length≤k:=by
 unfold blocksF
 have:=List.length_filter_le (fun v:Nat=>decide (0<Lf v)) (List.range k)
 simpa using this
theorem cellsB_length(bs:List BlkV):(cellsB_Sr bs).length=bs.length*3:=by
 induction bs with
 |nil=>rfl
 |cons b bs ih=>simp only[cellsB_Sr,List.flatMap_cons,List.length_append,List.length_cons]at*;rw[ih];simp[BlkV.cells];omega
theorem info_blk:(Tryz.prog.info? 136).map (fun i=>(i.zero.map (·.cells.size),i.size,i.bytes))=some (some 3,3,24):=by kernel_rfl
theorem blk_parts:∃i, Tryz.prog.info? 136 =some i∧∃z,i.zero=some z∧i.size=3∧i.bytes=24∧z.cells.size=3:=by
 obtain⟨i,hi,h⟩:=Option.map_eq_some_iff.1 info_blk;simp only[Prod.mk.injEq]at h;obtain⟨h1,h2,h3⟩:=h;obtain⟨z,hz,h4⟩:=Option.map_eq_some_iff.1 h1;exact⟨i,hi,z,hz,h2,h3,h4⟩
theorem RunT.below{w w':World}{B:Nat}{r:RM}{s:SM}{n:Nat}{ars:List ArcV}{F Lf K:Nat→Int}{v:Value}(h:RunT w B r s n ars F Lf K v)(hb:Below w.heap.size w w'):RunT w' B r s n ars F Lf K v:=
 ⟨h.blk.below hb h.blk.lt,h.st.below hb,own_below h.lef hb,own_below h.rnk hb⟩
structure BkP(w0:World)(n:Nat)(F:Nat→Int)(gf cf:Nat)(bs:List BlkV)(out:Value)(w:World):Prop where
 fir:w.ownsRow w0.heap.size 3 1 (.slice (some ⟨gf,0,none⟩) n cf) n (cellsI (rowF F n))
 out:w.ownsRow w0.heap.size 136 3 out bs.length (cellsB_Sr bs)
 bel:Below w0.heap.size w0 w
theorem BkP.below{w0 w w':World}{n:Nat}{F:Nat→Int}{gf cf:Nat}{bs:List BlkV}{out:Value}(h:BkP w0 n F gf cf bs out w)(hb:Below w.heap.size w w'):BkP w0 n F gf cf bs out w':=
 ⟨own_below h.fir hb,own_below h.out hb,h.bel.trans ⟨hb.os,hb.tape,hb.output,hb.size,fun k hk=>hb.block k (by have:=h.bel.size;omega)⟩⟩
theorem BkP.append{w0 w w':World}{n:Nat}{F:Nat→Int}{gf cf:Nat}{bs:List BlkV}{out v':Value}(h:BkP w0 n F gf cf bs out w)(b:BlkV)(hg:w.grownBy w' out.ownBlock)(ho:w'.ownsRow w0.heap.size 136 3 v' (bs.length+1) (cellsB_Sr bs++b.cells)):BkP w0 n F gf cf (bs++[b]) v' w':=by
 refine⟨h.fir.kept hg (.inr fun hc=>?_),?_,h.bel.grown hg h.bel.size fun k hk=>own_ge h.out hk⟩
 ·obtain⟨c1,k1⟩:=own_block h.fir rfl;obtain⟨c2,k2⟩:=own_block h.out (b:=gf) hc.symm;exact absurd (blk_ty k1 k2) (by decide)
 ·have e:cellsB_Sr (bs++[b])=cellsB_Sr bs++b.cells:=by simp[cellsB_Sr]
  rw[e,List.length_append];exact ho
structure BkI(w0:World)(n:Nat)(ars:List ArcV)(F:Nat→Int)(gr gs k gf cf:Nat)(bs:List BlkV)(out:Value)(L:Nat→Bool)(V:Nat→Value)(w:World):Prop where
 p0:L 14=false→BkP w0 n F gf cf bs out w
 p1:L 14=true→BkP w0 n F gf cf (bs++[⟨k,F k,optI (shortO ars F k)⟩]) (V 38) w
 a15:L 15=true→V 3=V 38
 f3:L 15=false→V 3=out
 e11:L 11=true→V 35= .int .i64 (optI (shortO ars F k))
 b:L 13=true→L 14=false→∃gb,V 37= .slice (some ⟨gb,0,none⟩) 1 1∧gb<w.heap.size∧w.cell? ⟨gb,0,none⟩=some (.int .i64 k)∧w.cell? ⟨gb,1,none⟩=some (.int .i64 (F k))∧w.cell? ⟨gb,2,none⟩=some (.int .i64 (optI (shortO ars F k)))
 e0:L 0=true→V 24=out
 e1:L 1=true→V 25= .int .i64 k
 e2:L 2=true→V 26= .slice (some ⟨gf,0,none⟩) n cf
 e3:L 3=true→V 27= .int .i64 k
 e4:L 4=true→V 28= .pointer (some ⟨gf,k,none⟩)
 e5:L 5=true→V 29= .int .i64 (F k)
 e6:L 6=true→V 30= .pointer (some ⟨gr,0,none⟩)
 e7:L 7=true→V 31= .pointer (some ⟨gr,0,none⟩)
 e8:L 8=true→V 32= .pointer (some ⟨gr,0,none⟩)
 e9:L 9=true→V 33= .pointer (some ⟨gs,0,none⟩)
 e10:L 10=true→V 34= .int .i64 k
 e12:L 12=true→V 36= .agg #[.int .i64 k, .int .i64 (F k), .int .i64 (optI (shortO ars F k))]
theorem blocks_any(n:Nat)(ars:List ArcV)(F Lf K:Nat→Int)(B:Nat)(r:RM)(s:SM)(v:Value)(w:World)(hN:NetOk n ars)(hF:small n F)(hR:RunT w B r s n ars F Lf K v):
  Calls Tryz.prog 33 #[.pointer (some ⟨r.gr,0,none⟩)] w fun e w'=>∃out,e= .returned out∧w'.ownsRow w.heap.size 136 3 out (blocksF ars n F Lf n).length (cellsB_Sr (blocksF ars n F Lf n))∧Below w.heap.size w w':=by
 obtain⟨ib,hib,zb,hzb,hb1,hb2,hb3⟩:=blk_parts;have n32:=hN.n32;have c0:=hR.blk.cellL 0 rfl;have c1:=hR.blk.cellL 1 rfl;have HN:=Lh hN;have HF:=Lh hF;have HR:=Lh hR;clear hF hR
 go_enter Tryz.func33, Tryz.ntmps33
 go_wp2_with fail;refine(fired_any n ars F B s w hN HR.out.st).mono ?_
 rintro e w1 ⟨Af,cf,rfl,of,bf⟩;clear hN;obtain⟨gf,rfl⟩:∃g,Af=some ⟨g,0,none⟩:=own_addr of (by have:=HN.out.pos;omega)
 have hR1:=HR.out.below bf;have d0:=hR1.blk.cellL 0 rfl;have d1:=hR1.blk.cellL 1 rfl;have P0:BkP w n F gf cf (blocksF ars n F Lf 0) (.slice none 0 0) w1:=⟨of,World.ownsRow_nil _ _ _ _,bf⟩;clear of bf hR1
 go_wp2_with fail;clear c0 c1 d0 d1
 go_loopw [3,17] (fun o i wr=>∃k:Nat,k≤n∧i= .int .i64 k∧BkP w n F gf cf (blocksF ars n F Lf k) o wr) (fun _ i _=>n-(intOf i).toNat)
 case atStart=>exact⟨0,Nat.zero_le _,rfl,P0⟩
 case round=>
  clear P0;obtain⟨k,hk',rfl,P⟩:=hrel;by_cases hk:k<n
  ·have hR2:=HR.out.below P.bel;have hc:=own_firCell hR2.lef hk;obtain⟨lk,hlk⟩:∃lk,Lf k=lk:=⟨_,rfl⟩;have hs:=blocksF_succ ars n F Lf k;rw[hlk]at hc hs;have h1:(0:Int)≤(k:Int):=by omega
   have h2:(k:Int)<(n:Int):=by omega
   have HP:=Lh P;clear P hR2 hlk;by_cases hl:0<lk
   ·rw[if_pos hl]at hs;obtain⟨bs,hbs⟩:∃bs,blocksF ars n F Lf k=bs:=⟨_,rfl⟩;have hbl:=blocksF_length ars n F Lf k;rw[hbs]at HP hs hbl;have Hbs:=Lh hbs;clear hbs;obtain⟨Ao,co,rfl,-⟩:=own_slice HP.out.out
    go_wp2_with fail;have hI0:∀V:Nat→Value,V 3= .slice Ao bs.length co→BkI w n ars F r.gr s.gs k gf cf bs (.slice Ao bs.length co) (fun _=>false) V wr.drew:=fun V hV3=>
     by
     have h0:=HP.out.below (Drawn.below _ ((Drawn.refl wr).drewN 1));constructor
     all_goals first
      |exact fun _=>h0
      |exact fun _=>hV3
      |(intro h;cases h)
    refine wp_region_put2 [24,25,26,27,28,29,30,31,32,33,34,35,36,37,38,3] (BkI w n ars F r.gr s.gs k gf cf bs (.slice Ao bs.length co)) (by kernel_rfl) (by kernel_rfl) ?_ ?_ ?_
    ·exact hI0 _ rfl
    ·intro i o ho L V w1 hi hL hno h K hK;rcases i with _|_|_|_|_|_|_|_|_|_|_|_|_|_|_|_|i
     ·cases ho
      simp only[putAll,List.foldl_cons,List.foldl_nil,List.setIfInBounds_toArray,List.set_cons_zero,List.set_cons_succ];have e3:V 3=_:=h.f3 (hno 15 (by kernel_rfl))
      clear hL hno
      go_simp;exact hK (updV V 24 _) _ _ (by simp[putAll,updV,e3]) {h with e0:=fun _=>rfl}
     ·cases ho
      simp only[putAll,List.foldl_cons,List.foldl_nil,List.setIfInBounds_toArray,List.set_cons_zero,List.set_cons_succ];clear hL hno
      go_simp;exact hK (updV V 25 _) _ _ (by simp[putAll,updV]) {h with e1:=fun _=>rfl}
     ·cases ho
      simp only[putAll,List.foldl_cons,List.foldl_nil,List.setIfInBounds_toArray,List.set_cons_zero,List.set_cons_succ];clear hL hno
      go_simp;exact hK (updV V 26 _) _ _ (by simp[putAll,updV]) {h with e2:=fun _=>rfl}
     ·cases ho
      simp only[putAll,List.foldl_cons,List.foldl_nil,List.setIfInBounds_toArray,List.set_cons_zero,List.set_cons_succ];clear hL hno
      go_simp;exact hK (updV V 27 _) _ _ (by simp[putAll,updV]) {h with e3:=fun _=>rfl}
     ·cases ho
      simp only[putAll,List.foldl_cons,List.foldl_nil,List.setIfInBounds_toArray,List.set_cons_zero,List.set_cons_succ];have e2:=h.e2 (hL ⟨2, .data⟩ (by simp) rfl)
      have e3:=h.e3 (hL ⟨3, .data⟩ (by simp) rfl)
      clear hL hno
      go_simp;exact hK (updV V 28 _) _ _ (by simp[putAll,updV,e2,e3]) {h with e4:=fun _=>rfl}
     ·cases ho
      simp only[putAll,List.foldl_cons,List.foldl_nil,List.setIfInBounds_toArray,List.set_cons_zero,List.set_cons_succ];have e4:=h.e4 (hL ⟨4, .data⟩ (by simp) rfl)
      have l14:=hno 14 (by kernel_rfl)
      have ct:=own_firCell (h.p0 l14).fir hk;clear hL hno
      go_simp;exact hK (updV V 29 _) _ _ (by simp[putAll,updV,e4]) {h with e5:=fun _=>rfl}
     ·cases ho
      simp only[putAll,List.foldl_cons,List.foldl_nil,List.setIfInBounds_toArray,List.set_cons_zero,List.set_cons_succ];clear hL hno
      go_simp;exact hK (updV V 30 _) _ _ (by simp[putAll,updV]) {h with e6:=fun _=>rfl}
     ·cases ho
      simp only[putAll,List.foldl_cons,List.foldl_nil,List.setIfInBounds_toArray,List.set_cons_zero,List.set_cons_succ];have e6:=h.e6 (hL ⟨6, .data⟩ (by simp) rfl)
      clear hL hno
      go_simp;exact hK (updV V 31 _) _ _ (by simp[putAll,updV,e6]) {h with e7:=fun _=>rfl}
     ·cases ho
      simp only[putAll,List.foldl_cons,List.foldl_nil,List.setIfInBounds_toArray,List.set_cons_zero,List.set_cons_succ];have e7:=h.e7 (hL ⟨7, .data⟩ (by simp) rfl)
      clear hL hno
      go_simp;exact hK (updV V 32 _) _ _ (by simp[putAll,updV,e7]) {h with e8:=fun _=>rfl}
     ·cases ho
      simp only[putAll,List.foldl_cons,List.foldl_nil,List.setIfInBounds_toArray,List.set_cons_zero,List.set_cons_succ];have e8:=h.e8 (hL ⟨8, .data⟩ (by simp) rfl)
      have l14:=hno 14 (by kernel_rfl)
      have ct:=(HR.out.below (h.p0 l14).bel).blk.cellL 0 rfl;clear hL hno
      go_simp;exact hK (updV V 33 _) _ _ (by simp[putAll,updV,e8]) {h with e9:=fun _=>rfl}
     ·cases ho
      simp only[putAll,List.foldl_cons,List.foldl_nil,List.setIfInBounds_toArray,List.set_cons_zero,List.set_cons_succ];clear hL hno
      go_simp;exact hK (updV V 34 _) _ _ (by simp[putAll,updV]) {h with e10:=fun _=>rfl}
     ·cases ho
      have e9:=h.e9 (hL ⟨9, .data⟩ (by simp) rfl)
      have e10:=h.e10 (hL ⟨10, .data⟩ (by simp) rfl)
      have l14:=hno 14 (by kernel_rfl)
      clear hL hno;simp only[putAll,List.foldl_cons,List.foldl_nil,List.setIfInBounds_toArray,List.set_cons_zero,List.set_cons_succ]
      go_simp;refine(short_any k n ars F B s w1 HN.out HF.out (HR.out.below (h.p0 l14).bel).st hk).mono ?_
      rintro e w3 ⟨rfl,hd⟩;refine hK (updV V 35 (.int .i64 (optI (shortO ars F k)))) _ _ (by simp[putAll,updV,e9,e10]) ?_
      exact{h with
       p0:=fun h14=>BkP.below (h.p0 h14) (hd.below _)
       b:=fun h13 _=>by obtain⟨gb,e,hgb,hc0,hc1,hc2⟩:=h.b h13 l14;exact⟨gb,e,by rw[hd.size];exact hgb,(hd.cell _).trans hc0,(hd.cell _).trans hc1,(hd.cell _).trans hc2⟩
       p1:=fun h14=>(by cases (h14.symm.trans l14))
       e11:=fun _=>rfl}
     ·cases ho
      simp only[putAll,List.foldl_cons,List.foldl_nil,List.setIfInBounds_toArray,List.set_cons_zero,List.set_cons_succ];have e1:=h.e1 (hL ⟨1, .data⟩ (by simp) rfl)
      have e5:=h.e5 (hL ⟨5, .data⟩ (by simp) rfl)
      have e11:=h.e11 (hL ⟨11, .data⟩ (by simp) rfl)
      clear hL hno
      go_simp;exact hK (updV V 36 _) _ _ (by simp[putAll,updV,e1,e5,e11]) {h with e12:=fun _=>rfl}
     ·cases ho
      have e12:=h.e12 (hL ⟨12, .data⟩ (by simp) rfl)
      have l14:=hno 14 (by kernel_rfl)
      clear hL hno;simp only[putAll,List.foldl_cons,List.foldl_nil,List.setIfInBounds_toArray,List.set_cons_zero,List.set_cons_succ];have hb:=bA_ w1 (.cells #[.int .i64 k, .int .i64 (F k), .int .i64 (optI (shortO ars F k))] 136);have hnew:=bN_ hb
      go_simp;refine hK (updV V 37 (.slice (some ⟨w1.heap.size,0,none⟩) 1 1)) _ _ (by simp[putAll,updV,e12]) ?_
      exact{h with
       p0:=fun h14=>BkP.below (h.p0 h14) hb
       b:=fun _ _=>⟨_,rfl,by simp,hnew.cell 0,hnew.cell 1,hnew.cell 2⟩
       p1:=fun h14=>(by cases (h14.symm.trans l14))}
     ·cases ho
      have e0:=h.e0 (hL ⟨0, .data⟩ (by simp) rfl)
      obtain⟨gb,e13',hgb,hc0,hc1,hc2⟩:=h.b (hL ⟨13, .data⟩ (by simp) rfl) hi
      have e13:V 37=_:=e13'
      have l15:=hno 15 (by kernel_rfl)
      clear hL hno;have hp:=h.p0 hi;have hlen:=hbl;refine step_append_rd rfl _ _ 42 rfl w.heap.size 136 ib zb 3 24 Tryz.underlying42 hib hzb hb1 hb2 hb3 (by decide) (.slice Ao bs.length co) bs.length _ (by simp[putAll,Act.eval,e0]) hp.out w1.heap.size (some ⟨gb,0,none⟩) 1 1 (BlkV.cells ⟨k,F k,optI (shortO ars F k)⟩) (by simp[putAll,Act.eval,e13]) rfl (.inr ⟨gb,0,rfl,hgb,fun j u hu=>?_⟩) (by simp[BlkV.cells,Value.oneCell']) (by unfold maxLen;omega) (by omega) hp.bel.size ?_
      ·match j,hu with
       |0,hu=>cases hu;exact hc0
       |1,hu=>cases hu;exact hc1
       |2,hu=>cases hu;exact hc2
       |j+3,hu=>simp[BlkV.cells]at hu
      intro v' w2 o2 g2 hv2;have hnext:=BkP.append hp ⟨k,F k,optI (shortO ars F k)⟩ g2 o2;refine hK (updV V 38 v') _ _ (by simp[putAll,Act.put,updV]) ?_
      exact{h with
       p0:=nT_
       b:=fun _ hn=>(by cases hn)
       a15:=fun h15=>(by cases (h15.symm.trans l15))
       p1:=fun _=>hnext}
     ·cases ho
      have l14:=hL ⟨14, .data⟩ (by simp) rfl
      clear hL hno;simp only[putAll,List.foldl_cons,List.foldl_nil,List.setIfInBounds_toArray,List.set_cons_zero,List.set_cons_succ];have hp:=h.p1 l14;obtain⟨Ax,cx,e14,_⟩:=own_slice hp.out
      go_simp;refine hK (updV V 3 (V 38)) _ _ (by simp[putAll,updV,e14]) ?_
      exact{h with a15:=fun _=>rfl,f3:=nT_}
     ·simp at ho
    ·clear hI0;intro L V w2 hL h;have hp:=h.p1 (hL 14 (by simp))
     have e15:=h.a15 (hL 15 (by simp))
     rw[←hs,←e15]at hp;simp only[putAll,List.foldl_cons,List.foldl_nil,List.setIfInBounds_toArray,List.set_cons_zero,List.set_cons_succ];clear h hL HP hs
     go_wp2_with fail;refine⟨⟨k+1,by omega,by go_num,hp⟩,by simp[intOf];omega⟩
   ·rw[if_neg hl,List.append_nil]at hs;have hl2:lk≤0:=by omega
    rw[←hs]at HP
    go_wp2_with fail;refine⟨⟨k+1,by omega,by go_num,HP.out⟩,by simp[intOf];omega⟩
  ·obtain rfl:k=n:=by omega
   go_wp2
   go_ret;exact⟨_,rfl,P.out,P.bel⟩
def rankF(n:Nat)(ps:List Int)(k:Nat)(v:Nat):Int:=match((List.range ps.length).drop k).find? fun i:Nat=>decide ((ps[i]?).getD 0=(v:Int))with
 |some i=>i
 |none=>(ps.length:Int)+n-v
theorem rankF_end(n:Nat)(ps:List Int)(v:Nat):rankF n ps ps.length v=(ps.length:Int)+n-v:=by
 unfold rankF;rw[List.drop_eq_nil_of_le (by simp)];rfl
theorem rankF_step{n:Nat}{ps:List Int}{k x:Nat}(hk:ps[k]?=some (x:Int)):upd (rankF n ps (k+1)) x (k:Int)=rankF n ps k:=by
 have hlt:=(List.getElem?_eq_some_iff.1 hk).1;have hd:(List.range ps.length).drop k=k::(List.range ps.length).drop (k+1):=by
  rw[List.drop_eq_getElem_cons (by simpa using hlt)];simp
 funext v
 unfold rankF;rw[hd];by_cases hv:v=x
 ·subst hv;rw[upd_self,List.find?_cons_of_pos (by rw[hk];simp)]
 ·rw[upd_other hv,List.find?_cons_of_neg (by rw[hk];simp;omega)]
theorem ranks_any(n:Nat)(ps:List Int)(A:Option Addr)(l c:Nat)(w:World)(n32:n≤32)(hl:ps.length=l)(hf:AllFit ps)(hr:Rd w w.heap.size A (cellsI ps))(hm:l*8≤140737488351232)(hin:∀x∈ps,0≤x∧x<n):
  Calls Tryz.prog 31 #[.int .i64 n, .slice A l c] w fun e w'=>∃g,e= .returned (.slice (some ⟨g,0,none⟩) n n)∧w.heap.size≤g∧w'.ownsRow w.heap.size 3 1 (.slice (some ⟨g,0,none⟩) n n) n (cellsI (rowF (rankF n ps 0) n))∧Below w.heap.size w w':=by
 subst hl;have hmk:=run_make_row' (P:= Tryz.prog) 36 3 (.int .i64 0) 8 Tryz.underlying36 info_int rfl .i64 .i64 n (by omega) (by omega)
 rw[made_ints]at hmk
 go_enter Tryz.func31, Tryz.ntmps31
 have b0:=bA_ w (.cells (cellsI (rowF (fun _=>0) n)).toArray 3)
 have o0:=own_new_Sl w _ rfl 3 (cellsI (rowF (fun _=>0) n)) n (by rw[cellsI_length,rowF_length]) (by unfold maxLen;omega)
 have hm2:ps.length≤17592186044000:=by omega
 go_wp2
 go_loopw [12] (fun i wr=>∃k:Nat,k≤n∧i= .int .i64 k∧Below w.heap.size w wr∧wr.ownsRow w.heap.size 3 1 (.slice (some ⟨w.heap.size,0,none⟩) n n) n (cellsI (rowF (fun v=>if v<k then(ps.length:Int)+n-v else 0) n))) (fun i _=>n-(intOf i).toNat)
 case atStart=>exact⟨0,by omega,rfl,b0,by simpa using o0⟩
 case round=>
  clear b0 o0 hmk;obtain⟨k,hk,rfl,hb,ho⟩:=hrel;by_cases hlt:k<n
  ·have st:=(ho.stored k (.int .i64 ((ps.length:Int)+n-k))).1;rw[cellsI_put,rowF_set]at st;have e:upd (fun v:Nat=>if v<k then(ps.length:Int)+n-v else 0) k ((ps.length:Int)+n-k)=fun v:Nat=>if v<k+1 then(ps.length:Int)+n-v else 0:=by
    funext v
    by_cases hv:v=k
    ·subst hv;rw[upd_self,if_pos (by omega)]
    ·rw[upd_other hv];by_cases h:v<k
     ·rw[if_pos h,if_pos (by omega)]
     ·rw[if_neg h,if_neg (by omega)]
   rw[e]at st;have hc:=own_firCell ho hlt;have fro:=ho.frozenAt k;have b2:=hb.setCell (p:=⟨w.heap.size,k,none⟩) lR_ (.int .i64 ((ps.length:Int)+n-k));have h1:(0:Int)≤(k:Int):=by omega
   have h2:(k:Int)<(n:Int):=by omega
   clear e ho hb
   go_wp2
   go_roundw
   case rel=>exact⟨k+1,by omega,by go_num,b2,st⟩
   case measure=>simp[intOf];omega
  ·obtain rfl:k=n:=by omega
   have ho2:wr.ownsRow w.heap.size 3 1 (.slice (some ⟨w.heap.size,0,none⟩) k k) k (cellsI (rowF (rankF k ps ps.length) k)):=by
    have e:rowF (rankF k ps ps.length) k=rowF (fun v:Nat=>if v<k then(ps.length:Int)+k-v else 0) k:=List.map_congr_left fun v hv=>by rw[rankF_end,if_pos (List.mem_range.1 hv)]
    rw[e];exact ho
   clear ho
   go_wp2
   go_loopw [7] (fun i wx=>∃j:Nat,j≤ps.length∧i= .int .i64 ((j:Int)-1)∧Below w.heap.size w wx∧wx.ownsRow w.heap.size 3 1 (.slice (some ⟨w.heap.size,0,none⟩) k k) k (cellsI (rowF (rankF k ps j) k))) (fun i _=>(intOf i+1).toNat)
   case atStart=>exact⟨ps.length,by omega,by go_num,hb,ho2⟩
   case round=>
    clear hb ho2;obtain⟨j,hj,rfl,hb,ho⟩:=hrel
    match j,hj,ho with
    |0,hj,ho=>
     go_wp2
     go_ret;exact⟨w.heap.size,rfl,Nat.le_refl _,ho,hb⟩
    |j+1,hj,ho=>
     rw[show(((j+1:Nat):Int)-1)=(j:Int) by omega]
     obtain⟨b,off,x,rfl,hbl,hxf,hc,hd,hxx⟩:=(hr.below hb lR_).at_ hf (k:=j) (by omega)
     obtain⟨hx0,hxk⟩:=hin x (List.mem_of_getElem? hxx.out);obtain⟨y,rfl⟩:∃y:Nat,x=y:=⟨x.toNat,by omega⟩
     have st:=(ho.stored y (.int .i64 j)).1;rw[cellsI_put,rowF_set,rankF_step hxx.out]at st;have hcy:=own_firCell ho (show y<k by omega)
     have fro:=ho.frozenAt y;have b2:=hb.setCell (p:=⟨w.heap.size,y,none⟩) lR_ (.int .i64 j);have h1:(0:Int)≤(j:Int):=by omega
     have h2:(j:Int)<(ps.length:Int):=by omega
     clear ho hb
     go_wp2
     go_roundw
     case rel=>exact⟨j,by omega,by go_num,b2,st⟩
     case measure=>simp[intOf]
def sumF(rs:List Int):Int:=rs.foldl (·+·) 0
def nodesB(n:Int)(ps:List Int):Bool:=ps.all fun x=>decide (0≤x∧x<n)
def wrongF(n:Int)(ars:List ArcV)(rs ps:List Int):Int:=
 if holdE n ars rs=0 then(if holdB n ars rs=true then(if 2048<sumF rs then 5 else if nodesB n ps=true then 0 else 100)else 130)else holdE n ars rs
theorem sumF_take{rs:List Int}{k:Nat}{x:Int}(h:rs[k]?=some x):sumF (rs.take (k+1))=sumF (rs.take k)+x:=by
 unfold sumF;rw[List.take_add_one,h,List.foldl_append];rfl
theorem sumF_bound{rs:List Int}(h:rs.all repB=true):∀k,0≤sumF (rs.take k)∧sumF (rs.take k)≤4096*(k:Int):=by
 intro k
 induction k with
 |zero=>simp[sumF]
 |succ k ih=>
  by_cases hk:k<rs.length
  ·rw[sumF_take (List.getElem?_eq_getElem hk)];have h1:=List.all_eq_true.1 h _ (List.getElem_mem hk);simp only[repB,decide_eq_true_eq]at h1;omega
  ·rw[List.take_of_length_le (by omega)]
   rw[List.take_of_length_le (by omega)]at ih
   omega
theorem holdB_parts{n:Int}{ars:List ArcV}{rs:List Int}(h:holdB n ars rs=true):checkF n ars=0∧(rs.length:Int)=n∧rs.all repB=true∧ars.all (evenB rs)=true:=by
 unfold holdB at h;rw[Bool.and_eq_true,Bool.and_eq_true,decide_eq_true_eq]at h;exact⟨h.1.1,h.1.2,h.2.1,h.2.2⟩
def leftF(rs:List Int)(F:Nat→Int):Nat→Int:=fun v=>repAt rs v-F v
def leftSum(n:Nat)(L:Nat→Int):Nat:=((List.range n).map fun v=>(L v).toNat).sum
def runF(pick:(Nat→Int)→Int):Nat→(Nat→Int)→List Int×(Nat→Int)
 |0,F=>([],F)
 |f+1,F=>if 0≤pick F then(pick F::(runF pick f (bump F (pick F).toNat)).1,(runF pick f (bump F (pick F).toNat)).2)else([],F)
def endF(ars:List ArcV)(n:Nat)(rs:List Int)(r:List Int×(Nat→Int)):List Int×List BlkV:=
 if blocksF ars n r.2 (leftF rs r.2) n=[]then(r.1,[])else([],blocksF ars n r.2 (leftF rs r.2) n)
def pickS(ars:List ArcV)(n:Nat)(rs ps:List Int)(F:Nat→Int):Int:=bestF ars n F (leftF rs F) (rankF n ps 0) n
def ansF(pick:(Nat→Int)→Int)(n:Int)(ars:List ArcV)(rs ps:List Int):List Int×List BlkV:=
 if wrongF n ars rs ps=0 then endF ars n.toNat rs (runF pick (leftSum n.toNat (leftF rs fun _=>0)) fun _=>0)else([],[])
theorem left_bump(rs:List Int)(F:Nat→Int)(v:Nat):leftF rs (bump F v)=upd (leftF rs F) v (leftF rs F v-1):=by
 funext j
 unfold leftF bump;by_cases h:j=v
 ·subst h;rw[upd_self,upd_self];omega
 ·rw[upd_other h,upd_other h]
theorem leftSum_upd(L:Nat→Int)(v:Nat):∀n,v<n→0<L v→leftSum n L=leftSum n (upd L v (L v-1))+1:=by
 intro n
 induction n with
 |zero=>intro h;omega
 |succ n ih=>
  intro h hl;unfold leftSum at*;rw[List.range_succ,List.map_append,List.map_append,List.sum_append,List.sum_append];simp only[List.map_cons,List.map_nil,List.sum_cons,List.sum_nil];by_cases hv:v=n
  ·subst hv;have e:(List.range v).map (fun j=>(upd L v (L v-1) j).toNat)=(List.range v).map fun j=>(L j).toNat:=
    List.map_congr_left fun j hj=>by rw[upd_other (by have:=List.mem_range.1 hj;omega)]
   rw[e,upd_self];omega
  ·have:=ih (by omega) hl
   rw[upd_other (show n≠v by omega)]
   omega
def PickOk(ars:List ArcV)(n:Nat)(rs:List Int)(pick:(Nat→Int)→Int):Prop:=∀F,0≤pick F→∃v:Nat,pick F=v∧v<n∧0<leftF rs F v∧mayB ars n F v=true
theorem bestF_ok(ars:List ArcV)(n:Nat)(F Lf K:Nat→Int)(k:Nat)(h:0≤bestF ars n F Lf K k):∃v:Nat,bestF ars n F Lf K k=v∧v<k∧0<Lf v∧mayB ars n F v=true:=by
 induction k with
 |zero=>simp[bestF]at h
 |succ k ih=>
  rw[bestF_succ]at h⊢;unfold bestStep at h⊢;split
  ·rename_i h1
   exact⟨k,rfl,by omega,h1.1,h1.2.1⟩
  ·rename_i h1
   rw[if_neg h1]at h;obtain⟨v,e,h2,h3⟩:=ih h;exact⟨v,e,by omega,h3⟩
theorem pickS_ok(ars:List ArcV)(n:Nat)(rs ps:List Int):PickOk ars n rs (pickS ars n rs ps):=fun _ h=>bestF_ok _ _ _ _ _ _ h
theorem runF_go{ars:List ArcV}{n:Nat}{rs:List Int}{pick:(Nat→Int)→Int}(hp:PickOk ars n rs pick){F:Nat→Int}(h:0≤pick F):
  runF pick (leftSum n (leftF rs F)) F=(pick F::(runF pick (leftSum n (leftF rs (bump F (pick F).toNat))) (bump F (pick F).toNat)).1,(runF pick (leftSum n (leftF rs (bump F (pick F).toNat))) (bump F (pick F).toNat)).2):=by
 obtain⟨v,e,h1,h2,h3⟩:=hp F h;have hs:=leftSum_upd (leftF rs F) v n h1 h2;rw[←left_bump]at hs;rw[hs,e,Int.toNat_natCast];simp only[runF];rw[if_pos h,e,Int.toNat_natCast]
theorem runF_stop{pick:(Nat→Int)→Int}{F:Nat→Int}(h:¬0≤pick F):∀f,runF pick f F=([],F)
 |0=>rfl
 |f+1=>by simp only[runF];rw[if_neg h]
structure RunX(wZ w:World)(B Z:Nat)(r:RM)(s:SM)(n:Nat)(ars:List ArcV)(F Lf K:Nat→Int)(lv:Value)(ls:List Int):Prop where
 only:Only (fun k=>k=s.gt∨k=s.gf∨Z≤k) wZ w
 blk:Blk w r.gr 99 #[.pointer (some ⟨s.gs,0,none⟩), .slice (some ⟨r.gl,0,none⟩) n r.cl, .slice (some ⟨r.gk,0,none⟩) n n,lv]
 tok:w.ownsRow B 3 1 (.slice (some ⟨s.gt,0,none⟩) ars.length ars.length) ars.length (cellsI (rowF (tokI ars F) ars.length))
 fir:w.ownsRow B 3 1 (.slice (some ⟨s.gf,0,none⟩) n n) n (cellsI (rowF F n))
 lef:w.ownsRow Z 3 1 (.slice (some ⟨r.gl,0,none⟩) n r.cl) n (cellsI (rowF Lf n))
 rnk:w.ownsRow Z 3 1 (.slice (some ⟨r.gk,0,none⟩) n n) n (cellsI (rowF K n))
 lst:w.ownsRow Z 3 1 lv ls.length (cellsI ls)
 grz:Z≤r.gr
 gkl:r.gl≠r.gk
 nl:∀b,lv.ownBlock=some b→b≠r.gl∧b≠r.gk
theorem RunX.st{wZ w:World}{B Z:Nat}{r:RM}{s:SM}{n:Nat}{ars:List ArcV}{F F0 Lf K:Nat→Int}{lv:Value}{ls:List Int}(h:RunX wZ w B Z r s n ars F Lf K lv ls)(hS:St wZ B s n ars F0)(hZ:Z=wZ.heap.size):St w B s n ars F:=
 hS.only h.only (fun k h1 h2 h3 hx=>by rcases hx with hx|hx|hx<;>omega) h.tok h.fir
theorem RunX.run{wZ w:World}{B Z:Nat}{r:RM}{s:SM}{n:Nat}{ars:List ArcV}{F F0 Lf K:Nat→Int}{lv:Value}{ls:List Int}(h:RunX wZ w B Z r s n ars F Lf K lv ls)(hS:St wZ B s n ars F0)(hZ:Z=wZ.heap.size)(hB:B≤Z):RunT w B r s n ars F Lf K lv:=
 ⟨h.blk,h.st hS hZ,h.lef.mono hB,h.rnk.mono hB⟩
theorem RunX.below{wZ w w':World}{B Z:Nat}{r:RM}{s:SM}{n:Nat}{ars:List ArcV}{F Lf K:Nat→Int}{lv:Value}{ls:List Int}(h:RunX wZ w B Z r s n ars F Lf K lv ls)(hb:Below w.heap.size w w'):RunX wZ w' B Z r s n ars F Lf K lv ls:=
 ⟨h.only.below hb,h.blk.below hb h.blk.lt,own_below h.tok hb,own_below h.fir hb,own_below h.lef hb,own_below h.rnk hb,own_below h.lst hb,h.grz,h.gkl,h.nl⟩
theorem RunX.fire{wZ w w':World}{B Z:Nat}{r:RM}{s:SM}{n:Nat}{ars:List ArcV}{F F' Lf K:Nat→Int}{lv:Value}{ls:List Int}(h:RunX wZ w B Z r s n ars F Lf K lv ls)(ho:Only (fun k=>k=s.gt∨k=s.gf) w w')(hS:St w' B s n ars F')(h1:s.gt<Z)(h2:s.gf<Z):RunX wZ w' B Z r s n ars F' Lf K lv ls:=by
 have row:∀{v:Value} {m:Nat} {xs:List Value},w.ownsRow Z 3 1 v m xs→w'.ownsRow Z 3 1 v m xs:=by
  intro v m xs hr;refine own_only hr ho fun b hb hx=>?_
  have:=own_ge hr hb
  rcases hx with hx|hx<;>omega
 exact⟨h.only.trans (ho.mono fun k _ hx=>by rcases hx with hx|hx;exact .inl hx;exact .inr (.inl hx)),(ho.block _ h.blk.lt (fun hx=>by have:=h.grz;rcases hx with hx|hx<;>omega)).trans h.blk,hS.tok,hS.fir,row h.lef,row h.rnk,row h.lst,h.grz,h.gkl,h.nl⟩
theorem RunX.setLeft{wZ w:World}{B Z:Nat}{r:RM}{s:SM}{n:Nat}{ars:List ArcV}{F Lf K:Nat→Int}{lv:Value}{ls:List Int}(h:RunX wZ w B Z r s n ars F Lf K lv ls)(v:Nat)(x:Int)(h1:s.gt<Z)(h2:s.gf<Z):
  RunX wZ (w.setCell ⟨r.gl,v,none⟩ (.int .i64 x)) B Z r s n ars F (upd Lf v x) K lv ls:=by
 have st:=(h.lef.stored v (.int .i64 x)).1;rw[cellsI_put,rowF_set]at st;have hgl:=(h.lef.lt r.gl rfl).1;have ho:=onlySet w ⟨r.gl,v,none⟩ (.int .i64 x);obtain⟨cl,kl⟩:=own_block h.lef rfl;refine⟨h.only.trans (ho.mono fun k _ hx=> .inr (.inr (by have:k=r.gl:=hx;omega))),h.blk.far (fun hx=>absurd (blk_ty (hx▸h.blk) kl) (by decide)) _,own_only h.tok ho (fun b hb hx=>?_),own_only h.fir ho (fun b hb hx=>?_),st,own_only h.rnk ho (fun b hb hx=>?_),own_only h.lst ho (fun b hb hx=>?_),h.grz,h.gkl,h.nl⟩
 ·have:s.gt=b:=by simpa [Value.ownBlock]using hb
  have:b=r.gl:=hx
  omega
 ·have:s.gf=b:=by simpa [Value.ownBlock]using hb
  have:b=r.gl:=hx
  omega
 ·have h3:r.gk=b:=by simpa [Value.ownBlock]using hb
  have h4:b=r.gl:=hx
  exact h.gkl (by omega)
 ·exact(h.nl b hb).1 hx
theorem RunX.push{wZ w w':World}{B Z:Nat}{r:RM}{s:SM}{n:Nat}{ars:List ArcV}{F Lf K:Nat→Int}{lv v':Value}{ls:List Int}(h:RunX wZ w B Z r s n ars F Lf K lv ls)(x:Int)(h1:s.gt<Z)(h2:s.gf<Z)
  (hg:w.grownBy w' lv.ownBlock) (hv:v'.ownBlock=lv.ownBlock∨v'.ownBlock=some w.heap.size) (ho:w'.ownsRow Z 3 1 v' (ls.length+1) (cellsI ls++[.int .i64 x])):RunX wZ (w'.setCell ⟨r.gr,3,none⟩ v') B Z r s n ars F Lf K v' (ls++[x]):=by
 have kb:Blk w' r.gr 99 #[.pointer (some ⟨s.gs,0,none⟩), .slice (some ⟨r.gl,0,none⟩) n r.cl, .slice (some ⟨r.gk,0,none⟩) n n,lv]:=h.blk.grown hg fun hc=>by
  obtain⟨c,k⟩:=own_block h.lst hc.symm;exact absurd (blk_ty h.blk k) (by decide)
 have kb2:=kb.set 3 v';simp only[List.setIfInBounds_toArray,List.set_cons_zero,List.set_cons_succ]at kb2;have row:∀{v:Value} {m C:Nat} {xs:List Value},w.ownsRow C 3 1 v m xs→(∀b,v.ownBlock=some b→lv.ownBlock≠some b)→(w'.setCell ⟨r.gr,3,none⟩ v').ownsRow C 3 1 v m xs:=by
  intro v m C xs hr hb;refine own_set (hr.kept hg ?_) kb (by decide) _ _
  cases hv:v.ownBlock with
  |none=>exact .inl rfl
  |some b=>exact .inr fun hc=>hb b hv hc.symm
 have hgl:=(h.lef.lt r.gl rfl);have hgk:=(h.rnk.lt r.gk rfl);have e1:cellsI (ls++[x])=cellsI ls++[.int .i64 x]:=by simp[cellsI]
 refine⟨?_,kb2,row h.tok (fun b hb hc=>?_),row h.fir (fun b hb hc=>?_),row h.lef (fun b hb hc=>?_),row h.rnk (fun b hb hc=>?_),?_,h.grz,h.gkl,fun b hb=>?_⟩
 ·refine⟨hg.os.trans h.only.os,hg.tape.trans h.only.tape,hg.output.trans h.only.output,by have:=h.only.size;have:=hg.size;simp;omega,fun k hk hx=>?_⟩
  have hks:=h.only.size;rw[Below.heap_setCell _ _ _ _ (fun hc=>hx (.inr (.inr (by have:=h.grz;have:k=r.gr:=hc;omega))))]
  rw[hg.block k (by omega) (fun hc=>hx (.inr (.inr (own_ge h.lst hc.symm))))]
  exact h.only.block k hk hx
 ·have e:s.gt=b:=by simpa [Value.ownBlock]using hb
  have:=own_ge h.lst hc
  omega
 ·have e:s.gf=b:=by simpa [Value.ownBlock]using hb
  have:=own_ge h.lst hc
  omega
 ·have e:r.gl=b:=by simpa [Value.ownBlock]using hb
  exact(h.nl b hc).1 e.symm
 ·have e:r.gk=b:=by simpa [Value.ownBlock]using hb
  exact(h.nl b hc).2 e.symm
 ·rw[e1,List.length_append];exact own_set ho kb (by decide) _ _
 ·rcases hv with hv|hv
  ·exact h.nl b (hv▸hb)
  ·rw[hv]at hb;injection hb with hb;omega
theorem rowF_reps{n:Nat}{rs:List Int}(h:rs.length=n):rowF (leftF rs fun _=>0) n=rs:=by
 apply List.ext_getElem
 ·simp[rowF,h]
 ·intro j h1 h2;simp[rowF,leftF,repAt,h2]
theorem fire_one{ars:List ArcV}{n v:Nat}{F:Nat→Int}(h:mayB ars n F v=true):fireN ars n F [(v:Int)]=1∧fireF ars n F [(v:Int)]=bump F v:=by
 simp[fireN,fireF,h]
theorem leftSum_le{n m:Nat}{L:Nat→Int}(h:∀v,v<n→L v≤m):leftSum n L≤n*m:=by
 induction n with
 |zero=>simp[leftSum]
 |succ n ih=>
  have h1:=ih fun v hv=>h v (by omega)
  have h2:=h n (by omega)
  unfold leftSum at*;rw[List.range_succ,List.map_append,List.sum_append];simp only[List.map_cons,List.map_nil,List.sum_cons,List.sum_nil];rw[Nat.succ_mul];omega
end Go.Proofs.YtpmlljbebdidgaaGreatDoor
