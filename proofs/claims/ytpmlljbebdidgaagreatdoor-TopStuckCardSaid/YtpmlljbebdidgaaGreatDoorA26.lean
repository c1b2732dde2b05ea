/- Lemmas and walks for the claim: Eg, Eh, Ei, Ej, Ek. -/
import Derived.Test.YtpmlljbebdidgaaGreatDoorA0
import Derived.Test.YtpmlljbebdidgaaGreatDoorA25
set_option maxRecDepth 100000
set_option maxHeartbeats 4000000
namespace Go.Proofs.YtpmlljbebdidgaaGreatDoor
open Go.RowKit
def RigV.rdyAt(V:RigV)(v:Nat):Bool:=match V.tasks[v]? with|some t=>V.rdy t|none=>false
def RigV.rdys(V:RigV)(k:Nat):List Nat:=(List.range k).filter V.rdyAt
def cellsN(l:List Nat):List Value:=cellsI (l.map fun v:Nat=>(v:Int))
theorem cellsN_length(l:List Nat):(cellsN l).length=l.length:=by unfold cellsN;rw[cellsI_length,List.length_map]
theorem cellsN_snoc(l:List Nat)(v:Nat):cellsN (l++[v])=cellsN l++cellsI [(v:Int)]:=by unfold cellsN cellsI;simp
theorem rdys_yes{V:RigV}{k:Nat}(h:V.rdyAt k=true):V.rdys (k+1)=V.rdys k++[k]:=by unfold RigV.rdys;rw[List.range_succ,List.filter_append];simp[h]
theorem rdys_no{V:RigV}{k:Nat}(h:V.rdyAt k=false):V.rdys (k+1)=V.rdys k:=by unfold RigV.rdys;rw[List.range_succ,List.filter_append];simp[h]
theorem rdys_len(V:RigV)(k:Nat):(V.rdys k).length≤k:=by
 unfold RigV.rdys
 have:=List.length_filter_le V.rdyAt (List.range k)
 rw[List.length_range]at this;exact this
theorem RowT.at_{w:World}{ρ:Nat→Tg}{r:Nat}{e:TypeId}{A:Option Addr}{n c:Nat}{gs:List Nat}(h:RowT w ρ r e (.slice A n c) gs){i g:Nat}(hi:gs[i]?=some g):∃b,A=some ⟨b,0,none⟩∧b<w.heap.size∧w.cell? ⟨b,i,none⟩=some (.pointer (some ⟨g,0,none⟩)):=by
 obtain⟨A',c',he,-⟩:=own_slice h.m;injection he with e1 e2 e3;subst e1 e2 e3;obtain⟨b,rfl⟩:=own_addr h.m (by have:=get_lt hi;omega)
 exact⟨b,rfl,own_lt' h.m rfl,rd_at (rd_of_own h.m) (map_get (fun g=>Value.pointer (some ⟨g,0,none⟩)) hi)⟩
theorem RowT.len{w:World}{ρ:Nat→Tg}{r:Nat}{e:TypeId}{v:Value}{gs:List Nat}(h:RowT w ρ r e v gs):∃A c,v= .slice A gs.length c∧gs.length≤c:=own_slice h.m
theorem rigReady_any(V:RigV)(ρ:Nat→Tg)(w:World)(h:RigM w ρ V)(hf:V.full)(hn:V.tasks.length≤1048576)(hfl:V.failed<0):
  Calls Tryz.prog 44 #[.pointer (some ⟨V.rg,0,none⟩)] w fun e w'=>∃A c,e= .returned (.slice A (V.rdys V.tasks.length).length c)∧Rd w' w'.heap.size A (cellsN (V.rdys V.tasks.length))∧Below w.heap.size w w':=by
 obtain⟨ii,hii,hz0,hz1,hz2⟩:=info_parts info_int;obtain⟨A0,c0,htl,-⟩:=h.tl.len;rw[List.length_map]at htl;have kb:=h.rg;unfold RigV.cells at kb;rw[htl]at kb;have TL:=h.tl;rw[htl]at TL;obtain⟨n,hnn⟩:∃n,V.tasks.length=n:=⟨_,rfl⟩;obtain⟨fl,hfl2⟩:∃n,V.failed=n:=⟨_,rfl⟩;obtain⟨rg,hrg⟩:∃n,V.rg=n:=⟨_,rfl⟩;rw[hnn]at kb TL hn⊢;rw[hfl2]at kb hfl;rw[hrg]at kb⊢;have k0:=kb.cellL 0 rfl;have k4:=kb.cellL 4 rfl;have hf0:decide (fl≥0)=false:=by simp;omega
 have HM:=Lh h;have HF:=Lh hf;have HT:=Lh TL;have Hnn:=Lh hnn;clear h hf kb TL hnn htl hfl2 hrg
 go_enter Tryz.func44, Tryz.ntmps44
 go_wp2_with fail;clear k0 k4
 go_loopw [3,20] (fun v i wr=>∃(k:Nat) (A:Option Addr) (c:Nat),k≤n∧i= .int .i64 k∧v= .slice A (V.rdys k).length c∧Below w.heap.size w wr∧wr.ownsRow w.heap.size 3 1 (.slice A (V.rdys k).length c) (V.rdys k).length (cellsN (V.rdys k))) (fun _ i _=>n-(intOf i).toNat)
 case atStart=>exact⟨0,none,0,by omega,rfl,rfl,Below.refl _ _,⟨rfl, .inl ⟨rfl,rfl⟩⟩⟩
 case round=>
  obtain⟨k,A,c,hk,rfl,rfl,hb,ho⟩:=hrel;have hsz:=hb.size;have hle:=rdys_len V k;obtain⟨l,hl⟩:∃l,(V.rdys k).length=l:=⟨_,rfl⟩;rw[hl]at ho hle⊢;by_cases hlt:k<n
  ·obtain⟨t,ht⟩:=get_of_lt (l:=V.tasks) (i:=k) (by rw[Hnn.out];exact hlt)
   obtain⟨b0,rfl,hb0,hc⟩:=HT.out.at_ (map_get (fun t=>t.bt) ht)
   have hcr:=(hb.cell (p:=⟨b0,k,none⟩) hb0).trans hc;have h1:(0:Int)≤(k:Int):=by omega
   have h2:(k:Int)<(n:Int):=by omega
   have HR:=Lh (ready_task V ρ k t wr (HM.out.below hb) HF.out ht);have HO:=Lh ho;have HB:=Lh hb;have Hl:=Lh hl;have Hsz:=Lh hsz;obtain⟨bt,hbt⟩:∃b,t.bt=b:=⟨_,rfl⟩;rw[hbt]at HR hcr;have hat:V.rdyAt k=V.rdy t:=by unfold RigV.rdyAt;rw[ht]
   have Hat:=Lh hat;generalize V.rdy t=rd at*;clear ho hb hl hat hc ht hbt hsz
   go_wp2_with fail;refine HR.out.mono ?_
   rintro e w3 ⟨rfl,b3⟩;have hbw:=HB.out.trans (b3.mono Hsz.out);have HBw:=Lh hbw;have o3:=own_below HO.out b3;cases rd with
   |false=>
    have HO3:=Lh o3;clear b3 hbw o3
    go_wp2_with fail
    go_roundw
    case rel=>exact⟨k+1,A,c,by omega,by go_num,by rw[rdys_no Hat.out,Hl.out],HBw.out,by rw[rdys_no Hat.out,Hl.out];exact HO3.out⟩
    case measure=>simp[intOf];omega
   |true=>
    have ba:=bA_ w3 (.cells #[.int .i64 (k:Nat)] 3);have o2':=own_below o3 ba;have r2:=rd_alloc w3 _ rfl 3 [Value.int .i64 (k:Nat)];have HB2:=Lh (hbw.trans (ba.mono hbw.size));have hz3:=hbw.size;clear b3 hbw o3 ba
    go_wp2_with (at_builtin;refine wpList_append_rd _ rfl _ _ 36 rfl w.heap.size 3 ii (.int .i64 0) 1 8 Tryz.underlying36 hii hz0 hz1 hz2 rfl (by decide) _ l (cellsN (V.rdys k)) rfl o2' _ (some ⟨w3.heap.size,0,none⟩) 1 1 (cellsI [(k:Int)]) rfl rfl r2 (cellsI_one _) (by unfold maxLen;omega) (by omega) (by simp;omega) ?_)
    intro v' w4 o4 g4 h4;obtain⟨A',c',rfl,_⟩:=own_slice o4;have b4:=HB2.out.grown g4 HB2.out.size (fun q hq=>own_ge o2' hq)
    have HO4:=Lh o4;have HB4:=Lh b4;clear o4 g4 h4 b4 o2' r2
    go_wp2_with fail
    go_roundw
    case rel=>exact⟨k+1,A',c',by omega,by go_num,by rw[rdys_yes Hat.out,List.length_append,Hl.out];rfl,HB4.out,by rw[rdys_yes Hat.out,List.length_append,Hl.out,cellsN_snoc];exact HO4.out⟩
    case measure=>simp[intOf];omega
  ·obtain rfl:k=n:=by omega
   have HO:=Lh ho;have HB:=Lh hb;have Hl:=Lh hl;clear ho hb hl
   go_wp2_with fail
   go_ret;exact⟨A,c,by rw[Hl.out];rfl,rd_of_own HO.out,HB.out⟩
def RigV.whs(V:RigV)(k:Nat):List Nat:=(V.tasks.take k).map (·.wh)
theorem whs_succ{V:RigV}{k:Nat}{t:TkV}(h:V.tasks[k]?=some t):V.whs (k+1)=V.whs k++[t.wh]:=by
 unfold RigV.whs;rw[List.take_add_one,h,List.map_append]
 rfl
theorem rigFired_any(V:RigV)(ρ:Nat→Tg)(w:World)(h:RigM w ρ V)(hn:V.tasks.length≤1048576):
  Calls Tryz.prog 18 #[.pointer (some ⟨V.rg,0,none⟩)] w fun e w'=>∃A c,e= .returned (.slice A V.tasks.length c)∧Rd w' w'.heap.size A (cellsN (V.tasks.map (·.wh)))∧Below w.heap.size w w':=by
 obtain⟨ii,hii,hz0,hz1,hz2⟩:=info_parts info_int;obtain⟨A0,c0,htl,-⟩:=h.tl.len;rw[List.length_map]at htl;have kb:=h.rg;unfold RigV.cells at kb;rw[htl]at kb;have TL:=h.tl;rw[htl]at TL;have hall:V.whs V.tasks.length=V.tasks.map (·.wh):=by unfold RigV.whs;rw[List.take_length]
 have hwl:∀k,k≤V.tasks.length→(V.whs k).length=k:=fun k hk=>by unfold RigV.whs;rw[List.length_map,List.length_take];omega
 rw[←hall];obtain⟨n,hnn⟩:∃n,V.tasks.length=n:=⟨_,rfl⟩;obtain⟨rg,hrg⟩:∃n,V.rg=n:=⟨_,rfl⟩;rw[hnn]at kb TL hn hwl⊢;rw[hrg]at kb⊢;have k0:=kb.cellL 0 rfl;have HM:=Lh h;have HT:=Lh TL;have Hnn:=Lh hnn;have HW:=Lh hwl;clear h kb TL hnn htl hrg hall hwl
 go_enter Tryz.func18, Tryz.ntmps18
 go_wp2_with fail;clear k0
 go_loopw [3,13] (fun v i wr=>∃(k:Nat) (A:Option Addr) (c:Nat),k≤n∧i= .int .i64 k∧v= .slice A k c∧Below w.heap.size w wr∧wr.ownsRow w.heap.size 3 1 (.slice A k c) k (cellsN (V.whs k))) (fun _ i _=>n-(intOf i).toNat)
 case atStart=>exact⟨0,none,0,by omega,rfl,rfl,Below.refl _ _,⟨rfl, .inl ⟨rfl,rfl⟩⟩⟩
 case round=>
  obtain⟨k,A,c,hk,rfl,rfl,hb,ho⟩:=hrel;have hsz:=hb.size;by_cases hlt:k<n
  ·obtain⟨t,ht⟩:=get_of_lt (l:=V.tasks) (i:=k) (by rw[Hnn.out];exact hlt)
   obtain⟨b0,rfl,hb0,hc⟩:=HT.out.at_ (map_get (fun t=>t.bt) ht)
   have hcr:=(hb.cell (p:=⟨b0,k,none⟩) hb0).trans hc;have h1:(0:Int)≤(k:Int):=by omega
   have h2:(k:Int)<(n:Int):=by omega
   have kt:=(HM.out.tk k t ht).bt;have c9:=(kt.below hb kt.lt).cellL 9 rfl;have hkb:=kt.lt;unfold TkV.cells at c9;have hws:=whs_succ ht;obtain⟨x,hx⟩:∃x,t.wh=x:=⟨_,rfl⟩;obtain⟨bt,hbt⟩:∃b,t.bt=b:=⟨_,rfl⟩;rw[hx]at c9 hws;rw[hbt]at c9 hcr;have Hws:=Lh hws;have ba:=bA_ wr (.cells #[.int .i64 (x:Nat)] 3);have o2':=own_below ho ba;have r2:=rd_alloc wr _ rfl 3 [Value.int .i64 (x:Nat)];have HB2:=Lh (hb.trans (ba.mono hsz));clear hws kt hc ht hx hbt ho ba hb
   go_wp2_with (at_builtin;refine wpList_append_rd _ rfl _ _ 36 rfl w.heap.size 3 ii (.int .i64 0) 1 8 Tryz.underlying36 hii hz0 hz1 hz2 rfl (by decide) _ k (cellsN (V.whs k)) rfl o2' _ (some ⟨wr.heap.size,0,none⟩) 1 1 (cellsI [(x:Int)]) rfl rfl r2 (cellsI_one _) (by unfold maxLen;omega) (by omega) (by simp;omega) ?_)
   intro v' w4 o4 g4 h4;obtain⟨A',c',rfl,_⟩:=own_slice o4;have b4:=HB2.out.grown g4 HB2.out.size (fun q hq=>own_ge o2' hq)
   have HO4:=Lh o4;have HB4:=Lh b4;clear o4 g4 h4 b4 o2' r2
   go_wp2_with fail
   go_roundw
   case rel=>exact⟨k+1,A',c',by omega,by go_num,rfl,HB4.out,by rw[Hws.out,cellsN_snoc];exact HO4.out⟩
   case measure=>simp[intOf];omega
  ·obtain rfl:k=n:=by omega
   have HO:=Lh ho;have HB:=Lh hb;clear ho hb
   go_wp2_with fail
   go_ret;exact⟨A,c,rfl,rd_of_own HO.out,HB.out⟩
theorem rigHalt_any(V:RigV)(ρ:Nat→Tg)(w:World)(h:RigM w ρ V)(hf:V.full)(hn:V.tasks.length≤1048576):
  Calls Tryz.prog 19 #[.pointer (some ⟨V.rg,0,none⟩)] w fun e w'=>e= .returned (.int .u8 (if 0≤V.failed then 3 else if(V.rdys V.tasks.length).length=0 then 5 else 0))∧Below w.heap.size w w':=by
 have kb:=h.rg;unfold RigV.cells at kb;have k4:=kb.cellL 4 rfl;by_cases hfl:0≤V.failed
 ·rw[if_pos hfl];generalize V.failed=fl at*;generalize V.rg=rg at*;have hf0:decide (fl≥0)=true:=by simp;omega
  clear kb h hf
  go_enter Tryz.func19, Tryz.ntmps19
  go_wp2_with fail
  go_ret;exact⟨rfl,Below.refl _ _⟩
 ·rw[if_neg hfl];have HR:=Lh (rigReady_any V ρ w h hf hn (by omega))
  generalize V.failed=fl at*;generalize V.rg=rg at*;generalize (V.rdys V.tasks.length).length=l at*;have hf0:decide (fl≥0)=false:=by simp;omega
  clear kb h hf
  go_enter Tryz.func19, Tryz.ntmps19
  go_wp2_with fail;refine HR.out.mono ?_
  rintro e w2 ⟨A,c,rfl,-,hb⟩;have HB:=Lh hb;clear hb;by_cases hl:l=0
  ·subst hl
   go_wp2_with fail
   go_ret;exact⟨rfl,HB.out⟩
  ·have hd:((l:Int)==0)=false:=by simp;omega
   go_wp2_with fail
   go_ret;exact⟨rfl,HB.out⟩
inductive RStep(V:RigV)(i:Int)(V':RigV):Bool→Prop
 |no (he:V'=V) (hn:0≤V.failed∨∀(v:Nat) (t:TkV),(v:Int)=i→V.tasks[v]?=some t→V.rdy t=false):RStep V i V' false
 |yes (v:Nat) (t:TkV) (ok:Bool) (hi:(v:Int)=i) (hv:V.tasks[v]?=some t) (hf:V.failed<0) (hr:V.rdy t=true) (hs:StepE V v t V' ok) (hfail:V'.failed=if ok=true then V.failed else(v:Int)):RStep V i V' true
def StepAns(V:RigV)(ρ:Nat→Tg)(N:Nat)(i:Int)(w:World)(e:Ending)(w':World):Prop:=
 ∃b V' ρ',e= .returned (.bool b)∧Moved ρ ρ' w w'∧RigM w' ρ' V'∧V.same V'∧V'.bnd (N+1)∧RStep V i V' b
theorem StepE.failed{V V':RigV}{v:Nat}{t:TkV}{ok:Bool}(h:StepE V v t V' ok)(f:Int):StepE V v t {V' with failed:=f} ok:=by
 cases h with
 |take e g hg hp hs hq hφ hh hr hl hy hz=>exact .take e g hg hp hs hq hφ hh hr hl hy hz
 |reckon hg hp hφ hh hr hl hy hz=>exact .reckon hg hp hφ hh hr hl hy hz
 |fail hg hp hφ hh hr hl hy hz=>exact .fail hg hp hφ hh hr hl hy hz
 |giveQ e g hg hp hs hφ hh hr hl hy hz=>exact .giveQ e g hg hp hs hφ hh hr hl hy hz
 |giveT o g hg hp hs hφ hh hr hl hy hz=>exact .giveT o g hg hp hs hφ hh hr hl hy hz
theorem RigM.setFailed{w:World}{ρ:Nat→Tg}{V:RigV}(h:RigM w ρ V)(f:Int):RigM (w.setCell ⟨V.rg,4,none⟩ (.int .i64 f)) ρ {V with failed:=f}:=by
 have ho:Only (fun b=>b=V.rg) w (w.setCell ⟨V.rg,4,none⟩ (.int .i64 f)):=(Only.refl _ _).setCell _ _ fun _=>rfl
 have hne:∀(T:Tg),T≠ .rig 0→∀b,b<w.heap.size→b=V.rg→ρ b≠T:=fun T hT b _ hb he=>hT (by rw[←he,hb];exact h.rrg)
 have hr:∀b,b<w.heap.size→ρ b=ρ b:=fun _ _=>rfl
 refine⟨?_,h.rrg,h.tl.only ho hr (hne _ (by simp)),h.el.only ho hr (hne _ (by simp)),h.il.only ho hr (hne _ (by simp)),h.pl.only ho hr (hne _ (by simp)),fun v t ht=>(h.tk v t ht).only ho hr fun b hb hx=>⟨hne _ (by simp) b hb hx,fun r=>hne _ (by simp) b hb hx⟩,
  fun e q hq=>(h.qu e q hq).only ho hr (hne _ (by simp)),fun o p hp=>(h.tp o p hp).only ho hr (hne _ (by simp)),h.lq,h.lt⟩
 have:=h.rg.set 4 (.int .i64 f)
 unfold RigV.cells at this;simp only[List.setIfInBounds_toArray,List.set_cons_zero,List.set_cons_succ]at this;exact this
theorem RigM.setFailed'{w:World}{ρ:Nat→Tg}{V:RigV}{rg:Nat}(h:RigM w ρ V)(hr:V.rg=rg)(f:Int):RigM (w.setCell ⟨rg,4,none⟩ (.int .i64 f)) ρ {V with failed:=f}:=by subst hr;exact h.setFailed f
theorem RigV.bnd.more{V:RigV}{N:Nat}(h:V.bnd N):V.bnd (N+1):=fun t ht=>by have:=h t ht;omega
theorem rigStep_any(V:RigV)(ρ:Nat→Tg)(N:Nat)(i:Int)(w:World)(h:RigM w ρ V)(hf:V.full)(hb:V.bnd N)(hro:V.room)(hN:N<4611686018427387904)(hi:fits i):
  Calls Tryz.prog 43 #[.pointer (some ⟨V.rg,0,none⟩), .int .i64 i] w (StepAns V ρ N i w):=by
 obtain⟨A0,c0,htl,-⟩:=h.tl.len;rw[List.length_map]at htl;have kb:=h.rg;unfold RigV.cells at kb;rw[htl]at kb;have TL:=h.tl;rw[htl]at TL;have k0:=kb.cellL 0 rfl;have k4:=kb.cellL 4 rfl;have hno:(0≤V.failed∨∀(v:Nat) (t:TkV),(v:Int)=i→V.tasks[v]?=some t→V.rdy t=false)→StepAns V ρ N i w (.returned (.bool false)) w:=fun hno=>⟨false,V,ρ,rfl,Moved.of_below (Below.refl _ _),h,RigV.same.refl V,hb.more, .no rfl hno⟩
 by_cases hfl:0≤V.failed
 ·have HN:=Lh (hno (.inl hfl));generalize V.failed=fl at*;generalize V.rg=rg at*;have hf0:decide (fl≥0)=true:=by simp;omega
  clear kb TL h hf hb hro k0 htl hno
  go_enter Tryz.func43, Tryz.ntmps43
  go_wp2_with fail
  go_ret;exact HN.out
 ·by_cases hi0:i<0
  ·have HN:=Lh (hno (.inr fun v t hv=>by omega))
   generalize V.failed=fl at*;generalize V.rg=rg at*;have hf0:decide (fl≥0)=false:=by simp;omega
   have hf1:decide (i<0)=true:=by simp;omega
   clear kb TL h hf hb hro k0 htl hno
   go_enter Tryz.func43, Tryz.ntmps43
   go_wp2_with fail
   go_ret;exact HN.out
  ·obtain⟨v,rfl⟩:∃v:Nat,i=(v:Int):=⟨i.toNat,by omega⟩
   by_cases hvn:v<V.tasks.length
   ·obtain⟨t,ht⟩:=get_of_lt hvn;obtain⟨b0,rfl,hb0,hc⟩:=TL.at_ (map_get (fun t=>t.bt) ht)
    have HM:=Lh h;have HF:=Lh hf;have HBn:=Lh hb;have HRo:=Lh hro;have HR:=Lh (ready_task V ρ v t w h hf ht);have HS:=Lh (fun(w':World) (hb':Below w.heap.size w w') (hrd:V.rdy t=true)=>step_rig V ρ N v t w' (h.below hb') hf hb hro hN ht hrd)
    have HT:=Lh ht;have HNo:=Lh (fun(w':World) (hb':Below w.heap.size w w') (hrd:V.rdy t=false)=>(⟨false,V,ρ,rfl,Moved.of_below hb',h.below hb',RigV.same.refl V,hb.more, .no rfl (.inr fun v' t' hv' ht'=>by
     obtain rfl:v'=v:=by omega
     rw[ht]at ht';exact Option.some.inj ht'▸hrd)⟩:StepAns V ρ N (v:Int) w (.returned (.bool false)) w'))
    have HKB:=Lh kb;have HC:=Lh hc;have HYes:=Lh (fun(ok:Bool) (V':RigV) (ρ':Nat→Tg) (w':World) (hMv:Moved ρ ρ' w w') (hM:RigM w' ρ' V') (hsm:V.same V') (hbn:V'.bnd (N+1)) (hrd:V.rdy t=true) (hs:StepE V v t V' ok) (hfail:V'.failed=if ok=true then V.failed else(v:Int))=>(⟨true,V',ρ',rfl,hMv,hM,hsm,hbn, .yes v t ok rfl ht (by omega) hrd hs hfail⟩:StepAns V ρ N (v:Int) w (.returned (.bool true)) w'))
    obtain⟨n,hnn⟩:∃n,V.tasks.length=n:=⟨_,rfl⟩;obtain⟨fl,hfl2⟩:∃n,V.failed=n:=⟨_,rfl⟩;obtain⟨rg,hrg⟩:∃n,V.rg=n:=⟨_,rfl⟩;obtain⟨bt,hbt⟩:∃b,t.bt=b:=⟨_,rfl⟩;rw[hnn]at k0 hvn HKB;rw[hfl2]at k4 hfl HKB HYes;rw[hrg]at k0 k4 HKB⊢;rw[hbt]at HR HS hc HC;have Hrg:=Lh hrg;have Hfl:=Lh hfl2;have h1:(0:Int)≤(v:Int):=by omega
    have h2:(v:Int)<(n:Int):=by omega
    have hf0:decide (fl≥0)=false:=by simp;omega
    have hf1:decide ((v:Int)<0)=false:=by simp
    have hf2:decide (n≤v)=false:=by simp;omega
    clear kb TL h hf hb hro htl hno ht hnn hfl2 hrg hbt;cases hrd:V.rdy t with
    |false=>
     rw[hrd]at HR;have HN2:=Lh fun(w':World) (hb':Below w.heap.size w w')=>HNo.out w' hb' hrd
     clear hrd HYes HS
     go_enter Tryz.func43, Tryz.ntmps43
     go_wp2_with fail;refine HR.out.mono ?_
     rintro e w2 ⟨rfl,b2⟩;have HA:=Lh (HN2.out w2 b2);clear b2
     go_wp2_with fail
     go_ret;exact HA.out
    |true=>
     rw[hrd]at HR;have HS2:=Lh fun(w':World) (hb':Below w.heap.size w w')=>HS.out w' hb' hrd
     have Hrd:=Lh hrd;clear hrd HNo HS
     go_enter Tryz.func43, Tryz.ntmps43
     go_wp2_with fail;refine HR.out.mono ?_
     rintro e w2 ⟨rfl,b2⟩;have kb2:=HKB.out.below b2 HKB.out.lt;have c0:=kb2.cellL 0 rfl;have cc:=(b2.cell (p:=⟨b0,v,none⟩) hb0).trans HC.out;have HS3:=Lh (HS2.out w2 b2);have HB2:=Lh b2;clear b2 kb2 k0 k4 hc
     go_wp2_with fail;refine HS3.out.mono ?_
     rintro e w3 ⟨ok,V',ρ',rfl,hmv,hM,hsm,hfail,hbn,hs⟩;have hMv:=(Moved.of_below (ρ:=ρ) HB2.out).trans hmv;clear c0 cc;cases ok with
     |true=>
      have HA:=Lh (HYes.out true V' ρ' w3 hMv hM hsm hbn Hrd.out hs (by rw[if_pos rfl,hfail,Hfl.out]))
      clear hM hsm hfail hbn hs HYes hmv hMv
      go_wp2_with fail
      go_ret;exact HA.out
     |false=>
      have k3:=hM.rg;have e3:V'.rg=rg:=hsm.rg.trans Hrg.out;have hM2:=hM.setFailed' e3 (v:Int);have hMv2:Moved ρ ρ' w (w3.setCell ⟨rg,4,none⟩ (.int .i64 (v:Int))):=⟨hMv.tag,hMv.only.setCell _ _ fun hlt=>by
       intro he;have h1:=hM.rrg;rw[e3,hMv.tag _ hlt]at h1;exact absurd (he▸h1:Tg.fix= .rig 0) (by simp)⟩
      unfold RigV.cells at k3;rw[e3]at k3;have c4:=k3.cellL 4 rfl;have f4:=k3.frozen 4;have HA:=Lh (HYes.out false {V' with failed:=(v:Int)} ρ' _ hMv2 hM2 ⟨hsm.rg,hsm.nE,hsm.tk,hsm.qs⟩ hbn Hrd.out (hs.failed _) rfl);clear hM hsm hfail hbn hs HYes k3 hM2 hmv hMv hMv2 e3
      go_wp2_with fail
      go_ret;exact HA.out
   ·have HN:=Lh (hno (.inr fun v' t hv ht=>by have:=get_lt ht;omega))
    generalize V.tasks.length=n at*;generalize V.failed=fl at*;generalize V.rg=rg at*;have hf0:decide (fl≥0)=false:=by simp;omega
    have hf1:decide ((v:Int)<0)=false:=by simp
    have hf2:decide (n≤v)=true:=by simp;omega
    clear kb TL h hf hb hro htl hno
    go_enter Tryz.func43, Tryz.ntmps43
    go_wp2_with fail
    go_ret;exact HN.out
theorem RigM.other{w w':World}{ρ ρ':Nat→Tg}{V:RigV}(h:RigM w ρ V)(hb:Below w.heap.size w w')(hρ:∀b,b<w.heap.size→ρ' b=ρ b):RigM w' ρ' V:=by
 have ho:Only (fun _=>False) w w':=Only.of_below hb
 exact{h with
  rg:=h.rg.onlyT ho fun _ hx=>hx
  rrg:=(hρ _ h.rg.lt).trans h.rrg
  tl:=h.tl.only ho hρ fun _ _ hx=>hx.elim
  el:=h.el.only ho hρ fun _ _ hx=>hx.elim
  il:=h.il.only ho hρ fun _ _ hx=>hx.elim
  pl:=h.pl.only ho hρ fun _ _ hx=>hx.elim
  tk:=fun v t ht=>(h.tk v t ht).only ho hρ fun _ _ hx=>hx.elim
  qu:=fun e q hq=>(h.qu e q hq).only ho hρ fun _ _ hx=>hx.elim
  tp:=fun o t ht=>(h.tp o t ht).only ho hρ fun _ _ hx=>hx.elim}
def RigV.shp(V:RigV):Prop:=∀(v:Nat) (t:TkV),V.tasks[v]?=some t→t.sh∧t.hand.length=t.rin.length∧(t.gives=true→t.gift.length=t.rout.length)
theorem RigM.shp{w:World}{ρ:Nat→Tg}{V:RigV}(h:RigM w ρ V):V.shp:=fun v t ht=>⟨(h.tk v t ht).sh,(h.tk v t ht).h.lh,fun hg=>((h.tk v t ht).g hg).lg⟩
structure RigJ(J:Nat→RigV→Prop)(M:Nat):Prop where
 room:∀N V,J N V→N<M→V.room
 step:∀N V V' i b,J N V→N<M→V.shp→V.same V'→RStep V i V' b→J (N+1) V'
 more:∀N V,J N V→J (N+1) V
theorem RigJ.moreN{J:Nat→RigV→Prop}{M:Nat}(h:RigJ J M){N N':Nat}{V:RigV}(hj:J N V)(hn:N≤N'):J N' V:=by
 induction hn with
 |refl=>exact hj
 |step _ ih=>exact h.more _ _ ih
structure RigAt(J:Nat→RigV→Prop)(V0:RigV)(ρ0:Nat→Tg)(w0:World)(N:Nat)(V:RigV)(ρ:Nat→Tg)(w:World):Prop where
 m:RigM w ρ V
 s:V0.same V
 b:V.bnd N
 j:J N V
 v:Moved ρ0 ρ w0 w
theorem RigV.same.len{V V':RigV}(h:V.same V'):V'.tasks.length=V.tasks.length:=by
 have:=congrArg List.length h.tk
 rwa [List.length_map,List.length_map]at this
theorem RigV.bnd.moreN{V:RigV}{N N':Nat}(h:V.bnd N)(hn:N≤N'):V.bnd N':=fun t ht=>by have:=h t ht;omega
theorem RigAt.below{J:Nat→RigV→Prop}{V0 V:RigV}{ρ0 ρ:Nat→Tg}{w0 w w':World}{N:Nat}(h:RigAt J V0 ρ0 w0 N V ρ w)(hb:Below w.heap.size w w'):RigAt J V0 ρ0 w0 N V ρ w':=⟨h.m.below hb,h.s,h.b,h.j,h.v.trans (Moved.of_below hb)⟩
theorem RigAt.start{J:Nat→RigV→Prop}{V:RigV}{ρ:Nat→Tg}{w:World}{N:Nat}(hm:RigM w ρ V)(hb:V.bnd N)(hj:J N V):RigAt J V ρ w N V ρ w:=⟨hm,RigV.same.refl V,hb,hj,Moved.of_below (Below.refl _ _)⟩
theorem RigAt.rstep{J:Nat→RigV→Prop}{M:Nat}(hJ:RigJ J M){V0 V:RigV}{ρ0 ρ:Nat→Tg}{w0 w:World}{N:Nat}{i:Int}(h:RigAt J V0 ρ0 w0 N V ρ w)(hN:N<M){e:Ending}{w':World}(ha:StepAns V ρ N i w e w'):
  ∃b V' ρ',e= .returned (.bool b)∧RigAt J V0 ρ0 w0 (N+1) V' ρ' w'∧V.same V'∧RStep V i V' b:=by
 obtain⟨b,V',ρ',h1,h2,h3,h4,h5,h6⟩:=ha;exact⟨b,V',ρ',h1,⟨h3,h.s.trans h4,h5,hJ.step N V V' i b h.j hN h.m.shp h4 h6,h.v.trans h2⟩,h4,h6⟩
theorem rem_in{p n:Int}(hn:0<n):0≤(p.tmod n+n).tmod n∧(p.tmod n+n).tmod n<n∧-n<p.tmod n∧p.tmod n<n:=by
 have h1: -n<p.tmod n∧p.tmod n<n:=by
  constructor
  ·have:=Int.lt_tmod_of_pos p hn
   omega
  ·exact Int.tmod_lt_of_pos p hn
 exact⟨Int.tmod_nonneg _ (by omega),Int.tmod_lt_of_pos _ hn,h1.1,h1.2⟩
theorem rdys_get{V:RigV}{k i:Nat}(h:i<(V.rdys k).length):∃v,(V.rdys k)[i]?=some v∧v<k:=by
 obtain⟨v,hv⟩:=get_of_lt h;have hm:=get_mem hv;unfold RigV.rdys at hm;rw[List.mem_filter,List.mem_range]at hm;exact⟨v,hv,hm.1⟩
theorem cellsN_get{l:List Nat}{i v:Nat}(h:l[i]?=some v):(cellsN l)[i]?=some (.int .i64 (v:Nat)):=by unfold cellsN cellsI;simp[h]
def RigV.rl(V:RigV):List Nat:=if 0≤V.failed then []else V.rdys V.tasks.length
theorem rigReadyL_any(V:RigV)(ρ:Nat→Tg)(w:World)(h:RigM w ρ V)(hf:V.full)(hn:V.tasks.length≤1048576):
  Calls Tryz.prog 44 #[.pointer (some ⟨V.rg,0,none⟩)] w fun e w'=>∃A c,e= .returned (.slice A V.rl.length c)∧Rd w' w'.heap.size A (cellsN V.rl)∧Below w.heap.size w w':=by
 unfold RigV.rl;by_cases hfl:0≤V.failed
 ·rw[if_pos hfl];have kb:=h.rg;unfold RigV.cells at kb;have k4:=kb.cellL 4 rfl;generalize V.failed=fl at*;generalize V.rg=rg at*;have hf0:decide (fl≥0)=true:=by simp;omega
  clear kb h hf
  go_enter Tryz.func44, Tryz.ntmps44
  go_wp2_with fail
  go_ret;exact⟨none,0,rfl, .inl rfl,Below.refl _ _⟩
 ·rw[if_neg hfl];exact rigReady_any V ρ w h hf hn (by omega)
theorem rl_get{V:RigV}{i:Nat}(h:i<V.rl.length):∃v,V.rl[i]?=some v∧v<V.tasks.length:=by
 unfold RigV.rl at h⊢;by_cases hf:0≤V.failed
 ·rw[if_pos hf]at h;simp at h
 ·rw[if_neg hf]at h⊢;exact rdys_get h
theorem rl_len(V:RigV):V.rl.length≤V.tasks.length:=by
 unfold RigV.rl;split
 ·simp
 ·exact rdys_len V _
theorem rigPlay_any(J:Nat→RigV→Prop)(M:Nat)(hJ:RigJ J M)(V:RigV)(ρ:Nat→Tg)(N:Nat)(w:World)(h:RigM w ρ V)(hf:V.full)(hb:V.bnd N)(hj:J N V)(hM:M≤4611686018427387904)(hn:V.tasks.length≤1048576)
  (xs:List Int) (A:Option Addr) (l c:Nat) (hl:xs.length=l) (hx:AllFit xs) (hA:Rd w w.heap.size A (cellsI xs)) (hfx:∀q,blkOf A=some q→ρ q= .fix) (hNl:N+l≤M) (hlm:l≤4611686018427387904):
  Calls Tryz.prog 20 #[.pointer (some ⟨V.rg,0,none⟩), .slice A l c] w fun e w'=>∃r V' ρ',e= .returned (.int .i64 r)∧RigAt J V ρ w (N+l) V' ρ' w':=by
 have HM:=Lh h;have HF:=Lh hf;have HA:=Lh hA;have HX:=Lh hfx;have Hl:=Lh hl;have HS:=Lh (RigAt.start h hb hj);have HJ:=Lh hJ;obtain⟨rg,hrg⟩:∃n,V.rg=n:=⟨_,rfl⟩;rw[hrg];have Hrg:=Lh hrg;clear h hf hA hfx hl hb hj hJ hrg
 go_enter Tryz.func20, Tryz.ntmps20
 go_wp2_with fail
 go_loopw [10] (fun i wr=>∃(k:Nat) (V':RigV) (ρ':Nat→Tg),k≤l∧i= .int .i64 k∧RigAt J V ρ w (N+k) V' ρ' wr) (fun i _=>l-(intOf i).toNat)
 case atStart=>exact⟨0,V,ρ,by omega,rfl,HS.out⟩
 case round=>
  clear HS;obtain⟨k,V',ρ',hk,rfl,hat⟩:=hrel;by_cases hlt:k<l
  ·obtain⟨x,hxk⟩:=get_of_lt (l:=xs) (i:=k) (by rw[Hl.out];exact hlt)
   have hxf:=hx x (get_mem hxk);have hrd:Rd wr wr.heap.size A (cellsI xs):=Rd.onlyT HA.out hat.v.only fun q hq hne=>hne (HX.out q hq)
   obtain⟨b0,o0,rfl,hc⟩:∃b o,A=some ⟨b,o,none⟩∧wr.cell? ⟨b,o+k,none⟩=some (.int .i64 x):=by
    rcases hrd with hr|⟨b,off,hA,-,hcell⟩
    ·have h1:=congrArg List.length hr;rw[cellsI_length,List.length_nil,Hl.out]at h1;omega
    ·exact⟨b,off,hA,hcell k _ (by simp[cellsI,hxk])⟩
   have h1:(0:Int)≤(k:Int):=by omega
   have h2:(k:Int)<(l:Int):=by omega
   have hlen:=hat.s.len;have HR:=Lh (rigReadyL_any V' ρ' wr hat.m (hat.s.full HF.out) (by omega))
   have HAt:=Lh hat;have erg:V'.rg=rg:=hat.s.rg.trans Hrg.out;rw[erg]at HR;have hll:=rl_len V';have HG:=Lh (fun i=>rl_get (V:=V') (i:=i))
   obtain⟨L,hL⟩:∃L,V'.rl=L:=⟨_,rfl⟩;rw[hL]at HR hll HG;obtain⟨n,hLn⟩:∃n,L.length=n:=⟨_,rfl⟩;rw[hLn]at HR hll HG;have HLn:=Lh hLn;have Hlen:=Lh hlen;have Hxf:=Lh hxf;have Hhn:=Lh hn;have hn16:n≤1048576:=by omega
   clear hrd hxk hat hL hLn hlen hn erg hll hx
   go_wp2_with fail;refine HR.out.mono ?_
   rintro e w2 ⟨A2,c2,rfl,hr2,hb2⟩;have hat2:=HAt.out.below hb2;have HAt2:=Lh hat2;have HB2:=Lh hb2;clear hat2 hb2;by_cases hn0:n=0
   ·subst hn0;clear hr2
    go_wp2_with fail
    go_ret;exact⟨_,V',ρ',rfl,HAt2.out.m,HAt2.out.s,HAt2.out.b.moreN (by omega),HJ.out.moreN HAt2.out.j (by omega),HAt2.out.v⟩
   ·have hnp:(0:Int)<(n:Int):=by omega
    obtain⟨r0,r1,r2,r3⟩:=rem_in (p:=x) hnp;obtain⟨j,hj⟩:∃j:Nat,(x.tmod n+n).tmod n=(j:Int):=⟨((x.tmod n+n).tmod n).toNat,by omega⟩
    rw[hj]at r0 r1;obtain⟨v,hv,hvn⟩:=HG.out j (by omega)
    obtain⟨b2,o2,rfl,hc2⟩:∃b o,A2=some ⟨b,o,none⟩∧w2.cell? ⟨b,o+j,none⟩=some (.int .i64 (v:Nat)):=by
     rcases hr2 with hr|⟨b,off,hA,-,hcell⟩
     ·have h1:=congrArg List.length hr;rw[cellsN_length,HLn.out]at h1;simp at h1;omega
     ·exact⟨b,off,hA,hcell j _ (cellsN_get hv)⟩
    have hlen2:=HAt2.out.s.len;have hvb:v≤1048576:=by have:=Hhn.out;omega
    have HSt:=Lh (rigStep_any V' ρ' (N+k) (v:Int) w2 HAt2.out.m (HAt2.out.s.full HF.out) HAt2.out.b (HJ.out.room _ _ HAt2.out.j (by omega)) (by omega) (by unfold fits;omega))
    have erg:V'.rg=rg:=HAt2.out.s.rg.trans Hrg.out
    rw[erg]at HSt;obtain⟨y,hy⟩:∃y,x.tmod n=y:=⟨_,rfl⟩;rw[hy]at hj r2 r3;have hn1:((n:Int)==0)=false:=by simp;omega
    have ew:IntKind.i64.wrap (y+(n:Int))=y+n:=by rw[IntKind.wrap_i64];omega
    clear hr2 erg hlen2 hvn hv
    go_wp2_with fail;refine HSt.out.mono ?_
    intro e w3 ha;obtain⟨b3,V3,ρ3,rfl,hat3,-,-⟩:=HAt2.out.rstep HJ.out (by omega) ha
    have HA3:=Lh hat3;clear ha hat3
    go_wp2_with fail
    go_roundw
    case rel=>exact⟨k+1,V3,ρ3,by omega,by go_num,HA3.out⟩
    case measure=>simp[intOf];omega
  ·obtain rfl:k=l:=by omega
   have HAt:=Lh hat;clear hat
   go_wp2_with fail
   go_ret;exact⟨_,V',ρ',rfl,HAt.out⟩
inductive SeqP(P:RigV→Prop):Nat→RigV→RigV→Nat→Prop
 |nil (V:RigV):SeqP P 0 V V 0
 |snoc {k:Nat} {V V1 V2:RigV} {c:Nat} {b:Bool} (h:SeqP P k V V1 c) (hp:P V1) (hm:V1.same V2) (hs:RStep V1 (k:Int) V2 b):SeqP P (k+1) V V2 (c+(if b=true then 1 else 0))
inductive RndP(P:RigV→Prop)(n:Nat):Nat→RigV→RigV→Nat→Prop
 |nil (V:RigV):RndP P n 0 V V 0
 |snoc {j:Nat} {V V1 V2:RigV} {d c:Nat} (h:RndP P n j V V1 d) (hs:SeqP P n V1 V2 c) (hc:c≠0):RndP P n (j+1) V V2 (d+c)
def MetP(J:Nat→RigV→Prop)(V:RigV):Prop:=V.shp∧∃N,J N V
theorem SeqP.le{P:RigV→Prop}{k:Nat}{V V':RigV}{c:Nat}(h:SeqP P k V V' c):c≤k:=by
 induction h with
 |nil=>exact Nat.le_refl _
 |snoc h hp hm hs ih=>split<;>omega
theorem RndP.le{P:RigV→Prop}{n k:Nat}{V V':RigV}{c:Nat}(h:RndP P n k V V' c):c≤k*n:=by
 induction h with
 |nil=>exact Nat.zero_le _
 |snoc h hs hc ih=>
  have:=hs.le
  rw[Nat.add_mul,Nat.one_mul];omega
theorem rigRounds_any(J:Nat→RigV→Prop)(M:Nat)(hJ:RigJ J M)(V:RigV)(ρ:Nat→Tg)(N:Nat)(w:World)(h:RigM w ρ V)(hf:V.full)(hb:V.bnd N)(hj:J N V)(hM:M≤4611686018427387904)(n:Nat)(hnn:V.tasks.length=n)(hn:n≤1048576)
  (m:Nat) (hm:m≤4096) (hNl:N+m*n≤M):
  Calls Tryz.prog 16 #[.pointer (some ⟨V.rg,0,none⟩), .int .i64 m] w fun e w'=>∃(d:Nat) (V':RigV) (ρ':Nat→Tg),e= .returned (.int .i64 d)∧RigAt J V ρ w (N+m*n) V' ρ' w'∧
   (RndP (MetP J) n m V V' d∨∃j V1,j<m∧RndP (MetP J) n j V V1 d∧SeqP (MetP J) n V1 V' 0):=by
 have HF:=Lh hf;have HS:=Lh (RigAt.start h hb hj);have HJ:=Lh hJ;have Hnn:=Lh hnn;obtain⟨rg,hrg⟩:∃n,V.rg=n:=⟨_,rfl⟩;rw[hrg];have Hrg:=Lh hrg;have hmn:m*n≤4096*1048576:=Nat.mul_le_mul hm hn;obtain⟨mn,hmn2⟩:∃q,m*n=q:=⟨_,rfl⟩;rw[hmn2]at hmn hNl⊢;have Hmn:=Lh hmn2;have e1:min (m:Int) 4096=m:=by omega
 have e2:max (0:Int) (m:Int)=m:=by omega
 clear h hf hb hj hJ hrg hmn2 hnn
 go_enter Tryz.func16, Tryz.ntmps16
 go_wp2_with fail
 go_loopw [5,13] (fun a i wr=>∃(j d:Nat) (V1:RigV) (ρ1:Nat→Tg),j≤m∧i= .int .i64 j∧a= .int .i64 d∧RigAt J V ρ w (N+j*n) V1 ρ1 wr∧RndP (MetP J) n j V V1 d) (fun _ i _=>m-(intOf i).toNat)
 case atStart=>exact⟨0,0,V,ρ,by omega,rfl,rfl,by rw[Nat.zero_mul];exact HS.out, .nil V⟩
 case round=>
  clear HS;obtain⟨j,d,V1,ρ1,hj,rfl,rfl,hat,hrp⟩:=hrel;have hdle:=hrp.le;have hjn:j*n≤mn:=by rw[←Hmn.out];exact Nat.mul_le_mul_right n hj
  obtain⟨jn,hjn2⟩:∃q,j*n=q:=⟨_,rfl⟩;rw[hjn2]at hat hdle hjn;by_cases hlt:j<m
  ·have hj1:(j+1)*n≤mn:=by rw[←Hmn.out];exact Nat.mul_le_mul_right n hlt
   rw[Nat.add_mul,Nat.one_mul,hjn2]at hj1;have Hjn:=Lh hjn2;have kb:=hat.m.rg;obtain⟨A0,c0,htl,-⟩:=hat.m.tl.len;rw[List.length_map,hat.s.len,Hnn.out]at htl;unfold RigV.cells at kb;rw[htl,hat.s.rg,Hrg.out]at kb;have k0:=kb.cellL 0 rfl;have HAt:=Lh hat;have HRp:=Lh hrp;clear hat hrp htl kb hjn2
   go_wp2_with fail;clear k0
   go_loopw [5,21] (fun a i wx=>∃(k c:Nat) (V2:RigV) (ρ2:Nat→Tg),k≤n∧i= .int .i64 k∧a= .int .i64 ((d+c:Nat):Int)∧RigAt J V ρ w (N+jn+k) V2 ρ2 wx∧SeqP (MetP J) k V1 V2 c) (fun _ i _=>n-(intOf i).toNat)
   case atStart=>exact⟨0,0,V1,ρ1,by omega,rfl,rfl,HAt.out, .nil V1⟩
   case round=>
    clear HAt;obtain⟨k,c,V2,ρ2,hk,rfl,rfl,hat,hsq⟩:=hrel;have hcle:=hsq.le;by_cases hlt2:k<n
    ·have HSt:=Lh (rigStep_any V2 ρ2 (N+jn+k) (k:Int) wr hat.m (hat.s.full HF.out) hat.b (HJ.out.room _ _ hat.j (by omega)) (by omega) (by unfold fits;omega))
     have erg:V2.rg=rg:=hat.s.rg.trans Hrg.out
     rw[erg]at HSt;have HAt2:=Lh hat;have HSq:=Lh hsq;have h1:(k:Int)<(n:Int):=by omega
     clear hat hsq erg
     go_wp2_with fail;refine HSt.out.mono ?_
     intro e w3 ha;obtain⟨b3,V3,ρ3,rfl,hat3,hsm,hrs⟩:=HAt2.out.rstep HJ.out (by omega) ha
     have HA3:=Lh hat3;have HSq3:=Lh (SeqP.snoc HSq.out ⟨HAt2.out.m.shp,_,HAt2.out.j⟩ hsm hrs);clear ha hat3 hrs hsm;cases b3 with
     |false=>
      go_wp2_with fail
      go_roundw
      case rel=>exact⟨k+1,c,V3,ρ3,by omega,by go_num,rfl,HA3.out,HSq3.out⟩
      case measure=>simp[intOf];omega
     |true=>
      have ew:IntKind.i64.wrap (((d+c:Nat):Int)+1)=((d+(c+1):Nat):Int):=by rw[IntKind.wrap_i64];omega
      go_wp2_with fail
      go_roundw
      case rel=>exact⟨k+1,c+1,V3,ρ3,by omega,by go_num,by go_num,HA3.out,HSq3.out⟩
      case measure=>simp[intOf];omega
    ·obtain rfl:k=n:=by omega
     have HAt2:=Lh hat;have HSq:=Lh hsq;have h1:¬((k:Int)<(k:Int)):=by omega
     clear hat hsq;by_cases hc0:c=0
     ·subst hc0
      go_wp2_with fail
      go_ret;refine⟨d,rfl,V2,⟨ρ2,HAt2.out.m,HAt2.out.s,HAt2.out.b.moreN (by omega),HJ.out.moreN HAt2.out.j (by omega),HAt2.out.v⟩, .inr ⟨j,hlt,V1,HRp.out,HSq.out⟩⟩
     ·have hne:(((d+c:Nat):Int)==(d:Int))=false:=by simp;omega
      have hne2:((d:Int)+(c:Int)==(d:Int))=false:=by simp;omega
      go_wp2_with fail
      go_roundw
      case rel=>exact⟨j+1,d+c,V2,ρ2,by omega,by go_num,by go_num,by rw[Nat.add_mul,Nat.one_mul,Hjn.out,←Nat.add_assoc];exact HAt2.out, .snoc HRp.out HSq.out hc0⟩
      case measure=>simp[intOf];omega
  ·obtain rfl:j=m:=by omega
   have HAt:=Lh hat;have HRp:=Lh hrp;rw[Hmn.out]at hjn2;subst hjn2;clear hat hrp
   go_wp2_with fail
   go_ret;exact⟨d,V1,ρ1,rfl,HAt.out, .inl HRp.out⟩
end Go.Proofs.YtpmlljbebdidgaaGreatDoor
