/- Lemmas and walks for the claim: Ye, Yf, Yc, Yg, Yh, Yi. -/
import Derived.Test.YtpmlljbebdidgaaGreatDoorA0
import Derived.Test.YtpmlljbebdidgaaGreatDoorA37
import Derived.BigRegion
set_option linter.unusedSimpArgs false
set_option maxRecDepth 100000
set_option maxHeartbeats 4000000
namespace Go.Proofs.YtpmlljbebdidgaaGreatDoor
def shareF (a h : Nat) : Fr := rateF (a : Int) (h : Int)
theorem zdJ {a h : Nat} (hh : 1 ≤ h) : (shareF a h).valid = true := zdw (by omega)
theorem zc3 {a h : Nat} (hh : 1 ≤ h) : (shareF a h).n * (h : Int) = (a : Int) * (shareF a h).d := zhs (by omega)
theorem zlu {h : Nat} (hh : 1 ≤ h) : shareF h h = ⟨1, 1⟩ := by
  refine Fr.uniq (zdJ hh) (by decide) ?_
  have := zc3 (a := h) hh
  show (shareF h h).n * 1 = 1 * (shareF h h).d
  rw [zcC, Int.one_mul];rw [zce] at this;exact Int.eq_of_mul_eq_mul_left (by omega) this
theorem zhv {a b h : Nat} {g k : Int} (hh : 1 ≤ h) (hs : Small (shareF a h)) (hk : 1 ≤ k) (he : g * (a : Int) = k * (b : Int)) : timesF (shareF a h) g k = shareF b h := by
  have h1 := zgL (x := g) hs hk;have h2 := zc3 (a := a) hh;have h3 := zc3 (a := b) hh;have hd := hs.d1;refine Fr.uniq (zgK hs hk) (zdJ hh) ?_;generalize timesF (shareF a h) g k = T at *;generalize shareF b h = R at *;generalize shareF a h = F at *;have hpos : F.d * k * (h : Int) ≠ 0 := by
    have := zb2 (zb2 (show 0 < F.d by omega) (show 0 < k by omega)) (show (0 : Int) < h by omega)
    omega
  refine zbN hpos ?_
  calc T.n * R.d * (F.d * k * (h : Int)) = T.n * (F.d * k) * (R.d * (h : Int)) := by ac_rfl
    _ = F.n * g * T.d * (R.d * (h : Int)) := by rw [h1]
    _ = F.n * (h : Int) * (g * T.d * R.d) := by ac_rfl
    _ = (a : Int) * F.d * (g * T.d * R.d) := by rw [h2]
    _ = g * (a : Int) * (F.d * T.d * R.d) := by ac_rfl
    _ = k * (b : Int) * (F.d * T.d * R.d) := by rw [he]
    _ = (b : Int) * R.d * (k * F.d * T.d) := by ac_rfl
    _ = R.n * (h : Int) * (k * F.d * T.d) := by rw [h3]
    _ = R.n * T.d * (F.d * k * (h : Int)) := by ac_rfl
theorem zgt {a h : Nat} (ha : 1 ≤ a) (hh : 1 ≤ h) : 1 ≤ (shareF a h).n ∧ (shareF a h).n ≤ (a : Int) ∧ 1 ≤ (shareF a h).d ∧ (shareF a h).d ∣ (h : Int) ∧ (shareF a h).d ≤ (h : Int) := by
  obtain ⟨h1, h2, h3, h4⟩ := zgs (n := (a : Int)) (d := (h : Int)) (a := a) (b := h) (by omega) (zaT _) (by omega) (zaT _)
  refine ⟨h1, h2, h3, ?_, h4⟩;show newD (a : Int) (h : Int) ∣ (h : Int)
  unfold newD;rw [show ((h : Int)).natAbs = h from rfl]
  exact Int.ofNat_dvd.2 (Nat.div_dvd_of_dvd (zbC _ _))
theorem zka {a h : Nat} (ha : 1 ≤ a) (hh : 1 ≤ h) (ha2 : a ≤ 4096) (hh2 : h ≤ 4096) : Small (shareF a h) := by
  obtain ⟨h1, h2, h3, -, h5⟩ := zgt ha hh;exact ⟨zdJ hh, h1, by omega, by omega⟩
theorem zmW {a b h : Nat} {g k : Int} (hh : 1 ≤ h) (hs : Small (shareF a h)) (hk : 1 ≤ k) : timesF (shareF a h) g k = shareF b h ↔ g * (a : Int) = k * (b : Int) := by
  constructor
  · intro e
    have h1 := zgL (x := g) hs hk;have h2 := zc3 (a := a) hh;have h3 := zc3 (a := b) hh;have hd := hs.d1;have hv := Fr.pos (zdJ (a := b) hh);rw [e] at h1;generalize shareF b h = R at *;generalize shareF a h = F at *;have hpos : R.d * F.d ≠ 0 := by have := zb2 hv (show 0 < F.d by omega); omega
    refine (zbN hpos ?_).symm
    calc k * (b : Int) * (R.d * F.d) = (b : Int) * R.d * (k * F.d) := by ac_rfl
      _ = R.n * (h : Int) * (k * F.d) := by rw [h3]
      _ = R.n * (F.d * k) * (h : Int) := by ac_rfl
      _ = F.n * g * R.d * (h : Int) := by rw [h1]
      _ = F.n * (h : Int) * (g * R.d) := by ac_rfl
      _ = (a : Int) * F.d * (g * R.d) := by rw [h2]
      _ = g * (a : Int) * (R.d * F.d) := by ac_rfl
  · exact zhv hh hs hk
def denN(a h:Nat):Nat:=(shareF a h).d.natAbs
def numN(a h:Nat):Nat:=(shareF a h).n.natAbs
theorem zgB{a h:Nat}(ha:1≤a)(hh:1≤h):((denN a h:Nat):Int)=(shareF a h).d∧((numN a h:Nat):Int)=(shareF a h).n∧1≤denN a h∧1≤numN a h∧numN a h*h=a*denN a h∧denN a h∣h:=by
 obtain⟨h1,h2,h3,h4,h5⟩:=zgt ha hh;have e1:((denN a h:Nat):Int)=(shareF a h).d:=by unfold denN;omega
 have e2:((numN a h:Nat):Int)=(shareF a h).n:=by unfold numN;omega
 refine⟨e1,e2,by omega,by omega,?_,?_⟩
 ·have:=zc3 (a:=a) hh
  rw[←e1,←e2]at this
  exact_mod_cast this
 ·rw[←e1]at h4;exact Int.ofNat_dvd.1 h4
theorem zer{a h K:Nat}(ha:1≤a)(hh:1≤h)(hd:denN a h∣K):K/denN a h*numN a h*h=K*a:=by
 obtain⟨-,-,h3,-,h5,-⟩:=zgB ha hh;obtain⟨c,rfl⟩:=hd;rw[zci _ (by omega),zay,h5]
 ac_rfl
theorem zmX{G K:Nat→Nat}{T:List Edg}{R P:Nat→Nat}(hI:RInv G K T R P){h k:Nat}(hd:∀v,P v=P h→denN (R v) (R h)∣k)(hk:k∣R h):k=R h:=by
 have hp:=hI.pos;have hS:Solves G K T (fun v=>if P v=P h then k/denN (R v) (R h)*numN (R v) (R h)else R v):=by
  intro e he;have hc:P e.f=P e.t:=(hI.cls _ _).2 ⟨[(e.i,false)],e.t,⟨e,he,rfl,by simp⟩,rfl⟩
  have hev:=hI.ev e he;simp only;rw[hc];by_cases hb:P e.t=P h
  ·rw[if_pos hb,if_pos hb];have w1:=zer (K:=k) (hp e.f) (hp h) (hd e.f (hc.trans hb));have w2:=zer (K:=k) (hp e.t) (hp h) (hd e.t hb);refine zc0 (hp h) ?_;rw[zay,w1,zay,w2,zbS,hev,zbS]
  ·rw[if_neg hb,if_neg hb];exact hev
 obtain⟨m,hm⟩:=hI.least _ hS h;have h1:=hm h rfl;simp only at h1;rw[if_pos trivial]at h1;have w:=zer (K:=k) (hp h) (hp h) (hd h rfl);have hkk:k/denN (R h) (R h)*numN (R h) (R h)=k:=zc0 (hp h) w;rw[hkk]at h1;obtain⟨c,hc⟩:=hk;have hpos:=hp h;have hk0:0<k:=by
  rcases Nat.eq_zero_or_pos k with h0|h0
  ·rw[h0,zbA]at hc;omega
  ·exact h0
 have:R h≤k:=zbr hk0 ⟨m,by rw[h1,zaK]⟩
 have:k≤R h:=zbr hpos ⟨c,hc⟩
 omega
theorem zkb{a h:Nat}(ha:1≤a)(hh:1≤h):h/denN a h*numN a h=a:=by
 obtain⟨-,-,-,-,-,h6⟩:=zgB ha hh
 have:=zer (K:=h) ha hh h6
 rw[zaK h a]at this;exact zc0 hh this
end Go.Proofs.YtpmlljbebdidgaaGreatDoor
namespace Go.Proofs.YtpmlljbebdidgaaGreatDoor
open Go.RowKit
def okT(f:Fr):Bool:=decide (f.n≤4096)&&decide (f.d≤4096)
theorem zhu(f t:Fr)(k:Int)(x y:Int)(w:World)(hf:f.fit)(hx:1≤x)(hx2:x≤64)(hy:1≤y)(hy2:y≤64)(hm:mulR [f,rateF x y]=(t,k)):
  Calls Tryz.prog 28 #[.agg #[.int .i64 f.n, .int .i64 f.d], .int .i64 x, .int .i64 y] w fun e w'=>e= .returned (.tuple #[.agg #[.int .i64 t.n, .int .i64 t.d], .bool (decide (k=0)&&okT t)])∧Below w.heap.size w w':=by
 have HN:=Lh (fun w=>zoY x y w (by unfold fits;omega) (by unfold fits;omega))
 rw[zod hx hx2 hy hy2]at HN;have HM:=Lh (fun(A:Option Addr) (c:Nat) (w:World) (hr:Rd w w.heap.size A (zbg [f,rateF x y]))=>znX [f,rateF x y] A 2 c w rfl (fun a ha=>by
  simp at ha
  rcases ha with rfl|rfl
  ·exact hf
  ·obtain⟨h1,h2,h3,h4⟩:=zeA hx hx2 hy hy2;exact⟨by show fits (newN x y);unfold fits;omega,by show fits (newD x y);unfold fits;omega⟩) hr (by unfold maxLen;omega))
 rw[hm]at HM;simp only at HN HM;obtain⟨r,hr⟩:∃r,rateF x y=r:=⟨_,rfl⟩;rw[hr]at HN HM;obtain⟨fn,fd⟩:=f;obtain⟨rn,rd⟩:=r;obtain⟨tn,td⟩:=t;simp only at HN HM⊢;obtain⟨res,hre⟩:∃r,(decide (k=0)&&okT ⟨tn,td⟩)=r:=⟨_,rfl⟩;rw[hre];have HRE:=Lh hre;clear hre hr hm hf hx hx2 hy hy2;obtain⟨W,hW⟩:∃W,(w.alloc (.cells #[.int .i64 fn, .int .i64 fd] 87)).alloc (.cells #[.int .i64 0, .int .i64 0] 87)=W:=⟨_,rfl⟩;have bW:Below w.heap.size w W:=by subst hW;exact((zm _ _).alloc lR_ _).alloc (by simp) _
 have k0:Blk W w.heap.size 87 #[.int .i64 fn, .int .i64 fd]:=by subst hW;exact(Blk.new w _ rfl _ _).alloc _
 have k1:Blk W (w.heap.size+1) 87 #[.int .i64 0, .int .i64 0]:=by subst hW;exact Blk.new _ _ (by simp) _ _
 have K0:=Lh k0;have K1:=Lh k1;clear k0 k1
 go_enter Tryz.func28, Tryz.ntmps28
 go_wp2_with fail
 try rw[hW]
 refine(HN.out W).mono ?_;rintro e w2 ⟨rfl,hb2⟩;have b2:=bW.trans (hb2.mono bW.size);have k0:=(K0.out.below hb2 K0.out.lt);have k1:=(K1.out.below hb2 K1.out.lt);clear hW bW hb2 K0 K1;have HW:=Lh b2;have h2lt:=k1.lt;obtain⟨W3,hW3⟩:∃W,w2.alloc (.cells #[.int .i64 rn, .int .i64 rd] 87)=W:=⟨_,rfl⟩;have n3:=bA_ w2 (.cells #[.int .i64 rn, .int .i64 rd] 87);have k8:=bN_ n3;rw[hW3]at n3 k8;have b3:=b2.trans (n3.mono b2.size);have k0:=k0.below n3 k0.lt;have k1:=k1.below n3 h2lt;obtain⟨g8,hg8⟩:∃g,w2.heap.size=g:=⟨_,rfl⟩;rw[hg8]at k8;have f0:=k0.cell 0;have f1:=k0.cell 1;have f2:=k8.cell 0;have f3:=k8.cell 1;simp at f0 f1 f2 f3;have K1:=Lh k1;have n4:=bA_ W3 (.cells #[.int .i64 fn, .int .i64 fd, .int .i64 rn, .int .i64 rd] 87);have hm:=HM.out (some ⟨W3.heap.size,0,none⟩) 2 (W3.alloc (.cells #[.int .i64 fn, .int .i64 fd, .int .i64 rn, .int .i64 rd] 87)) ((zal W3 _ rfl 87 (zbg [⟨fn,fd⟩,⟨rn,rd⟩])).more (by simp))
 have HM2:=Lh hm;have b4:=Lh (b3.trans (n4.mono b3.size));have N4:=Lh n4;clear hm n3 n4 k0 k1 k8 b2 b3 HM HN HW
 go_wp2_with fail
 try rw[hW3,hg8]
 go_wp2_with fail;refine HM2.out.mono ?_
 rintro e w5 ⟨rfl,hb5⟩;have b5:=b4.out.trans (hb5.mono b4.out.size);have k1:=(K1.out.below N4.out K1.out.lt).below hb5 (by have:=K1.out.lt;simp;omega)
 clear hW3 hg8 f0 f1 f2 f3 hb5 b4 N4 K1 HM2;have hlt5:=k1.lt;have n6:=bA_ w5 (.cells #[.int .i64 tn, .int .i64 td] 87);have k10:=bN_ n6;have b6:=b5.trans (n6.mono b5.size);have k1:=k1.below n6 k1.lt;obtain⟨W6,hW6⟩:=wN_ n6;obtain⟨g10,hg10⟩:∃g,w5.heap.size=g:=⟨_,rfl⟩;obtain⟨g6,hg6⟩:∃g,w.heap.size+1=g:=⟨_,rfl⟩;rw[hW6]at b6 k1 k10;rw[hg10]at k10;rw[hg6]at k1;have c0:=k10.cell 0;have c1:=k10.cell 1;have d0:=k1.cell 0;have d1:=k1.cell 1;have z0:=k1.frozen 0;have z1:=k1.frozen 1;simp at c0 c1 d0 d1;have kn:=((k1.set 0 (.int .i64 tn)).set 1 (.int .i64 td));have bn:=((b6.setCell (p:=⟨g6,0,none⟩) (by show w.heap.size≤g6;omega) (.int .i64 tn)).setCell (p:=⟨g6,1,none⟩) (by show w.heap.size≤g6;omega) (.int .i64 td))
 have hne:g10≠g6:=by omega
 have kf:=(k10.far (p:=⟨g6,0,none⟩) hne (.int .i64 tn)).far (p:=⟨g6,1,none⟩) hne (.int .i64 td);have e0:=kf.cell 0;have e1:=kf.cell 1;have r0:=kn.cell 0;have r1:=kn.cell 1;simp at e0 e1 r0 r1;have KN:=Lh kn;have BN:=Lh bn;rw[hg6];clear hg6 kn bn k1 k10 b5 b6 n6 h2lt kf hne hlt5;by_cases hk:k=0
 case neg=>
  have qk:(k==0)=false:=by simp[hk]
  obtain rfl:res=false:=by rw[←HRE.out,decide_eq_false hk];rfl
  clear HRE hk
  go_wp2_with fail
  try rw[hW6]
  try rw[hg10]
  go_region
  go_wp2_with fail;exact bodyPost_ret (v:= .tuple #[.agg #[.int .i64 tn, .int .i64 td], .bool false]) (by simp[results, Tryz.results28,go_sem,r0,r1]) rfl ⟨rfl,BN.out.drew⟩
 subst hk;by_cases h1:tn≤4096
 ·have q1:decide (tn≤4096)=true:=decide_eq_true h1
  by_cases h2:td≤4096
  ·have q2:decide (td≤4096)=true:=decide_eq_true h2
   obtain rfl:res=true:=by rw[←HRE.out];unfold okT;simp only;rw[q1,q2];rfl
   clear HRE h1
   go_wp2_with fail
   try rw[hW6]
   try rw[hg10]
   go_region
   go_wp2_with fail;exact bodyPost_ret (v:= .tuple #[.agg #[.int .i64 tn, .int .i64 td], .bool true]) (by simp[results, Tryz.results28,go_sem,r0,r1]) rfl ⟨rfl,BN.out.drew⟩
  ·have q2:decide (td≤4096)=false:=decide_eq_false h2
   obtain rfl:res=false:=by rw[←HRE.out];unfold okT;simp only;rw[q1,q2];rfl
   clear HRE h1
   go_wp2_with fail
   try rw[hW6]
   try rw[hg10]
   go_region
   go_wp2_with fail;exact bodyPost_ret (v:= .tuple #[.agg #[.int .i64 tn, .int .i64 td], .bool false]) (by simp[results, Tryz.results28,go_sem,r0,r1]) rfl ⟨rfl,BN.out.drew⟩
 ·have q1:decide (tn≤4096)=false:=decide_eq_false h1
  by_cases h2:True
  ·clear h2;obtain rfl:res=false:=by rw[←HRE.out];unfold okT;simp only;rw[q1];rfl
   clear HRE h1
   go_wp2_with fail
   try rw[hW6]
   try rw[hg10]
   go_region
   go_wp2_with fail;exact bodyPost_ret (v:= .tuple #[.agg #[.int .i64 tn, .int .i64 td], .bool false]) (by simp[results, Tryz.results28,go_sem,r0,r1]) rfl ⟨rfl,BN.out.drew⟩
  ·exact absurd trivial h2
theorem zlt(f:Fr)(x y:Int)(w:World)(hf:Small f)(hx:1≤x)(hx2:x≤64)(hy:1≤y)(hy2:y≤64):
  Calls Tryz.prog 28 #[.agg #[.int .i64 f.n, .int .i64 f.d], .int .i64 x, .int .i64 y] w fun e w'=>e= .returned (.tuple #[.agg #[.int .i64 (timesF f x y).n, .int .i64 (timesF f x y).d], .bool (okT (timesF f x y))])∧Below w.heap.size w w':=
 zhu f (timesF f x y) 0 x y w hf.fit hx hx2 hy hy2 (times_mul hf hx hx2 hy hy2)
def ShareOk(f:Fr):Prop:=f.fit∧(f=⟨0,0⟩∨(f.valid=true∧1≤f.n))
theorem zmV{f:Fr}{x y:Int}(hf:f.fit)(hv:f.valid=true)(hn:1≤f.n)(hx:1≤x)(hx2:x≤64)(hy:1≤y)(hy2:y≤64):∃t k,mulR [f,rateF x y]=(t,k)∧ShareOk t∧(Small f→t=timesF f x y∧k=0):=by
 by_cases hs:Small f
 ·refine⟨_,_,times_mul hs hx hx2 hy hy2,?_,fun _=>⟨rfl,rfl⟩⟩
  obtain⟨h1,h2,h3,h4⟩:=zeA hx hx2 hy hy2;obtain⟨g1,g2,g3,g4⟩:=zht (r:=rateF x y) hs h1 h2 h3 h4;exact⟨⟨by show fits (timesF f x y).n;unfold timesF fits;omega,by show fits (timesF f x y).d;unfold timesF fits;omega⟩, .inr ⟨zgK hs hy,g1⟩⟩
 ·have hr:=zdw (x:=x) hy;obtain⟨h1,h2,h3,h4⟩:=zeA hx hx2 hy hy2;have hq:(rateF x y).n=newN x y:=rfl;unfold mulR;rw[if_pos (by simp[hv,hr])]
  have o1:=zdI hf.1;have o2:=zdI hf.2;simp only[zds,zjw hv,o1,o2,Bool.and_self,if_true];by_cases hb:(okB (mul2 f (rateF x y)).n&&okB (mul2 f (rateF x y)).d)=true
  ·rw[if_pos hb];rw[zag]at hb;refine⟨_,_,rfl,⟨⟨zbk.1 hb.1,zbk.1 hb.2⟩, .inr ⟨zd5 hv hr,?_⟩⟩,fun h=>absurd h hs⟩
   have hw:=zfV hv hr;have hp:=Fr.pos (zd5 hv hr);have hp1:=Fr.pos hv;have hp2:=Fr.pos hr;generalize mul2 f (rateF x y)=m at*;have a1:0<f.n*(rateF x y).n*m.d:=zb2 (zb2 (by omega) (by omega)) hp
   rw[←hw]at a1;have a2:0<f.d*(rateF x y).d:=zb2 hp1 hp2;by_cases h:0<m.n
   ·omega
   ·have h:=Int.not_lt.1 h
    have:=Int.mul_nonpos_of_nonpos_of_nonneg h (Int.le_of_lt a2)
    omega
  ·rw[if_neg hb];exact⟨_,_,rfl,⟨⟨by unfold fits;simp,by unfold fits;simp⟩, .inl rfl⟩,fun h=>absurd h hs⟩
def unsetF:Fr:=⟨0,0⟩
theorem Rd.frAt{w:World}{B:Nat}{b off:Nat}{fs:List Fr}{k:Nat}{f:Fr}(h:Rd w B (some ⟨b,off,none⟩) (zbg fs))(hx:∀a∈fs,a.fit)(hk:fs[k]?=some f):w.cell? ⟨b,off+k*2,none⟩=some (.int .i64 f.n)∧w.cell? ⟨b,off+k*2+1,none⟩=some (.int .i64 f.d)∧b<B∧f.fit:=by
 have hl:=(zu.1 hk).1;obtain⟨b',off',g,hA,hb,hf,c0,c1,-,hg⟩:=h.fr hx hl;obtain⟨rfl,rfl⟩:b=b'∧off=off':=by injection hA with h;injection h with h h';exact⟨h,h'⟩
 obtain rfl:f=g:=by have:=hg.out;rw[hk]at this;exact zq this
 exact⟨c0,c1,hb,hf⟩
theorem spread1_near(from_ to_:Nat)(g k:Int)(fs:List Fr)(n Bs Bf gS B:Nat)(w:World)(hs:w.cell? ⟨Bs,0,none⟩=some (.slice (some ⟨gS,0,none⟩) n n))(hx:∀a∈fs,a.fit)(hr:Rd w B (some ⟨gS,0,none⟩) (zbg fs))(hf:from_<n)(h0:fs[from_]?=some unsetF):
  Calls Tryz.prog 50 #[.int .i64 (from_:Nat), .int .i64 (to_:Nat), .int .i64 g, .int .i64 k, .pointer (some ⟨Bs,0,none⟩), .pointer (some ⟨Bf,0,none⟩)] w fun e w'=>e= .returned (.bool false)∧w=w':=by
 obtain⟨c0,c1,hb,-⟩:=hr.frAt hx h0;rw[zaq]at c0 c1;have e0:unsetF.n=0:=rfl;have e1:unsetF.d=0:=rfl;rw[e0]at c0;rw[e1]at c1;have i1:(0:Int)≤(from_:Int):=by omega
 have i2:(from_:Int)<(n:Int):=by omega
 clear e0 e1 hr hx h0
 go_enter Tryz.func50, Tryz.ntmps50
 go_wp2_with fail
 go_ret;exact⟨rfl,rfl⟩
theorem zkc(from_ to_:Nat)(g k:Int)(fs:List Fr)(f t:Fr)(n Bs Bf gS B:Nat)(w:World)(hs:w.cell? ⟨Bs,0,none⟩=some (.slice (some ⟨gS,0,none⟩) n n))(hx:∀a∈fs,a.fit)(hr:Rd w B (some ⟨gS,0,none⟩) (zbg fs))(hf:from_<n)(ht:to_<n)
  (h0:fs[from_]?=some f) (h1:fs[to_]?=some t) (hfn:1≤f.n) (htn:1≤t.n):
  Calls Tryz.prog 50 #[.int .i64 (from_:Nat), .int .i64 (to_:Nat), .int .i64 g, .int .i64 k, .pointer (some ⟨Bs,0,none⟩), .pointer (some ⟨Bf,0,none⟩)] w fun e w'=>e= .returned (.bool false)∧w=w':=by
 obtain⟨c0,c1,hb,-⟩:=hr.frAt hx h0;obtain⟨d0,d1,-,-⟩:=hr.frAt hx h1;rw[zaq]at c0 c1 d0 d1;obtain⟨fn,fd⟩:=f;obtain⟨tn,td⟩:=t;simp only at c0 c1 d0 d1 hfn htn;have q1:(fn==0)=false:=by simp;omega
 have q2:(tn==0)=false:=by simp;omega
 have n1:¬fn=0:=by omega
 have n2:¬tn=0:=by omega
 have i1:(0:Int)≤(from_:Int):=by omega
 have i2:(from_:Int)<(n:Int):=by omega
 have i3:(0:Int)≤(to_:Int):=by omega
 have i4:(to_:Int)<(n:Int):=by omega
 clear hr hx h0 h1
 go_enter Tryz.func50, Tryz.ntmps50
 go_wp2_with fail
 go_ret;exact⟨rfl,rfl⟩
structure zcc(w0 w:World)(gS Bs Bf n:Nat)(fs:List Fr)(fit:Bool):Prop where
 row:w.ownsRow gS 87 2 (.slice (some ⟨gS,0,none⟩) n n) n (zbg fs)
 ks:Blk w Bs 82 #[.slice (some ⟨gS,0,none⟩) n n]
 kf:Blk w Bf 4 #[.bool fit]
 bw:Below w0.heap.size w0 w
 len:fs.length=n
 ok:∀f∈fs,ShareOk f
 s0:w0.heap.size≤gS
 s1:gS<Bs
 s2:Bs<Bf
theorem zcc.rd{w0 w:World}{gS Bs Bf n:Nat}{fs:List Fr}{fit:Bool}(h:zcc w0 w gS Bs Bf n fs fit):Rd w w.heap.size (some ⟨gS,0,none⟩) (zbg fs):=rd_of_own h.row
theorem zcc.fits{w0 w:World}{gS Bs Bf n:Nat}{fs:List Fr}{fit:Bool}(h:zcc w0 w gS Bs Bf n fs fit):∀f∈fs,f.fit:=fun f hf=>(h.ok f hf).1
theorem zcc.below{w0 w w':World}{gS Bs Bf n:Nat}{fs:List Fr}{fit:Bool}(h:zcc w0 w gS Bs Bf n fs fit)(hb:Below w.heap.size w w'):zcc w0 w' gS Bs Bf n fs fit:=
 ⟨own_below h.row hb,h.ks.below hb h.ks.lt,h.kf.below hb h.kf.lt,h.bw.trans (hb.mono h.bw.size),h.len,h.ok,h.s0,h.s1,h.s2⟩
theorem zcc.alloc{w0 w:World}{gS Bs Bf n:Nat}{fs:List Fr}{fit:Bool}(h:zcc w0 w gS Bs Bf n fs fit)(o:Obj):zcc w0 (w.alloc o) gS Bs Bf n fs fit:=h.below ((zm _ _).alloc lR_ o)
theorem zcc.drewN{w0 w:World}{gS Bs Bf n:Nat}{fs:List Fr}{fit:Bool}(h:zcc w0 w gS Bs Bf n fs fit)(d:Nat):zcc w0 (w.drewN d) gS Bs Bf n fs fit:=h.below (Below.drewN (zm _ _) d)
theorem zhw(fs:List Fr)(k:Nat)(t:Fr):((zbg fs).set (k*2) (.int .i64 t.n)).set (k*2+1) (.int .i64 t.d)=zbg (fs.set k t):=by
 induction fs generalizing k with
 |nil=>simp[zbg]
 |cons f fs ih=>
  cases k with
  |zero=>simp[zdG,Fr.cells]
  |succ k=>
   rw[zd,zdG,zdG,←ih k];simp[Fr.cells,Nat.succ_mul]
theorem zcc.store{w0 w:World}{gS Bs Bf n:Nat}{fs:List Fr}{fit:Bool}(h:zcc w0 w gS Bs Bf n fs fit)(k:Nat)(t:Fr)(ht:ShareOk t)(b:Bool):
  zcc w0 (((w.setCell ⟨gS,k*2,none⟩ (.int .i64 t.n)).setCell ⟨gS,k*2+1,none⟩ (.int .i64 t.d)).setCell ⟨Bf,0,none⟩ (.bool b)) gS Bs Bf n (fs.set k t) b:=by
 have s0:=h.s0;have s1:=h.s1;have s2:=h.s2;have o1:=(h.row.stored (k*2) (.int .i64 t.n)).1;have o2:=(o1.stored (k*2+1) (.int .i64 t.d)).1;rw[zhw]at o2;refine⟨ownsRow_setCell_other o2 (by simp[Value.ownBlock];omega) _,((h.ks.far (by simp;omega) _).far (by simp;omega) _).far (by simp;omega) _,?_,((h.bw.setCell (by simp;omega) _).setCell (by simp;omega) _).setCell (by simp;omega) _,by simp[h.len],fun f hf=>?_,s0,s1,s2⟩
 ·exact((h.kf.far (by simp;omega) _).far (by simp;omega) _).set 0 (.bool b)
 ·rcases zdc hf with hf|rfl
  ·exact h.ok f hf
  ·exact ht
def zhx(gS Bf:Nat)(w w':World):Prop:=∀g,g<w.heap.size→g≠gS→g≠Bf→w'.heap[g]?=w.heap[g]?
theorem zhx.blk{gS Bf:Nat}{w w':World}(h:zhx gS Bf w w'){g:Nat}{t:TypeId}{cs:Array Value}(hk:Blk w g t cs)(h1:g≠gS)(h2:g≠Bf):Blk w' g t cs:=(h g hk.lt h1 h2).trans hk
theorem zlv(from_ to_:Nat)(g k:Int)(fs:List Fr)(f t:Fr)(kk:Int)(fit:Bool)(n Bs Bf gS:Nat)(w0 w:World)(H:zcc w0 w gS Bs Bf n fs fit)(hf:from_<n)(ht:to_<n)
  (h0:fs[from_]?=some f) (h1:fs[to_]?=some unsetF) (hfn:1≤f.n) (hg:1≤g) (hg2:g≤64) (hk:1≤k) (hk2:k≤64) (hm:mulR [f,rateF g k]=(t,kk)) (hto:ShareOk t):
  Calls Tryz.prog 50 #[.int .i64 (from_:Nat), .int .i64 (to_:Nat), .int .i64 g, .int .i64 k, .pointer (some ⟨Bs,0,none⟩), .pointer (some ⟨Bf,0,none⟩)] w fun e w'=>e= .returned (.bool (decide (kk=0)&&okT t))∧zcc w0 w' gS Bs Bf n (fs.set to_ t) (fit&&(decide (kk=0)&&okT t))∧zhx gS Bf w w':=by
 obtain⟨c0,c1,hb,ff⟩:=H.rd.frAt H.fits h0;obtain⟨d0,d1,-,-⟩:=H.rd.frAt H.fits h1;rw[zaq]at c0 c1 d0 d1;have e0:unsetF.n=0:=rfl;have e1:unsetF.d=0:=rfl;rw[e0]at d0;rw[e1]at d1;have HT:=Lh (fun w=>zhu f t kk g k w ff hg hg2 hk hk2 hm)
 have hs:=H.ks.cell 0;simp at hs;have HTO:=Lh hto;obtain⟨res,hres⟩:∃b,(decide (kk=0)&&okT t)=b:=⟨_,rfl⟩;rw[hres]at HT⊢;obtain⟨fn,fd⟩:=f;obtain⟨tn,td⟩:=t;simp only at c0 c1 hfn HT;have q1:(fn==0)=false:=by simp;omega
 have i1:(0:Int)≤(from_:Int):=by omega
 have i2:(from_:Int)<(n:Int):=by omega
 have i3:(0:Int)≤(to_:Int):=by omega
 have i4:(to_:Int)<(n:Int):=by omega
 have HS:=Lh H;have H1:=Lh h1;clear e0 e1 h0 h1 hg hg2 hk hk2 hm hto hres H ff
 go_enter Tryz.func50, Tryz.ntmps50
 go_wp2_with fail;refine(HT.out w).mono ?_
 rintro e w2 ⟨rfl,hb2⟩;have H2:=HS.out.below hb2;clear HT HS c0 c1 d0 d1 hs;have H3:=H2.alloc (.cells #[.int .i64 tn, .int .i64 td] 87);have n3:=Blk.new w2 _ rfl 87 #[.int .i64 tn, .int .i64 td];obtain⟨W3,hW3⟩:∃W,w2.alloc (.cells #[.int .i64 tn, .int .i64 td] 87)=W:=⟨_,rfl⟩;rw[hW3]at H3 n3;obtain⟨g3,hg3⟩:∃g,w2.heap.size=g:=⟨_,rfl⟩;rw[hg3]at n3;have a0:=n3.cell 0;have a1:=n3.cell 1;have a2:=H3.ks.cell 0;have a3:=H3.kf.cell 0;obtain⟨b0,b1,-,-⟩:=H3.rd.frAt H3.fits H1.out;rw[zaq]at b0 b1;have z1:=H3.row.frozenAt (to_*2);have z3:=H3.row.frozenAt (to_*2+1);have hne:gS≠Bf:=by have:=H3.s1;have:=H3.s2;omega
 have hne':Bf≠gS:=hne.symm
 have z2:=H3.kf.frozen 0;simp at a0 a1 a2 a3;have HN:=Lh (H3.store to_ ⟨tn,td⟩ HTO.out (fit&&res));have HO:=Lh (show zhx gS Bf w (((W3.setCell ⟨gS,to_*2,none⟩ (.int .i64 tn)).setCell ⟨gS,to_*2+1,none⟩ (.int .i64 td)).setCell ⟨Bf,0,none⟩ (.bool (fit&&res)))from fun x hx h1 h2=>by
  rw[zaa _ _ _ _ h2,zaa _ _ _ _ h1,zaa _ _ _ _ h1,←hW3,Below.heap_alloc _ _ _ (zP hx hb2.size)];exact hb2.block x hx)
 clear H3 n3 H2 HTO H1 hb2;cases fit
 ·go_wp2_with fail
  try rw[hW3]
  try rw[hg3]
  go_region
  go_wp2_with fail
  go_ret;exact⟨rfl,HN.out.drewN 1,HO.out⟩
 ·go_wp2_with fail
  try rw[hW3]
  try rw[hg3]
  go_region
  go_wp2_with fail
  go_ret;exact⟨rfl,HN.out.drewN 1,HO.out⟩
def zhy(fs:List Fr)(fit:Bool)(from_ to_:Nat)(g k:Int)(fs':List Fr)(fit' b:Bool):Prop:=
 (b=false∧fs'=fs∧fit'=fit∧(fs[from_]?=some unsetF∨∃t,fs[to_]?=some t∧1≤t.n))∨
 (∃f t kk,fs[from_]?=some f∧f.valid=true∧1≤f.n∧fs[to_]?=some unsetF∧ShareOk t∧mulR [f,rateF g k]=(t,kk)∧b=(decide (kk=0)&&okT t)∧fs'=fs.set to_ t∧fit'=(fit&&b))
theorem zgM(from_ to_:Nat)(g k:Int)(fs:List Fr)(fit:Bool)(n Bs Bf gS:Nat)(w0 w:World)(H:zcc w0 w gS Bs Bf n fs fit)(hf:from_<n)(ht:to_<n)(hg:1≤g)(hg2:g≤64)(hk:1≤k)(hk2:k≤64):
  Calls Tryz.prog 50 #[.int .i64 (from_:Nat), .int .i64 (to_:Nat), .int .i64 g, .int .i64 k, .pointer (some ⟨Bs,0,none⟩), .pointer (some ⟨Bf,0,none⟩)] w fun e w'=>∃fs' fit' b,e= .returned (.bool b)∧zcc w0 w' gS Bs Bf n fs' fit'∧zhy fs fit from_ to_ g k fs' fit' b∧zhx gS Bf w w':=by
 have hs:=H.ks.cell 0;simp at hs;obtain⟨f,h0⟩:∃f,fs[from_]?=some f:=⟨_,zk (by rw[H.len];exact hf)⟩
 obtain⟨t,h1⟩:∃t,fs[to_]?=some t:=⟨_,zk (by rw[H.len];exact ht)⟩
 have of:=H.ok f (zv h0);have ot:=H.ok t (zv h1);rcases of.2 with rfl|⟨fv,fp⟩
 ·refine(spread1_near from_ to_ g k fs n Bs Bf gS w.heap.size w hs H.fits H.rd hf h0).mono ?_;rintro e w' ⟨rfl,rfl⟩;exact⟨fs,fit,false,rfl,H, .inl ⟨rfl,rfl,rfl, .inl h0⟩,fun _ _ _ _=>rfl⟩
 ·rcases ot.2 with rfl|⟨tv,tp⟩
  ·obtain⟨t,kk,hm,hto,-⟩:=zmV (x:=g) (y:=k) of.1 fv fp hg hg2 hk hk2;refine(zlv from_ to_ g k fs f t kk fit n Bs Bf gS w0 w H hf ht h0 h1 fp hg hg2 hk hk2 hm hto).mono ?_;rintro e w' ⟨rfl,H',HO⟩;exact⟨_,_,_,rfl,H', .inr ⟨f,t,kk,h0,fv,fp,h1,hto,hm,rfl,rfl,rfl⟩,HO⟩
  ·refine(zkc from_ to_ g k fs f t n Bs Bf gS w.heap.size w hs H.fits H.rd hf ht h0 h1 fp tp).mono ?_;rintro e w' ⟨rfl,rfl⟩;exact⟨fs,fit,false,rfl,H, .inl ⟨rfl,rfl,rfl, .inr ⟨t,h1,tp⟩⟩,fun _ _ _ _=>rfl⟩
end Go.Proofs.YtpmlljbebdidgaaGreatDoor
namespace Go.Proofs.YtpmlljbebdidgaaGreatDoor
def gN(ars:List ArcV)(i:Nat):Nat:=(ars[i]?.elim 1 fun a=>a.g).toNat
def kN(ars:List ArcV)(i:Nat):Nat:=(ars[i]?.elim 1 fun a=>a.k).toNat
theorem zoy{ars:List ArcV}{i:Nat}{a:ArcV}(h:ars[i]?=some a):gN ars i=a.g.toNat:=by unfold gN;rw[h];rfl
theorem zoz{ars:List ArcV}{i:Nat}{a:ArcV}(h:ars[i]?=some a):kN ars i=a.k.toNat:=by unfold kN;rw[h];rfl
theorem zjx(n:Int):∀(ars:List ArcV),arcsF n ars=0→∀a∈ars,1≤a.g∧a.g≤64∧1≤a.k∧a.k≤64
 |[],_,a,ha=>by cases ha
 |x::xs,h,a,ha=>by
  rw[arcsF]at h;by_cases hx:arcF n x=0
  ·rw[if_pos hx]at h;rcases zV.1 ha with rfl|ha
   ·unfold arcF at hx;split at hx
    ·cases hx
    ·split at hx
     ·cases hx
     ·omega
   ·exact zjx n xs h a ha
  ·rw[if_neg hx]at h;exact absurd h hx
theorem zlw{n:Int}{ars:List ArcV}(hc:checkF n ars=0):arcsF n ars=0:=by
 unfold checkF at hc;split at hc
 ·cases hc
 ·split at hc
  ·cases hc
  ·exact hc
structure Ctx(n:Nat)(ars:List ArcV)(T:List Edg)(R P:Nat→Nat):Prop where
 fi:FInv n ars ars.length (upF n ars) (treeF n ars) T
 ri:RInv (gN ars) (kN ars) T R P
 arc:∀a∈ars,0≤a.f∧a.f<n∧0≤a.t∧a.t<n∧1≤a.g∧a.g≤64∧1≤a.k∧a.k≤64
 n1:1≤n
 n2:n≤32
theorem zpy{n:Nat}{ars:List ArcV}(hc:checkF n ars=0):∃T,Ctx n ars T (countsR (gN ars) (kN ars) T).1 (countsR (gN ars) (kN ars) T).2:=by
 obtain⟨h1,h2,-,h4⟩:=zew hc;obtain⟨T,hT⟩:=ziP (n:=n) (ars:=ars) h4;have hr:=zjx n ars (zlw hc);refine⟨T,hT,zjv hT.forest (fun e he=>?_),fun a ha=>?_,h1,h2⟩
 ·obtain⟨-,-,-,a,ha,-,-⟩:=hT.edge e he
  have:=hr a (zv ha)
  rw[zoy ha,zoz ha];omega
 ·have:=h4 a ha
  have:=hr a ha
  omega
def hm(n:Nat)(ars:List ArcV)(v:Nat):Nat:=root (upF n ars) v
theorem zhz(n:Nat)(ars:List ArcV)(v:Nat):hm n ars v≤v:=zfA _ _
theorem zlx(n:Nat)(ars:List ArcV)(v:Nat):hm n ars (hm n ars v)=hm n ars v:=zev _ _
theorem Ctx.edge{n:Nat}{ars:List ArcV}{T:List Edg}{R P:Nat→Nat}(C:Ctx n ars T R P){e:Edg}(he:e∈T):
  ∃a,ars[e.i]?=some a∧a.f=(e.f:Int)∧a.t=(e.t:Int)∧e.f<n∧e.t<n∧hm n ars e.f=hm n ars e.t∧a.g*(R e.f:Int)=a.k*(R e.t:Int):=by
 obtain⟨h1,h2,h3,a,ha,hf,ht⟩:=C.fi.edge e he;refine⟨a,ha,hf,ht,h2,h3,(C.fi.conn _ _ h2 h3).2 ⟨[(e.i,false)],e.t,⟨e,he,rfl,by simp⟩,rfl⟩,?_⟩
 have hev:=C.ri.ev e he;rw[zoy ha,zoz ha]at hev;have hb:=C.arc a (zv ha);have h5:((a.g.toNat*R e.f:Nat):Int)=((a.k.toNat*R e.t:Nat):Int):=by rw[hev]
 rw[zax,zax,zbG (by omega),zbG (by omega)]at h5
 exact h5
theorem Ctx.same{n:Nat}{ars:List ArcV}{T:List Edg}{R P:Nat→Nat}(C:Ctx n ars T R P){i:Nat}{a:ArcV}(ha:ars[i]?=some a):hm n ars a.f.toNat=hm n ars a.t.toNat:=
 C.fi.all i a (zu.1 ha).1 ha
theorem Ctx.part{n:Nat}{ars:List ArcV}{T:List Edg}{R P:Nat→Nat}(C:Ctx n ars T R P){u v:Nat}(hu:u<n)(hv:v<n):P u=P v↔hm n ars u=hm n ars v:=by
 rw[C.ri.cls,←C.fi.conn u v hu hv];rfl
def shF(n:Nat)(ars:List ArcV)(R:Nat→Nat)(v:Nat):Fr:=shareF (R v) (R (hm n ars v))
def Big(n:Nat)(R:Nat→Nat):Prop:=∃v,v<n∧4096<R v
structure SInv(n:Nat)(ars:List ArcV)(R:Nat→Nat)(fs:List Fr)(fit:Bool):Prop where
 good:fit=true→∀v f,fs[v]?=some f→f=unsetF∨(f=shF n ars R v∧Small f)
 home:fit=true→∀v,v<n→hm n ars v=v→∃f,fs[v]?=some f∧f≠unsetF
 big:fit=false→Big n R
def zcd(fs:List Fr):Nat:=(fs.filter fun f=>decide (f.n=0)).length
theorem zjy:∀(fs:List Fr) (k:Nat) (t:Fr),fs[k]?=some unsetF→1≤t.n→zcd (fs.set k t)<zcd fs
 |[],k,t,h,_=>by simp at h
 |f::fs,0,t,h,ht=>by
  simp at h
  subst h;simp only[ze,zcd];rw[List.filter_cons_of_neg (by simp;omega),List.filter_cons_of_pos (by simp[unsetF])]
  simp
 |f::fs,k+1,t,h,ht=>by
  simp at h
  have:=zjy fs k t h ht
  simp only[zd,zcd]at this⊢;rw[List.filter_cons,List.filter_cons];split<;>simp<;>omega
theorem unset_ne{f:Fr}(h:1≤f.n):f≠unsetF:=fun e=>by rw[e]at h;exact absurd h (by decide)
theorem zmY{n:Nat}{ars:List ArcV}{T:List Edg}{R P:Nat→Nat}(C:Ctx n ars T R P){fs fs':List Fr}{fit fit' b:Bool}(hl:fs.length=n)(H:SInv n ars R fs fit){u v:Nat}{g k:Int}(hv:v<n)
  (hh:hm n ars u=hm n ars v) (hg:1≤g) (hg2:g≤64) (hk:1≤k) (hk2:k≤64) (he:g*(R u:Int)=k*(R v:Int)) (hs:zhy fs fit u v g k fs' fit' b):
  SInv n ars R fs' fit'∧(fit'=true→(b=true→zcd fs'<zcd fs)∧(b=false→fs'=fs∧(fs[u]?=some unsetF∨∃t,fs[v]?=some t∧1≤t.n))):=by
 rcases hs with⟨rfl,rfl,rfl,hw⟩|⟨f,t,kk,h0,fv,fp,h1,ht,hm',hb,hfs,hft⟩
 ·exact⟨H,fun _=>⟨fun h=>(by cases h),fun _=>⟨rfl,hw⟩⟩⟩
 ·have hpu:=C.ri.pos u;have hpv:=C.ri.pos v;have hph:=C.ri.pos (hm n ars v);cases fit with
  |false=>
   rw[Bool.false_and]at hft;subst hft;exact⟨⟨fun h=>(by cases h),fun h=>(by cases h),H.big⟩,fun h=>(by cases h)⟩
  |true=>
   rw[za3]at hft;subst hft;rcases H.good rfl u f h0 with rfl|⟨hf,hsm⟩
   ·exact absurd fp (by decide)
   ·rw[times_mul hsm hg hg2 hk hk2]at hm';injection hm' with e1 e2;subst e2;rw[decide_eq_true rfl,za3]at hb;have hs2:shareF (R u) (R (hm n ars v))=f:=by rw[hf,←hh];rfl
    have e3:t=shF n ars R v:=by
     rw[←e1,←hs2];exact zhv hph (by rw[hs2];exact hsm) hk he
    obtain⟨d1,d2,d3,-,d5⟩:=zgt hpv hph;have e4:shareF (R v) (R (hm n ars v))=t:=e3.symm;rw[e4]at d1 d2 d3 d5;subst hfs;subst hb;refine⟨⟨fun hok w x hw=>?_,fun hok w hw hww=>?_,fun hno=>?_⟩,fun hok=>⟨fun _=>zjy fs v t h1 d1,fun h=>by rw[hok]at h;cases h⟩⟩
    ·unfold okT at hok;rw[zag,decide_eq_true_eq,decide_eq_true_eq]at hok;rw[zaJ]at hw;by_cases hvw:v=w
     ·subst hvw;rw[if_pos rfl,if_pos (by omega)]at hw
      injection hw with hw
      subst hw;exact .inr ⟨e3,⟨by rw[←e4];exact zdJ hph,d1,hok.1,hok.2⟩⟩
     ·rw[if_neg hvw]at hw;exact H.good rfl w x hw
    ·rw[zaJ];by_cases hvw:v=w
     ·subst hvw;exact⟨t,by rw[if_pos rfl,if_pos (by omega)],unset_ne d1⟩
     ·rw[if_neg hvw];exact H.home rfl w hw hww
    ·unfold okT at hno
     have:=zhz n ars v
     by_cases hx:t.n≤4096
     ·rw[decide_eq_true hx,za3,decide_eq_false_iff_not]at hno;exact⟨hm n ars v,by omega,by omega⟩
     ·exact⟨v,hv,by omega⟩
def Closed(fs:List Fr)(e:Edg):Prop:=(fs[e.f]?=some unsetF∨∃t,fs[e.t]?=some t∧1≤t.n)∧(fs[e.t]?=some unsetF∨∃t,fs[e.f]?=some t∧1≤t.n)
theorem zjz{T:List Edg}{fs:List Fr}(hc:∀e∈T,Closed fs e):∀{p:List Stp} {u v:Nat},Walk T u p v→(∃t,fs[u]?=some t∧1≤t.n)→∃t,fs[v]?=some t∧1≤t.n
 |[],u,v,h,hu=>by rw[←show u=v from h];exact hu
 |s::p,u,v,⟨m,⟨e,he,_,h2⟩,h3⟩,hu=>by
  refine zjz hc h3 ?_;obtain⟨t,ht,htn⟩:=hu;obtain⟨c1,c2⟩:=hc e he;split at h2
  ·obtain⟨rfl,rfl⟩:=h2;rcases c2 with c2|c2
   ·rw[c2]at ht;injection ht with ht;subst ht;exact absurd htn (by decide)
   ·exact c2
  ·obtain⟨rfl,rfl⟩:=h2;rcases c1 with c1|c1
   ·rw[c1]at ht;injection ht with ht;subst ht;exact absurd htn (by decide)
   ·exact c1
theorem zoe{n:Nat}{ars:List ArcV}{T:List Edg}{R P:Nat→Nat}(C:Ctx n ars T R P){fs:List Fr}(hl:fs.length=n)(H:SInv n ars R fs true)(hc:∀e∈T,Closed fs e):
  fs=(List.range n).map (shF n ars R)∧∀v,v<n→Small (shF n ars R v):=by
 have all:∀v,v<n→fs[v]?=some (shF n ars R v)∧Small (shF n ars R v):=fun v hv=>by
  have hh:=zhz n ars v;obtain⟨p,hp⟩:=(C.fi.conn (hm n ars v) v (by omega) hv).1 (zlx n ars v)
  obtain⟨f,hf,hne⟩:=H.home rfl (hm n ars v) (by omega) (zlx n ars v)
  have hf1:1≤f.n:=by
   rcases H.good rfl _ f hf with h|⟨-,h⟩
   ·exact absurd h hne
   ·exact h.n1
  obtain⟨t,ht,ht1⟩:=zjz hc hp ⟨f,hf,hf1⟩;rcases H.good rfl _ t ht with h|⟨h,hs⟩
  ·exact absurd h (unset_ne ht1)
  ·exact⟨by rw[ht,h],h▸hs⟩
 refine⟨zaf fun v=>?_,fun v hv=>(all v hv).2⟩
 by_cases hv:v<n
 ·rw[(all v hv).1];simp[hv]
 ·rw[zD (by omega),zD (by simp;omega)]
def initF(n:Nat)(ars:List ArcV)(k:Nat):List Fr:=(List.range n).map fun v=>if v<k∧hm n ars v=v then⟨1,1⟩else unsetF
theorem zd8(n:Nat)(ars:List ArcV)(k:Nat):(initF n ars k).length=n:=by simp[initF]
theorem zdj{n:Nat}{ars:List ArcV}{k v:Nat}(hv:v<n):(initF n ars k)[v]?=some (if v<k∧hm n ars v=v then⟨1,1⟩else unsetF):=by simp[initF,hv]
theorem zly(n:Nat)(ars:List ArcV):initF n ars 0=List.replicate n unsetF:=by
 refine zaf fun v=>?_
 by_cases hv:v<n
 ·rw[zdj hv];simp[hv]
 ·rw[zD (by simp[initF];omega),zD (by simp;omega)]
theorem zmZ{n:Nat}{ars:List ArcV}{k:Nat}(_hk:k<n)(h:hm n ars k=k):(initF n ars k).set k ⟨1,1⟩=initF n ars (k+1):=by
 refine zaf fun v=>?_
 rw[zaJ];by_cases hv:v<n
 ·rw[zdj hv,zdj hv,zd8];by_cases hkv:k=v
  ·subst hkv;simp[hv,h]
  ·rw[if_neg hkv];by_cases hlt:v<k
   ·simp[hlt,show v<k+1 by omega]
   ·simp[hlt,show¬v<k+1 by omega]
 ·rw[zd8,zD (by simp[initF];omega),zD (by simp[initF];omega)]
  by_cases hkv:k=v
  ·rw[if_pos hkv,if_neg (by omega)]
  ·rw[if_neg hkv]
theorem zof{n:Nat}{ars:List ArcV}{k:Nat}(h:hm n ars k≠k):initF n ars k=initF n ars (k+1):=by
 refine zaf fun v=>?_
 by_cases hv:v<n
 ·rw[zdj hv,zdj hv];by_cases hkv:v=k
  ·subst hkv;simp[h]
  ·by_cases hlt:v<k
   ·simp[hlt,show v<k+1 by omega]
   ·simp[hlt,show¬v<k+1 by omega]
 ·rw[zD (by simp[initF];omega),zD (by simp[initF];omega)]
theorem zjA(n:Nat)(ars:List ArcV)(k:Nat):∀f∈initF n ars k,ShareOk f:=by
 intro f hf;obtain⟨v,-,rfl⟩:=zY.1 hf;split
 ·exact⟨⟨by unfold fits;simp,by unfold fits;simp⟩, .inr ⟨by decide,by decide⟩⟩
 ·exact⟨⟨by unfold fits unsetF;simp,by unfold fits unsetF;simp⟩, .inl rfl⟩
theorem zlz{n:Nat}{ars:List ArcV}{T:List Edg}{R P:Nat→Nat}(C:Ctx n ars T R P):SInv n ars R (initF n ars n) true where
 good:=fun _ v f hf=>by
  by_cases hv:v<n
  ·rw[zdj hv]at hf;injection hf with hf;split at hf
   ·rename_i h
    right
    subst hf;unfold shF;rw[h.2,zlu (C.ri.pos v)];exact⟨rfl,by decide,by decide,by decide,by decide⟩
   ·left;exact hf.symm
  ·rw[zD (by simp[initF];omega)]at hf;cases hf
 home:=fun _ v hv h=>⟨⟨1,1⟩,by rw[zdj hv,if_pos ⟨hv,h⟩],unset_ne (by decide)⟩
 big:=fun h=>by cases h
end Go.Proofs.YtpmlljbebdidgaaGreatDoor
